/- Contracts: residues in common, the root modulo a product. -/
import Derived.Test.YtiblpagbloflhaaHE
import Derived.Test.YtiblpagbloflhaaQL
import Derived.Test.YtiblpagbloflhaaCS
namespace Go.Proofs.Ytiblpagbloflhaa
set_option linter.unusedVariables false
open Go.ChangeShapes Go.WideShapes Go.ChangeAt Go.RowKit

/-- x is a residue and a root of a modulo m -/
def rtB (a x m : Int) : Bool := decide (0 ≤ x) && (decide (x < m) && ((x * x - a).tmod m == 0))
theorem rtB_yes {a x m : Int} (h : rtB a x m = true) : 0 ≤ x ∧ x < m ∧ (x * x - a) % m = 0 := by
  unfold rtB at h
  simp only [Bool.and_eq_true, decide_eq_true_eq, beq_iff_eq] at h
  exact ⟨h.1, h.2.1, Int.emod_eq_zero_of_dvd (Int.dvd_of_tmod_eq_zero h.2.2)⟩
theorem rtB_of {a x m : Int} (h1 : 0 ≤ x) (h2 : x < m) (h3 : (x * x - a) % m = 0) : rtB a x m = true := by
  unfold rtB
  have := Int.tmod_eq_zero_of_dvd (Int.dvd_of_emod_eq_zero h3)
  simp [h1, h2, this]
theorem rt_bd {a x m : Int} (ha1 : -1000000 ≤ a) (ha2 : a ≤ 1000000) (hm : m ≤ 1000000) (h0 : 0 ≤ x) (h1 : x < m) : (0 ≤ x * x ∧ x * x ≤ 1000000000000) ∧ -2000000000000 ≤ (x * x - a).tmod m ∧ (x * x - a).tmod m ≤ 2000000000000 := by
  have h2 : (0 : Int) ≤ x * x := sqn x
  have h3 : x * x ≤ 1000000 * 1000000 := Int.mul_le_mul (by omega) (by omega) (by omega) (by omega)
  have h4 : ((x * x - a).tmod m).natAbs ≤ (x * x - a).natAbs := by
    rw [Int.natAbs_tmod]; exact Nat.mod_le _ _
  omega
theorem impl_isRoot (a x m : Int) (v : Bool) (w : World) (ha1 : -1000000 ≤ a) (ha2 : a ≤ 1000000) (hm1 : 1 ≤ m) (hm : m ≤ 1000000) (hv : rtB a x m = v) :
    Calls Try.prog 134 #[.int .i64 a, .int .i64 x, .int .i64 m] w fun e w' => e = .returned (.bool v) ∧ w = w' := by
  by_cases h0 : 0 ≤ x
  · by_cases h1 : x < m
    · obtain ⟨⟨b1, b2⟩, b3, b4⟩ := rt_bd ha1 ha2 hm h0 h1
      have Hv := Lib.hid hv
      clear hv
      go_enter Try.func134, Try.ntmps134
      go_wp2_with fail
      go_ret
      exact ⟨rbool (by rw [← Hv.out]; unfold rtB; simp [h0, h1]), rfl⟩
    · have Hv := Lib.hid hv
      clear hv
      go_enter Try.func134, Try.ntmps134
      go_wp2_with fail
      go_ret
      exact ⟨rbool (by rw [← Hv.out]; unfold rtB; simp; intro _ h; omega), rfl⟩
  · have Hv := Lib.hid hv
    clear hv
    go_enter Try.func134, Try.ntmps134
    go_wp2_with fail
    go_ret
    exact ⟨rbool (by rw [← Hv.out]; unfold rtB; simp; intro h; omega), rfl⟩
theorem spec_roRoot (a x m : Int) (v : Bool) (w : World) (ha1 : -1000000 ≤ a) (ha2 : a ≤ 1000000) (hm1 : 1 ≤ m) (hm : m ≤ 1000000) (hv : rtB a x m = v) :
    Calls Try.prog 136 #[.int .i64 a, .int .i64 x, .int .i64 m] w fun e w' => e = .returned (.bool v) ∧ w = w' := by
  cases hg : (decide (0 ≤ x) && decide (x ≤ m - 1)) with
  | false =>
    have G := Lib.hid hg
    have hv2 : v = false := by
      rw [← hv]
      unfold rtB
      simp at hg ⊢
      omega
    subst hv2
    clear hv hg
    go_enter Try.func136, Try.ntmps136
    go_wp2_with fail
    refine (spec_l1In x 0 (m - 1) false _ G.out).mono ?_
    rintro e w' ⟨rfl, rfl⟩
    go_wp2_with fail
    go_ret
    exact ⟨rfl, rfl⟩
  | true =>
    have G := Lib.hid hg
    have h : 0 ≤ x ∧ x < m := by simp at hg; omega
    obtain ⟨h0, h1⟩ := h
    obtain ⟨⟨b1, b2⟩, b3, b4⟩ := rt_bd ha1 ha2 hm h0 h1
    have Hv := Lib.hid hv
    clear hv hg
    go_enter Try.func136, Try.ntmps136
    go_wp2_with fail
    refine (spec_l1In x 0 (m - 1) true _ G.out).mono ?_
    rintro e w' ⟨rfl, rfl⟩
    go_wp2_with fail
    go_ret
    exact ⟨rbool (by rw [← Hv.out]; unfold rtB; simp [h0, h1]), rfl⟩
/-- the residue in common -/
def crF (x m y n v : Int) : Int := x + m * ((y - x) * v % n)
theorem cr_mid (y x v n : Int) (hn : n ≠ 0) : (y - x) % n * v % n = (y - x) * v % n := by
  rw [Int.mul_emod, Int.emod_emod_of_dvd _ (Int.dvd_refl n), ← Int.mul_emod]
theorem impl_Common (x m y n v : Int) (w : World) (hm1 : 1 ≤ m) (hn1 : 1 ≤ n) (hmn : m * n ≤ 1000000) (hx0 : 0 ≤ x) (hx1 : x < m) (hy0 : 0 ≤ y) (hy1 : y < n) (hg : Int.gcd m n = 1) (hv' : Inv m n v) :
    Calls Try.prog 135 #[.int .i64 x, .int .i64 m, .int .i64 y, .int .i64 n] w fun e w' => e = .returned (.tuple #[.int .i64 (crF x m y n v), .int .i64 (m * n), .bool true]) ∧ Below w.heap.size w w' := by
  have hv := hv'
  obtain ⟨v0, v1, _⟩ := hv
  obtain ⟨c1, c2, _, _⟩ := crt hm1 hn1 hx0 hx1 hy0 hy1 hv'
  have ec := Int.emod_eq_of_lt c1 c2
  have hm2 : m ≤ 1000000 := by
    have := Int.mul_le_mul_of_nonneg_left hn1 (show 0 ≤ m by omega)
    omega
  have hn2 : n ≤ 1000000 := by
    have := Int.mul_le_mul_of_nonneg_right hm1 (show 0 ≤ n by omega)
    omega
  have hmn0 : 1 ≤ m * n := by
    have := Int.mul_le_mul hm1 hn1 (by omega) (show 0 ≤ m by omega)
    omega
  have d0 := Int.emod_nonneg (y - x) (show n ≠ 0 by omega)
  have d1 := Int.emod_lt_of_pos (y - x) (show 0 < n by omega)
  have d2 := mul_le (a := (y - x) % n) (b := v) (A := 1000000) (B := 1000000) d0 (by omega) v0 (by omega)
  obtain ⟨d3, d4⟩ := d2
  obtain ⟨e3, e4⟩ := mulb (a := y - x) (b := v) (A := 1000000) (B := 1000000) (by omega) (by omega) (by omega) (by omega)
  have t0 := Int.emod_nonneg ((y - x) * v) (show n ≠ 0 by omega)
  have t1 := Int.emod_lt_of_pos ((y - x) * v) (show 0 < n by omega)
  obtain ⟨f3, f4⟩ := mul_le (a := m) (b := (y - x) * v % n) (A := 1000000) (B := 1000000) (by omega) (by omega) t0 (by omega)
  have Hv := Lib.hid hv'
  have Hg := Lib.hid hg
  have Hec := Lib.hid ec
  have Hmid := Lib.hid (cr_mid y x v n (by omega))
  have G := Lib.hid (show good4 x m y n = true by unfold good4 good; simp; omega)
  clear hv' hg ec
  go_enter Try.func135, Try.ntmps135
  go_wp2_with fail
  refine (are4 x m y n _ _ true _ G.out (by simp) (by simp) (by simp) (by simp)).mono ?_
  rintro e w' ⟨rfl, rfl⟩
  go_wp2_with fail
  refine (impl_gcd_r m n 1 _ ⟨by omega, by omega⟩ ⟨by omega, by omega⟩ (by rw [Hg.out]; rfl)).mono ?_
  rintro e w1 ⟨rfl, hb1⟩
  have hB1 : Below w.heap.size w w1 := Below.after (by go_grown) hb1
  clear hb1
  go_wp2_with fail
  go_quiet ((first | (go_at_call 120; refine Calls.quiet_of_same (same (impl_mod (y - x) n _ (by omega) (by omega)))) | (go_at_call 157; refine Calls.quiet_of_same (same (impl_inverse m n v _ (by omega) (by omega) Hv.out Hg.out)))))
  go_wp2_with fail
  refine (impl_mod ((y - x) % n * v) n _ (by omega) (by omega)).mono ?_
  rintro e w' ⟨rfl, rfl⟩
  rw [Hmid.out]
  go_wp2_with fail
  refine (impl_mod (x + m * ((y - x) * v % n)) (m * n) _ (by omega) (by omega)).mono ?_
  rintro e w' ⟨rfl, rfl⟩
  rw [Hec.out]
  go_wp2_with fail
  refine bodyPost_ret (v := .tuple #[.int .i64 (crF x m y n v), .int .i64 (m * n), .bool true]) (by simp [results, Try.results135, go_sem, *] <;> rfl) rfl ⟨rfl, below_drewN hB1 _⟩
theorem spec_nuCommon (x m y n v : Int) (w : World) (hm1 : 1 ≤ m) (hn1 : 1 ≤ n) (hmn : m * n ≤ 1000000) (hx0 : 0 ≤ x) (hx1 : x < m) (hy0 : 0 ≤ y) (hy1 : y < n) (hg : Int.gcd m n = 1) (hv' : Inv m n v) :
    Calls Try.prog 137 #[.int .i64 x, .int .i64 m, .int .i64 y, .int .i64 n] w fun e w' => e = .returned (.tuple #[.int .i64 (crF x m y n v), .int .i64 (m * n), .bool true]) ∧ Below w.heap.size w w' := by
  have hv := hv'
  obtain ⟨v0, v1, _⟩ := hv
  obtain ⟨c1, c2, _, _⟩ := crt hm1 hn1 hx0 hx1 hy0 hy1 hv'
  have ec := Int.emod_eq_of_lt c1 c2
  have hm2 : m ≤ 1000000 := by
    have := Int.mul_le_mul_of_nonneg_left hn1 (show 0 ≤ m by omega)
    omega
  have hn2 : n ≤ 1000000 := by
    have := Int.mul_le_mul_of_nonneg_right hm1 (show 0 ≤ n by omega)
    omega
  have hmn0 : 1 ≤ m * n := by
    have := Int.mul_le_mul hm1 hn1 (by omega) (show 0 ≤ m by omega)
    omega
  have d0 := Int.emod_nonneg (y - x) (show n ≠ 0 by omega)
  have d1 := Int.emod_lt_of_pos (y - x) (show 0 < n by omega)
  have d2 := mul_le (a := (y - x) % n) (b := v) (A := 1000000) (B := 1000000) d0 (by omega) v0 (by omega)
  obtain ⟨d3, d4⟩ := d2
  obtain ⟨e3, e4⟩ := mulb (a := y - x) (b := v) (A := 1000000) (B := 1000000) (by omega) (by omega) (by omega) (by omega)
  have t0 := Int.emod_nonneg ((y - x) * v) (show n ≠ 0 by omega)
  have t1 := Int.emod_lt_of_pos ((y - x) * v) (show 0 < n by omega)
  obtain ⟨f3, f4⟩ := mul_le (a := m) (b := (y - x) * v % n) (A := 1000000) (B := 1000000) (by omega) (by omega) t0 (by omega)
  have Hv := Lib.hid hv'
  have Hg := Lib.hid hg
  have Hec := Lib.hid ec
  clear hv' hg ec
  go_enter Try.func137, Try.ntmps137
  go_wp2_with fail
  refine (spec_nuGcd_r m n 1 _ ⟨by omega, by omega⟩ ⟨by omega, by omega⟩ (by rw [Hg.out]; rfl)).mono ?_
  rintro e w1 ⟨rfl, hb1⟩
  have hB1 : Below w.heap.size w w1 := hb1
  clear hb1
  go_wp2_with fail
  go_quiet ((first | (go_at_call 123; refine Calls.quiet_of_same (same (spec_nuInverse m n v _ (by omega) (by omega) Hv.out Hg.out))) | (go_at_call 122; refine Calls.quiet_of_same (same (spec_nuMod ((y - x) * v) n _ (by omega) (by omega))))))
  go_wp2_with fail
  refine (spec_nuMod (x + m * ((y - x) * v % n)) (m * n) _ (by omega) (by omega)).mono ?_
  rintro e w' ⟨rfl, rfl⟩
  rw [Hec.out]
  go_wp2_with fail
  refine bodyPost_ret (v := .tuple #[.int .i64 (crF x m y n v), .int .i64 (m * n), .bool true]) (by simp [results, Try.results137, go_sem, *] <;> rfl) rfl ⟨rfl, below_drewN hB1 _⟩

/-- the arguments are fit -/
def crB (a x m y n : Int) : Bool := good a && (decide (1 ≤ m) && (decide (1 ≤ n) && (decide (m * n ≤ 1000000) && (decide (Int.gcd m n = 1) && (rtB a x m && rtB a y n)))))
theorem crB_yes {a x m y n : Int} (h : crB a x m y n = true) : good a = true ∧ 1 ≤ m ∧ 1 ≤ n ∧ m * n ≤ 1000000 ∧ Int.gcd m n = 1 ∧ rtB a x m = true ∧ rtB a y n = true := by
  unfold crB at h
  simp only [Bool.and_eq_true, decide_eq_true_eq] at h
  exact h
theorem goodI {a : Int} (h : good a = true) : -1000000 ≤ a ∧ a ≤ 1000000 := by unfold good at h; simpa using h
theorem are5 (a b c d e : Int) (blk cap : Nat) (v : Bool) (w : World) (hv : (good a && (good b && (good c && (good d && good e)))) = v) (h0 : w.cell? ⟨blk, 0, none⟩ = some (.int .i64 a)) (h1 : w.cell? ⟨blk, 1, none⟩ = some (.int .i64 b)) (h2 : w.cell? ⟨blk, 2, none⟩ = some (.int .i64 c)) (h3 : w.cell? ⟨blk, 3, none⟩ = some (.int .i64 d)) (h4 : w.cell? ⟨blk, 4, none⟩ = some (.int .i64 e)) :
    Calls Try.prog 102 #[.slice (some ⟨blk, 0, none⟩) 5 cap] w fun e w' => e = .returned (.bool v) ∧ w = w' :=
  (are_any [a, b, c, d, e] blk 0 cap w (by simp) (by intro i hi; match i, hi with | 0, _ => simpa using h0 | 1, _ => simpa using h1 | 2, _ => simpa using h2 | 3, _ => simpa using h3 | 4, _ => simpa using h4)).mono
    fun e w' ⟨he, hw⟩ => ⟨by rw [he, ← hv]; simp, hw⟩
set_option maxRecDepth 100000 in
set_option maxHeartbeats 2000000 in
theorem impl_CR_no (a x m y n : Int) (w : World) (m0 : 0 ≤ m) (m1 : m ≤ 1000000) (n0 : 0 ≤ n) (n1 : n ≤ 1000000) (x0 : 0 ≤ x) (x1 : x ≤ 1000000) (y0 : 0 ≤ y) (y1 : y ≤ 1000000) (h : crB a x m y n = false) :
    Calls Try.prog 65 #[.int .i64 a, .int .i64 x, .int .i64 m, .int .i64 y, .int .i64 n] w fun e w' => e = .returned (.tuple #[.int .i64 0, .bool false]) ∧ Below w.heap.size w w' := by
  cases hga : good a with
  | false =>
    have G := Lib.hid (show (good a && (good x && (good m && (good y && good n)))) = false by rw [hga]; rfl)
    clear hga h
    go_enter Try.func65, Try.ntmps65
    go_wp2_with fail
    refine (are5 a x m y n _ _ false _ G.out (by simp) (by simp) (by simp) (by simp) (by simp)).mono ?_
    rintro e w' ⟨rfl, rfl⟩
    go_wp2_with fail
    refine bodyPost_ret (v := .tuple #[.int .i64 0, .bool false]) (by simp [results, Try.results65, go_sem, *] <;> rfl) rfl ⟨rfl, by first | assumption | go_grown⟩
  | true =>
    obtain ⟨ha1, ha2⟩ := goodI hga
    by_cases c1 : 1 ≤ m
    · by_cases c2 : 1 ≤ n
      · obtain ⟨mn0, mn1⟩ := mul_le m0 m1 n0 n1
        by_cases c3 : Int.gcd m n = 1
        · by_cases c4 : m * n ≤ 1000000
          · cases c5 : rtB a x m with
            | false =>
              have H3 := Lib.hid c3
              have H5 := Lib.hid c5
              clear h c3 c5
              have G := Lib.hid (show (good a && (good x && (good m && (good y && good n)))) = true by
                have g2 : good x = true := by unfold good; simp; omega
                have g3 : good m = true := by unfold good; simp; omega
                have g4 : good y = true := by unfold good; simp; omega
                have g5 : good n = true := by unfold good; simp; omega
                rw [hga, g2, g3, g4, g5]; rfl)
              clear hga
              go_enter Try.func65, Try.ntmps65
              go_wp2_with fail
              refine (are5 a x m y n _ _ true _ G.out (by simp) (by simp) (by simp) (by simp) (by simp)).mono ?_
              rintro e w' ⟨rfl, rfl⟩
              go_wp2_with fail
              refine (impl_gcd_r m n 1 _ ⟨by omega, by omega⟩ ⟨by omega, by omega⟩ (by rw [H3.out]; rfl)).mono ?_
              rintro e w1 ⟨rfl, hb1⟩
              have hB1 : Below w.heap.size w w1 := Below.after (by go_grown) hb1
              clear hb1
              go_wp2_with fail
              refine (impl_isRoot a x m false _ ha1 ha2 c1 m1 H5.out).mono ?_
              rintro e w' ⟨rfl, rfl⟩
              go_wp2_with fail
              refine bodyPost_ret (v := .tuple #[.int .i64 0, .bool false]) (by simp [results, Try.results65, go_sem, *] <;> rfl) rfl ⟨rfl, by first | assumption | go_grown⟩
            | true =>
              have c6 : rtB a y n = false := by
                cases c6 : rtB a y n with
                | false => rfl
                | true => unfold crB at h; simp [hga, c1, c2, c3, c4, c5, c6] at h
              have H3 := Lib.hid c3
              have H5 := Lib.hid c5
              have H6 := Lib.hid c6
              clear h c3 c5 c6
              have G := Lib.hid (show (good a && (good x && (good m && (good y && good n)))) = true by
                have g2 : good x = true := by unfold good; simp; omega
                have g3 : good m = true := by unfold good; simp; omega
                have g4 : good y = true := by unfold good; simp; omega
                have g5 : good n = true := by unfold good; simp; omega
                rw [hga, g2, g3, g4, g5]; rfl)
              clear hga
              go_enter Try.func65, Try.ntmps65
              go_wp2_with fail
              refine (are5 a x m y n _ _ true _ G.out (by simp) (by simp) (by simp) (by simp) (by simp)).mono ?_
              rintro e w' ⟨rfl, rfl⟩
              go_wp2_with fail
              refine (impl_gcd_r m n 1 _ ⟨by omega, by omega⟩ ⟨by omega, by omega⟩ (by rw [H3.out]; rfl)).mono ?_
              rintro e w1 ⟨rfl, hb1⟩
              have hB1 : Below w.heap.size w w1 := Below.after (by go_grown) hb1
              clear hb1
              go_wp2_with fail
              refine (impl_isRoot a x m true _ ha1 ha2 c1 m1 H5.out).mono ?_
              rintro e w' ⟨rfl, rfl⟩
              go_wp2_with fail
              refine (impl_isRoot a y n false _ ha1 ha2 c2 n1 H6.out).mono ?_
              rintro e w' ⟨rfl, rfl⟩
              go_wp2_with fail
              refine bodyPost_ret (v := .tuple #[.int .i64 0, .bool false]) (by simp [results, Try.results65, go_sem, *] <;> rfl) rfl ⟨rfl, by first | assumption | go_grown⟩
          · have H3 := Lib.hid c3
            clear h c3
            have G := Lib.hid (show (good a && (good x && (good m && (good y && good n)))) = true by
              have g2 : good x = true := by unfold good; simp; omega
              have g3 : good m = true := by unfold good; simp; omega
              have g4 : good y = true := by unfold good; simp; omega
              have g5 : good n = true := by unfold good; simp; omega
              rw [hga, g2, g3, g4, g5]; rfl)
            clear hga
            go_enter Try.func65, Try.ntmps65
            go_wp2_with fail
            refine (are5 a x m y n _ _ true _ G.out (by simp) (by simp) (by simp) (by simp) (by simp)).mono ?_
            rintro e w' ⟨rfl, rfl⟩
            go_wp2_with fail
            refine (impl_gcd_r m n 1 _ ⟨by omega, by omega⟩ ⟨by omega, by omega⟩ (by rw [H3.out]; rfl)).mono ?_
            rintro e w1 ⟨rfl, hb1⟩
            have hB1 : Below w.heap.size w w1 := Below.after (by go_grown) hb1
            clear hb1
            go_wp2_with fail
            refine bodyPost_ret (v := .tuple #[.int .i64 0, .bool false]) (by simp [results, Try.results65, go_sem, *] <;> rfl) rfl ⟨rfl, by first | assumption | go_grown⟩
        · obtain ⟨gg, hgg⟩ : ∃ gg : Int, (Int.gcd m n : Int) = gg := ⟨_, rfl⟩
          have hg1 : ¬ gg = 1 := by omega
          have Hgg := Lib.hid hgg
          clear h c3 hgg
          have G := Lib.hid (show (good a && (good x && (good m && (good y && good n)))) = true by
            have g2 : good x = true := by unfold good; simp; omega
            have g3 : good m = true := by unfold good; simp; omega
            have g4 : good y = true := by unfold good; simp; omega
            have g5 : good n = true := by unfold good; simp; omega
            rw [hga, g2, g3, g4, g5]; rfl)
          clear hga
          go_enter Try.func65, Try.ntmps65
          go_wp2_with fail
          refine (are5 a x m y n _ _ true _ G.out (by simp) (by simp) (by simp) (by simp) (by simp)).mono ?_
          rintro e w' ⟨rfl, rfl⟩
          go_wp2_with fail
          refine (impl_gcd_r m n gg _ ⟨by omega, by omega⟩ ⟨by omega, by omega⟩ Hgg.out).mono ?_
          rintro e w1 ⟨rfl, hb1⟩
          have hB1 : Below w.heap.size w w1 := Below.after (by go_grown) hb1
          clear hb1
          go_wp2_with fail
          refine bodyPost_ret (v := .tuple #[.int .i64 0, .bool false]) (by simp [results, Try.results65, go_sem, *] <;> rfl) rfl ⟨rfl, by first | assumption | go_grown⟩
      · clear h
        have G := Lib.hid (show (good a && (good x && (good m && (good y && good n)))) = true by
          have g2 : good x = true := by unfold good; simp; omega
          have g3 : good m = true := by unfold good; simp; omega
          have g4 : good y = true := by unfold good; simp; omega
          have g5 : good n = true := by unfold good; simp; omega
          rw [hga, g2, g3, g4, g5]; rfl)
        clear hga
        go_enter Try.func65, Try.ntmps65
        go_wp2_with fail
        refine (are5 a x m y n _ _ true _ G.out (by simp) (by simp) (by simp) (by simp) (by simp)).mono ?_
        rintro e w' ⟨rfl, rfl⟩
        go_wp2_with fail
        refine bodyPost_ret (v := .tuple #[.int .i64 0, .bool false]) (by simp [results, Try.results65, go_sem, *] <;> rfl) rfl ⟨rfl, by first | assumption | go_grown⟩
    · clear h
      have G := Lib.hid (show (good a && (good x && (good m && (good y && good n)))) = true by
        have g2 : good x = true := by unfold good; simp; omega
        have g3 : good m = true := by unfold good; simp; omega
        have g4 : good y = true := by unfold good; simp; omega
        have g5 : good n = true := by unfold good; simp; omega
        rw [hga, g2, g3, g4, g5]; rfl)
      clear hga
      go_enter Try.func65, Try.ntmps65
      go_wp2_with fail
      refine (are5 a x m y n _ _ true _ G.out (by simp) (by simp) (by simp) (by simp) (by simp)).mono ?_
      rintro e w' ⟨rfl, rfl⟩
      go_wp2_with fail
      refine bodyPost_ret (v := .tuple #[.int .i64 0, .bool false]) (by simp [results, Try.results65, go_sem, *] <;> rfl) rfl ⟨rfl, by first | assumption | go_grown⟩
set_option maxRecDepth 100000 in
set_option maxHeartbeats 2000000 in
theorem impl_CR_yes (a x m y n : Int) (w : World) (m0 : 0 ≤ m) (m1 : m ≤ 1000000) (n0 : 0 ≤ n) (n1 : n ≤ 1000000) (x0 : 0 ≤ x) (x1 : x ≤ 1000000) (y0 : 0 ≤ y) (y1 : y ≤ 1000000) (v : Int) (hv : Inv m n v) (h : crB a x m y n = true) :
    Calls Try.prog 65 #[.int .i64 a, .int .i64 x, .int .i64 m, .int .i64 y, .int .i64 n] w fun e w' => e = .returned (.tuple #[.int .i64 (crF x m y n v), .bool true]) ∧ Below w.heap.size w w' := by
  obtain ⟨hga, c1, c2, c4, c3, c5, c6⟩ := crB_yes h
  obtain ⟨ha1, ha2⟩ := goodI hga
  obtain ⟨_, x2, _⟩ := rtB_yes c5
  obtain ⟨_, y2, _⟩ := rtB_yes c6
  obtain ⟨mn0, mn1⟩ := mul_le m0 m1 n0 n1
  have H3 := Lib.hid c3
  have H5 := Lib.hid c5
  have H6 := Lib.hid c6
  have HV := Lib.hid hv
  clear h c3 c5 c6 hv
  have G := Lib.hid (show (good a && (good x && (good m && (good y && good n)))) = true by
    have g2 : good x = true := by unfold good; simp; omega
    have g3 : good m = true := by unfold good; simp; omega
    have g4 : good y = true := by unfold good; simp; omega
    have g5 : good n = true := by unfold good; simp; omega
    rw [hga, g2, g3, g4, g5]; rfl)
  clear hga
  go_enter Try.func65, Try.ntmps65
  go_wp2_with fail
  refine (are5 a x m y n _ _ true _ G.out (by simp) (by simp) (by simp) (by simp) (by simp)).mono ?_
  rintro e w' ⟨rfl, rfl⟩
  go_wp2_with fail
  refine (impl_gcd_r m n 1 _ ⟨by omega, by omega⟩ ⟨by omega, by omega⟩ (by rw [H3.out]; rfl)).mono ?_
  rintro e w1 ⟨rfl, hb1⟩
  have hB1 : Below w.heap.size w w1 := Below.after (by go_grown) hb1
  clear hb1
  go_wp2_with fail
  refine (impl_isRoot a x m true _ ha1 ha2 c1 m1 H5.out).mono ?_
  rintro e w' ⟨rfl, rfl⟩
  go_wp2_with fail
  refine (impl_isRoot a y n true _ ha1 ha2 c2 n1 H6.out).mono ?_
  rintro e w' ⟨rfl, rfl⟩
  go_wp2_with fail
  refine (impl_Common x m y n v _ c1 c2 c4 x0 x2 y0 y2 H3.out HV.out).mono ?_
  rintro e w2 ⟨rfl, hb2⟩
  have hB2 : Below w.heap.size w w2 := Below.after hB1 hb2
  clear hb2
  go_wp2_with fail
  refine bodyPost_ret (v := .tuple #[.int .i64 (crF x m y n v), .bool true]) (by simp [results, Try.results65, go_sem, *] <;> rfl) rfl (⟨rfl, hB2⟩)
theorem cr_quo {m n : Int} (hn : 1 ≤ n) : (1000000 : Int) / n < m ↔ 1000000 < m * n := Int.ediv_lt_iff_lt_mul (by omega)
set_option maxRecDepth 100000 in
set_option maxHeartbeats 2000000 in
theorem spec_CR_no (a x m y n : Int) (w : World) (m0 : 0 ≤ m) (m1 : m ≤ 1000000) (n0 : 0 ≤ n) (n1 : n ≤ 1000000) (x0 : 0 ≤ x) (x1 : x ≤ 1000000) (y0 : 0 ≤ y) (y1 : y ≤ 1000000) (h : crB a x m y n = false) :
    Calls Try.prog 66 #[.int .i64 a, .int .i64 x, .int .i64 m, .int .i64 y, .int .i64 n] w fun e w' => e = .returned (.tuple #[.int .i64 0, .bool false]) ∧ Below w.heap.size w w' := by
  cases hga : good a with
  | false =>
    have G := Lib.hid hga
    clear hga h
    go_enter Try.func66, Try.ntmps66
    go_wp2_with fail
    refine (spec_nuGood a false _ G.out).mono ?_
    rintro e w' ⟨rfl, rfl⟩
    go_wp2_with fail
    refine bodyPost_ret (v := .tuple #[.int .i64 0, .bool false]) (by simp [results, Try.results66, go_sem, *] <;> rfl) rfl ⟨rfl, by first | assumption | go_grown⟩
  | true =>
    obtain ⟨ha1, ha2⟩ := goodI hga
    by_cases c1 : 1 ≤ m
    · have GM := Lib.hid (show (decide (1 ≤ m) && decide (m ≤ 1000000)) = true by simp; omega)
      by_cases c2 : 1 ≤ n
      · have GN := Lib.hid (show (decide (1 ≤ n) && decide (n ≤ 1000000)) = true by simp; omega)
        have hq := cr_quo (m := m) c2
        have q0 : 0 ≤ (1000000 : Int) / n := Int.ediv_nonneg (by omega) (by omega)
        by_cases c4 : m * n ≤ 1000000
        · have c4' : ¬ (1000000 : Int) / n < m := fun e => by have := hq.1 e; omega
          clear hq
          by_cases c3 : Int.gcd m n = 1
          · cases c5 : rtB a x m with
            | false =>
              have H3 := Lib.hid c3
              have H5 := Lib.hid c5
              clear h c3 c5
              have G := Lib.hid hga
              clear hga
              go_enter Try.func66, Try.ntmps66
              go_wp2_with fail
              refine (spec_nuGood a true _ G.out).mono ?_
              rintro e w' ⟨rfl, rfl⟩
              go_wp2_with fail
              refine (spec_l1In m 1 1000000 true _ GM.out).mono ?_
              rintro e w' ⟨rfl, rfl⟩
              go_wp2_with fail
              refine (spec_l1In n 1 1000000 true _ GN.out).mono ?_
              rintro e w' ⟨rfl, rfl⟩
              go_wp2_with fail
              refine (spec_nuGcd_r m n 1 _ ⟨by omega, by omega⟩ ⟨by omega, by omega⟩ (by rw [H3.out]; rfl)).mono ?_
              rintro e w1 ⟨rfl, hb1⟩
              have hB1 : Below w.heap.size w w1 := Below.after (by go_grown) hb1
              clear hb1
              go_wp2_with fail
              refine (spec_roRoot a x m false _ ha1 ha2 c1 m1 H5.out).mono ?_
              rintro e w' ⟨rfl, rfl⟩
              go_wp2_with fail
              refine bodyPost_ret (v := .tuple #[.int .i64 0, .bool false]) (by simp [results, Try.results66, go_sem, *] <;> rfl) rfl ⟨rfl, by first | assumption | go_grown⟩
            | true =>
              have c6 : rtB a y n = false := by
                cases c6 : rtB a y n with
                | false => rfl
                | true => unfold crB at h; simp [hga, c1, c2, c3, c4, c5, c6] at h
              have H3 := Lib.hid c3
              have H5 := Lib.hid c5
              have H6 := Lib.hid c6
              clear h c3 c5 c6
              have G := Lib.hid hga
              clear hga
              go_enter Try.func66, Try.ntmps66
              go_wp2_with fail
              refine (spec_nuGood a true _ G.out).mono ?_
              rintro e w' ⟨rfl, rfl⟩
              go_wp2_with fail
              refine (spec_l1In m 1 1000000 true _ GM.out).mono ?_
              rintro e w' ⟨rfl, rfl⟩
              go_wp2_with fail
              refine (spec_l1In n 1 1000000 true _ GN.out).mono ?_
              rintro e w' ⟨rfl, rfl⟩
              go_wp2_with fail
              refine (spec_nuGcd_r m n 1 _ ⟨by omega, by omega⟩ ⟨by omega, by omega⟩ (by rw [H3.out]; rfl)).mono ?_
              rintro e w1 ⟨rfl, hb1⟩
              have hB1 : Below w.heap.size w w1 := Below.after (by go_grown) hb1
              clear hb1
              go_wp2_with fail
              refine (spec_roRoot a x m true _ ha1 ha2 c1 m1 H5.out).mono ?_
              rintro e w' ⟨rfl, rfl⟩
              go_wp2_with fail
              refine (spec_roRoot a y n false _ ha1 ha2 c2 n1 H6.out).mono ?_
              rintro e w' ⟨rfl, rfl⟩
              go_wp2_with fail
              refine bodyPost_ret (v := .tuple #[.int .i64 0, .bool false]) (by simp [results, Try.results66, go_sem, *] <;> rfl) rfl ⟨rfl, by first | assumption | go_grown⟩
          · obtain ⟨gg, hgg⟩ : ∃ gg : Int, (Int.gcd m n : Int) = gg := ⟨_, rfl⟩
            have hg1 : ¬ gg = 1 := by omega
            have Hgg := Lib.hid hgg
            clear h c3 hgg
            have G := Lib.hid hga
            clear hga
            go_enter Try.func66, Try.ntmps66
            go_wp2_with fail
            refine (spec_nuGood a true _ G.out).mono ?_
            rintro e w' ⟨rfl, rfl⟩
            go_wp2_with fail
            refine (spec_l1In m 1 1000000 true _ GM.out).mono ?_
            rintro e w' ⟨rfl, rfl⟩
            go_wp2_with fail
            refine (spec_l1In n 1 1000000 true _ GN.out).mono ?_
            rintro e w' ⟨rfl, rfl⟩
            go_wp2_with fail
            refine (spec_nuGcd_r m n gg _ ⟨by omega, by omega⟩ ⟨by omega, by omega⟩ Hgg.out).mono ?_
            rintro e w1 ⟨rfl, hb1⟩
            have hB1 : Below w.heap.size w w1 := Below.after (by go_grown) hb1
            clear hb1
            go_wp2_with fail
            refine bodyPost_ret (v := .tuple #[.int .i64 0, .bool false]) (by simp [results, Try.results66, go_sem, *] <;> rfl) rfl ⟨rfl, by first | assumption | go_grown⟩
        · have c4' : (1000000 : Int) / n < m := hq.2 (by omega)
          clear hq h
          have G := Lib.hid hga
          clear hga
          go_enter Try.func66, Try.ntmps66
          go_wp2_with fail
          refine (spec_nuGood a true _ G.out).mono ?_
          rintro e w' ⟨rfl, rfl⟩
          go_wp2_with fail
          refine (spec_l1In m 1 1000000 true _ GM.out).mono ?_
          rintro e w' ⟨rfl, rfl⟩
          go_wp2_with fail
          refine (spec_l1In n 1 1000000 true _ GN.out).mono ?_
          rintro e w' ⟨rfl, rfl⟩
          go_wp2_with fail
          refine bodyPost_ret (v := .tuple #[.int .i64 0, .bool false]) (by simp [results, Try.results66, go_sem, *] <;> rfl) rfl ⟨rfl, by first | assumption | go_grown⟩
      · have GN := Lib.hid (show (decide (1 ≤ n) && decide (n ≤ 1000000)) = false by simp; omega)
        clear h
        have G := Lib.hid hga
        clear hga
        go_enter Try.func66, Try.ntmps66
        go_wp2_with fail
        refine (spec_nuGood a true _ G.out).mono ?_
        rintro e w' ⟨rfl, rfl⟩
        go_wp2_with fail
        refine (spec_l1In m 1 1000000 true _ GM.out).mono ?_
        rintro e w' ⟨rfl, rfl⟩
        go_wp2_with fail
        refine (spec_l1In n 1 1000000 false _ GN.out).mono ?_
        rintro e w' ⟨rfl, rfl⟩
        go_wp2_with fail
        refine bodyPost_ret (v := .tuple #[.int .i64 0, .bool false]) (by simp [results, Try.results66, go_sem, *] <;> rfl) rfl ⟨rfl, by first | assumption | go_grown⟩
    · have GM := Lib.hid (show (decide (1 ≤ m) && decide (m ≤ 1000000)) = false by simp; omega)
      clear h
      have G := Lib.hid hga
      clear hga
      go_enter Try.func66, Try.ntmps66
      go_wp2_with fail
      refine (spec_nuGood a true _ G.out).mono ?_
      rintro e w' ⟨rfl, rfl⟩
      go_wp2_with fail
      refine (spec_l1In m 1 1000000 false _ GM.out).mono ?_
      rintro e w' ⟨rfl, rfl⟩
      go_wp2_with fail
      refine bodyPost_ret (v := .tuple #[.int .i64 0, .bool false]) (by simp [results, Try.results66, go_sem, *] <;> rfl) rfl ⟨rfl, by first | assumption | go_grown⟩
set_option maxRecDepth 100000 in
set_option maxHeartbeats 2000000 in
theorem spec_CR_yes (a x m y n : Int) (w : World) (m0 : 0 ≤ m) (m1 : m ≤ 1000000) (n0 : 0 ≤ n) (n1 : n ≤ 1000000) (x0 : 0 ≤ x) (x1 : x ≤ 1000000) (y0 : 0 ≤ y) (y1 : y ≤ 1000000) (v : Int) (hv : Inv m n v) (h : crB a x m y n = true) :
    Calls Try.prog 66 #[.int .i64 a, .int .i64 x, .int .i64 m, .int .i64 y, .int .i64 n] w fun e w' => e = .returned (.tuple #[.int .i64 (crF x m y n v), .bool true]) ∧ Below w.heap.size w w' := by
  obtain ⟨hga, c1, c2, c4, c3, c5, c6⟩ := crB_yes h
  obtain ⟨ha1, ha2⟩ := goodI hga
  obtain ⟨_, x2, _⟩ := rtB_yes c5
  obtain ⟨_, y2, _⟩ := rtB_yes c6
  have GM := Lib.hid (show (decide (1 ≤ m) && decide (m ≤ 1000000)) = true by simp; omega)
  have GN := Lib.hid (show (decide (1 ≤ n) && decide (n ≤ 1000000)) = true by simp; omega)
  have q0 : 0 ≤ (1000000 : Int) / n := Int.ediv_nonneg (by omega) (by omega)
  have c4' : ¬ (1000000 : Int) / n < m := fun e => by have := (cr_quo (m := m) c2).1 e; omega
  have H3 := Lib.hid c3
  have H5 := Lib.hid c5
  have H6 := Lib.hid c6
  have HV := Lib.hid hv
  clear h c3 c5 c6 hv
  have G := Lib.hid hga
  clear hga
  go_enter Try.func66, Try.ntmps66
  go_wp2_with fail
  refine (spec_nuGood a true _ G.out).mono ?_
  rintro e w' ⟨rfl, rfl⟩
  go_wp2_with fail
  refine (spec_l1In m 1 1000000 true _ GM.out).mono ?_
  rintro e w' ⟨rfl, rfl⟩
  go_wp2_with fail
  refine (spec_l1In n 1 1000000 true _ GN.out).mono ?_
  rintro e w' ⟨rfl, rfl⟩
  go_wp2_with fail
  refine (spec_nuGcd_r m n 1 _ ⟨by omega, by omega⟩ ⟨by omega, by omega⟩ (by rw [H3.out]; rfl)).mono ?_
  rintro e w1 ⟨rfl, hb1⟩
  have hB1 : Below w.heap.size w w1 := Below.after (by go_grown) hb1
  clear hb1
  go_wp2_with fail
  refine (spec_roRoot a x m true _ ha1 ha2 c1 m1 H5.out).mono ?_
  rintro e w' ⟨rfl, rfl⟩
  go_wp2_with fail
  refine (spec_roRoot a y n true _ ha1 ha2 c2 n1 H6.out).mono ?_
  rintro e w' ⟨rfl, rfl⟩
  go_wp2_with fail
  refine (spec_nuCommon x m y n v _ c1 c2 c4 x0 x2 y0 y2 H3.out HV.out).mono ?_
  rintro e w2 ⟨rfl, hb2⟩
  have hB2 : Below w.heap.size w w2 := Below.after hB1 hb2
  clear hb2
  go_wp2_with fail
  refine bodyPost_ret (v := .tuple #[.int .i64 (crF x m y n v), .bool true]) (by simp [results, Try.results66, go_sem, *] <;> rfl) rfl (⟨rfl, hB2⟩)
end Go.Proofs.Ytiblpagbloflhaa
