/- Contracts: the remainders of Euclid as a list; solutions of x x + n y y = m by them. -/
import Derived.Test.YtiblpagbloflhaaQL
namespace Go.Proofs.Ytiblpagbloflhaa
set_option linter.unusedVariables false
open Go.ChangeShapes Go.WideShapes Go.ChangeAt Go.RowKit

/-- the remainders that follow m and r -/
def euN (m r : Nat) : List Int := if h : r = 0 then [] else (r : Int) :: euN r (m % r)
termination_by r
decreasing_by exact Nat.mod_lt _ (Nat.pos_of_ne_zero h)
theorem euN_zero (m : Nat) : euN m 0 = [] := by rw [euN]; simp
theorem euN_pos (m r : Nat) (h : ¬ r = 0) : euN m r = (r : Int) :: euN r (m % r) := by rw [euN]; simp [h]
theorem euN_len : ∀ (r m : Nat), (euN m r).length ≤ r := by
  intro r
  induction r using Nat.strongRecOn with
  | ind r ih =>
    intro m
    by_cases h : r = 0
    · subst h; rw [euN_zero]; simp
    · rw [euN_pos m r h]
      have h1 := Nat.mod_lt m (Nat.pos_of_ne_zero h)
      have := ih _ h1 r
      simp
      omega
theorem euN_mem : ∀ (r m : Nat) (x : Int), x ∈ euN m r → 0 ≤ x ∧ x ≤ r := by
  intro r
  induction r using Nat.strongRecOn with
  | ind r ih =>
    intro m x hx
    by_cases h : r = 0
    · subst h; rw [euN_zero] at hx; simp at hx
    · rw [euN_pos m r h] at hx
      have h1 := Nat.mod_lt m (Nat.pos_of_ne_zero h)
      rcases List.mem_cons.1 hx with rfl | hx
      · omega
      · have := ih _ h1 r x hx
        omega
def euT (m r : Nat) : List Int := (m : Int) :: euN m r
theorem euT_len {m r : Nat} (h : r ≤ m) (hm : m ≤ 1000000) : (euT m r).length ≤ 1000001 := by
  have := euN_len r m
  unfold euT
  simp
  omega
theorem euT_mem {m r : Nat} (h : r ≤ m) {x : Int} (hx : x ∈ euT m r) : 0 ≤ x ∧ x ≤ m := by
  rcases List.mem_cons.1 hx with rfl | hx
  · omega
  · have := euN_mem r m x hx
    omega
theorem Ints.one (w : World) {B b : Nat} {x : Int} (hb : b = w.heap.size) (hB : B ≤ w.heap.size) : Ints (w.alloc (.cells #[.int .i64 x] 3)) B (.slice (some ⟨b, 0, none⟩) 1 1) [x] := by
  subst hb; exact Ints.made w [x] #[.int .i64 x] rfl hB (by simp)
theorem nat_mod (a b : Nat) : (a : Int).tmod b = ((a % b : Nat) : Int) := by
  rw [Int.tmod_eq_emod_of_nonneg (by omega)]; rfl
theorem spec_roEuclid (m r : Nat) (w : World) (hr : r ≤ m) (hm : m ≤ 1000000) :
    Calls Try.prog 129 #[.int .i64 m, .int .i64 r] w fun e w' => ∃ v, e = .returned v ∧ Ints w' w.heap.size v (euT m r) ∧ Below w.heap.size w w' := by
  have ht := euT_len hr hm
  have Hstart := Lib.hid (show ([(m : Int)] ++ euN m r = euT m r) from rfl)
  obtain ⟨T, hT⟩ : ∃ T, euT m r = T := ⟨_, rfl⟩
  rw [hT] at ht Hstart ⊢
  clear hT
  go_enter Try.func129, Try.ntmps129
  go_wp2_with fail
  go_loopw [0, 1, 5] (fun x y vl wr => ∃ (m' r' : Nat) (L : List Int), x = .int .i64 m' ∧ y = .int .i64 r' ∧ m' ≤ 1000000 ∧ r' ≤ 1000000 ∧ L ++ euN m' r' = T ∧ Ints wr w.heap.size vl L ∧ Below w.heap.size w wr) (fun _ y _ _ => (intOf y).toNat)
  case atStart => exact ⟨m, r, _, rfl, rfl, by omega, by omega, Hstart.out, Ints.one _ rfl (by go_size), by go_grown⟩
  case round =>
    obtain ⟨m', r', L, rfl, rfl, hm', hr', hL, hown, hB⟩ := hrel
    have hs := hB.size
    have hlen : L.length ≤ 1000001 := by
      have := congrArg List.length hL
      rw [List.length_append] at this
      omega
    have Hown := Lib.hid hown
    clear hown
    by_cases hz : r' = 0
    · subst hz
      have e : L = T := by rw [← hL, euN_zero, List.append_nil]
      have He := Lib.hid e
      clear hL e
      go_wp2_with fail
      go_ret
      exact ⟨_, rfl, by rw [← He.out]; exact Hown.out, hB⟩
    · have e : (L ++ [(r' : Int)]) ++ euN r' (m' % r') = T := by rw [← hL, euN_pos m' r' hz]; simp
      have hlt : m' % r' < r' := Nat.mod_lt _ (Nat.pos_of_ne_zero hz)
      have hn0 : ¬ (r' : Int) = 0 := by omega
      have bz : ((r' : Int) != 0) = true := by simpa using hn0
      have hmod := nat_mod m' r'
      have hmod2 : (m' : Int) % (r' : Int) = ((m' % r' : Nat) : Int) := rfl
      have Hlt := Lib.hid hlt
      have He := Lib.hid e
      have Hm := Lib.hid (And.intro hmod hmod2)
      obtain ⟨q, hq⟩ : ∃ q, m' % r' = q := ⟨_, rfl⟩
      rw [hq] at hmod hmod2 hlt
      have Hq := Lib.hid hq
      clear hL e hq hmod2
      go_wp2_with (at_builtin; refine app_int w.heap.size L r' u5 _ _ _ rfl rfl rfl rfl (Hown.out.alloc _) (World.cell?_alloc_at _ _ _ _ rfl) (by omega) (by go_size) ?_)
      intro v3 w3 hown3 hgrow3 _
      have hB3 : Below w.heap.size w w3 := below_grown (hB.alloc hs _) (Hown.out.alloc _) hgrow3 (by go_size)
      have Hown3 := Lib.hid hown3
      clear hgrow3 hown3
      go_wp2_with fail
      go_quiet (fail)
      go_wp2_with fail
      go_roundw
      case rel => exact ⟨r', q, L ++ [(r' : Int)], rfl, by first | rfl | simp [Hm.out.1, Hm.out.2, Hq.out], by omega, by omega, by rw [← Hq.out]; exact He.out, Hown3.out.drewN _, below_drewN hB3 _⟩
      case measure => simp [intOf]; omega
theorem impl_remainders (m r : Nat) (w : World) (hr : r ≤ m) (hm : m ≤ 1000000) :
    Calls Try.prog 126 #[.int .i64 m, .int .i64 r] w fun e w' => ∃ v, e = .returned v ∧ Ints w' w.heap.size v (euT m r) ∧ Below w.heap.size w w' := by
  have ht := euT_len hr hm
  have Hstart := Lib.hid (show ([(m : Int)] ++ euN m r = euT m r) from rfl)
  obtain ⟨T, hT⟩ : ∃ T, euT m r = T := ⟨_, rfl⟩
  rw [hT] at ht Hstart ⊢
  clear hT
  go_enter Try.func126, Try.ntmps126
  go_wp2_with fail
  go_loopw [0, 1, 5] (fun x y vl wr => ∃ (m' r' : Nat) (L : List Int), x = .int .i64 m' ∧ y = .int .i64 r' ∧ m' ≤ 1000000 ∧ r' ≤ 1000000 ∧ L ++ euN m' r' = T ∧ Ints wr w.heap.size vl L ∧ Below w.heap.size w wr) (fun _ y _ _ => (intOf y).toNat)
  case atStart => exact ⟨m, r, _, rfl, rfl, by omega, by omega, Hstart.out, Ints.one _ rfl (by go_size), by go_grown⟩
  case round =>
    obtain ⟨m', r', L, rfl, rfl, hm', hr', hL, hown, hB⟩ := hrel
    have hs := hB.size
    have hlen : L.length ≤ 1000001 := by
      have := congrArg List.length hL
      rw [List.length_append] at this
      omega
    have Hown := Lib.hid hown
    clear hown
    by_cases hz : r' = 0
    · subst hz
      have e : L = T := by rw [← hL, euN_zero, List.append_nil]
      have He := Lib.hid e
      clear hL e
      go_wp2_with fail
      go_ret
      exact ⟨_, rfl, by rw [← He.out]; exact Hown.out, hB⟩
    · have e : (L ++ [(r' : Int)]) ++ euN r' (m' % r') = T := by rw [← hL, euN_pos m' r' hz]; simp
      have hlt : m' % r' < r' := Nat.mod_lt _ (Nat.pos_of_ne_zero hz)
      have hn0 : ¬ (r' : Int) = 0 := by omega
      have bz : ((r' : Int) != 0) = true := by simpa using hn0
      have hmod := nat_mod m' r'
      have hmod2 : (m' : Int) % (r' : Int) = ((m' % r' : Nat) : Int) := rfl
      have Hlt := Lib.hid hlt
      have He := Lib.hid e
      have Hm := Lib.hid (And.intro hmod hmod2)
      obtain ⟨q, hq⟩ : ∃ q, m' % r' = q := ⟨_, rfl⟩
      rw [hq] at hmod hmod2 hlt
      have Hq := Lib.hid hq
      clear hL e hq hmod2
      go_wp2_with (at_builtin; refine app_int w.heap.size L r' u5 _ _ _ rfl rfl rfl rfl (Hown.out.alloc _) (World.cell?_alloc_at _ _ _ _ rfl) (by omega) (by go_size) ?_)
      intro v3 w3 hown3 hgrow3 _
      have hB3 : Below w.heap.size w w3 := below_grown (hB.alloc hs _) (Hown.out.alloc _) hgrow3 (by go_size)
      have Hown3 := Lib.hid hown3
      clear hgrow3 hown3
      go_wp2_with fail
      go_quiet (fail)
      go_wp2_with fail
      go_roundw
      case rel => exact ⟨r', q, L ++ [(r' : Int)], rfl, by first | rfl | simp [Hm.out.1, Hm.out.2, Hq.out], by omega, by omega, by rw [← Hq.out]; exact He.out, Hown3.out.drewN _, below_drewN hB3 _⟩
      case measure => simp [intOf]; omega

theorem impl_EuclidRem (m r : Nat) (w : World) (hr : r ≤ m) (hm1 : 1 ≤ m) (hm : m ≤ 1000000) :
    Calls Try.prog 57 #[.int .i64 m, .int .i64 r] w fun e w' => ∃ v, e = .returned (.tuple #[v, .bool true]) ∧ Ints w' w.heap.size v (euT m r) ∧ Below w.heap.size w w' := by
  have g1 := Lib.hid (show good (m : Int) = true by unfold good; simp; omega)
  go_enter Try.func57, Try.ntmps57
  go_wp2_with fail
  refine (are1 (m : Int) _ _ true _ g1.out (by simp)).mono ?_
  rintro e w' ⟨rfl, rfl⟩
  go_wp2_with fail
  refine (impl_remainders m r _ hr hm).mono ?_
  rintro e w' ⟨v, rfl, hv, hB⟩
  have HV := Lib.hid (hv.mono (B' := w.heap.size) (by simp))
  have HB : Below w.heap.size w w' := Below.after (by go_grown) hB
  clear hv hB
  go_wp2_with fail
  refine bodyPost_ret (v := .tuple #[v, .bool true]) (by simp [results, Try.results57, go_sem, *] <;> rfl) rfl (⟨v, rfl, HV.out, HB⟩)
/-- the first remainder whose square is not above m decides -/
def nfL (n m : Int) : List Int → Int × Int × Bool
  | [] => (0, 0, false)
  | x :: t => if m < x * x then nfL n m t else if (m - x * x).tmod n = 0 ∧ sqB ((m - x * x).tdiv n) = true then (x, isq ((m - x * x).tdiv n), true) else (0, 0, false)
theorem nfL_ok {n m : Int} (hn : 1 ≤ n) (hm : m ≤ 1000000000) : ∀ (l : List Int) (x y : Int), nfL n m l = (x, y, true) → x ∈ l ∧ x * x + n * (y * y) = m ∧ 0 ≤ n * (y * y) ∧ 0 ≤ y ∧ y * y ≤ m
  | [], x, y, h => by simp [nfL] at h
  | z :: t, x, y, h => by
    unfold nfL at h
    split at h
    · obtain ⟨h1, h2⟩ := nfL_ok hn hm t x y h
      exact ⟨List.mem_cons_of_mem _ h1, h2⟩
    · split at h
      · rename_i hle hc
        obtain ⟨c1, c2⟩ := hc
        injection h with e1 e2
        injection e2 with e2 _
        subst e1
        obtain ⟨q, hq⟩ : ∃ q, (m - z * z).tdiv n = q := ⟨_, rfl⟩
        rw [hq] at c2 e2
        have hnn : 0 ≤ m - z * z := by omega
        have e : n * q = m - z * z := by
          have := Int.tmod_add_mul_tdiv (m - z * z) n
          rw [hq, c1] at this
          omega
        have hz : 0 ≤ z * z := sqn z
        have hq0 : 0 ≤ q := by rw [← hq]; exact Int.tdiv_nonneg hnn (by omega)
        have hqm : q ≤ m - z * z := by
          have := Int.mul_le_mul_of_nonneg_right hn hq0
          omega
        have hs : isq q * isq q = q := by
          unfold sqB at c2
          simp at c2
          first | exact c2.2 | exact c2
        subst e2
        rw [hs]
        exact ⟨List.mem_cons_self, by omega, by omega, isq_nonneg q, by omega⟩
      · simp at h
/-- the arguments are fit -/
def nfB (n m r : Int) : Bool := good2 n m && (decide (1 ≤ n) && (decide (1 ≤ m) && (decide (0 ≤ r) && (decide (r ≤ m) && ((r * r + n).tmod m == 0)))))
def nfR (n m r : Int) : Int × Int × Bool := if nfB n m r = true then nfL n m (euT m.toNat r.toNat) else (0, 0, false)
end Go.Proofs.Ytiblpagbloflhaa
