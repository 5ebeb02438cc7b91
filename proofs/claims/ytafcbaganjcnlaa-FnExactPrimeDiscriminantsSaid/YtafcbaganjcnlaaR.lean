/- Contracts and walks: the factor of the conductor. -/
import Derived.Test.YtafcbaganjcnlaaK
import Derived.Deep.RegionWith
namespace Go.Proofs.Ytafcbaganjcnlaa
set_option linter.unusedVariables false
open Go.ChangeShapes Go.WideShapes Go.ChangeAt Go.RowKit

theorem sfIn_more (p : Int) (hp : 2 ≤ p) : ∀ (m : Nat) (n k : Int), n.natAbs ≤ m → n ≠ 0 → (sfIn p n k).1 % (p * p) ≠ 0 ∧ (sfIn p n k).1 ∣ n := by
  intro m
  induction m with
  | zero => intro n k h1 h2; omega
  | succ m ih =>
    intro n k h1 h2
    by_cases h : n % (p * p) = 0
    · obtain ⟨a, b, c⟩ := abs_tdiv (sq_pos hp) h2 h
      obtain ⟨i1, i2⟩ := ih (n.tdiv (p * p)) (k * p) (by omega) b
      rw [sfIn_yes hp h2 h]
      refine ⟨i1, Int.dvd_trans i2 ⟨p * p, ?_⟩⟩
      rw [Int.mul_comm]; exact c
    · rw [sfIn_no h]; exact ⟨h, Int.dvd_refl _⟩
theorem sfGo_dvd : ∀ (m : Nat) (p n k : Int), ((n.natAbs : Int) - p + 1).toNat ≤ m → 2 ≤ p → n ≠ 0 → (sfGo p n k).1 ∣ n := by
  intro m
  induction m with
  | zero =>
    intro p n k hm hp hn
    rw [sfGo_end]
    · exact Int.dvd_refl _
    · have h1 := Int.mul_le_mul_of_nonneg_right hp (show 0 ≤ p by omega)
      omega
  | succ m ih =>
    intro p n k hm hp hn
    by_cases h : p * p ≤ (n.natAbs : Int)
    · have h1 := Int.mul_le_mul_of_nonneg_right hp (show 0 ≤ p by omega)
      obtain ⟨a, b, c, d⟩ := sfIn_bd p hp n.natAbs n k (Nat.le_refl _) hn
      rw [sfGo_step hp hn h]
      exact Int.dvd_trans (ih (p + 1) _ _ (by omega) (by omega) a) (sfIn_more p hp n.natAbs n k (Nat.le_refl _) hn).2
    · rw [sfGo_end (by omega)]; exact Int.dvd_refl _
theorem sqf_four {d : Int} (h0 : d ≠ 0) : (sqf d).1 % 4 ≠ 0 := by
  unfold sqf
  by_cases h : (2 : Int) * 2 ≤ (d.natAbs : Int)
  · rw [sfGo_step (by omega) h0 h]
    have h1 := sfIn_more 2 (by omega) d.natAbs d 1 (Nat.le_refl _) h0
    have h2 := (sfIn_bd 2 (by omega) d.natAbs d 1 (Nat.le_refl _) h0).1
    have h3 := sfGo_dvd _ (2 + 1) (sfIn 2 d 1).1 (sfIn 2 d 1).2 (Nat.le_refl _) (by omega) h2
    intro h4
    have h5 := Int.dvd_trans (Int.dvd_of_emod_eq_zero h4) h3
    exact h1.1 (Int.emod_eq_zero_of_dvd h5)
  · rw [sfGo_end (by omega)]
    simp only []
    omega
theorem fnd_pos {d : Int} (h : discB d = true) : 1 ≤ (fnd d).2 := by
  have h0 := disc_ne h
  obtain ⟨h1, h2, h3⟩ := discB_iff.1 h
  have hb := sqf_bd h0 h1
  have hi := sqf_inv h0
  by_cases hm : (sqf d).1 % 4 = 1
  · rw [fnd_one hm]; exact hb.2.1
  · rw [fnd_four hm]
    show 1 ≤ (sqf d).2 / 2
    have h4 := sqf_four h0
    have h5 : (sqf d).2 ≠ 1 := by
      intro h6
      have h7 := hi.2.2
      rw [h6] at h7
      omega
    have := hb.2.1
    omega

/-! the factor -/
def cfStep (e a p : Int) : Int := IntKind.i64.wrap (IntKind.i64.wrap (a.tdiv p) * IntKind.i64.wrap (p - kron e p))
def cfV (d : Int) : Int := (prs (fnd d).2).foldl (cfStep (fnd d).1) (fnd d).2
theorem wrapEq (x : Int) : IntKind.i64.wrap x = wrap64 x := by rw [IntKind.wrap_i64]; first | rfl | (unfold wrap64; rfl) | (simp [wrap64])
theorem cf_spec {e a p : Int} (h1 : 2 ≤ p) (h2 : p ≤ 1000) : wrap64 (wrap64 (a.tdiv p) * (p - kron e p)) = cfStep e a p := by
  have hb := kron_bd e p
  unfold cfStep
  rw [show IntKind.i64.wrap (p - kron e p) = p - kron e p from IntWalk.i64_in _ (by omega), wrapEq, wrapEq]
theorem cf_take {l : List Int} {e a : Int} {k : Nat} (h : k < l.length) : (l.take (k + 1)).foldl (cfStep e) a = cfStep e ((l.take k).foldl (cfStep e) a) l[k] := by
  rw [List.take_succ_eq_append_getElem h, List.foldl_append]; rfl
theorem facGo_le : ∀ (k : Nat) (p n : Int), (n - p + 1).toNat ≤ k → 2 ≤ p → 1 ≤ n → ∀ x, x ∈ facGo p n → x ≤ n := by
  intro k
  induction k with
  | zero =>
    intro p n hk hp hn x hx
    have h1 := Int.mul_le_mul_of_nonneg_right hp (show 0 ≤ p by omega)
    rw [facGo_end (by omega)] at hx
    split at hx
    · simp at hx; omega
    · simp at hx
  | succ k ih =>
    intro p n hk hp hn x hx
    have h1 := Int.mul_le_mul_of_nonneg_right hp (show 0 ≤ p by omega)
    by_cases h : p * p ≤ n
    · obtain ⟨a, b, c, d⟩ := stripN_bd hp hn
      rw [facGo_step hp h, List.mem_append] at hx
      rcases hx with hx | hx
      · have := stripL_all p n.toNat n (Nat.le_refl _) x hx
        omega
      · have := ih (p + 1) (stripN p n) (by omega) (by omega) a x hx
        omega
    · rw [facGo_end (by omega)] at hx
      split at hx
      · simp at hx; omega
      · simp at hx
theorem prs_bd {n x : Int} (hn : 1 ≤ n) (h : x ∈ prs n) : 2 ≤ x ∧ x ≤ n :=
  ⟨(facs_sorted hn).1 x (mem_prs hn h), facGo_le _ 2 n (Nat.le_refl _) (by omega) hn x (mem_prs hn h)⟩
theorem impl_conductorFactor (d k : Int) (w : World) (hd : -4000000 ≤ d ∧ d ≤ 4000000) (hk : 1 ≤ k ∧ k ≤ 1000) :
    Calls Try.prog 76 #[.int .i64 d, .int .i64 k] w fun e w' => e = .returned (.int .i64 ((prs k).foldl (cfStep d) k)) ∧ Below w.heap.size w w' := by
  obtain ⟨d1, d2⟩ := hd
  obtain ⟨k1, k2⟩ := hk
  have hfl := prs_len k1
  have Hb := Lib.hid (fun x (hx : x ∈ prs k) => prs_bd k1 hx)
  go_enter Try.func76, Try.ntmps76
  go_wp2_with fail
  refine (impl_primesOf k _ k1 (by omega)).mono ?_
  rintro e w1 ⟨v0, rfl, hf1, hB1⟩
  obtain ⟨p0, cap, rfl, _, _⟩ := hf1.view
  go_wp2_with fail
  go_loopw [5, 12] (fun v i wr => ∃ (j : Nat) (a : Int), j ≤ (prs k).length ∧ i = .int .i64 j ∧ v = .int .i64 a ∧ a = ((prs k).take j).foldl (cfStep d) k ∧ Ints wr w.heap.size (.slice p0 (prs k).length cap) (prs k) ∧ Below w.heap.size w wr) (fun _ i _ => (prs k).length - (intOf i).toNat)
  case atStart => exact ⟨0, k, by omega, rfl, rfl, by simp, hf1, hB1⟩
  case round =>
    clear hf1 hB1
    obtain ⟨j, a, hj, rfl, rfl, ha, hf, hB⟩ := hrel
    have Ha := Lib.hid ha
    clear ha
    have hs := hB.size
    by_cases hlt : j < (prs k).length
    · obtain ⟨g, rfl, _, hg2, hcell, _⟩ := hf.read j hlt
      obtain ⟨p, hp⟩ : ∃ x, x = (prs k)[j] := ⟨_, rfl⟩
      rw [← hp] at hcell
      obtain ⟨q1, q2⟩ := Hb.out p (by rw [hp]; exact List.getElem_mem hlt)
      have Hp := Lib.hid hp
      have Hf := Lib.hid hf
      clear hf hp
      obtain ⟨c1, c2⟩ := kron_bd d p
      go_wp2_with fail
      refine region_tail 9 (by kernel_rfl) (by kernel_rfl) ?_
      simp only [List.take_succ_cons, List.take_zero, List.drop_succ_cons, List.drop_zero]
      iterate 2 still_step
      refine wpStill_step (fun K hK => ?_)
      go_simp
      rw [if_neg (show ¬ p = 0 by omega)]
      refine ⟨rfl, hK _ ?_⟩
      iterate 3 still_step
      refine wpStill_step (fun K hK => ?_)
      go_simp
      refine ⟨_, same (impl_kronecker d p _ (by omega) (by omega)), hK _ ?_⟩
      iterate 2 still_step
      refine wpStill_nil ?_
      go_wp2_with fail
      go_roundw
      case rel => exact ⟨j + 1, _, by omega, by go_num, rfl, by rw [cf_take hlt, ← Ha.out, ← Hp.out]; rfl, Hf.out, Below.after hB (by go_grown)⟩
      case measure => simp [intOf]; omega
    · go_wp2_with fail
      go_ret
      obtain rfl : j = (prs k).length := by omega
      exact ⟨rint (by have := Ha.out; rw [List.take_length] at this; exact this), hB⟩
theorem spec_diFactor (d : Int) (w : World) (h : discB d = true) :
    Calls Try.prog 75 #[.int .i64 d] w fun e w' => e = .returned (.int .i64 (cfV d)) ∧ Below w.heap.size w w' := by
  have h0 := disc_ne h
  have h1 := (discB_iff.1 h).1
  have k1 := fnd_pos h
  obtain ⟨⟨e1, e2⟩, _, k2⟩ := fnd_nn h0 h1
  clear h
  have Hr := Lib.hid (show (prs (fnd d).2).foldl (cfStep (fnd d).1) (fnd d).2 = cfV d from rfl)
  go_enter Try.func75, Try.ntmps75
  go_wp2_with fail
  refine (spec_diSplit d _ h0 h1).mono ?_
  rintro e w' ⟨rfl, rfl⟩
  generalize (fnd d).1 = q at *
  generalize (fnd d).2 = k at *
  have hfl := prs_len k1
  have Hb := Lib.hid (fun x (hx : x ∈ prs k) => prs_bd k1 hx)
  go_wp2_with fail
  refine (spec_nuPrimes k _ k1 (by omega)).mono ?_
  rintro e w1 ⟨v0, rfl, hf1, hB1⟩
  obtain ⟨p0, cap, rfl, _, _⟩ := hf1.view
  go_wp2_with fail
  go_loopw [5, 17] (fun v i wr => ∃ (j : Nat) (a : Int), j ≤ (prs k).length ∧ i = .int .i64 j ∧ v = .int .i64 a ∧ a = ((prs k).take j).foldl (cfStep q) k ∧ Ints wr w.heap.size (.slice p0 (prs k).length cap) (prs k) ∧ Below w.heap.size w wr) (fun _ i _ => (prs k).length - (intOf i).toNat)
  case atStart => exact ⟨0, k, by omega, rfl, rfl, by simp, hf1, hB1⟩
  case round =>
    clear hf1 hB1
    obtain ⟨j, a, hj, rfl, rfl, ha, hf, hB⟩ := hrel
    have Ha := Lib.hid ha
    clear ha
    have hs := hB.size
    by_cases hlt : j < (prs k).length
    · obtain ⟨g, rfl, _, hg2, hcell, _⟩ := hf.read j hlt
      obtain ⟨p, hp⟩ : ∃ x, x = (prs k)[j] := ⟨_, rfl⟩
      rw [← hp] at hcell
      obtain ⟨q1, q2⟩ := Hb.out p (by rw [hp]; exact List.getElem_mem hlt)
      have Hp := Lib.hid hp
      have Hf := Lib.hid hf
      have HB := Lib.hid hB
      have hp0 : ¬ p = 0 := by omega
      clear hf hp hB
      obtain ⟨c1, c2⟩ := kron_bd q p
      go_wp2_with fail
      go_region_with (go_at_call 65; refine (spec_syKronecker q p _ ?_ ?_).mono ?_; omega; omega; rintro e w2 ⟨rfl, hb2⟩; have HB2 := Lib.hid hb2; clear hb2)
      have hB1 : Below w.heap.size w wr.drew := Below.after HB.out (by go_grown)
      have hB2 : Below w.heap.size w w2 := Below.after hB1 HB2.out
      have hf1 : Ints wr.drew w.heap.size (.slice (some ⟨g, 0, none⟩) (prs k).length cap) (prs k) := Hf.out
      have Hf2 := Lib.hid (hf1.below HB2.out)
      clear hf1 hB1
      go_wp2_with fail
      go_roundw
      case rel => exact ⟨j + 1, _, by omega, by go_num, rfl, by rw [cf_take hlt, ← Ha.out, ← Hp.out]; exact cf_spec q1 (by omega), Hf2.out, hB2⟩
      case measure => simp [intOf]; omega
    · go_wp2_with fail
      go_ret
      obtain rfl : j = (prs k).length := by omega
      exact ⟨rint (by have := Ha.out; rw [List.take_length] at this; exact this.trans Hr.out), hB⟩
theorem impl_ConductorFactor_yes (d : Int) (w : World) (h : discB d = true) :
    Calls Try.prog 45 #[.int .i64 d] w fun e w' => e = .returned (.tuple #[.int .i64 (cfV d), .bool true]) ∧ Below w.heap.size w w' := by
  have h0 := disc_ne h
  have h1 := (discB_iff.1 h).1
  have k1 := fnd_pos h
  obtain ⟨⟨e1, e2⟩, _, k2⟩ := fnd_nn h0 h1
  have H := Lib.hid h
  clear h
  go_enter Try.func45, Try.ntmps45
  go_wp2_with fail
  refine (impl_isDiscriminant d true _ H.out).mono ?_
  rintro e w1 ⟨rfl, hb1⟩
  have hB1 : Below w.heap.size w w1 := Below.after (by go_grown) hb1
  obtain ⟨hc1, hf1⟩ := bcell hb1
  have hy1 := hb1.size
  try simp at hy1
  first | (with_reducible have hx1 := Nat.lt_of_succ_le hy1) | skip
  first | (with_reducible have hv1 := Nat.lt_of_succ_lt hx1) | skip
  first | (with_reducible have hu1 := Nat.lt_of_succ_lt hv1) | skip
  first | (have hz1 : w.heap.size < w1.heap.size := by omega) | (have hz1 := hB1.size)
  clear hb1
  go_wp2_with fail
  refine (impl_fundamental d _ h0 h1).mono ?_
  rintro e w' ⟨rfl, rfl⟩
  go_wp2_with fail
  refine (impl_conductorFactor (fnd d).1 (fnd d).2 _ ⟨e1, e2⟩ ⟨k1, k2⟩).mono ?_
  rintro e w2 ⟨rfl, hb2⟩
  have hB2 : Below w.heap.size w w2 := Below.after (by go_grown) hb2
  obtain ⟨hc2, hf2⟩ := bcell hb2
  have hy2 := hb2.size
  try simp at hy2
  first | (with_reducible have hx2 := Nat.lt_of_succ_le hy2) | skip
  first | (with_reducible have hv2 := Nat.lt_of_succ_lt hx2) | skip
  first | (with_reducible have hu2 := Nat.lt_of_succ_lt hv2) | skip
  first | (have hz2 : w.heap.size < w2.heap.size := by omega) | (have hz2 := hB2.size)
  first | (have hq2 : w1.heap.size ≤ w2.heap.size := by omega) | skip
  first | (have hx1_2 := Nat.lt_of_lt_of_le hx1 hq2) | skip
  first | (have hv1_2 := Nat.lt_of_lt_of_le hv1 hq2) | skip
  first | (have hu1_2 := Nat.lt_of_lt_of_le hu1 hq2) | skip
  clear hb2
  go_wp2_with fail
  go_ret2
  exact ⟨rfl, by go_grown⟩
theorem impl_ConductorFactor_no (d : Int) (w : World) (h : discB d = false) :
    Calls Try.prog 45 #[.int .i64 d] w fun e w' => e = .returned (.tuple #[.int .i64 0, .bool false]) ∧ Below w.heap.size w w' := by
  have H := Lib.hid h
  clear h
  go_enter Try.func45, Try.ntmps45
  go_wp2_with fail
  refine (impl_isDiscriminant d false _ H.out).mono ?_
  rintro e w1 ⟨rfl, hb1⟩
  have hB1 : Below w.heap.size w w1 := Below.after (by go_grown) hb1
  obtain ⟨hc1, hf1⟩ := bcell hb1
  have hy1 := hb1.size
  try simp at hy1
  first | (with_reducible have hx1 := Nat.lt_of_succ_le hy1) | skip
  first | (with_reducible have hv1 := Nat.lt_of_succ_lt hx1) | skip
  first | (with_reducible have hu1 := Nat.lt_of_succ_lt hv1) | skip
  first | (have hz1 : w.heap.size < w1.heap.size := by omega) | (have hz1 := hB1.size)
  clear hb1
  go_wp2_with fail
  go_ret2
  exact ⟨rfl, by go_grown⟩
theorem spec_ConductorFactor_yes (d : Int) (w : World) (h : discB d = true) :
    Calls Try.prog 44 #[.int .i64 d] w fun e w' => e = .returned (.tuple #[.int .i64 (cfV d), .bool true]) ∧ Below w.heap.size w w' := by
  have H := Lib.hid h
  clear h
  go_enter Try.func44, Try.ntmps44
  go_wp2_with fail
  refine (spec_diIs d true _ H.out).mono ?_
  rintro e w' ⟨rfl, rfl⟩
  go_wp2_with fail
  refine (spec_diFactor d _ H.out).mono ?_
  rintro e w1 ⟨rfl, hb1⟩
  have hB1 : Below w.heap.size w w1 := Below.after (by go_grown) hb1
  obtain ⟨hc1, hf1⟩ := bcell hb1
  have hy1 := hb1.size
  try simp at hy1
  first | (with_reducible have hx1 := Nat.lt_of_succ_le hy1) | skip
  first | (with_reducible have hv1 := Nat.lt_of_succ_lt hx1) | skip
  first | (with_reducible have hu1 := Nat.lt_of_succ_lt hv1) | skip
  first | (have hz1 : w.heap.size < w1.heap.size := by omega) | (have hz1 := hB1.size)
  clear hb1
  go_wp2_with fail
  go_ret2
  exact ⟨rfl, by go_grown⟩
theorem spec_ConductorFactor_no (d : Int) (w : World) (h : discB d = false) :
    Calls Try.prog 44 #[.int .i64 d] w fun e w' => e = .returned (.tuple #[.int .i64 0, .bool false]) ∧ Below w.heap.size w w' := by
  have H := Lib.hid h
  clear h
  go_enter Try.func44, Try.ntmps44
  go_wp2_with fail
  refine (spec_diIs d false _ H.out).mono ?_
  rintro e w' ⟨rfl, rfl⟩
  go_wp2_with fail
  go_ret2
  exact ⟨rfl, by go_grown⟩
theorem walkConductorFactor (d : Int) (w : World) (wd : (Lit.int .i64 d).wf = true) :
    Calls Try.prog 14 #[.int .i64 d] w fun e w' => e = .returned (.bool true) ∧ Below w.heap.size w w' := by
  by_cases h : discB d = true
  · have H := Lib.hid h
    clear h
    go_enter Try.func14, Try.ntmps14
    go_wp2_with fail
    refine (spec_ConductorFactor_yes d _ H.out).mono ?_
    rintro e w1 ⟨rfl, hb1⟩
    have hB1 : Below w.heap.size w w1 := Below.after (by go_grown) hb1
    obtain ⟨hc1, hf1⟩ := bcell hb1
    have hy1 := hb1.size
    try simp at hy1
    first | (with_reducible have hx1 := Nat.lt_of_succ_le hy1) | skip
    first | (with_reducible have hv1 := Nat.lt_of_succ_lt hx1) | skip
    first | (with_reducible have hu1 := Nat.lt_of_succ_lt hv1) | skip
    first | (have hz1 : w.heap.size < w1.heap.size := by omega) | (have hz1 := hB1.size)
    clear hb1
    go_wp2_with fail
    refine (impl_ConductorFactor_yes d _ H.out).mono ?_
    rintro e w2 ⟨rfl, hb2⟩
    have hB2 : Below w.heap.size w w2 := Below.after (by go_grown) hb2
    obtain ⟨hc2, hf2⟩ := bcell hb2
    have hy2 := hb2.size
    try simp at hy2
    first | (with_reducible have hx2 := Nat.lt_of_succ_le hy2) | skip
    first | (with_reducible have hv2 := Nat.lt_of_succ_lt hx2) | skip
    first | (with_reducible have hu2 := Nat.lt_of_succ_lt hv2) | skip
    first | (have hz2 : w.heap.size < w2.heap.size := by omega) | (have hz2 := hB2.size)
    first | (have hq2 : w1.heap.size ≤ w2.heap.size := by omega) | skip
    first | (have hx1_2 := Nat.lt_of_lt_of_le hx1 hq2) | skip
    first | (have hv1_2 := Nat.lt_of_lt_of_le hv1 hq2) | skip
    first | (have hu1_2 := Nat.lt_of_lt_of_le hu1 hq2) | skip
    clear hb2
    go_wp2_with fail
    go_ret
    exact ⟨rfl, by go_grown⟩
  · have H := Lib.hid (Bool.not_eq_true _ ▸ h)
    clear h
    go_enter Try.func14, Try.ntmps14
    go_wp2_with fail
    refine (spec_ConductorFactor_no d _ H.out).mono ?_
    rintro e w1 ⟨rfl, hb1⟩
    have hB1 : Below w.heap.size w w1 := Below.after (by go_grown) hb1
    obtain ⟨hc1, hf1⟩ := bcell hb1
    have hy1 := hb1.size
    try simp at hy1
    first | (with_reducible have hx1 := Nat.lt_of_succ_le hy1) | skip
    first | (with_reducible have hv1 := Nat.lt_of_succ_lt hx1) | skip
    first | (with_reducible have hu1 := Nat.lt_of_succ_lt hv1) | skip
    first | (have hz1 : w.heap.size < w1.heap.size := by omega) | (have hz1 := hB1.size)
    clear hb1
    go_wp2_with fail
    refine (impl_ConductorFactor_no d _ H.out).mono ?_
    rintro e w2 ⟨rfl, hb2⟩
    have hB2 : Below w.heap.size w w2 := Below.after (by go_grown) hb2
    obtain ⟨hc2, hf2⟩ := bcell hb2
    have hy2 := hb2.size
    try simp at hy2
    first | (with_reducible have hx2 := Nat.lt_of_succ_le hy2) | skip
    first | (with_reducible have hv2 := Nat.lt_of_succ_lt hx2) | skip
    first | (with_reducible have hu2 := Nat.lt_of_succ_lt hv2) | skip
    first | (have hz2 : w.heap.size < w2.heap.size := by omega) | (have hz2 := hB2.size)
    first | (have hq2 : w1.heap.size ≤ w2.heap.size := by omega) | skip
    first | (have hx1_2 := Nat.lt_of_lt_of_le hx1 hq2) | skip
    first | (have hv1_2 := Nat.lt_of_lt_of_le hv1 hq2) | skip
    first | (have hu1_2 := Nat.lt_of_lt_of_le hu1 hq2) | skip
    clear hb2
    go_wp2_with fail
    go_ret
    exact ⟨rfl, by go_grown⟩
end Go.Proofs.Ytafcbaganjcnlaa
