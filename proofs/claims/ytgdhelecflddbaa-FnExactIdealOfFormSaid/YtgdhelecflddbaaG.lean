/- Contracts and walks of the laws: characters, conjugates, matrix products, ideals of forms. -/
import Derived.Test.YtgdhelecflddbaaF
namespace Go.Proofs.Ytgdhelecflddbaa
set_option linter.unusedVariables false
open Go.ChangeShapes Go.WideShapes Go.ChangeAt Go.RowKit

/-! odd primes, characters -/
theorem impl_IsPrime (n : Int) (v : Bool) (w : World) (hv : (good n && primeB n) = v) :
    Calls Try.prog 94 #[.int .i64 n] w fun e w' => e = .returned (.bool v) ∧ Below w.heap.size w w' := by
  have Hv := Lib.hid hv
  clear hv
  by_cases h : good n = true
  · obtain ⟨h1, h2⟩ := good_iff.1 h
    have H := Lib.hid h
    clear h
    go_enter Try.func94, Try.ntmps94
    go_wp2_with fail
    refine (are1 n _ _ true _ H.out (by simp)).mono ?_
    rintro e w' ⟨rfl, rfl⟩
    go_wp2_with fail
    refine (impl_isPrime n _ _ (by omega) rfl).mono ?_
    rintro e w' ⟨rfl, rfl⟩
    go_wp2_with fail
    go_ret
    exact ⟨rbool (by rw [← Hv.out]; simp [H.out]), by go_grown⟩
  · have H := Lib.hid (Bool.not_eq_true _ ▸ h)
    clear h
    go_enter Try.func94, Try.ntmps94
    go_wp2_with fail
    refine (are1 n _ _ false _ H.out (by simp)).mono ?_
    rintro e w' ⟨rfl, rfl⟩
    go_wp2_with fail
    go_ret
    exact ⟨rbool (by rw [← Hv.out]; simp [H.out]), by go_grown⟩
theorem impl_isOddPrime (n : Int) (v : Bool) (w : World) (hv : oddPrimeB n = v) :
    Calls Try.prog 81 #[.int .i64 n] w fun e w' => e = .returned (.bool v) ∧ Below w.heap.size w w' := by
  by_cases h : n = 2
  · have hf : oddPrimeB 2 = false := oddPrimeB_no (by omega)
    subst h
    rw [hf] at hv
    subst hv
    clear hf
    go_enter Try.func81, Try.ntmps81
    go_wp2_with fail
    go_ret
    exact ⟨rfl, by go_grown⟩
  · have hn : (n != 2) = true := by simpa using h
    have hv2 : (good n && primeB n) = v := by rw [← hv]; simp [oddPrimeB, h]
    have Hv := Lib.hid hv2
    clear hv2
    clear hv h
    go_enter Try.func81, Try.ntmps81
    go_wp2_with fail
    refine (impl_IsPrime n v _ Hv.out).mono ?_
    rintro e w1 ⟨rfl, hb1⟩
    have hB1 : Below w.heap.size w w1 := Below.after (by go_grown) hb1
    obtain ⟨hc1, hf1⟩ := bcell hb1
    have hy1 := hb1.size
    try simp at hy1
    first | (with_reducible have hx1 := Nat.lt_of_succ_le hy1) | skip
    first | (with_reducible have hv1 := Nat.lt_of_succ_lt hx1) | skip
    first | (with_reducible have hu1 := Nat.lt_of_succ_lt hv1) | skip
    first | (have hz1 : w.heap.size < w1.heap.size := by omega) | (have hz1 := hB1.size)
    clear hb1
    go_wp2_with fail
    go_ret
    exact ⟨rfl, by go_grown⟩
theorem spec_syOddPrime (n : Int) (v : Bool) (w : World) (hv : oddPrimeB n = v) :
    Calls Try.prog 80 #[.int .i64 n] w fun e w' => e = .returned (.bool v) ∧ w = w' := by
  by_cases h : 2 < n
  · have hv2 : (good n && primeB n) = v := by rw [← hv]; simp [oddPrimeB, show n ≠ 2 by omega]
    have Hv := Lib.hid hv2
    clear hv2
    clear hv
    by_cases hg : good n = true
    · obtain ⟨h1, h2⟩ := good_iff.1 hg
      have H := Lib.hid hg
      clear hg
      go_enter Try.func80, Try.ntmps80
      go_wp2_with fail
      refine (spec_nuGood n true _ H.out).mono ?_
      rintro e w' ⟨rfl, rfl⟩
      go_wp2_with fail
      refine (spec_nuPrime n _ _ (by omega) rfl).mono ?_
      rintro e w' ⟨rfl, rfl⟩
      go_wp2_with fail
      go_ret
      exact ⟨rbool (by rw [← Hv.out]; simp [H.out]), rfl⟩
    · have H := Lib.hid (Bool.not_eq_true _ ▸ hg)
      clear hg
      go_enter Try.func80, Try.ntmps80
      go_wp2_with fail
      refine (spec_nuGood n false _ H.out).mono ?_
      rintro e w' ⟨rfl, rfl⟩
      go_wp2_with fail
      go_ret
      exact ⟨rbool (by rw [← Hv.out]; simp [H.out]), rfl⟩
  · rw [oddPrimeB_no (by omega)] at hv
    subst hv
    go_enter Try.func80, Try.ntmps80
    go_wp2_with fail
    go_ret
    exact ⟨rfl, rfl⟩
theorem impl_isCharacter (k p : Int) (v : Bool) (w : World) (hv : charB k p = v) :
    Calls Try.prog 58 #[.agg #[.int .i64 k, .int .i64 p]] w fun e w' => e = .returned (.bool v) ∧ Below w.heap.size w w' := by
  by_cases h : k = 1
  · subst h
    have hv2 : oddPrimeB p = v := by rw [← hv]; simp [charB]
    have Hv := Lib.hid hv2
    clear hv2
    clear hv
    go_enter Try.func58, Try.ntmps58
    go_wp2_with fail
    refine (impl_isOddPrime p v _ Hv.out).mono ?_
    rintro e w1 ⟨rfl, hb1⟩
    have hB1 : Below w.heap.size w w1 := Below.after (by go_grown) hb1
    obtain ⟨hc1, hf1⟩ := bcell hb1
    have hy1 := hb1.size
    try simp at hy1
    first | (with_reducible have hx1 := Nat.lt_of_succ_le hy1) | skip
    first | (with_reducible have hv1 := Nat.lt_of_succ_lt hx1) | skip
    first | (with_reducible have hu1 := Nat.lt_of_succ_lt hv1) | skip
    first | (have hz1 : w.heap.size < w1.heap.size := by omega) | (have hz1 := hB1.size)
    clear hb1
    go_wp2_with fail
    go_ret
    exact ⟨rfl, by go_grown⟩
  · have hk : (k == 1) = false := by simpa using h
    have hv2 : (decide (2 ≤ k) && decide (k ≤ 4) && decide (p = 0)) = v := by rw [← hv]; simp [charB, h]
    have Hv := Lib.hid hv2
    clear hv2
    clear hv h
    go_enter Try.func58, Try.ntmps58
    go_wp2_with fail
    all_goals (try go_ret)
    all_goals exact ⟨rbool (by rw [← Hv.out, Bool.eq_iff_iff]; simp_all <;> omega), by go_grown⟩
theorem spec_chGood (k p : Int) (v : Bool) (w : World) (hv : charB k p = v) :
    Calls Try.prog 57 #[.agg #[.int .i64 k, .int .i64 p]] w fun e w' => e = .returned (.bool v) ∧ Below w.heap.size w w' := by
  by_cases h : k = 1
  · subst h
    have hv2 : oddPrimeB p = v := by rw [← hv]; simp [charB]
    have Hv := Lib.hid hv2
    clear hv2
    clear hv
    go_enter Try.func57, Try.ntmps57
    go_wp2_with fail
    refine (spec_syOddPrime p v _ Hv.out).mono ?_
    rintro e w' ⟨rfl, rfl⟩
    go_wp2_with fail
    go_ret
    exact ⟨rfl, by go_grown⟩
  · have hk : (k == 1) = false := by simpa using h
    have hv2 : (decide (2 ≤ k) && decide (k ≤ 4) && decide (p = 0)) = v := by rw [← hv]; simp [charB, h]
    have Hv := Lib.hid hv2
    clear hv2
    clear hv h
    by_cases hin : 2 ≤ k ∧ k ≤ 4
    · have Hi := Lib.hid (show (decide (2 ≤ k) && decide (k ≤ 4)) = true by simpa using hin)
      go_enter Try.func57, Try.ntmps57
      go_wp2_with fail
      refine (spec_l1In k 2 4 true _ Hi.out).mono ?_
      rintro e w' ⟨rfl, rfl⟩
      go_wp2_with fail
      go_ret
      exact ⟨rbool (by rw [← Hv.out, Hi.out, Bool.eq_iff_iff]; simp), by go_grown⟩
    · have Hi := Lib.hid (show (decide (2 ≤ k) && decide (k ≤ 4)) = false by rw [← Bool.not_eq_true]; simpa using hin)
      clear hin
      go_enter Try.func57, Try.ntmps57
      go_wp2_with fail
      refine (spec_l1In k 2 4 false _ Hi.out).mono ?_
      rintro e w' ⟨rfl, rfl⟩
      go_wp2_with fail
      go_ret
      exact ⟨rbool (by rw [← Hv.out, Hi.out]; simp), by go_grown⟩
theorem spec_IsCharacter (k p : Int) (v : Bool) (w : World) (hv : charB k p = v) :
    Calls Try.prog 29 #[.agg #[.int .i64 k, .int .i64 p]] w fun e w' => e = .returned (.bool v) ∧ Below w.heap.size w w' := by
  have Hv := Lib.hid hv
  clear hv
  go_enter Try.func29, Try.ntmps29
  go_wp2_with fail
  refine (spec_chGood k p v _ Hv.out).mono ?_
  rintro e w1 ⟨rfl, hb1⟩
  have hB1 : Below w.heap.size w w1 := Below.after (by go_grown) hb1
  obtain ⟨hc1, hf1⟩ := bcell hb1
  have hy1 := hb1.size
  try simp at hy1
  first | (with_reducible have hx1 := Nat.lt_of_succ_le hy1) | skip
  first | (with_reducible have hv1 := Nat.lt_of_succ_lt hx1) | skip
  first | (with_reducible have hu1 := Nat.lt_of_succ_lt hv1) | skip
  first | (have hz1 : w.heap.size < w1.heap.size := by omega) | (have hz1 := hB1.size)
  clear hb1
  go_wp2_with fail
  go_ret
  exact ⟨rfl, by go_grown⟩
theorem impl_IsCharacter (k p : Int) (v : Bool) (w : World) (hv : charB k p = v) :
    Calls Try.prog 31 #[.agg #[.int .i64 k, .int .i64 p]] w fun e w' => e = .returned (.bool v) ∧ Below w.heap.size w w' := by
  have Hv := Lib.hid hv
  clear hv
  go_enter Try.func31, Try.ntmps31
  go_wp2_with fail
  refine (impl_isCharacter k p v _ Hv.out).mono ?_
  rintro e w1 ⟨rfl, hb1⟩
  have hB1 : Below w.heap.size w w1 := Below.after (by go_grown) hb1
  obtain ⟨hc1, hf1⟩ := bcell hb1
  have hy1 := hb1.size
  try simp at hy1
  first | (with_reducible have hx1 := Nat.lt_of_succ_le hy1) | skip
  first | (with_reducible have hv1 := Nat.lt_of_succ_lt hx1) | skip
  first | (with_reducible have hu1 := Nat.lt_of_succ_lt hv1) | skip
  first | (have hz1 : w.heap.size < w1.heap.size := by omega) | (have hz1 := hB1.size)
  clear hb1
  go_wp2_with fail
  go_ret
  exact ⟨rfl, by go_grown⟩
theorem walkIsCharacter (k p : Int) (w : World) : (Lit.int .i64 k).wf = true → (Lit.int .i64 p).wf = true →
    Calls Try.prog 8 #[.agg #[.int .i64 k, .int .i64 p]] w fun e w' => e = .returned (.bool true) ∧ Below w.heap.size w w' := by
  intros
  go_enter Try.func8, Try.ntmps8
  go_wp2_with fail
  refine (laws_toCharacter k p _).mono ?_
  rintro e w1 ⟨rfl, hb1⟩
  have hB1 : Below w.heap.size w w1 := Below.after (by go_grown) hb1
  obtain ⟨hc1, hf1⟩ := bcell hb1
  have hy1 := hb1.size
  try simp at hy1
  first | (with_reducible have hx1 := Nat.lt_of_succ_le hy1) | skip
  first | (with_reducible have hv1 := Nat.lt_of_succ_lt hx1) | skip
  first | (with_reducible have hu1 := Nat.lt_of_succ_lt hv1) | skip
  first | (have hz1 : w.heap.size < w1.heap.size := by omega) | (have hz1 := hB1.size)
  clear hb1
  go_wp2_with fail
  refine (spec_IsCharacter k p _ _ rfl).mono ?_
  rintro e w2 ⟨rfl, hb2⟩
  have hB2 : Below w.heap.size w w2 := Below.after (by go_grown) hb2
  obtain ⟨hc2, hf2⟩ := bcell hb2
  have hy2 := hb2.size
  try simp at hy2
  first | (with_reducible have hx2 := Nat.lt_of_succ_le hy2) | skip
  first | (with_reducible have hv2 := Nat.lt_of_succ_lt hx2) | skip
  first | (with_reducible have hu2 := Nat.lt_of_succ_lt hv2) | skip
  first | (have hz2 : w.heap.size < w2.heap.size := by omega) | (have hz2 := hB2.size)
  first | (have hq2 : w1.heap.size ≤ w2.heap.size := by omega) | skip
  first | (have hx1_2 := Nat.lt_of_lt_of_le hx1 hq2) | skip
  first | (have hv1_2 := Nat.lt_of_lt_of_le hv1 hq2) | skip
  first | (have hu1_2 := Nat.lt_of_lt_of_le hu1 hq2) | skip
  clear hb2
  go_wp2_with fail
  refine (laws_toCharacter k p _).mono ?_
  rintro e w3 ⟨rfl, hb3⟩
  have hB3 : Below w.heap.size w w3 := Below.after (by go_grown) hb3
  obtain ⟨hc3, hf3⟩ := bcell hb3
  have hy3 := hb3.size
  try simp at hy3
  first | (with_reducible have hx3 := Nat.lt_of_succ_le hy3) | skip
  first | (with_reducible have hv3 := Nat.lt_of_succ_lt hx3) | skip
  first | (with_reducible have hu3 := Nat.lt_of_succ_lt hv3) | skip
  first | (have hz3 : w.heap.size < w3.heap.size := by omega) | (have hz3 := hB3.size)
  first | (have hq3 : w2.heap.size ≤ w3.heap.size := by omega) | skip
  first | (have hx1_3 := Nat.lt_of_lt_of_le hx1_2 hq3) | skip
  first | (have hv1_3 := Nat.lt_of_lt_of_le hv1_2 hq3) | skip
  first | (have hu1_3 := Nat.lt_of_lt_of_le hu1_2 hq3) | skip
  first | (have hx2_3 := Nat.lt_of_lt_of_le hx2 hq3) | skip
  first | (have hv2_3 := Nat.lt_of_lt_of_le hv2 hq3) | skip
  first | (have hu2_3 := Nat.lt_of_lt_of_le hu2 hq3) | skip
  clear hb3
  go_wp2_with fail
  refine (impl_IsCharacter k p _ _ rfl).mono ?_
  rintro e w4 ⟨rfl, hb4⟩
  have hB4 : Below w.heap.size w w4 := Below.after (by go_grown) hb4
  obtain ⟨hc4, hf4⟩ := bcell hb4
  have hy4 := hb4.size
  try simp at hy4
  first | (with_reducible have hx4 := Nat.lt_of_succ_le hy4) | skip
  first | (with_reducible have hv4 := Nat.lt_of_succ_lt hx4) | skip
  first | (with_reducible have hu4 := Nat.lt_of_succ_lt hv4) | skip
  first | (have hz4 : w.heap.size < w4.heap.size := by omega) | (have hz4 := hB4.size)
  first | (have hq4 : w3.heap.size ≤ w4.heap.size := by omega) | skip
  first | (have hx1_4 := Nat.lt_of_lt_of_le hx1_3 hq4) | skip
  first | (have hv1_4 := Nat.lt_of_lt_of_le hv1_3 hq4) | skip
  first | (have hu1_4 := Nat.lt_of_lt_of_le hu1_3 hq4) | skip
  first | (have hx2_4 := Nat.lt_of_lt_of_le hx2_3 hq4) | skip
  first | (have hv2_4 := Nat.lt_of_lt_of_le hv2_3 hq4) | skip
  first | (have hu2_4 := Nat.lt_of_lt_of_le hu2_3 hq4) | skip
  first | (have hx3_4 := Nat.lt_of_lt_of_le hx3 hq4) | skip
  first | (have hv3_4 := Nat.lt_of_lt_of_le hv3 hq4) | skip
  first | (have hu3_4 := Nat.lt_of_lt_of_le hu3 hq4) | skip
  clear hb4
  go_wp2_with fail
  go_ret
  exact ⟨rfl, by go_grown⟩

/-! conjugates -/
theorem impl_conjugate (s a b : Int) (w : World) (ha : 1 ≤ a ∧ a ≤ 10000) (hb : 0 ≤ b ∧ b < 2 * a) :
    Calls Try.prog 60 #[.agg #[.int .i64 s, .int .i64 a, .int .i64 b]] w fun e w' => e = .returned (.agg #[.int .i64 s, .int .i64 a, .int .i64 ((-b) % (2 * a))]) ∧ Below w.heap.size w w' := by
  obtain ⟨a1, a2⟩ := ha
  obtain ⟨b1, b2⟩ := hb
  go_enter Try.func60, Try.ntmps60
  have e1 : IntKind.i64.wrap (-b) = -b := IntWalk.i64_in _ (by omega)
  have e2 : IntKind.i64.wrap (2 * a) = 2 * a := IntWalk.i64_in _ (by omega)
  go_wp2_with fail
  refine region_tail 12 (by kernel_rfl) (by kernel_rfl) ?_
  simp only [List.take_succ_cons, List.take_zero, List.drop_succ_cons, List.drop_zero]
  iterate 10 still_step
  refine wpStill_step (fun K hK => ?_)
  go_simp
  refine ⟨_, same (impl_mod (-b) (2 * a) _ ?_ ?_), hK _ ?_⟩
  · omega
  · omega
  iterate 1 still_step
  refine wpStill_nil ?_
  go_wp2_with fail
  go_returns
  exact ⟨rfl, by go_grown⟩
theorem spec_idConjugate (s a b : Int) (w : World) (ha : 1 ≤ a ∧ a ≤ 10000) (hb : 0 ≤ b ∧ b < 2 * a) :
    Calls Try.prog 59 #[.agg #[.int .i64 s, .int .i64 a, .int .i64 b]] w fun e w' => e = .returned (.agg #[.int .i64 s, .int .i64 a, .int .i64 ((-b) % (2 * a))]) ∧ Below w.heap.size w w' := by
  obtain ⟨a1, a2⟩ := ha
  obtain ⟨b1, b2⟩ := hb
  go_enter Try.func59, Try.ntmps59
  have e1 : IntKind.i64.wrap (-b) = -b := IntWalk.i64_in _ (by omega)
  have e2 : IntKind.i64.wrap (2 * a) = 2 * a := IntWalk.i64_in _ (by omega)
  go_wp2_with fail
  refine region_tail 12 (by kernel_rfl) (by kernel_rfl) ?_
  simp only [List.take_succ_cons, List.take_zero, List.drop_succ_cons, List.drop_zero]
  iterate 10 still_step
  refine wpStill_step (fun K hK => ?_)
  go_simp
  refine ⟨_, same (spec_nuMod (-b) (2 * a) _ ?_ ?_), hK _ ?_⟩
  · omega
  · omega
  iterate 1 still_step
  refine wpStill_nil ?_
  go_wp2_with fail
  go_returns
  exact ⟨rfl, by go_grown⟩
theorem impl_ConjugateIdeal_yes (d s a b : Int) (w : World) (h : idealB d s a b = true) :
    Calls Try.prog 33 #[.int .i64 d, .agg #[.int .i64 s, .int .i64 a, .int .i64 b]] w fun e w' => e = .returned (.tuple #[.agg #[.int .i64 s, .int .i64 a, .int .i64 ((-b) % (2 * a))], .bool true]) ∧ Below w.heap.size w w' := by
  obtain ⟨_, ⟨_, _, h3, h4, h5, h6⟩, _⟩ := idealB_iff.1 h
  have H := Lib.hid h
  clear h
  go_enter Try.func33, Try.ntmps33
  go_wp2_with fail
  refine (impl_isIdeal d s a b true _ H.out).mono ?_
  rintro e w1 ⟨rfl, hb1⟩
  have hB1 : Below w.heap.size w w1 := Below.after (by go_grown) hb1
  obtain ⟨hc1, hf1⟩ := bcell hb1
  have hy1 := hb1.size
  try simp at hy1
  first | (with_reducible have hx1 := Nat.lt_of_succ_le hy1) | skip
  first | (with_reducible have hv1 := Nat.lt_of_succ_lt hx1) | skip
  first | (with_reducible have hu1 := Nat.lt_of_succ_lt hv1) | skip
  first | (have hz1 : w.heap.size < w1.heap.size := by omega) | (have hz1 := hB1.size)
  clear hb1
  go_wp2_with fail
  refine (impl_conjugate s a b _ ⟨h3, h4⟩ ⟨h5, h6⟩).mono ?_
  rintro e w2 ⟨rfl, hb2⟩
  have hB2 : Below w.heap.size w w2 := Below.after (by go_grown) hb2
  obtain ⟨hc2, hf2⟩ := bcell hb2
  have hy2 := hb2.size
  try simp at hy2
  first | (with_reducible have hx2 := Nat.lt_of_succ_le hy2) | skip
  first | (with_reducible have hv2 := Nat.lt_of_succ_lt hx2) | skip
  first | (with_reducible have hu2 := Nat.lt_of_succ_lt hv2) | skip
  first | (have hz2 : w.heap.size < w2.heap.size := by omega) | (have hz2 := hB2.size)
  first | (have hq2 : w1.heap.size ≤ w2.heap.size := by omega) | skip
  first | (have hx1_2 := Nat.lt_of_lt_of_le hx1 hq2) | skip
  first | (have hv1_2 := Nat.lt_of_lt_of_le hv1 hq2) | skip
  first | (have hu1_2 := Nat.lt_of_lt_of_le hu1 hq2) | skip
  clear hb2
  go_wp2_with fail
  refine bodyPost_ret (v := .tuple #[.agg #[.int .i64 s, .int .i64 a, .int .i64 ((-b) % (2 * a))], .bool true]) (by simp [results, Try.results33, go_sem, *] <;> rfl) rfl ⟨rfl, by go_grown⟩
theorem impl_ConjugateIdeal_no (d s a b : Int) (w : World) (h : idealB d s a b = false) :
    Calls Try.prog 33 #[.int .i64 d, .agg #[.int .i64 s, .int .i64 a, .int .i64 b]] w fun e w' => e = .returned (.tuple #[.agg #[.int .i64 0, .int .i64 0, .int .i64 0], .bool false]) ∧ Below w.heap.size w w' := by
  have H := Lib.hid h
  clear h
  go_enter Try.func33, Try.ntmps33
  go_wp2_with fail
  refine (impl_isIdeal d s a b false _ H.out).mono ?_
  rintro e w1 ⟨rfl, hb1⟩
  have hB1 : Below w.heap.size w w1 := Below.after (by go_grown) hb1
  obtain ⟨hc1, hf1⟩ := bcell hb1
  have hy1 := hb1.size
  try simp at hy1
  first | (with_reducible have hx1 := Nat.lt_of_succ_le hy1) | skip
  first | (with_reducible have hv1 := Nat.lt_of_succ_lt hx1) | skip
  first | (with_reducible have hu1 := Nat.lt_of_succ_lt hv1) | skip
  first | (have hz1 : w.heap.size < w1.heap.size := by omega) | (have hz1 := hB1.size)
  clear hb1
  go_wp2_with fail
  refine bodyPost_ret (v := .tuple #[.agg #[.int .i64 0, .int .i64 0, .int .i64 0], .bool false]) (by simp [results, Try.results33, go_sem, *] <;> rfl) rfl ⟨rfl, by go_grown⟩
theorem spec_ConjugateIdeal_yes (d s a b : Int) (w : World) (h : idealB d s a b = true) :
    Calls Try.prog 32 #[.int .i64 d, .agg #[.int .i64 s, .int .i64 a, .int .i64 b]] w fun e w' => e = .returned (.tuple #[.agg #[.int .i64 s, .int .i64 a, .int .i64 ((-b) % (2 * a))], .bool true]) ∧ Below w.heap.size w w' := by
  obtain ⟨_, ⟨_, _, h3, h4, h5, h6⟩, _⟩ := idealB_iff.1 h
  have H := Lib.hid h
  clear h
  go_enter Try.func32, Try.ntmps32
  go_wp2_with fail
  refine (spec_idGood d s a b true _ H.out).mono ?_
  rintro e w1 ⟨rfl, hb1⟩
  have hB1 : Below w.heap.size w w1 := Below.after (by go_grown) hb1
  obtain ⟨hc1, hf1⟩ := bcell hb1
  have hy1 := hb1.size
  try simp at hy1
  first | (with_reducible have hx1 := Nat.lt_of_succ_le hy1) | skip
  first | (with_reducible have hv1 := Nat.lt_of_succ_lt hx1) | skip
  first | (with_reducible have hu1 := Nat.lt_of_succ_lt hv1) | skip
  first | (have hz1 : w.heap.size < w1.heap.size := by omega) | (have hz1 := hB1.size)
  clear hb1
  go_wp2_with fail
  refine (spec_idConjugate s a b _ ⟨h3, h4⟩ ⟨h5, h6⟩).mono ?_
  rintro e w2 ⟨rfl, hb2⟩
  have hB2 : Below w.heap.size w w2 := Below.after (by go_grown) hb2
  obtain ⟨hc2, hf2⟩ := bcell hb2
  have hy2 := hb2.size
  try simp at hy2
  first | (with_reducible have hx2 := Nat.lt_of_succ_le hy2) | skip
  first | (with_reducible have hv2 := Nat.lt_of_succ_lt hx2) | skip
  first | (with_reducible have hu2 := Nat.lt_of_succ_lt hv2) | skip
  first | (have hz2 : w.heap.size < w2.heap.size := by omega) | (have hz2 := hB2.size)
  first | (have hq2 : w1.heap.size ≤ w2.heap.size := by omega) | skip
  first | (have hx1_2 := Nat.lt_of_lt_of_le hx1 hq2) | skip
  first | (have hv1_2 := Nat.lt_of_lt_of_le hv1 hq2) | skip
  first | (have hu1_2 := Nat.lt_of_lt_of_le hu1 hq2) | skip
  clear hb2
  go_wp2_with fail
  refine bodyPost_ret (v := .tuple #[.agg #[.int .i64 s, .int .i64 a, .int .i64 ((-b) % (2 * a))], .bool true]) (by simp [results, Try.results32, go_sem, *] <;> rfl) rfl ⟨rfl, by go_grown⟩
theorem spec_ConjugateIdeal_no (d s a b : Int) (w : World) (h : idealB d s a b = false) :
    Calls Try.prog 32 #[.int .i64 d, .agg #[.int .i64 s, .int .i64 a, .int .i64 b]] w fun e w' => e = .returned (.tuple #[.agg #[.int .i64 0, .int .i64 0, .int .i64 0], .bool false]) ∧ Below w.heap.size w w' := by
  have H := Lib.hid h
  clear h
  go_enter Try.func32, Try.ntmps32
  go_wp2_with fail
  refine (spec_idGood d s a b false _ H.out).mono ?_
  rintro e w1 ⟨rfl, hb1⟩
  have hB1 : Below w.heap.size w w1 := Below.after (by go_grown) hb1
  obtain ⟨hc1, hf1⟩ := bcell hb1
  have hy1 := hb1.size
  try simp at hy1
  first | (with_reducible have hx1 := Nat.lt_of_succ_le hy1) | skip
  first | (with_reducible have hv1 := Nat.lt_of_succ_lt hx1) | skip
  first | (with_reducible have hu1 := Nat.lt_of_succ_lt hv1) | skip
  first | (have hz1 : w.heap.size < w1.heap.size := by omega) | (have hz1 := hB1.size)
  clear hb1
  go_wp2_with fail
  refine bodyPost_ret (v := .tuple #[.agg #[.int .i64 0, .int .i64 0, .int .i64 0], .bool false]) (by simp [results, Try.results32, go_sem, *] <;> rfl) rfl ⟨rfl, by go_grown⟩
theorem walkConjugateIdeal (d s a b : Int) (w : World) (wd : (Lit.int .i64 d).wf = true) (ws : (Lit.int .i64 s).wf = true) (wa : (Lit.int .i64 a).wf = true) (wb : (Lit.int .i64 b).wf = true) :
    Calls Try.prog 9 #[.int .i64 d, .agg #[.int .i64 s, .int .i64 a, .int .i64 b]] w fun e w' => e = .returned (.bool true) ∧ Below w.heap.size w w' := by
  by_cases h : idealB d s a b = true
  · have H := Lib.hid h
    clear h
    go_enter Try.func9, Try.ntmps9
    go_wp2_with fail
    refine (laws_toIdeal s a b _).mono ?_
    rintro e w1 ⟨rfl, hb1⟩
    have hB1 : Below w.heap.size w w1 := Below.after (by go_grown) hb1
    obtain ⟨hc1, hf1⟩ := bcell hb1
    have hy1 := hb1.size
    try simp at hy1
    first | (with_reducible have hx1 := Nat.lt_of_succ_le hy1) | skip
    first | (with_reducible have hv1 := Nat.lt_of_succ_lt hx1) | skip
    first | (with_reducible have hu1 := Nat.lt_of_succ_lt hv1) | skip
    first | (have hz1 : w.heap.size < w1.heap.size := by omega) | (have hz1 := hB1.size)
    clear hb1
    go_wp2_with fail
    refine (spec_ConjugateIdeal_yes d s a b _ H.out).mono ?_
    rintro e w2 ⟨rfl, hb2⟩
    have hB2 : Below w.heap.size w w2 := Below.after (by go_grown) hb2
    obtain ⟨hc2, hf2⟩ := bcell hb2
    have hy2 := hb2.size
    try simp at hy2
    first | (with_reducible have hx2 := Nat.lt_of_succ_le hy2) | skip
    first | (with_reducible have hv2 := Nat.lt_of_succ_lt hx2) | skip
    first | (with_reducible have hu2 := Nat.lt_of_succ_lt hv2) | skip
    first | (have hz2 : w.heap.size < w2.heap.size := by omega) | (have hz2 := hB2.size)
    first | (have hq2 : w1.heap.size ≤ w2.heap.size := by omega) | skip
    first | (have hx1_2 := Nat.lt_of_lt_of_le hx1 hq2) | skip
    first | (have hv1_2 := Nat.lt_of_lt_of_le hv1 hq2) | skip
    first | (have hu1_2 := Nat.lt_of_lt_of_le hu1 hq2) | skip
    clear hb2
    go_wp2_with fail
    refine (laws_toIdeal s a b _).mono ?_
    rintro e w3 ⟨rfl, hb3⟩
    have hB3 : Below w.heap.size w w3 := Below.after (by go_grown) hb3
    obtain ⟨hc3, hf3⟩ := bcell hb3
    have hy3 := hb3.size
    try simp at hy3
    first | (with_reducible have hx3 := Nat.lt_of_succ_le hy3) | skip
    first | (with_reducible have hv3 := Nat.lt_of_succ_lt hx3) | skip
    first | (with_reducible have hu3 := Nat.lt_of_succ_lt hv3) | skip
    first | (have hz3 : w.heap.size < w3.heap.size := by omega) | (have hz3 := hB3.size)
    first | (have hq3 : w2.heap.size ≤ w3.heap.size := by omega) | skip
    first | (have hx1_3 := Nat.lt_of_lt_of_le hx1_2 hq3) | skip
    first | (have hv1_3 := Nat.lt_of_lt_of_le hv1_2 hq3) | skip
    first | (have hu1_3 := Nat.lt_of_lt_of_le hu1_2 hq3) | skip
    first | (have hx2_3 := Nat.lt_of_lt_of_le hx2 hq3) | skip
    first | (have hv2_3 := Nat.lt_of_lt_of_le hv2 hq3) | skip
    first | (have hu2_3 := Nat.lt_of_lt_of_le hu2 hq3) | skip
    clear hb3
    go_wp2_with fail
    refine (impl_ConjugateIdeal_yes d s a b _ H.out).mono ?_
    rintro e w4 ⟨rfl, hb4⟩
    have hB4 : Below w.heap.size w w4 := Below.after (by go_grown) hb4
    obtain ⟨hc4, hf4⟩ := bcell hb4
    have hy4 := hb4.size
    try simp at hy4
    first | (with_reducible have hx4 := Nat.lt_of_succ_le hy4) | skip
    first | (with_reducible have hv4 := Nat.lt_of_succ_lt hx4) | skip
    first | (with_reducible have hu4 := Nat.lt_of_succ_lt hv4) | skip
    first | (have hz4 : w.heap.size < w4.heap.size := by omega) | (have hz4 := hB4.size)
    first | (have hq4 : w3.heap.size ≤ w4.heap.size := by omega) | skip
    first | (have hx1_4 := Nat.lt_of_lt_of_le hx1_3 hq4) | skip
    first | (have hv1_4 := Nat.lt_of_lt_of_le hv1_3 hq4) | skip
    first | (have hu1_4 := Nat.lt_of_lt_of_le hu1_3 hq4) | skip
    first | (have hx2_4 := Nat.lt_of_lt_of_le hx2_3 hq4) | skip
    first | (have hv2_4 := Nat.lt_of_lt_of_le hv2_3 hq4) | skip
    first | (have hu2_4 := Nat.lt_of_lt_of_le hu2_3 hq4) | skip
    first | (have hx3_4 := Nat.lt_of_lt_of_le hx3 hq4) | skip
    first | (have hv3_4 := Nat.lt_of_lt_of_le hv3 hq4) | skip
    first | (have hu3_4 := Nat.lt_of_lt_of_le hu3 hq4) | skip
    clear hb4
    go_wp2_with fail
    refine (laws_eqIdeal s a _ _).mono ?_
    rintro e w5 ⟨rfl, hb5⟩
    have hB5 : Below w.heap.size w w5 := Below.after (by go_grown) hb5
    obtain ⟨hc5, hf5⟩ := bcell hb5
    have hy5 := hb5.size
    try simp at hy5
    first | (with_reducible have hx5 := Nat.lt_of_succ_le hy5) | skip
    first | (with_reducible have hv5 := Nat.lt_of_succ_lt hx5) | skip
    first | (with_reducible have hu5 := Nat.lt_of_succ_lt hv5) | skip
    first | (have hz5 : w.heap.size < w5.heap.size := by omega) | (have hz5 := hB5.size)
    first | (have hq5 : w4.heap.size ≤ w5.heap.size := by omega) | skip
    first | (have hx1_5 := Nat.lt_of_lt_of_le hx1_4 hq5) | skip
    first | (have hv1_5 := Nat.lt_of_lt_of_le hv1_4 hq5) | skip
    first | (have hu1_5 := Nat.lt_of_lt_of_le hu1_4 hq5) | skip
    first | (have hx2_5 := Nat.lt_of_lt_of_le hx2_4 hq5) | skip
    first | (have hv2_5 := Nat.lt_of_lt_of_le hv2_4 hq5) | skip
    first | (have hu2_5 := Nat.lt_of_lt_of_le hu2_4 hq5) | skip
    first | (have hx3_5 := Nat.lt_of_lt_of_le hx3_4 hq5) | skip
    first | (have hv3_5 := Nat.lt_of_lt_of_le hv3_4 hq5) | skip
    first | (have hu3_5 := Nat.lt_of_lt_of_le hu3_4 hq5) | skip
    first | (have hx4_5 := Nat.lt_of_lt_of_le hx4 hq5) | skip
    first | (have hv4_5 := Nat.lt_of_lt_of_le hv4 hq5) | skip
    first | (have hu4_5 := Nat.lt_of_lt_of_le hu4 hq5) | skip
    clear hb5
    go_wp2_with fail
    go_ret
    exact ⟨rfl, by go_grown⟩
  · have H := Lib.hid (Bool.not_eq_true _ ▸ h)
    clear h
    go_enter Try.func9, Try.ntmps9
    go_wp2_with fail
    refine (laws_toIdeal s a b _).mono ?_
    rintro e w1 ⟨rfl, hb1⟩
    have hB1 : Below w.heap.size w w1 := Below.after (by go_grown) hb1
    obtain ⟨hc1, hf1⟩ := bcell hb1
    have hy1 := hb1.size
    try simp at hy1
    first | (with_reducible have hx1 := Nat.lt_of_succ_le hy1) | skip
    first | (with_reducible have hv1 := Nat.lt_of_succ_lt hx1) | skip
    first | (with_reducible have hu1 := Nat.lt_of_succ_lt hv1) | skip
    first | (have hz1 : w.heap.size < w1.heap.size := by omega) | (have hz1 := hB1.size)
    clear hb1
    go_wp2_with fail
    refine (spec_ConjugateIdeal_no d s a b _ H.out).mono ?_
    rintro e w2 ⟨rfl, hb2⟩
    have hB2 : Below w.heap.size w w2 := Below.after (by go_grown) hb2
    obtain ⟨hc2, hf2⟩ := bcell hb2
    have hy2 := hb2.size
    try simp at hy2
    first | (with_reducible have hx2 := Nat.lt_of_succ_le hy2) | skip
    first | (with_reducible have hv2 := Nat.lt_of_succ_lt hx2) | skip
    first | (with_reducible have hu2 := Nat.lt_of_succ_lt hv2) | skip
    first | (have hz2 : w.heap.size < w2.heap.size := by omega) | (have hz2 := hB2.size)
    first | (have hq2 : w1.heap.size ≤ w2.heap.size := by omega) | skip
    first | (have hx1_2 := Nat.lt_of_lt_of_le hx1 hq2) | skip
    first | (have hv1_2 := Nat.lt_of_lt_of_le hv1 hq2) | skip
    first | (have hu1_2 := Nat.lt_of_lt_of_le hu1 hq2) | skip
    clear hb2
    go_wp2_with fail
    refine (laws_toIdeal s a b _).mono ?_
    rintro e w3 ⟨rfl, hb3⟩
    have hB3 : Below w.heap.size w w3 := Below.after (by go_grown) hb3
    obtain ⟨hc3, hf3⟩ := bcell hb3
    have hy3 := hb3.size
    try simp at hy3
    first | (with_reducible have hx3 := Nat.lt_of_succ_le hy3) | skip
    first | (with_reducible have hv3 := Nat.lt_of_succ_lt hx3) | skip
    first | (with_reducible have hu3 := Nat.lt_of_succ_lt hv3) | skip
    first | (have hz3 : w.heap.size < w3.heap.size := by omega) | (have hz3 := hB3.size)
    first | (have hq3 : w2.heap.size ≤ w3.heap.size := by omega) | skip
    first | (have hx1_3 := Nat.lt_of_lt_of_le hx1_2 hq3) | skip
    first | (have hv1_3 := Nat.lt_of_lt_of_le hv1_2 hq3) | skip
    first | (have hu1_3 := Nat.lt_of_lt_of_le hu1_2 hq3) | skip
    first | (have hx2_3 := Nat.lt_of_lt_of_le hx2 hq3) | skip
    first | (have hv2_3 := Nat.lt_of_lt_of_le hv2 hq3) | skip
    first | (have hu2_3 := Nat.lt_of_lt_of_le hu2 hq3) | skip
    clear hb3
    go_wp2_with fail
    refine (impl_ConjugateIdeal_no d s a b _ H.out).mono ?_
    rintro e w4 ⟨rfl, hb4⟩
    have hB4 : Below w.heap.size w w4 := Below.after (by go_grown) hb4
    obtain ⟨hc4, hf4⟩ := bcell hb4
    have hy4 := hb4.size
    try simp at hy4
    first | (with_reducible have hx4 := Nat.lt_of_succ_le hy4) | skip
    first | (with_reducible have hv4 := Nat.lt_of_succ_lt hx4) | skip
    first | (with_reducible have hu4 := Nat.lt_of_succ_lt hv4) | skip
    first | (have hz4 : w.heap.size < w4.heap.size := by omega) | (have hz4 := hB4.size)
    first | (have hq4 : w3.heap.size ≤ w4.heap.size := by omega) | skip
    first | (have hx1_4 := Nat.lt_of_lt_of_le hx1_3 hq4) | skip
    first | (have hv1_4 := Nat.lt_of_lt_of_le hv1_3 hq4) | skip
    first | (have hu1_4 := Nat.lt_of_lt_of_le hu1_3 hq4) | skip
    first | (have hx2_4 := Nat.lt_of_lt_of_le hx2_3 hq4) | skip
    first | (have hv2_4 := Nat.lt_of_lt_of_le hv2_3 hq4) | skip
    first | (have hu2_4 := Nat.lt_of_lt_of_le hu2_3 hq4) | skip
    first | (have hx3_4 := Nat.lt_of_lt_of_le hx3 hq4) | skip
    first | (have hv3_4 := Nat.lt_of_lt_of_le hv3 hq4) | skip
    first | (have hu3_4 := Nat.lt_of_lt_of_le hu3 hq4) | skip
    clear hb4
    go_wp2_with fail
    refine (laws_eqIdeal 0 0 0 _).mono ?_
    rintro e w5 ⟨rfl, hb5⟩
    have hB5 : Below w.heap.size w w5 := Below.after (by go_grown) hb5
    obtain ⟨hc5, hf5⟩ := bcell hb5
    have hy5 := hb5.size
    try simp at hy5
    first | (with_reducible have hx5 := Nat.lt_of_succ_le hy5) | skip
    first | (with_reducible have hv5 := Nat.lt_of_succ_lt hx5) | skip
    first | (with_reducible have hu5 := Nat.lt_of_succ_lt hv5) | skip
    first | (have hz5 : w.heap.size < w5.heap.size := by omega) | (have hz5 := hB5.size)
    first | (have hq5 : w4.heap.size ≤ w5.heap.size := by omega) | skip
    first | (have hx1_5 := Nat.lt_of_lt_of_le hx1_4 hq5) | skip
    first | (have hv1_5 := Nat.lt_of_lt_of_le hv1_4 hq5) | skip
    first | (have hu1_5 := Nat.lt_of_lt_of_le hu1_4 hq5) | skip
    first | (have hx2_5 := Nat.lt_of_lt_of_le hx2_4 hq5) | skip
    first | (have hv2_5 := Nat.lt_of_lt_of_le hv2_4 hq5) | skip
    first | (have hu2_5 := Nat.lt_of_lt_of_le hu2_4 hq5) | skip
    first | (have hx3_5 := Nat.lt_of_lt_of_le hx3_4 hq5) | skip
    first | (have hv3_5 := Nat.lt_of_lt_of_le hv3_4 hq5) | skip
    first | (have hu3_5 := Nat.lt_of_lt_of_le hu3_4 hq5) | skip
    first | (have hx4_5 := Nat.lt_of_lt_of_le hx4 hq5) | skip
    first | (have hv4_5 := Nat.lt_of_lt_of_le hv4 hq5) | skip
    first | (have hu4_5 := Nat.lt_of_lt_of_le hu4 hq5) | skip
    clear hb5
    go_wp2_with fail
    go_ret
    exact ⟨rfl, by go_grown⟩
end Go.Proofs.Ytgdhelecflddbaa
