/- Contracts and walks: values of characters. -/
import Derived.Test.YtafcbaganjcnlaaW
namespace Go.Proofs.Ytafcbaganjcnlaa
set_option linter.unusedVariables false
open Go.ChangeShapes Go.WideShapes Go.ChangeAt Go.RowKit

def chV (k p n : Int) : Int := if k = 1 then J n p else if n % 2 = 0 then 0 else if k = 2 then 2 - n % 4 else if k = 3 then two8 n else (2 - n % 4) * two8 n
theorem odd_of {p : Int} (h : oddPrimeB p = true) : 1 ≤ p ∧ p ≤ 1000000 ∧ p % 2 = 1 := by
  unfold oddPrimeB at h
  rw [Bool.and_eq_true, Bool.and_eq_true, decide_eq_true_iff] at h
  obtain ⟨⟨h1, h2⟩, h3⟩ := h
  have h4 := good_iff.1 h2
  have h5 := primeB_two h3
  refine ⟨by omega, h4.2, ?_⟩
  by_cases h6 : p = 3
  · omega
  · have h7 : PrimeN p := Classical.byContradiction fun hn => by rw [primeB_false hn] at h3; cases h3
    have := h7.2 2 (by omega) (by omega)
    omega
theorem ch_cases {k p : Int} (h : charB k p = true) : (k = 1 ∧ oddPrimeB p = true) ∨ ((k = 2 ∨ k = 3 ∨ k = 4) ∧ p = 0) := by
  unfold charB at h
  split at h
  · exact Or.inl ⟨by assumption, h⟩
  · rw [Bool.and_eq_true, Bool.and_eq_true, decide_eq_true_iff, decide_eq_true_iff, decide_eq_true_iff] at h
    exact Or.inr ⟨by omega, h.2⟩
theorem chV_one (p n : Int) : chV 1 p n = J n p := rfl
theorem chV_even {k p n : Int} (h : k ≠ 1) (hn : n % 2 = 0) : chV k p n = 0 := by unfold chV; rw [if_neg h, if_pos hn]
theorem chV_two {p n : Int} (hn : n % 2 = 1) : chV 2 p n = 2 - n % 4 := by unfold chV; rw [if_neg (by omega), if_neg (by omega), if_pos rfl]
theorem chV_three {p n : Int} (hn : n % 2 = 1) : chV 3 p n = two8 n := by unfold chV; rw [if_neg (by omega), if_neg (by omega), if_neg (by omega), if_pos rfl]
theorem chV_four {p n : Int} (hn : n % 2 = 1) : chV 4 p n = (2 - n % 4) * two8 n := by unfold chV; rw [if_neg (by omega), if_neg (by omega), if_neg (by omega), if_neg (by omega)]
theorem teven {n : Int} (h : n % 2 = 0) : (n.tmod 2 == 0) = true := beqT (Int.tmod_eq_zero_of_dvd (Int.dvd_of_emod_eq_zero h))
theorem todd {n : Int} (h : ¬ n % 2 = 0) : (n.tmod 2 == 0) = false := beqF fun h1 => h (Int.emod_eq_zero_of_dvd (Int.dvd_of_tmod_eq_zero h1))
theorem impl_value (k p n v : Int) (w : World) (hc : charB k p = true) (hn : -1000000 ≤ n ∧ n ≤ 1000000) (hv : chV k p n = v) :
    Calls Try.prog 64 #[.agg #[.int .i64 k, .int .i64 p], .int .i64 n] w fun e w' => e = .returned (.int .i64 v) ∧ Below w.heap.size w w' := by
  obtain ⟨n1, n2⟩ := hn
  obtain ⟨rfl, ho⟩ | ⟨hk, rfl⟩ := ch_cases hc
  · obtain ⟨p1, p2, p3⟩ := odd_of ho
    have P3 := Lib.hid p3
    have Hv := Lib.hid hv
    clear hc ho hv p3
    go_enter Try.func64, Try.ntmps64
    go_wp2_with fail
    refine (impl_jacobi n p _ p1 (by omega) P3.out).mono ?_
    rintro e w' ⟨rfl, rfl⟩
    go_wp2_with fail
    go_ret
    exact ⟨rint (by rw [← Hv.out]; rfl), by go_grown⟩
  · by_cases he : n % 2 = 0
    · have Hv := Lib.hid ((chV_even (by omega) he).symm.trans hv)
      have be := teven he
      clear hc hv he
      obtain rfl | rfl | rfl := hk
      · go_enter Try.func64, Try.ntmps64
        go_wp2_with fail
        go_ret
        exact ⟨rint Hv.out, by go_grown⟩
      · go_enter Try.func64, Try.ntmps64
        go_wp2_with fail
        go_ret
        exact ⟨rint Hv.out, by go_grown⟩
      · go_enter Try.func64, Try.ntmps64
        go_wp2_with fail
        go_ret
        exact ⟨rint Hv.out, by go_grown⟩
    · have be := todd he
      have he1 : n % 2 = 1 := by omega
      clear hc he
      obtain rfl | rfl | rfl := hk
      · have Hv := Lib.hid ((chV_two he1).symm.trans hv)
        clear hv
        go_enter Try.func64, Try.ntmps64
        go_wp2_with fail
        refine (impl_mod n 4 _ (by omega) (by omega)).mono ?_
        rintro e w' ⟨rfl, rfl⟩
        go_wp2_with fail
        go_ret
        exact ⟨rint Hv.out, by go_grown⟩
      · have Hv := Lib.hid ((chV_three he1).symm.trans hv)
        clear hv
        go_enter Try.func64, Try.ntmps64
        go_wp2_with fail
        refine (impl_mod n 4 _ (by omega) (by omega)).mono ?_
        rintro e w' ⟨rfl, rfl⟩
        go_wp2_with fail
        refine (impl_symbolOfTwo n _).mono ?_
        rintro e w' ⟨rfl, rfl⟩
        go_wp2_with fail
        go_ret
        exact ⟨rint Hv.out, by go_grown⟩
      · have Hv := Lib.hid ((chV_four he1).symm.trans hv)
        clear hv
        obtain ht | ht := two8_pm n
        · have Ht := Lib.hid ht
          go_enter Try.func64, Try.ntmps64
          go_wp2_with fail
          refine (impl_mod n 4 _ (by omega) (by omega)).mono ?_
          rintro e w' ⟨rfl, rfl⟩
          go_wp2_with fail
          refine (impl_symbolOfTwo n _).mono ?_
          rintro e w' ⟨rfl, rfl⟩
          rw [Ht.out]
          go_wp2_with fail
          go_ret
          exact ⟨rint (by rw [← Hv.out, Ht.out]; omega), by go_grown⟩
        · have Ht := Lib.hid ht
          go_enter Try.func64, Try.ntmps64
          go_wp2_with fail
          refine (impl_mod n 4 _ (by omega) (by omega)).mono ?_
          rintro e w' ⟨rfl, rfl⟩
          go_wp2_with fail
          refine (impl_symbolOfTwo n _).mono ?_
          rintro e w' ⟨rfl, rfl⟩
          rw [Ht.out]
          go_wp2_with fail
          go_ret
          exact ⟨rint (by rw [← Hv.out, Ht.out]; omega), by go_grown⟩
theorem spec_chAt (k p n v : Int) (w : World) (hc : charB k p = true) (hn : -1000000 ≤ n ∧ n ≤ 1000000) (hv : chV k p n = v) :
    Calls Try.prog 62 #[.agg #[.int .i64 k, .int .i64 p], .int .i64 n] w fun e w' => e = .returned (.int .i64 v) ∧ Below w.heap.size w w' := by
  obtain ⟨n1, n2⟩ := hn
  obtain ⟨rfl, ho⟩ | ⟨hk, rfl⟩ := ch_cases hc
  · obtain ⟨p1, p2, p3⟩ := odd_of ho
    have P3 := Lib.hid p3
    have Hv := Lib.hid hv
    clear hc ho hv p3
    go_enter Try.func62, Try.ntmps62
    go_wp2_with fail
    refine (spec_syJacobi n p _ p1 (by omega) P3.out).mono ?_
    rintro e w1 ⟨rfl, hb1⟩
    have hB1 : Below w.heap.size w w1 := Below.after (by go_grown) hb1
    obtain ⟨hc1, hf1⟩ := bcell hb1
    have hy1 := hb1.size
    try simp at hy1
    first | (with_reducible have hx1 := Nat.lt_of_succ_le hy1) | skip
    first | (with_reducible have hv1 := Nat.lt_of_succ_lt hx1) | skip
    first | (with_reducible have hu1 := Nat.lt_of_succ_lt hv1) | skip
    first | (have hz1 : w.heap.size < w1.heap.size := by omega) | (have hz1 := hB1.size)
    clear hb1
    go_wp2_with fail
    go_ret
    exact ⟨rint (by rw [← Hv.out]; rfl), by go_grown⟩
  · by_cases he : n % 2 = 0
    · have Hv := Lib.hid ((chV_even (by omega) he).symm.trans hv)
      have be := teven he
      clear hc hv he
      obtain rfl | rfl | rfl := hk
      · go_enter Try.func62, Try.ntmps62
        go_wp2_with fail
        go_ret
        exact ⟨rint Hv.out, by go_grown⟩
      · go_enter Try.func62, Try.ntmps62
        go_wp2_with fail
        go_ret
        exact ⟨rint Hv.out, by go_grown⟩
      · go_enter Try.func62, Try.ntmps62
        go_wp2_with fail
        go_ret
        exact ⟨rint Hv.out, by go_grown⟩
    · have be := todd he
      have he1 : n % 2 = 1 := by omega
      clear hc he
      obtain ht | ht := two8_pm n
      · have Ht := Lib.hid ((two8_odd he1).trans ht)
        obtain rfl | rfl | rfl := hk
        · have Hv := Lib.hid ((chV_two he1).symm.trans hv)
          clear hv ht
          go_enter Try.func62, Try.ntmps62
          go_wp2_with fail
          refine (spec_nuMod n 4 _ (by omega) (by omega)).mono ?_
          rintro e w' ⟨rfl, rfl⟩
          go_wp2_with fail
          refine (spec_syTwo n _).mono ?_
          rintro e w' ⟨rfl, rfl⟩
          rw [Ht.out]
          go_wp2_with fail
          go_ret
          exact ⟨rint Hv.out, by go_grown⟩
        · have Hv := Lib.hid (show (1 : Int) = v by rw [← hv, chV_three he1, ht])
          clear hv ht
          go_enter Try.func62, Try.ntmps62
          go_wp2_with fail
          refine (spec_nuMod n 4 _ (by omega) (by omega)).mono ?_
          rintro e w' ⟨rfl, rfl⟩
          go_wp2_with fail
          refine (spec_syTwo n _).mono ?_
          rintro e w' ⟨rfl, rfl⟩
          rw [Ht.out]
          go_wp2_with fail
          go_ret
          exact ⟨rint Hv.out, by go_grown⟩
        · have Hv := Lib.hid (show 2 - n % 4 = v by rw [← hv, chV_four he1, ht]; omega)
          clear hv ht
          go_enter Try.func62, Try.ntmps62
          go_wp2_with fail
          refine (spec_nuMod n 4 _ (by omega) (by omega)).mono ?_
          rintro e w' ⟨rfl, rfl⟩
          go_wp2_with fail
          refine (spec_syTwo n _).mono ?_
          rintro e w' ⟨rfl, rfl⟩
          rw [Ht.out]
          go_wp2_with fail
          go_ret
          exact ⟨rint Hv.out, by go_grown⟩
      · have Ht := Lib.hid ((two8_odd he1).trans ht)
        obtain rfl | rfl | rfl := hk
        · have Hv := Lib.hid ((chV_two he1).symm.trans hv)
          clear hv ht
          go_enter Try.func62, Try.ntmps62
          go_wp2_with fail
          refine (spec_nuMod n 4 _ (by omega) (by omega)).mono ?_
          rintro e w' ⟨rfl, rfl⟩
          go_wp2_with fail
          refine (spec_syTwo n _).mono ?_
          rintro e w' ⟨rfl, rfl⟩
          rw [Ht.out]
          go_wp2_with fail
          go_ret
          exact ⟨rint Hv.out, by go_grown⟩
        · have Hv := Lib.hid (show (-1 : Int) = v by rw [← hv, chV_three he1, ht])
          clear hv ht
          go_enter Try.func62, Try.ntmps62
          go_wp2_with fail
          refine (spec_nuMod n 4 _ (by omega) (by omega)).mono ?_
          rintro e w' ⟨rfl, rfl⟩
          go_wp2_with fail
          refine (spec_syTwo n _).mono ?_
          rintro e w' ⟨rfl, rfl⟩
          rw [Ht.out]
          go_wp2_with fail
          go_ret
          exact ⟨rint Hv.out, by go_grown⟩
        · have Hv := Lib.hid (show -(2 - n % 4) = v by rw [← hv, chV_four he1, ht]; omega)
          clear hv ht
          go_enter Try.func62, Try.ntmps62
          go_wp2_with fail
          refine (spec_nuMod n 4 _ (by omega) (by omega)).mono ?_
          rintro e w' ⟨rfl, rfl⟩
          go_wp2_with fail
          refine (spec_syTwo n _).mono ?_
          rintro e w' ⟨rfl, rfl⟩
          rw [Ht.out]
          go_wp2_with fail
          go_ret
          exact ⟨rint Hv.out, by go_grown⟩
theorem impl_IsPrime (n : Int) (v : Bool) (w : World) (hv : (good n && primeB n) = v) :
    Calls Try.prog 71 #[.int .i64 n] w fun e w' => e = .returned (.bool v) ∧ Below w.heap.size w w' := by
  have Hv := Lib.hid hv
  clear hv
  by_cases h : good n = true
  · obtain ⟨h1, h2⟩ := good_iff.1 h
    have H := Lib.hid h
    clear h
    go_enter Try.func71, Try.ntmps71
    go_wp2_with fail
    refine (are1 n _ _ true _ H.out (by simp)).mono ?_
    rintro e w' ⟨rfl, rfl⟩
    go_wp2_with fail
    refine (impl_isPrime n _ _ (by omega) rfl).mono ?_
    rintro e w' ⟨rfl, rfl⟩
    go_wp2_with fail
    go_ret
    exact ⟨rbool (by rw [← Hv.out]; simp [H.out]), by go_grown⟩
  · have H := Lib.hid (Bool.not_eq_true _ ▸ h)
    clear h
    go_enter Try.func71, Try.ntmps71
    go_wp2_with fail
    refine (are1 n _ _ false _ H.out (by simp)).mono ?_
    rintro e w' ⟨rfl, rfl⟩
    go_wp2_with fail
    go_ret
    exact ⟨rbool (by rw [← Hv.out]; simp [H.out]), by go_grown⟩
theorem impl_isOddPrime (n : Int) (v : Bool) (w : World) (hv : oddPrimeB n = v) :
    Calls Try.prog 90 #[.int .i64 n] w fun e w' => e = .returned (.bool v) ∧ Below w.heap.size w w' := by
  by_cases h : n = 2
  · have hf : oddPrimeB 2 = false := oddPrimeB_no (by omega)
    subst h
    rw [hf] at hv
    subst hv
    clear hf
    go_enter Try.func90, Try.ntmps90
    go_wp2_with fail
    go_ret
    exact ⟨rfl, by go_grown⟩
  · have hn : (n != 2) = true := by simpa using h
    have hv2 : (good n && primeB n) = v := by rw [← hv]; simp [oddPrimeB, h]
    have Hv := Lib.hid hv2
    clear hv2
    clear hv h
    go_enter Try.func90, Try.ntmps90
    go_wp2_with fail
    refine (impl_IsPrime n v _ Hv.out).mono ?_
    rintro e w1 ⟨rfl, hb1⟩
    have hB1 : Below w.heap.size w w1 := Below.after (by go_grown) hb1
    obtain ⟨hc1, hf1⟩ := bcell hb1
    have hy1 := hb1.size
    try simp at hy1
    first | (with_reducible have hx1 := Nat.lt_of_succ_le hy1) | skip
    first | (with_reducible have hv1 := Nat.lt_of_succ_lt hx1) | skip
    first | (with_reducible have hu1 := Nat.lt_of_succ_lt hv1) | skip
    first | (have hz1 : w.heap.size < w1.heap.size := by omega) | (have hz1 := hB1.size)
    clear hb1
    go_wp2_with fail
    go_ret
    exact ⟨rfl, by go_grown⟩
theorem spec_syOddPrime (n : Int) (v : Bool) (w : World) (hv : oddPrimeB n = v) :
    Calls Try.prog 87 #[.int .i64 n] w fun e w' => e = .returned (.bool v) ∧ w = w' := by
  by_cases h : 2 < n
  · have hv2 : (good n && primeB n) = v := by rw [← hv]; simp [oddPrimeB, show n ≠ 2 by omega]
    have Hv := Lib.hid hv2
    clear hv2
    clear hv
    by_cases hg : good n = true
    · obtain ⟨h1, h2⟩ := good_iff.1 hg
      have H := Lib.hid hg
      clear hg
      go_enter Try.func87, Try.ntmps87
      go_wp2_with fail
      refine (spec_nuGood n true _ H.out).mono ?_
      rintro e w' ⟨rfl, rfl⟩
      go_wp2_with fail
      refine (spec_nuPrime n _ _ (by omega) rfl).mono ?_
      rintro e w' ⟨rfl, rfl⟩
      go_wp2_with fail
      go_ret
      exact ⟨rbool (by rw [← Hv.out]; simp [H.out]), rfl⟩
    · have H := Lib.hid (Bool.not_eq_true _ ▸ hg)
      clear hg
      go_enter Try.func87, Try.ntmps87
      go_wp2_with fail
      refine (spec_nuGood n false _ H.out).mono ?_
      rintro e w' ⟨rfl, rfl⟩
      go_wp2_with fail
      go_ret
      exact ⟨rbool (by rw [← Hv.out]; simp [H.out]), rfl⟩
  · rw [oddPrimeB_no (by omega)] at hv
    subst hv
    go_enter Try.func87, Try.ntmps87
    go_wp2_with fail
    go_ret
    exact ⟨rfl, rfl⟩
theorem impl_isCharacter (k p : Int) (v : Bool) (w : World) (hv : charB k p = v) :
    Calls Try.prog 63 #[.agg #[.int .i64 k, .int .i64 p]] w fun e w' => e = .returned (.bool v) ∧ Below w.heap.size w w' := by
  by_cases h : k = 1
  · subst h
    have hv2 : oddPrimeB p = v := by rw [← hv]; simp [charB]
    have Hv := Lib.hid hv2
    clear hv2
    clear hv
    go_enter Try.func63, Try.ntmps63
    go_wp2_with fail
    refine (impl_isOddPrime p v _ Hv.out).mono ?_
    rintro e w1 ⟨rfl, hb1⟩
    have hB1 : Below w.heap.size w w1 := Below.after (by go_grown) hb1
    obtain ⟨hc1, hf1⟩ := bcell hb1
    have hy1 := hb1.size
    try simp at hy1
    first | (with_reducible have hx1 := Nat.lt_of_succ_le hy1) | skip
    first | (with_reducible have hv1 := Nat.lt_of_succ_lt hx1) | skip
    first | (with_reducible have hu1 := Nat.lt_of_succ_lt hv1) | skip
    first | (have hz1 : w.heap.size < w1.heap.size := by omega) | (have hz1 := hB1.size)
    clear hb1
    go_wp2_with fail
    go_ret
    exact ⟨rfl, by go_grown⟩
  · have hk : (k == 1) = false := by simpa using h
    have hv2 : (decide (2 ≤ k) && decide (k ≤ 4) && decide (p = 0)) = v := by rw [← hv]; simp [charB, h]
    have Hv := Lib.hid hv2
    clear hv2
    clear hv h
    go_enter Try.func63, Try.ntmps63
    go_wp2_with fail
    all_goals (try go_ret)
    all_goals exact ⟨rbool (by rw [← Hv.out, Bool.eq_iff_iff]; simp_all <;> omega), by go_grown⟩
theorem spec_chGood (k p : Int) (v : Bool) (w : World) (hv : charB k p = v) :
    Calls Try.prog 61 #[.agg #[.int .i64 k, .int .i64 p]] w fun e w' => e = .returned (.bool v) ∧ Below w.heap.size w w' := by
  by_cases h : k = 1
  · subst h
    have hv2 : oddPrimeB p = v := by rw [← hv]; simp [charB]
    have Hv := Lib.hid hv2
    clear hv2
    clear hv
    go_enter Try.func61, Try.ntmps61
    go_wp2_with fail
    refine (spec_syOddPrime p v _ Hv.out).mono ?_
    rintro e w' ⟨rfl, rfl⟩
    go_wp2_with fail
    go_ret
    exact ⟨rfl, by go_grown⟩
  · have hk : (k == 1) = false := by simpa using h
    have hv2 : (decide (2 ≤ k) && decide (k ≤ 4) && decide (p = 0)) = v := by rw [← hv]; simp [charB, h]
    have Hv := Lib.hid hv2
    clear hv2
    clear hv h
    by_cases hin : 2 ≤ k ∧ k ≤ 4
    · have Hi := Lib.hid (show (decide (2 ≤ k) && decide (k ≤ 4)) = true by simpa using hin)
      go_enter Try.func61, Try.ntmps61
      go_wp2_with fail
      refine (spec_l1In k 2 4 true _ Hi.out).mono ?_
      rintro e w' ⟨rfl, rfl⟩
      go_wp2_with fail
      go_ret
      exact ⟨rbool (by rw [← Hv.out, Hi.out, Bool.eq_iff_iff]; simp), by go_grown⟩
    · have Hi := Lib.hid (show (decide (2 ≤ k) && decide (k ≤ 4)) = false by rw [← Bool.not_eq_true]; simpa using hin)
      clear hin
      go_enter Try.func61, Try.ntmps61
      go_wp2_with fail
      refine (spec_l1In k 2 4 false _ Hi.out).mono ?_
      rintro e w' ⟨rfl, rfl⟩
      go_wp2_with fail
      go_ret
      exact ⟨rbool (by rw [← Hv.out, Hi.out]; simp), by go_grown⟩
/-! the value of a character -/
noncomputable def cvB (k p n : Int) : Bool := charB k p && good n && (chV k p n != 0)
theorem cv_yes {k p n : Int} (h : cvB k p n = true) : charB k p = true ∧ good n = true ∧ chV k p n ≠ 0 := by
  unfold cvB at h; rw [Bool.and_eq_true, Bool.and_eq_true] at h; exact ⟨h.1.1, h.1.2, by simpa using h.2⟩
theorem cv_no {k p n : Int} (h : cvB k p n = false) (h1 : charB k p = true) (h2 : good n = true) : chV k p n = 0 := by
  unfold cvB at h; rw [h1, h2] at h; simpa using h
theorem impl_CharacterValue_yes (k p n : Int) (w : World) (h : cvB k p n = true) :
    Calls Try.prog 33 #[.agg #[.int .i64 k, .int .i64 p], .int .i64 n] w fun e w' => e = .returned (.tuple #[.int .i64 (chV k p n), .bool true]) ∧ Below w.heap.size w w' := by
  obtain ⟨hc, hg, hv⟩ := cv_yes h
  have hn := good_iff.1 hg
  have bv := beqF hv
  clear h hv
  have H := Lib.hid hc
  clear hc
  have Hn := Lib.hid hg
  clear hg
  go_enter Try.func33, Try.ntmps33
  go_wp2_with fail
  refine (impl_isCharacter k p true _ H.out).mono ?_
  rintro e w1 ⟨rfl, hb1⟩
  have hB1 : Below w.heap.size w w1 := Below.after (by go_grown) hb1
  obtain ⟨hc1, hf1⟩ := bcell hb1
  have hy1 := hb1.size
  try simp at hy1
  first | (with_reducible have hx1 := Nat.lt_of_succ_le hy1) | skip
  first | (with_reducible have hv1 := Nat.lt_of_succ_lt hx1) | skip
  first | (with_reducible have hu1 := Nat.lt_of_succ_lt hv1) | skip
  first | (have hz1 : w.heap.size < w1.heap.size := by omega) | (have hz1 := hB1.size)
  clear hb1
  go_wp2_with fail
  refine (are1 n _ _ true _ Hn.out (by simp)).mono ?_
  rintro e w' ⟨rfl, rfl⟩
  go_wp2_with fail
  refine (impl_value k p n _ _ H.out hn rfl).mono ?_
  rintro e w2 ⟨rfl, hb2⟩
  have hB2 : Below w.heap.size w w2 := Below.after (by go_grown) hb2
  obtain ⟨hc2, hf2⟩ := bcell hb2
  have hy2 := hb2.size
  try simp at hy2
  first | (with_reducible have hx2 := Nat.lt_of_succ_le hy2) | skip
  first | (with_reducible have hv2 := Nat.lt_of_succ_lt hx2) | skip
  first | (with_reducible have hu2 := Nat.lt_of_succ_lt hv2) | skip
  first | (have hz2 : w.heap.size < w2.heap.size := by omega) | (have hz2 := hB2.size)
  first | (have hq2 : w1.heap.size ≤ w2.heap.size := by omega) | skip
  first | (have hx1_2 := Nat.lt_of_lt_of_le hx1 hq2) | skip
  first | (have hv1_2 := Nat.lt_of_lt_of_le hv1 hq2) | skip
  first | (have hu1_2 := Nat.lt_of_lt_of_le hu1 hq2) | skip
  clear hb2
  go_wp2_with fail
  refine (impl_value k p n _ _ H.out hn rfl).mono ?_
  rintro e w3 ⟨rfl, hb3⟩
  have hB3 : Below w.heap.size w w3 := Below.after (by go_grown) hb3
  obtain ⟨hc3, hf3⟩ := bcell hb3
  have hy3 := hb3.size
  try simp at hy3
  first | (with_reducible have hx3 := Nat.lt_of_succ_le hy3) | skip
  first | (with_reducible have hv3 := Nat.lt_of_succ_lt hx3) | skip
  first | (with_reducible have hu3 := Nat.lt_of_succ_lt hv3) | skip
  first | (have hz3 : w.heap.size < w3.heap.size := by omega) | (have hz3 := hB3.size)
  first | (have hq3 : w2.heap.size ≤ w3.heap.size := by omega) | skip
  first | (have hx1_3 := Nat.lt_of_lt_of_le hx1_2 hq3) | skip
  first | (have hv1_3 := Nat.lt_of_lt_of_le hv1_2 hq3) | skip
  first | (have hu1_3 := Nat.lt_of_lt_of_le hu1_2 hq3) | skip
  first | (have hx2_3 := Nat.lt_of_lt_of_le hx2 hq3) | skip
  first | (have hv2_3 := Nat.lt_of_lt_of_le hv2 hq3) | skip
  first | (have hu2_3 := Nat.lt_of_lt_of_le hu2 hq3) | skip
  clear hb3
  go_wp2_with fail
  go_ret2
  exact ⟨rfl, by go_grown⟩
theorem impl_CharacterValue_no (k p n : Int) (w : World) (h : cvB k p n = false) :
    Calls Try.prog 33 #[.agg #[.int .i64 k, .int .i64 p], .int .i64 n] w fun e w' => e = .returned (.tuple #[.int .i64 0, .bool false]) ∧ Below w.heap.size w w' := by
  by_cases hc : charB k p = true
  · by_cases hg : good n = true
    · have hn := good_iff.1 hg
      have Hv := Lib.hid (cv_no h hc hg)
      clear h
      have H := Lib.hid hc
      clear hc
      have Hn := Lib.hid hg
      clear hg
      go_enter Try.func33, Try.ntmps33
      go_wp2_with fail
      refine (impl_isCharacter k p true _ H.out).mono ?_
      rintro e w1 ⟨rfl, hb1⟩
      have hB1 : Below w.heap.size w w1 := Below.after (by go_grown) hb1
      obtain ⟨hc1, hf1⟩ := bcell hb1
      have hy1 := hb1.size
      try simp at hy1
      first | (with_reducible have hx1 := Nat.lt_of_succ_le hy1) | skip
      first | (with_reducible have hv1 := Nat.lt_of_succ_lt hx1) | skip
      first | (with_reducible have hu1 := Nat.lt_of_succ_lt hv1) | skip
      first | (have hz1 : w.heap.size < w1.heap.size := by omega) | (have hz1 := hB1.size)
      clear hb1
      go_wp2_with fail
      refine (are1 n _ _ true _ Hn.out (by simp)).mono ?_
      rintro e w' ⟨rfl, rfl⟩
      go_wp2_with fail
      refine (impl_value k p n 0 _ H.out hn Hv.out).mono ?_
      rintro e w2 ⟨rfl, hb2⟩
      have hB2 : Below w.heap.size w w2 := Below.after (by go_grown) hb2
      obtain ⟨hc2, hf2⟩ := bcell hb2
      have hy2 := hb2.size
      try simp at hy2
      first | (with_reducible have hx2 := Nat.lt_of_succ_le hy2) | skip
      first | (with_reducible have hv2 := Nat.lt_of_succ_lt hx2) | skip
      first | (with_reducible have hu2 := Nat.lt_of_succ_lt hv2) | skip
      first | (have hz2 : w.heap.size < w2.heap.size := by omega) | (have hz2 := hB2.size)
      first | (have hq2 : w1.heap.size ≤ w2.heap.size := by omega) | skip
      first | (have hx1_2 := Nat.lt_of_lt_of_le hx1 hq2) | skip
      first | (have hv1_2 := Nat.lt_of_lt_of_le hv1 hq2) | skip
      first | (have hu1_2 := Nat.lt_of_lt_of_le hu1 hq2) | skip
      clear hb2
      go_wp2_with fail
      go_ret2
      exact ⟨rfl, by go_grown⟩
    · clear h
      have H := Lib.hid hc
      clear hc
      have Hn := Lib.hid (Bool.not_eq_true _ ▸ hg)
      clear hg
      go_enter Try.func33, Try.ntmps33
      go_wp2_with fail
      refine (impl_isCharacter k p true _ H.out).mono ?_
      rintro e w1 ⟨rfl, hb1⟩
      have hB1 : Below w.heap.size w w1 := Below.after (by go_grown) hb1
      obtain ⟨hc1, hf1⟩ := bcell hb1
      have hy1 := hb1.size
      try simp at hy1
      first | (with_reducible have hx1 := Nat.lt_of_succ_le hy1) | skip
      first | (with_reducible have hv1 := Nat.lt_of_succ_lt hx1) | skip
      first | (with_reducible have hu1 := Nat.lt_of_succ_lt hv1) | skip
      first | (have hz1 : w.heap.size < w1.heap.size := by omega) | (have hz1 := hB1.size)
      clear hb1
      go_wp2_with fail
      refine (are1 n _ _ false _ Hn.out (by simp)).mono ?_
      rintro e w' ⟨rfl, rfl⟩
      go_wp2_with fail
      go_ret2
      exact ⟨rfl, by go_grown⟩
  · clear h
    have H := Lib.hid (Bool.not_eq_true _ ▸ hc)
    clear hc
    go_enter Try.func33, Try.ntmps33
    go_wp2_with fail
    refine (impl_isCharacter k p false _ H.out).mono ?_
    rintro e w1 ⟨rfl, hb1⟩
    have hB1 : Below w.heap.size w w1 := Below.after (by go_grown) hb1
    obtain ⟨hc1, hf1⟩ := bcell hb1
    have hy1 := hb1.size
    try simp at hy1
    first | (with_reducible have hx1 := Nat.lt_of_succ_le hy1) | skip
    first | (with_reducible have hv1 := Nat.lt_of_succ_lt hx1) | skip
    first | (with_reducible have hu1 := Nat.lt_of_succ_lt hv1) | skip
    first | (have hz1 : w.heap.size < w1.heap.size := by omega) | (have hz1 := hB1.size)
    clear hb1
    go_wp2_with fail
    go_ret2
    exact ⟨rfl, by go_grown⟩
theorem spec_CharacterValue_yes (k p n : Int) (w : World) (h : cvB k p n = true) :
    Calls Try.prog 31 #[.agg #[.int .i64 k, .int .i64 p], .int .i64 n] w fun e w' => e = .returned (.tuple #[.int .i64 (chV k p n), .bool true]) ∧ Below w.heap.size w w' := by
  obtain ⟨hc, hg, hv⟩ := cv_yes h
  have hn := good_iff.1 hg
  have bv := beqF hv
  clear h hv
  have H := Lib.hid hc
  clear hc
  have Hn := Lib.hid hg
  clear hg
  go_enter Try.func31, Try.ntmps31
  go_wp2_with fail
  refine (spec_chGood k p true _ H.out).mono ?_
  rintro e w1 ⟨rfl, hb1⟩
  have hB1 : Below w.heap.size w w1 := Below.after (by go_grown) hb1
  obtain ⟨hc1, hf1⟩ := bcell hb1
  have hy1 := hb1.size
  try simp at hy1
  first | (with_reducible have hx1 := Nat.lt_of_succ_le hy1) | skip
  first | (with_reducible have hv1 := Nat.lt_of_succ_lt hx1) | skip
  first | (with_reducible have hu1 := Nat.lt_of_succ_lt hv1) | skip
  first | (have hz1 : w.heap.size < w1.heap.size := by omega) | (have hz1 := hB1.size)
  clear hb1
  go_wp2_with fail
  refine (spec_nuGood n true _ Hn.out).mono ?_
  rintro e w' ⟨rfl, rfl⟩
  go_wp2_with fail
  refine (spec_chAt k p n _ _ H.out hn rfl).mono ?_
  rintro e w2 ⟨rfl, hb2⟩
  have hB2 : Below w.heap.size w w2 := Below.after (by go_grown) hb2
  obtain ⟨hc2, hf2⟩ := bcell hb2
  have hy2 := hb2.size
  try simp at hy2
  first | (with_reducible have hx2 := Nat.lt_of_succ_le hy2) | skip
  first | (with_reducible have hv2 := Nat.lt_of_succ_lt hx2) | skip
  first | (with_reducible have hu2 := Nat.lt_of_succ_lt hv2) | skip
  first | (have hz2 : w.heap.size < w2.heap.size := by omega) | (have hz2 := hB2.size)
  first | (have hq2 : w1.heap.size ≤ w2.heap.size := by omega) | skip
  first | (have hx1_2 := Nat.lt_of_lt_of_le hx1 hq2) | skip
  first | (have hv1_2 := Nat.lt_of_lt_of_le hv1 hq2) | skip
  first | (have hu1_2 := Nat.lt_of_lt_of_le hu1 hq2) | skip
  clear hb2
  go_wp2_with fail
  refine (spec_chAt k p n _ _ H.out hn rfl).mono ?_
  rintro e w3 ⟨rfl, hb3⟩
  have hB3 : Below w.heap.size w w3 := Below.after (by go_grown) hb3
  obtain ⟨hc3, hf3⟩ := bcell hb3
  have hy3 := hb3.size
  try simp at hy3
  first | (with_reducible have hx3 := Nat.lt_of_succ_le hy3) | skip
  first | (with_reducible have hv3 := Nat.lt_of_succ_lt hx3) | skip
  first | (with_reducible have hu3 := Nat.lt_of_succ_lt hv3) | skip
  first | (have hz3 : w.heap.size < w3.heap.size := by omega) | (have hz3 := hB3.size)
  first | (have hq3 : w2.heap.size ≤ w3.heap.size := by omega) | skip
  first | (have hx1_3 := Nat.lt_of_lt_of_le hx1_2 hq3) | skip
  first | (have hv1_3 := Nat.lt_of_lt_of_le hv1_2 hq3) | skip
  first | (have hu1_3 := Nat.lt_of_lt_of_le hu1_2 hq3) | skip
  first | (have hx2_3 := Nat.lt_of_lt_of_le hx2 hq3) | skip
  first | (have hv2_3 := Nat.lt_of_lt_of_le hv2 hq3) | skip
  first | (have hu2_3 := Nat.lt_of_lt_of_le hu2 hq3) | skip
  clear hb3
  go_wp2_with fail
  go_ret2
  exact ⟨rfl, by go_grown⟩
theorem spec_CharacterValue_no (k p n : Int) (w : World) (h : cvB k p n = false) :
    Calls Try.prog 31 #[.agg #[.int .i64 k, .int .i64 p], .int .i64 n] w fun e w' => e = .returned (.tuple #[.int .i64 0, .bool false]) ∧ Below w.heap.size w w' := by
  by_cases hc : charB k p = true
  · by_cases hg : good n = true
    · have hn := good_iff.1 hg
      have Hv := Lib.hid (cv_no h hc hg)
      clear h
      have H := Lib.hid hc
      clear hc
      have Hn := Lib.hid hg
      clear hg
      go_enter Try.func31, Try.ntmps31
      go_wp2_with fail
      refine (spec_chGood k p true _ H.out).mono ?_
      rintro e w1 ⟨rfl, hb1⟩
      have hB1 : Below w.heap.size w w1 := Below.after (by go_grown) hb1
      obtain ⟨hc1, hf1⟩ := bcell hb1
      have hy1 := hb1.size
      try simp at hy1
      first | (with_reducible have hx1 := Nat.lt_of_succ_le hy1) | skip
      first | (with_reducible have hv1 := Nat.lt_of_succ_lt hx1) | skip
      first | (with_reducible have hu1 := Nat.lt_of_succ_lt hv1) | skip
      first | (have hz1 : w.heap.size < w1.heap.size := by omega) | (have hz1 := hB1.size)
      clear hb1
      go_wp2_with fail
      refine (spec_nuGood n true _ Hn.out).mono ?_
      rintro e w' ⟨rfl, rfl⟩
      go_wp2_with fail
      refine (spec_chAt k p n 0 _ H.out hn Hv.out).mono ?_
      rintro e w2 ⟨rfl, hb2⟩
      have hB2 : Below w.heap.size w w2 := Below.after (by go_grown) hb2
      obtain ⟨hc2, hf2⟩ := bcell hb2
      have hy2 := hb2.size
      try simp at hy2
      first | (with_reducible have hx2 := Nat.lt_of_succ_le hy2) | skip
      first | (with_reducible have hv2 := Nat.lt_of_succ_lt hx2) | skip
      first | (with_reducible have hu2 := Nat.lt_of_succ_lt hv2) | skip
      first | (have hz2 : w.heap.size < w2.heap.size := by omega) | (have hz2 := hB2.size)
      first | (have hq2 : w1.heap.size ≤ w2.heap.size := by omega) | skip
      first | (have hx1_2 := Nat.lt_of_lt_of_le hx1 hq2) | skip
      first | (have hv1_2 := Nat.lt_of_lt_of_le hv1 hq2) | skip
      first | (have hu1_2 := Nat.lt_of_lt_of_le hu1 hq2) | skip
      clear hb2
      go_wp2_with fail
      go_ret2
      exact ⟨rfl, by go_grown⟩
    · clear h
      have H := Lib.hid hc
      clear hc
      have Hn := Lib.hid (Bool.not_eq_true _ ▸ hg)
      clear hg
      go_enter Try.func31, Try.ntmps31
      go_wp2_with fail
      refine (spec_chGood k p true _ H.out).mono ?_
      rintro e w1 ⟨rfl, hb1⟩
      have hB1 : Below w.heap.size w w1 := Below.after (by go_grown) hb1
      obtain ⟨hc1, hf1⟩ := bcell hb1
      have hy1 := hb1.size
      try simp at hy1
      first | (with_reducible have hx1 := Nat.lt_of_succ_le hy1) | skip
      first | (with_reducible have hv1 := Nat.lt_of_succ_lt hx1) | skip
      first | (with_reducible have hu1 := Nat.lt_of_succ_lt hv1) | skip
      first | (have hz1 : w.heap.size < w1.heap.size := by omega) | (have hz1 := hB1.size)
      clear hb1
      go_wp2_with fail
      refine (spec_nuGood n false _ Hn.out).mono ?_
      rintro e w' ⟨rfl, rfl⟩
      go_wp2_with fail
      go_ret2
      exact ⟨rfl, by go_grown⟩
  · clear h
    have H := Lib.hid (Bool.not_eq_true _ ▸ hc)
    clear hc
    go_enter Try.func31, Try.ntmps31
    go_wp2_with fail
    refine (spec_chGood k p false _ H.out).mono ?_
    rintro e w1 ⟨rfl, hb1⟩
    have hB1 : Below w.heap.size w w1 := Below.after (by go_grown) hb1
    obtain ⟨hc1, hf1⟩ := bcell hb1
    have hy1 := hb1.size
    try simp at hy1
    first | (with_reducible have hx1 := Nat.lt_of_succ_le hy1) | skip
    first | (with_reducible have hv1 := Nat.lt_of_succ_lt hx1) | skip
    first | (with_reducible have hu1 := Nat.lt_of_succ_lt hv1) | skip
    first | (have hz1 : w.heap.size < w1.heap.size := by omega) | (have hz1 := hB1.size)
    clear hb1
    go_wp2_with fail
    go_ret2
    exact ⟨rfl, by go_grown⟩
theorem laws_toCharacter (a b : Int) (w : World) :
    Calls Try.prog 32 #[.agg #[.int .i64 a, .int .i64 b]] w fun e w' => e = .returned (.agg #[.int .i64 a, .int .i64 b]) ∧ Below w.heap.size w w' := by
  go_enter Try.func32, Try.ntmps32
  go_wp2_with fail
  go_returns
  exact ⟨rfl, by go_grown⟩
theorem walkCharacterValue (k p n : Int) (w : World) (wk : (Lit.int .i64 k).wf = true) (wp : (Lit.int .i64 p).wf = true) (wn : (Lit.int .i64 n).wf = true) :
    Calls Try.prog 8 #[.agg #[.int .i64 k, .int .i64 p], .int .i64 n] w fun e w' => e = .returned (.bool true) ∧ Below w.heap.size w w' := by
  by_cases h : cvB k p n = true
  · have H := Lib.hid h
    clear h
    go_enter Try.func8, Try.ntmps8
    go_wp2_with fail
    refine (laws_toCharacter k p _).mono ?_
    rintro e w1 ⟨rfl, hb1⟩
    have hB1 : Below w.heap.size w w1 := Below.after (by go_grown) hb1
    obtain ⟨hc1, hf1⟩ := bcell hb1
    have hy1 := hb1.size
    try simp at hy1
    first | (with_reducible have hx1 := Nat.lt_of_succ_le hy1) | skip
    first | (with_reducible have hv1 := Nat.lt_of_succ_lt hx1) | skip
    first | (with_reducible have hu1 := Nat.lt_of_succ_lt hv1) | skip
    first | (have hz1 : w.heap.size < w1.heap.size := by omega) | (have hz1 := hB1.size)
    clear hb1
    go_wp2_with fail
    refine (spec_CharacterValue_yes k p n _ H.out).mono ?_
    rintro e w2 ⟨rfl, hb2⟩
    have hB2 : Below w.heap.size w w2 := Below.after (by go_grown) hb2
    obtain ⟨hc2, hf2⟩ := bcell hb2
    have hy2 := hb2.size
    try simp at hy2
    first | (with_reducible have hx2 := Nat.lt_of_succ_le hy2) | skip
    first | (with_reducible have hv2 := Nat.lt_of_succ_lt hx2) | skip
    first | (with_reducible have hu2 := Nat.lt_of_succ_lt hv2) | skip
    first | (have hz2 : w.heap.size < w2.heap.size := by omega) | (have hz2 := hB2.size)
    first | (have hq2 : w1.heap.size ≤ w2.heap.size := by omega) | skip
    first | (have hx1_2 := Nat.lt_of_lt_of_le hx1 hq2) | skip
    first | (have hv1_2 := Nat.lt_of_lt_of_le hv1 hq2) | skip
    first | (have hu1_2 := Nat.lt_of_lt_of_le hu1 hq2) | skip
    clear hb2
    go_wp2_with fail
    refine (laws_toCharacter k p _).mono ?_
    rintro e w3 ⟨rfl, hb3⟩
    have hB3 : Below w.heap.size w w3 := Below.after (by go_grown) hb3
    obtain ⟨hc3, hf3⟩ := bcell hb3
    have hy3 := hb3.size
    try simp at hy3
    first | (with_reducible have hx3 := Nat.lt_of_succ_le hy3) | skip
    first | (with_reducible have hv3 := Nat.lt_of_succ_lt hx3) | skip
    first | (with_reducible have hu3 := Nat.lt_of_succ_lt hv3) | skip
    first | (have hz3 : w.heap.size < w3.heap.size := by omega) | (have hz3 := hB3.size)
    first | (have hq3 : w2.heap.size ≤ w3.heap.size := by omega) | skip
    first | (have hx1_3 := Nat.lt_of_lt_of_le hx1_2 hq3) | skip
    first | (have hv1_3 := Nat.lt_of_lt_of_le hv1_2 hq3) | skip
    first | (have hu1_3 := Nat.lt_of_lt_of_le hu1_2 hq3) | skip
    first | (have hx2_3 := Nat.lt_of_lt_of_le hx2 hq3) | skip
    first | (have hv2_3 := Nat.lt_of_lt_of_le hv2 hq3) | skip
    first | (have hu2_3 := Nat.lt_of_lt_of_le hu2 hq3) | skip
    clear hb3
    go_wp2_with fail
    refine (impl_CharacterValue_yes k p n _ H.out).mono ?_
    rintro e w4 ⟨rfl, hb4⟩
    have hB4 : Below w.heap.size w w4 := Below.after (by go_grown) hb4
    obtain ⟨hc4, hf4⟩ := bcell hb4
    have hy4 := hb4.size
    try simp at hy4
    first | (with_reducible have hx4 := Nat.lt_of_succ_le hy4) | skip
    first | (with_reducible have hv4 := Nat.lt_of_succ_lt hx4) | skip
    first | (with_reducible have hu4 := Nat.lt_of_succ_lt hv4) | skip
    first | (have hz4 : w.heap.size < w4.heap.size := by omega) | (have hz4 := hB4.size)
    first | (have hq4 : w3.heap.size ≤ w4.heap.size := by omega) | skip
    first | (have hx1_4 := Nat.lt_of_lt_of_le hx1_3 hq4) | skip
    first | (have hv1_4 := Nat.lt_of_lt_of_le hv1_3 hq4) | skip
    first | (have hu1_4 := Nat.lt_of_lt_of_le hu1_3 hq4) | skip
    first | (have hx2_4 := Nat.lt_of_lt_of_le hx2_3 hq4) | skip
    first | (have hv2_4 := Nat.lt_of_lt_of_le hv2_3 hq4) | skip
    first | (have hu2_4 := Nat.lt_of_lt_of_le hu2_3 hq4) | skip
    first | (have hx3_4 := Nat.lt_of_lt_of_le hx3 hq4) | skip
    first | (have hv3_4 := Nat.lt_of_lt_of_le hv3 hq4) | skip
    first | (have hu3_4 := Nat.lt_of_lt_of_le hu3 hq4) | skip
    clear hb4
    go_wp2_with fail
    go_ret
    exact ⟨rfl, by go_grown⟩
  · have H := Lib.hid (Bool.not_eq_true _ ▸ h)
    clear h
    go_enter Try.func8, Try.ntmps8
    go_wp2_with fail
    refine (laws_toCharacter k p _).mono ?_
    rintro e w1 ⟨rfl, hb1⟩
    have hB1 : Below w.heap.size w w1 := Below.after (by go_grown) hb1
    obtain ⟨hc1, hf1⟩ := bcell hb1
    have hy1 := hb1.size
    try simp at hy1
    first | (with_reducible have hx1 := Nat.lt_of_succ_le hy1) | skip
    first | (with_reducible have hv1 := Nat.lt_of_succ_lt hx1) | skip
    first | (with_reducible have hu1 := Nat.lt_of_succ_lt hv1) | skip
    first | (have hz1 : w.heap.size < w1.heap.size := by omega) | (have hz1 := hB1.size)
    clear hb1
    go_wp2_with fail
    refine (spec_CharacterValue_no k p n _ H.out).mono ?_
    rintro e w2 ⟨rfl, hb2⟩
    have hB2 : Below w.heap.size w w2 := Below.after (by go_grown) hb2
    obtain ⟨hc2, hf2⟩ := bcell hb2
    have hy2 := hb2.size
    try simp at hy2
    first | (with_reducible have hx2 := Nat.lt_of_succ_le hy2) | skip
    first | (with_reducible have hv2 := Nat.lt_of_succ_lt hx2) | skip
    first | (with_reducible have hu2 := Nat.lt_of_succ_lt hv2) | skip
    first | (have hz2 : w.heap.size < w2.heap.size := by omega) | (have hz2 := hB2.size)
    first | (have hq2 : w1.heap.size ≤ w2.heap.size := by omega) | skip
    first | (have hx1_2 := Nat.lt_of_lt_of_le hx1 hq2) | skip
    first | (have hv1_2 := Nat.lt_of_lt_of_le hv1 hq2) | skip
    first | (have hu1_2 := Nat.lt_of_lt_of_le hu1 hq2) | skip
    clear hb2
    go_wp2_with fail
    refine (laws_toCharacter k p _).mono ?_
    rintro e w3 ⟨rfl, hb3⟩
    have hB3 : Below w.heap.size w w3 := Below.after (by go_grown) hb3
    obtain ⟨hc3, hf3⟩ := bcell hb3
    have hy3 := hb3.size
    try simp at hy3
    first | (with_reducible have hx3 := Nat.lt_of_succ_le hy3) | skip
    first | (with_reducible have hv3 := Nat.lt_of_succ_lt hx3) | skip
    first | (with_reducible have hu3 := Nat.lt_of_succ_lt hv3) | skip
    first | (have hz3 : w.heap.size < w3.heap.size := by omega) | (have hz3 := hB3.size)
    first | (have hq3 : w2.heap.size ≤ w3.heap.size := by omega) | skip
    first | (have hx1_3 := Nat.lt_of_lt_of_le hx1_2 hq3) | skip
    first | (have hv1_3 := Nat.lt_of_lt_of_le hv1_2 hq3) | skip
    first | (have hu1_3 := Nat.lt_of_lt_of_le hu1_2 hq3) | skip
    first | (have hx2_3 := Nat.lt_of_lt_of_le hx2 hq3) | skip
    first | (have hv2_3 := Nat.lt_of_lt_of_le hv2 hq3) | skip
    first | (have hu2_3 := Nat.lt_of_lt_of_le hu2 hq3) | skip
    clear hb3
    go_wp2_with fail
    refine (impl_CharacterValue_no k p n _ H.out).mono ?_
    rintro e w4 ⟨rfl, hb4⟩
    have hB4 : Below w.heap.size w w4 := Below.after (by go_grown) hb4
    obtain ⟨hc4, hf4⟩ := bcell hb4
    have hy4 := hb4.size
    try simp at hy4
    first | (with_reducible have hx4 := Nat.lt_of_succ_le hy4) | skip
    first | (with_reducible have hv4 := Nat.lt_of_succ_lt hx4) | skip
    first | (with_reducible have hu4 := Nat.lt_of_succ_lt hv4) | skip
    first | (have hz4 : w.heap.size < w4.heap.size := by omega) | (have hz4 := hB4.size)
    first | (have hq4 : w3.heap.size ≤ w4.heap.size := by omega) | skip
    first | (have hx1_4 := Nat.lt_of_lt_of_le hx1_3 hq4) | skip
    first | (have hv1_4 := Nat.lt_of_lt_of_le hv1_3 hq4) | skip
    first | (have hu1_4 := Nat.lt_of_lt_of_le hu1_3 hq4) | skip
    first | (have hx2_4 := Nat.lt_of_lt_of_le hx2_3 hq4) | skip
    first | (have hv2_4 := Nat.lt_of_lt_of_le hv2_3 hq4) | skip
    first | (have hu2_4 := Nat.lt_of_lt_of_le hu2_3 hq4) | skip
    first | (have hx3_4 := Nat.lt_of_lt_of_le hx3 hq4) | skip
    first | (have hv3_4 := Nat.lt_of_lt_of_le hv3 hq4) | skip
    first | (have hu3_4 := Nat.lt_of_lt_of_le hu3 hq4) | skip
    clear hb4
    go_wp2_with fail
    go_ret
    exact ⟨rfl, by go_grown⟩
end Go.Proofs.Ytafcbaganjcnlaa
