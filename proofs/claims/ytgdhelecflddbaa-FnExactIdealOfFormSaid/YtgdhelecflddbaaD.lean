/- Contracts: ideals, characters, matrices; the functions of the first statements. -/
import Derived.Test.YtgdhelecflddbaaC
namespace Go.Proofs.Ytgdhelecflddbaa
set_option linter.unusedVariables false
open Go.ChangeShapes Go.WideShapes Go.ChangeAt Go.RowKit

theorem laws_toIdeal (a b c : Int) (w : World) :
    Calls Try.prog 16 #[.agg #[.int .i64 a, .int .i64 b, .int .i64 c]] w fun e w' => e = .returned (.agg #[.int .i64 a, .int .i64 b, .int .i64 c]) ∧ Below w.heap.size w w' := by
  go_enter Try.func16, Try.ntmps16
  go_wp2_with fail
  go_returns
  exact ⟨rfl, by go_grown⟩
theorem laws_toForm (a b c : Int) (w : World) :
    Calls Try.prog 27 #[.agg #[.int .i64 a, .int .i64 b, .int .i64 c]] w fun e w' => e = .returned (.agg #[.int .i64 a, .int .i64 b, .int .i64 c]) ∧ Below w.heap.size w w' := by
  go_enter Try.func27, Try.ntmps27
  go_wp2_with fail
  go_returns
  exact ⟨rfl, by go_grown⟩
theorem laws_toCharacter (a b : Int) (w : World) :
    Calls Try.prog 30 #[.agg #[.int .i64 a, .int .i64 b]] w fun e w' => e = .returned (.agg #[.int .i64 a, .int .i64 b]) ∧ Below w.heap.size w w' := by
  go_enter Try.func30, Try.ntmps30
  go_wp2_with fail
  go_returns
  exact ⟨rfl, by go_grown⟩
theorem laws_toMatrix (a b c d : Int) (w : World) :
    Calls Try.prog 35 #[.agg #[.int .i64 a, .int .i64 b, .int .i64 c, .int .i64 d]] w fun e w' => e = .returned (.agg #[.int .i64 a, .int .i64 b, .int .i64 c, .int .i64 d]) ∧ Below w.heap.size w w' := by
  go_enter Try.func35, Try.ntmps35
  go_wp2_with fail
  go_returns
  exact ⟨rfl, by go_grown⟩
theorem laws_eqIdeal (a b c : Int) (w : World) :
    Calls Try.prog 20 #[.agg #[.int .i64 a, .int .i64 b, .int .i64 c], .agg #[.int .i64 a, .int .i64 b, .int .i64 c]] w fun e w' => e = .returned (.bool true) ∧ Below w.heap.size w w' := by
  go_enter Try.func20, Try.ntmps20
  go_wp2_with fail
  go_ret
  exact ⟨rfl, by go_grown⟩
theorem laws_eqForm (a b c : Int) (w : World) :
    Calls Try.prog 25 #[.agg #[.int .i64 a, .int .i64 b, .int .i64 c], .agg #[.int .i64 a, .int .i64 b, .int .i64 c]] w fun e w' => e = .returned (.bool true) ∧ Below w.heap.size w w' := by
  go_enter Try.func25, Try.ntmps25
  go_wp2_with fail
  go_ret
  exact ⟨rfl, by go_grown⟩
theorem laws_eqMatrix (a b c d : Int) (w : World) :
    Calls Try.prog 37 #[.agg #[.int .i64 a, .int .i64 b, .int .i64 c, .int .i64 d], .agg #[.int .i64 a, .int .i64 b, .int .i64 c, .int .i64 d]] w fun e w' => e = .returned (.bool true) ∧ Below w.heap.size w w' := by
  go_enter Try.func37, Try.ntmps37
  go_wp2_with fail
  go_ret
  exact ⟨rfl, by go_grown⟩

/-! ideals -/
theorem impl_isIdeal (d s a b : Int) (v : Bool) (w : World) (hv : idealB d s a b = v) :
    Calls Try.prog 47 #[.int .i64 d, .agg #[.int .i64 s, .int .i64 a, .int .i64 b]] w fun e w' => e = .returned (.bool v) ∧ Below w.heap.size w w' := by
  have Hv := Lib.hid hv
  clear hv
  by_cases hn : negD d = true
  · obtain ⟨n1, n2, n3⟩ := negD_iff.1 hn
    have Hn := Lib.hid hn
    clear hn
    by_cases hr : 1 ≤ s ∧ s ≤ 10000 ∧ 1 ≤ a ∧ a ≤ 10000 ∧ 0 ≤ b ∧ b < 2 * a
    · obtain ⟨r1, r2, r3, r4, r5, r6⟩ := hr
      obtain ⟨b1, b2⟩ := mul_le (a := b) (b := b) (A := 20000) (B := 20000) r5 (by omega) r5 (by omega)
      go_enter Try.func47, Try.ntmps47
      go_wp2_with fail
      refine (impl_isNegativeDisc d true _ Hn.out).mono ?_
      rintro e w' ⟨rfl, rfl⟩
      go_wp2_with fail
      all_goals (try go_ret)
      all_goals exact ⟨rbool (by rw [← Hv.out, Bool.eq_iff_iff]; simp [idealB, Hn.out, *]), by go_grown⟩
    · have H0 := Lib.hid (show idealB d s a b = false by rw [← Bool.not_eq_true, idealB_iff]; exact fun h => hr h.2.1)
      have Hr := Lib.hid hr
      clear hr
      go_enter Try.func47, Try.ntmps47
      go_wp2_with fail
      refine (impl_isNegativeDisc d true _ Hn.out).mono ?_
      rintro e w' ⟨rfl, rfl⟩
      go_wp2_with fail
      all_goals (try go_ret)
      all_goals first | exact absurd (by omega) Hr.out | exact ⟨rbool (by rw [← Hv.out, H0.out]), by go_grown⟩
  · have Hn := Lib.hid (Bool.not_eq_true _ ▸ hn)
    clear hn
    go_enter Try.func47, Try.ntmps47
    go_wp2_with fail
    refine (impl_isNegativeDisc d false _ Hn.out).mono ?_
    rintro e w' ⟨rfl, rfl⟩
    go_wp2_with fail
    go_ret
    exact ⟨rbool (by rw [← Hv.out]; simp [idealB, Hn.out]), by go_grown⟩
theorem spec_idGood (d s a b : Int) (v : Bool) (w : World) (hv : idealB d s a b = v) :
    Calls Try.prog 46 #[.int .i64 d, .agg #[.int .i64 s, .int .i64 a, .int .i64 b]] w fun e w' => e = .returned (.bool v) ∧ Below w.heap.size w w' := by
  have Hv := Lib.hid hv
  clear hv
  by_cases hn : negD d = true
  · obtain ⟨n1, n2, n3⟩ := negD_iff.1 hn
    have Hn := Lib.hid hn
    clear hn
    by_cases hs : 1 ≤ s ∧ s ≤ 10000
    · have Hs := Lib.hid (show (decide (1 ≤ s) && decide (s ≤ 10000)) = true by simpa using hs)
      by_cases ha : 1 ≤ a ∧ a ≤ 10000
      · have Ha := Lib.hid (show (decide (1 ≤ a) && decide (a ≤ 10000)) = true by simpa using ha)
        obtain ⟨r3, r4⟩ := ha
        by_cases hb : 0 ≤ b ∧ b ≤ 2 * a - 1
        · have Hb := Lib.hid (show (decide (0 ≤ b) && decide (b ≤ 2 * a - 1)) = true by simpa using hb)
          obtain ⟨r1, r2⟩ := hs
          obtain ⟨r5, r6⟩ := hb
          obtain ⟨b1, b2⟩ := mul_le (a := b) (b := b) (A := 20000) (B := 20000) r5 (by omega) r5 (by omega)
          go_enter Try.func46, Try.ntmps46
          go_wp2_with fail
          refine (spec_reDisc d true _ Hn.out).mono ?_
          rintro e w' ⟨rfl, rfl⟩
          go_wp2_with fail
          refine (spec_l1In s 1 10000 true _ Hs.out).mono ?_
          rintro e w' ⟨rfl, rfl⟩
          go_wp2_with fail
          refine (spec_l1In a 1 10000 true _ Ha.out).mono ?_
          rintro e w' ⟨rfl, rfl⟩
          go_wp2_with fail
          refine (spec_l1In b 0 (2 * a - 1) true _ Hb.out).mono ?_
          rintro e w' ⟨rfl, rfl⟩
          go_wp2_with fail
          all_goals (try go_ret)
          all_goals exact ⟨rbool (by rw [← Hv.out, Bool.eq_iff_iff]; simp [idealB, Hn.out, *]; try omega), by go_grown⟩
        · have Hb := Lib.hid (show (decide (0 ≤ b) && decide (b ≤ 2 * a - 1)) = false by rw [← Bool.not_eq_true]; simpa using hb)
          have H0 := Lib.hid (show idealB d s a b = false by rw [← Bool.not_eq_true, idealB_iff]; exact fun h => hb (by omega))
          clear hb hs
          go_enter Try.func46, Try.ntmps46
          go_wp2_with fail
          refine (spec_reDisc d true _ Hn.out).mono ?_
          rintro e w' ⟨rfl, rfl⟩
          go_wp2_with fail
          refine (spec_l1In s 1 10000 true _ Hs.out).mono ?_
          rintro e w' ⟨rfl, rfl⟩
          go_wp2_with fail
          refine (spec_l1In a 1 10000 true _ Ha.out).mono ?_
          rintro e w' ⟨rfl, rfl⟩
          go_wp2_with fail
          refine (spec_l1In b 0 (2 * a - 1) false _ Hb.out).mono ?_
          rintro e w' ⟨rfl, rfl⟩
          go_wp2_with fail
          go_ret
          exact ⟨rbool (by rw [← Hv.out, H0.out]), by go_grown⟩
      · have Ha := Lib.hid (show (decide (1 ≤ a) && decide (a ≤ 10000)) = false by rw [← Bool.not_eq_true]; simpa using ha)
        have H0 := Lib.hid (show idealB d s a b = false by rw [← Bool.not_eq_true, idealB_iff]; exact fun h => ha (by omega))
        clear ha hs
        go_enter Try.func46, Try.ntmps46
        go_wp2_with fail
        refine (spec_reDisc d true _ Hn.out).mono ?_
        rintro e w' ⟨rfl, rfl⟩
        go_wp2_with fail
        refine (spec_l1In s 1 10000 true _ Hs.out).mono ?_
        rintro e w' ⟨rfl, rfl⟩
        go_wp2_with fail
        refine (spec_l1In a 1 10000 false _ Ha.out).mono ?_
        rintro e w' ⟨rfl, rfl⟩
        go_wp2_with fail
        go_ret
        exact ⟨rbool (by rw [← Hv.out, H0.out]), by go_grown⟩
    · have Hs := Lib.hid (show (decide (1 ≤ s) && decide (s ≤ 10000)) = false by rw [← Bool.not_eq_true]; simpa using hs)
      have H0 := Lib.hid (show idealB d s a b = false by rw [← Bool.not_eq_true, idealB_iff]; exact fun h => hs (by omega))
      clear hs
      go_enter Try.func46, Try.ntmps46
      go_wp2_with fail
      refine (spec_reDisc d true _ Hn.out).mono ?_
      rintro e w' ⟨rfl, rfl⟩
      go_wp2_with fail
      refine (spec_l1In s 1 10000 false _ Hs.out).mono ?_
      rintro e w' ⟨rfl, rfl⟩
      go_wp2_with fail
      go_ret
      exact ⟨rbool (by rw [← Hv.out, H0.out]), by go_grown⟩
  · have Hn := Lib.hid (Bool.not_eq_true _ ▸ hn)
    clear hn
    go_enter Try.func46, Try.ntmps46
    go_wp2_with fail
    refine (spec_reDisc d false _ Hn.out).mono ?_
    rintro e w' ⟨rfl, rfl⟩
    go_wp2_with fail
    go_ret
    exact ⟨rbool (by rw [← Hv.out]; simp [idealB, Hn.out]), by go_grown⟩
theorem impl_IsIdeal (d s a b : Int) (v : Bool) (w : World) (hv : idealB d s a b = v) :
    Calls Try.prog 17 #[.int .i64 d, .agg #[.int .i64 s, .int .i64 a, .int .i64 b]] w fun e w' => e = .returned (.bool v) ∧ Below w.heap.size w w' := by
  have Hv := Lib.hid hv
  clear hv
  go_enter Try.func17, Try.ntmps17
  go_wp2_with fail
  refine (impl_isIdeal d s a b v _ Hv.out).mono ?_
  rintro e w1 ⟨rfl, hb1⟩
  have hB1 : Below w.heap.size w w1 := Below.after (by go_grown) hb1
  obtain ⟨hc1, hf1⟩ := bcell hb1
  have hy1 := hb1.size
  try simp at hy1
  first | (with_reducible have hx1 := Nat.lt_of_succ_le hy1) | skip
  first | (with_reducible have hv1 := Nat.lt_of_succ_lt hx1) | skip
  first | (with_reducible have hu1 := Nat.lt_of_succ_lt hv1) | skip
  first | (have hz1 : w.heap.size < w1.heap.size := by omega) | (have hz1 := hB1.size)
  clear hb1
  go_wp2_with fail
  go_ret
  exact ⟨rfl, by go_grown⟩
theorem spec_IsIdeal (d s a b : Int) (v : Bool) (w : World) (hv : idealB d s a b = v) :
    Calls Try.prog 15 #[.int .i64 d, .agg #[.int .i64 s, .int .i64 a, .int .i64 b]] w fun e w' => e = .returned (.bool v) ∧ Below w.heap.size w w' := by
  have Hv := Lib.hid hv
  clear hv
  go_enter Try.func15, Try.ntmps15
  go_wp2_with fail
  refine (spec_idGood d s a b v _ Hv.out).mono ?_
  rintro e w1 ⟨rfl, hb1⟩
  have hB1 : Below w.heap.size w w1 := Below.after (by go_grown) hb1
  obtain ⟨hc1, hf1⟩ := bcell hb1
  have hy1 := hb1.size
  try simp at hy1
  first | (with_reducible have hx1 := Nat.lt_of_succ_le hy1) | skip
  first | (with_reducible have hv1 := Nat.lt_of_succ_lt hx1) | skip
  first | (with_reducible have hu1 := Nat.lt_of_succ_lt hv1) | skip
  first | (have hz1 : w.heap.size < w1.heap.size := by omega) | (have hz1 := hB1.size)
  clear hb1
  go_wp2_with fail
  go_ret
  exact ⟨rfl, by go_grown⟩
end Go.Proofs.Ytgdhelecflddbaa
