/- Contracts: forms, matrices, discriminants. -/
import Derived.Test.YtiblpagbloflhaaB
namespace Go.Proofs.Ytiblpagbloflhaa
set_option linter.unusedVariables false
open Go.ChangeShapes Go.WideShapes Go.ChangeAt Go.RowKit

theorem wf_bd {a : Int} (h : (Lit.int .i64 a).wf = true) : -9223372036854775808 ≤ a ∧ a ≤ 9223372036854775807 := by
  have := bounds_i64 h; omega

theorem spec_foGood (a b c : Int) (v : Bool) (w : World) (hv : good3 a b c = v) :
    Calls Try.prog 92 #[.agg #[.int .i64 a, .int .i64 b, .int .i64 c]] w fun e w' => e = .returned (.bool v) ∧ Below w.heap.size w w' := by
  have Hv := Lib.hid hv
  clear hv
  go_enter Try.func92, Try.ntmps92
  go_wp2_with (go_at_call 89; refine (spec_nuGood _ _ _ rfl).mono ?_; rintro e w' ⟨rfl, rfl⟩)
  all_goals (try go_ret)
  all_goals exact ⟨rbool (by rw [← Hv.out]; simp_all [good3]), by go_grown⟩
theorem impl_IsForm (a b c : Int) (v : Bool) (w : World) (hv : good3 a b c = v) :
    Calls Try.prog 97 #[.agg #[.int .i64 a, .int .i64 b, .int .i64 c]] w fun e w' => e = .returned (.bool v) ∧ Below w.heap.size w w' := by
  have Hv := Lib.hid hv
  clear hv
  go_enter Try.func97, Try.ntmps97
  go_wp2_with fail
  refine (are3 a b c _ _ v _ Hv.out (by simp) (by simp) (by simp)).mono ?_
  rintro e w' ⟨rfl, rfl⟩
  go_wp2
  go_ret
  exact ⟨rfl, by go_grown⟩
theorem spec_foDisc (a b c : Int) (w : World) (h : good3 a b c = true) :
    Calls Try.prog 146 #[.agg #[.int .i64 a, .int .i64 b, .int .i64 c]] w fun e w' => e = .returned (.int .i64 (disc a b c)) ∧ Below w.heap.size w w' := by
  obtain ⟨⟨b1, b2⟩, ⟨m1, m2⟩, _⟩ := disc_bd h
  obtain ⟨⟨a1, a2⟩, ⟨b3, b4⟩, ⟨c1, c2⟩⟩ := good3_iff.1 h
  clear h
  go_enter Try.func146, Try.ntmps146
  go_wp2
  go_ret
  exact ⟨rint rfl, by go_grown⟩
theorem impl_disc (a b c : Int) (w : World) (h : good3 a b c = true) :
    Calls Try.prog 153 #[.agg #[.int .i64 a, .int .i64 b, .int .i64 c]] w fun e w' => e = .returned (.int .i64 (disc a b c)) ∧ Below w.heap.size w w' := by
  obtain ⟨⟨b1, b2⟩, ⟨m1, m2⟩, _⟩ := disc_bd h
  obtain ⟨⟨a1, a2⟩, ⟨b3, b4⟩, ⟨c1, c2⟩⟩ := good3_iff.1 h
  clear h
  go_enter Try.func153, Try.ntmps153
  go_wp2
  go_ret
  exact ⟨rint rfl, by go_grown⟩
theorem spec_foDefinite (a b c : Int) (v : Bool) (w : World) (hv : definB a b c = v) :
    Calls Try.prog 145 #[.agg #[.int .i64 a, .int .i64 b, .int .i64 c]] w fun e w' => e = .returned (.bool v) ∧ Below w.heap.size w w' := by
  have Hv := Lib.hid hv
  clear hv
  by_cases hg : good3 a b c = true
  · have Hg := Lib.hid hg
    clear hg
    go_enter Try.func145, Try.ntmps145
    go_wp2_with fail
    refine (spec_foGood a b c true _ Hg.out).mono ?_
    rintro e w1 ⟨rfl, hb1⟩
    have hB1 : Below w.heap.size w w1 := Below.after (by go_grown) hb1
    obtain ⟨hc1, hf1⟩ := bcell hb1
    have hy1 := hb1.size
    try simp at hy1
    first | (with_reducible have hx1 := Nat.lt_of_succ_le hy1) | skip
    first | (with_reducible have hv1 := Nat.lt_of_succ_lt hx1) | skip
    first | (with_reducible have hu1 := Nat.lt_of_succ_lt hv1) | skip
    first | (have hz1 : w.heap.size < w1.heap.size := by omega) | (have hz1 := hB1.size)
    clear hb1
    go_wp2_with fail
    refine (spec_foDisc a b c _ Hg.out).mono ?_
    rintro e w2 ⟨rfl, hb2⟩
    have hB2 : Below w.heap.size w w2 := Below.after (by go_grown) hb2
    obtain ⟨hc2, hf2⟩ := bcell hb2
    have hy2 := hb2.size
    try simp at hy2
    first | (with_reducible have hx2 := Nat.lt_of_succ_le hy2) | skip
    first | (with_reducible have hv2 := Nat.lt_of_succ_lt hx2) | skip
    first | (with_reducible have hu2 := Nat.lt_of_succ_lt hv2) | skip
    first | (have hz2 : w.heap.size < w2.heap.size := by omega) | (have hz2 := hB2.size)
    first | (have hq2 : w1.heap.size ≤ w2.heap.size := by omega) | skip
    first | (have hx1_2 := Nat.lt_of_lt_of_le hx1 hq2) | skip
    first | (have hv1_2 := Nat.lt_of_lt_of_le hv1 hq2) | skip
    first | (have hu1_2 := Nat.lt_of_lt_of_le hu1 hq2) | skip
    clear hb2
    go_wp2_with fail
    all_goals (try go_ret)
    all_goals exact ⟨rbool (by rw [← Hv.out]; simp [definB, Hg.out]; try omega), by go_grown⟩
  · have Hg := Lib.hid (Bool.not_eq_true _ ▸ hg)
    clear hg
    go_enter Try.func145, Try.ntmps145
    go_wp2_with fail
    refine (spec_foGood a b c false _ Hg.out).mono ?_
    rintro e w1 ⟨rfl, hb1⟩
    have hB1 : Below w.heap.size w w1 := Below.after (by go_grown) hb1
    obtain ⟨hc1, hf1⟩ := bcell hb1
    have hy1 := hb1.size
    try simp at hy1
    first | (with_reducible have hx1 := Nat.lt_of_succ_le hy1) | skip
    first | (with_reducible have hv1 := Nat.lt_of_succ_lt hx1) | skip
    first | (with_reducible have hu1 := Nat.lt_of_succ_lt hv1) | skip
    first | (have hz1 : w.heap.size < w1.heap.size := by omega) | (have hz1 := hB1.size)
    clear hb1
    go_wp2_with fail
    go_ret
    exact ⟨rbool (by rw [← Hv.out]; simp [definB, Hg.out]), by go_grown⟩
theorem impl_isDefinite (a b c : Int) (v : Bool) (w : World) (hv : definB a b c = v) :
    Calls Try.prog 152 #[.agg #[.int .i64 a, .int .i64 b, .int .i64 c]] w fun e w' => e = .returned (.bool v) ∧ Below w.heap.size w w' := by
  have Hv := Lib.hid hv
  clear hv
  by_cases hg : good3 a b c = true
  · have Hg := Lib.hid hg
    clear hg
    go_enter Try.func152, Try.ntmps152
    go_wp2_with fail
    refine (impl_IsForm a b c true _ Hg.out).mono ?_
    rintro e w1 ⟨rfl, hb1⟩
    have hB1 : Below w.heap.size w w1 := Below.after (by go_grown) hb1
    obtain ⟨hc1, hf1⟩ := bcell hb1
    have hy1 := hb1.size
    try simp at hy1
    first | (with_reducible have hx1 := Nat.lt_of_succ_le hy1) | skip
    first | (with_reducible have hv1 := Nat.lt_of_succ_lt hx1) | skip
    first | (with_reducible have hu1 := Nat.lt_of_succ_lt hv1) | skip
    first | (have hz1 : w.heap.size < w1.heap.size := by omega) | (have hz1 := hB1.size)
    clear hb1
    go_wp2_with fail
    refine (impl_disc a b c _ Hg.out).mono ?_
    rintro e w2 ⟨rfl, hb2⟩
    have hB2 : Below w.heap.size w w2 := Below.after (by go_grown) hb2
    obtain ⟨hc2, hf2⟩ := bcell hb2
    have hy2 := hb2.size
    try simp at hy2
    first | (with_reducible have hx2 := Nat.lt_of_succ_le hy2) | skip
    first | (with_reducible have hv2 := Nat.lt_of_succ_lt hx2) | skip
    first | (with_reducible have hu2 := Nat.lt_of_succ_lt hv2) | skip
    first | (have hz2 : w.heap.size < w2.heap.size := by omega) | (have hz2 := hB2.size)
    first | (have hq2 : w1.heap.size ≤ w2.heap.size := by omega) | skip
    first | (have hx1_2 := Nat.lt_of_lt_of_le hx1 hq2) | skip
    first | (have hv1_2 := Nat.lt_of_lt_of_le hv1 hq2) | skip
    first | (have hu1_2 := Nat.lt_of_lt_of_le hu1 hq2) | skip
    clear hb2
    go_wp2_with fail
    all_goals (try go_ret)
    all_goals exact ⟨rbool (by rw [← Hv.out]; simp [definB, Hg.out]; try omega), by go_grown⟩
  · have Hg := Lib.hid (Bool.not_eq_true _ ▸ hg)
    clear hg
    go_enter Try.func152, Try.ntmps152
    go_wp2_with fail
    refine (impl_IsForm a b c false _ Hg.out).mono ?_
    rintro e w1 ⟨rfl, hb1⟩
    have hB1 : Below w.heap.size w w1 := Below.after (by go_grown) hb1
    obtain ⟨hc1, hf1⟩ := bcell hb1
    have hy1 := hb1.size
    try simp at hy1
    first | (with_reducible have hx1 := Nat.lt_of_succ_le hy1) | skip
    first | (with_reducible have hv1 := Nat.lt_of_succ_lt hx1) | skip
    first | (with_reducible have hu1 := Nat.lt_of_succ_lt hv1) | skip
    first | (have hz1 : w.heap.size < w1.heap.size := by omega) | (have hz1 := hB1.size)
    clear hb1
    go_wp2_with fail
    go_ret
    exact ⟨rbool (by rw [← Hv.out]; simp [definB, Hg.out]), by go_grown⟩
theorem spec_vaForm (a b c : Int) (v : Bool) (w : World) (hv : shownB a b c = v) :
    Calls Try.prog 72 #[.agg #[.int .i64 a, .int .i64 b, .int .i64 c]] w fun e w' => e = .returned (.bool v) ∧ Below w.heap.size w w' := by
  have Hv := Lib.hid hv
  clear hv
  by_cases hg : definB a b c = true
  · have Hg := Lib.hid hg
    clear hg
    go_enter Try.func72, Try.ntmps72
    go_wp2_with fail
    refine (spec_foDefinite a b c true _ Hg.out).mono ?_
    rintro e w1 ⟨rfl, hb1⟩
    have hB1 : Below w.heap.size w w1 := Below.after (by go_grown) hb1
    obtain ⟨hc1, hf1⟩ := bcell hb1
    have hy1 := hb1.size
    try simp at hy1
    first | (with_reducible have hx1 := Nat.lt_of_succ_le hy1) | skip
    first | (with_reducible have hv1 := Nat.lt_of_succ_lt hx1) | skip
    first | (with_reducible have hu1 := Nat.lt_of_succ_lt hv1) | skip
    first | (have hz1 : w.heap.size < w1.heap.size := by omega) | (have hz1 := hB1.size)
    clear hb1
    go_wp2_with fail
    refine (spec_foDisc a b c _ (definB_good Hg.out)).mono ?_
    rintro e w2 ⟨rfl, hb2⟩
    have hB2 : Below w.heap.size w w2 := Below.after (by go_grown) hb2
    obtain ⟨hc2, hf2⟩ := bcell hb2
    have hy2 := hb2.size
    try simp at hy2
    first | (with_reducible have hx2 := Nat.lt_of_succ_le hy2) | skip
    first | (with_reducible have hv2 := Nat.lt_of_succ_lt hx2) | skip
    first | (with_reducible have hu2 := Nat.lt_of_succ_lt hv2) | skip
    first | (have hz2 : w.heap.size < w2.heap.size := by omega) | (have hz2 := hB2.size)
    first | (have hq2 : w1.heap.size ≤ w2.heap.size := by omega) | skip
    first | (have hx1_2 := Nat.lt_of_lt_of_le hx1 hq2) | skip
    first | (have hv1_2 := Nat.lt_of_lt_of_le hv1 hq2) | skip
    first | (have hu1_2 := Nat.lt_of_lt_of_le hu1 hq2) | skip
    clear hb2
    go_wp2_with fail
    all_goals (try go_ret)
    all_goals exact ⟨rbool (by rw [← Hv.out]; simp [shownB, Hg.out]; try omega), by go_grown⟩
  · have Hg := Lib.hid (Bool.not_eq_true _ ▸ hg)
    clear hg
    go_enter Try.func72, Try.ntmps72
    go_wp2_with fail
    refine (spec_foDefinite a b c false _ Hg.out).mono ?_
    rintro e w1 ⟨rfl, hb1⟩
    have hB1 : Below w.heap.size w w1 := Below.after (by go_grown) hb1
    obtain ⟨hc1, hf1⟩ := bcell hb1
    have hy1 := hb1.size
    try simp at hy1
    first | (with_reducible have hx1 := Nat.lt_of_succ_le hy1) | skip
    first | (with_reducible have hv1 := Nat.lt_of_succ_lt hx1) | skip
    first | (with_reducible have hu1 := Nat.lt_of_succ_lt hv1) | skip
    first | (have hz1 : w.heap.size < w1.heap.size := by omega) | (have hz1 := hB1.size)
    clear hb1
    go_wp2_with fail
    go_ret
    exact ⟨rbool (by rw [← Hv.out]; simp [shownB, Hg.out]), by go_grown⟩
theorem impl_isShownForm (a b c : Int) (v : Bool) (w : World) (hv : shownB a b c = v) :
    Calls Try.prog 84 #[.agg #[.int .i64 a, .int .i64 b, .int .i64 c]] w fun e w' => e = .returned (.bool v) ∧ Below w.heap.size w w' := by
  have Hv := Lib.hid hv
  clear hv
  by_cases hg : definB a b c = true
  · have Hg := Lib.hid hg
    clear hg
    go_enter Try.func84, Try.ntmps84
    go_wp2_with fail
    refine (impl_isDefinite a b c true _ Hg.out).mono ?_
    rintro e w1 ⟨rfl, hb1⟩
    have hB1 : Below w.heap.size w w1 := Below.after (by go_grown) hb1
    obtain ⟨hc1, hf1⟩ := bcell hb1
    have hy1 := hb1.size
    try simp at hy1
    first | (with_reducible have hx1 := Nat.lt_of_succ_le hy1) | skip
    first | (with_reducible have hv1 := Nat.lt_of_succ_lt hx1) | skip
    first | (with_reducible have hu1 := Nat.lt_of_succ_lt hv1) | skip
    first | (have hz1 : w.heap.size < w1.heap.size := by omega) | (have hz1 := hB1.size)
    clear hb1
    go_wp2_with fail
    refine (impl_disc a b c _ (definB_good Hg.out)).mono ?_
    rintro e w2 ⟨rfl, hb2⟩
    have hB2 : Below w.heap.size w w2 := Below.after (by go_grown) hb2
    obtain ⟨hc2, hf2⟩ := bcell hb2
    have hy2 := hb2.size
    try simp at hy2
    first | (with_reducible have hx2 := Nat.lt_of_succ_le hy2) | skip
    first | (with_reducible have hv2 := Nat.lt_of_succ_lt hx2) | skip
    first | (with_reducible have hu2 := Nat.lt_of_succ_lt hv2) | skip
    first | (have hz2 : w.heap.size < w2.heap.size := by omega) | (have hz2 := hB2.size)
    first | (have hq2 : w1.heap.size ≤ w2.heap.size := by omega) | skip
    first | (have hx1_2 := Nat.lt_of_lt_of_le hx1 hq2) | skip
    first | (have hv1_2 := Nat.lt_of_lt_of_le hv1 hq2) | skip
    first | (have hu1_2 := Nat.lt_of_lt_of_le hu1 hq2) | skip
    clear hb2
    go_wp2_with fail
    all_goals (try go_ret)
    all_goals exact ⟨rbool (by rw [← Hv.out]; simp [shownB, Hg.out]; try omega), by go_grown⟩
  · have Hg := Lib.hid (Bool.not_eq_true _ ▸ hg)
    clear hg
    go_enter Try.func84, Try.ntmps84
    go_wp2_with fail
    refine (impl_isDefinite a b c false _ Hg.out).mono ?_
    rintro e w1 ⟨rfl, hb1⟩
    have hB1 : Below w.heap.size w w1 := Below.after (by go_grown) hb1
    obtain ⟨hc1, hf1⟩ := bcell hb1
    have hy1 := hb1.size
    try simp at hy1
    first | (with_reducible have hx1 := Nat.lt_of_succ_le hy1) | skip
    first | (with_reducible have hv1 := Nat.lt_of_succ_lt hx1) | skip
    first | (with_reducible have hu1 := Nat.lt_of_succ_lt hv1) | skip
    first | (have hz1 : w.heap.size < w1.heap.size := by omega) | (have hz1 := hB1.size)
    clear hb1
    go_wp2_with fail
    go_ret
    exact ⟨rbool (by rw [← Hv.out]; simp [shownB, Hg.out]), by go_grown⟩

/-! discriminants -/
theorem impl_isNegativeDisc (d : Int) (v : Bool) (w : World) (hv : negD d = v) :
    Calls Try.prog 79 #[.int .i64 d] w fun e w' => e = .returned (.bool v) ∧ w = w' := by
  have Hv := Lib.hid hv
  clear hv
  go_enter Try.func79, Try.ntmps79
  go_wp2_with (go_at_call 120; refine (impl_mod _ _ _ (by omega) (by omega)).mono ?_; rintro e w' ⟨rfl, rfl⟩)
  all_goals (try go_ret)
  all_goals exact ⟨rbool (by rw [← Hv.out, Bool.eq_iff_iff]; simp [negD]; try omega), rfl⟩
theorem spec_reDisc (d : Int) (v : Bool) (w : World) (hv : negD d = v) :
    Calls Try.prog 75 #[.int .i64 d] w fun e w' => e = .returned (.bool v) ∧ w = w' := by
  have Hv := Lib.hid hv
  clear hv
  by_cases h : -2000 ≤ d ∧ d ≤ -3
  · have hd : (decide (-2000 ≤ d) && decide (d ≤ -3)) = true := by simpa using h
    have Hd := Lib.hid hd
    clear hd
    go_enter Try.func75, Try.ntmps75
    go_wp2_with fail
    refine (spec_l1In _ _ _ true _ Hd.out).mono ?_
    rintro e w' ⟨rfl, rfl⟩
    go_wp2_with fail
    refine (spec_nuMod _ _ _ (by omega) (by omega)).mono ?_
    rintro e w' ⟨rfl, rfl⟩
    go_wp2_with fail
    all_goals (try go_ret)
    all_goals exact ⟨rbool (by rw [← Hv.out, Bool.eq_iff_iff]; simp [negD]; try omega), rfl⟩
  · have hd : (decide (-2000 ≤ d) && decide (d ≤ -3)) = false := by rw [← Bool.not_eq_true]; simpa using h
    have Hd := Lib.hid hd
    have Hh := Lib.hid h
    clear hd h
    go_enter Try.func75, Try.ntmps75
    go_wp2_with fail
    refine (spec_l1In _ _ _ false _ Hd.out).mono ?_
    rintro e w' ⟨rfl, rfl⟩
    go_wp2_with fail
    go_ret
    exact ⟨rbool (by have := Hh.out; rw [← Hv.out, Bool.eq_iff_iff]; simp [negD]; omega), rfl⟩
end Go.Proofs.Ytiblpagbloflhaa
