/- Contracts: forms, matrices, discriminants. -/
import Derived.Test.YtdonpiihjoihcaaB
namespace Go.Proofs.Ytdonpiihjoihcaa
set_option linter.unusedVariables false
open Go.ChangeShapes Go.WideShapes Go.ChangeAt Go.RowKit

theorem wf_bd {a : Int} (h : (Lit.int .i64 a).wf = true) : -9223372036854775808 ≤ a ∧ a ≤ 9223372036854775807 := by
  have := bounds_i64 h; omega

theorem spec_foGood (a b c : Int) (v : Bool) (w : World) (hv : good3 a b c = v) :
    Calls Try.prog 127 #[.agg #[.int .i64 a, .int .i64 b, .int .i64 c]] w fun e w' => e = .returned (.bool v) ∧ Below w.heap.size w w' := by
  have Hv := Lib.hid hv
  clear hv
  go_enter Try.func127, Try.ntmps127
  go_wp2_with (go_at_call 96; refine (spec_nuGood _ _ _ rfl).mono ?_; rintro e w' ⟨rfl, rfl⟩)
  all_goals (try go_ret)
  all_goals exact ⟨rbool (by rw [← Hv.out]; simp_all [good3]), by go_grown⟩
theorem impl_IsForm (a b c : Int) (v : Bool) (w : World) (hv : good3 a b c = v) :
    Calls Try.prog 80 #[.agg #[.int .i64 a, .int .i64 b, .int .i64 c]] w fun e w' => e = .returned (.bool v) ∧ Below w.heap.size w w' := by
  have Hv := Lib.hid hv
  clear hv
  go_enter Try.func80, Try.ntmps80
  go_wp2_with fail
  refine (are3 a b c _ _ v _ Hv.out (by simp) (by simp) (by simp)).mono ?_
  rintro e w' ⟨rfl, rfl⟩
  go_wp2
  go_ret
  exact ⟨rfl, by go_grown⟩
theorem spec_foDisc (a b c : Int) (w : World) (h : good3 a b c = true) :
    Calls Try.prog 60 #[.agg #[.int .i64 a, .int .i64 b, .int .i64 c]] w fun e w' => e = .returned (.int .i64 (disc a b c)) ∧ Below w.heap.size w w' := by
  obtain ⟨⟨b1, b2⟩, ⟨m1, m2⟩, _⟩ := disc_bd h
  obtain ⟨⟨a1, a2⟩, ⟨b3, b4⟩, ⟨c1, c2⟩⟩ := good3_iff.1 h
  clear h
  go_enter Try.func60, Try.ntmps60
  go_wp2
  go_ret
  exact ⟨rint rfl, by go_grown⟩
theorem impl_disc (a b c : Int) (w : World) (h : good3 a b c = true) :
    Calls Try.prog 66 #[.agg #[.int .i64 a, .int .i64 b, .int .i64 c]] w fun e w' => e = .returned (.int .i64 (disc a b c)) ∧ Below w.heap.size w w' := by
  obtain ⟨⟨b1, b2⟩, ⟨m1, m2⟩, _⟩ := disc_bd h
  obtain ⟨⟨a1, a2⟩, ⟨b3, b4⟩, ⟨c1, c2⟩⟩ := good3_iff.1 h
  clear h
  go_enter Try.func66, Try.ntmps66
  go_wp2
  go_ret
  exact ⟨rint rfl, by go_grown⟩
theorem spec_foContent (a b c : Int) (w : World) (h : good3 a b c = true) :
    Calls Try.prog 95 #[.agg #[.int .i64 a, .int .i64 b, .int .i64 c]] w fun e w' => e = .returned (.int .i64 (content a b c)) ∧ Below w.heap.size w w' := by
  obtain ⟨⟨a1, a2⟩, ⟨b3, b4⟩, ⟨c1, c2⟩⟩ := good3_iff.1 h
  clear h
  obtain ⟨g1, g2⟩ := gcd_bd (a := a) (b := b) (B := 1000000) ⟨a1, a2⟩ ⟨b3, b4⟩
  go_enter Try.func95, Try.ntmps95
  go_wp2_with fail
  go_quiet ((go_at_call 128; refine Calls.quiet_of (spec_nuGcd_q _ _ _ ?_ ?_) <;> omega))
  go_wp2_with fail
  go_ret
  exact ⟨rint rfl, below_drewN (by go_grown) _⟩
theorem impl_content (a b c : Int) (w : World) (h : good3 a b c = true) :
    Calls Try.prog 99 #[.agg #[.int .i64 a, .int .i64 b, .int .i64 c]] w fun e w' => e = .returned (.int .i64 (content a b c)) ∧ Below w.heap.size w w' := by
  obtain ⟨⟨a1, a2⟩, ⟨b3, b4⟩, ⟨c1, c2⟩⟩ := good3_iff.1 h
  clear h
  obtain ⟨g1, g2⟩ := gcd_bd (a := b) (b := c) (B := 1000000) ⟨b3, b4⟩ ⟨c1, c2⟩
  go_enter Try.func99, Try.ntmps99
  go_wp2_with fail
  go_quiet ((go_at_call 129; refine Calls.quiet_of (impl_gcd_q _ _ _ ?_ ?_) <;> omega))
  go_wp2_with fail
  go_ret
  exact ⟨rint (content_eq a b c), below_drewN (by go_grown) _⟩

/-! discriminants -/
theorem impl_isPositiveDisc (d : Int) (v : Bool) (w : World) (hv : posD d = v) :
    Calls Try.prog 72 #[.int .i64 d] w fun e w' => e = .returned (.bool v) ∧ w = w' := by
  have Hv := Lib.hid hv
  clear hv
  go_enter Try.func72, Try.ntmps72
  go_wp2_with (first | (go_at_call 115; refine (impl_mod _ _ _ (by omega) (by omega)).mono ?_; rintro e w' ⟨rfl, rfl⟩) | (go_at_call 84; refine (impl_isSquare _ _ _ (by omega) rfl).mono ?_; rintro e w' ⟨rfl, rfl⟩))
  all_goals (try go_ret)
  all_goals exact ⟨rbool (by rw [← Hv.out, Bool.eq_iff_iff]; simp_all [posD]; try omega), rfl⟩
theorem spec_cyDisc (d : Int) (v : Bool) (w : World) (hv : posD d = v) :
    Calls Try.prog 74 #[.int .i64 d] w fun e w' => e = .returned (.bool v) ∧ w = w' := by
  have Hv := Lib.hid hv
  clear hv
  by_cases h : 5 ≤ d ∧ d ≤ 1000
  · have hd : (decide (5 ≤ d) && decide (d ≤ 1000)) = true := by simpa using h
    have Hd := Lib.hid hd
    obtain ⟨h1, h2⟩ := h
    clear hd
    go_enter Try.func74, Try.ntmps74
    go_wp2_with fail
    refine (spec_l1In _ _ _ true _ Hd.out).mono ?_
    rintro e w' ⟨rfl, rfl⟩
    go_wp2_with (first | (go_at_call 116; refine (spec_nuMod _ _ _ (by omega) (by omega)).mono ?_; rintro e w' ⟨rfl, rfl⟩) | (go_at_call 83; refine (spec_nuSquare _ _ _ (by omega) rfl).mono ?_; rintro e w' ⟨rfl, rfl⟩))
    all_goals (try go_ret)
    all_goals exact ⟨rbool (by rw [← Hv.out, Bool.eq_iff_iff]; simp_all [posD]; try omega), rfl⟩
  · have hd : (decide (5 ≤ d) && decide (d ≤ 1000)) = false := by rw [← Bool.not_eq_true]; simpa using h
    have Hd := Lib.hid hd
    have Hh := Lib.hid h
    clear hd h
    go_enter Try.func74, Try.ntmps74
    go_wp2_with fail
    refine (spec_l1In _ _ _ false _ Hd.out).mono ?_
    rintro e w' ⟨rfl, rfl⟩
    go_wp2_with fail
    go_ret
    exact ⟨rbool (by have := Hh.out; rw [← Hv.out, Bool.eq_iff_iff]; simp [posD]; omega), rfl⟩
theorem spec_diIs (d : Int) (v : Bool) (w : World) (hv : discB d = v) :
    Calls Try.prog 122 #[.int .i64 d] w fun e w' => e = .returned (.bool v) ∧ w = w' := by
  have Hv := Lib.hid hv
  clear hv
  by_cases hg : good d = true
  · obtain ⟨h1, h2⟩ := good_iff.1 hg
    have Hg := Lib.hid hg
    clear hg
    go_enter Try.func122, Try.ntmps122
    go_wp2_with fail
    refine (spec_nuGood _ true _ Hg.out).mono ?_
    rintro e w' ⟨rfl, rfl⟩
    go_wp2_with (first | (go_at_call 116; refine (spec_nuMod _ _ _ (by omega) (by omega)).mono ?_; rintro e w' ⟨rfl, rfl⟩) | (go_at_call 83; refine (spec_nuSquare _ _ _ (by omega) rfl).mono ?_; rintro e w' ⟨rfl, rfl⟩))
    all_goals (try go_ret)
    all_goals exact ⟨rbool (by rw [← Hv.out, Bool.eq_iff_iff]; simp_all [discB, Hg.out]; try omega), rfl⟩
  · have Hg := Lib.hid (Bool.not_eq_true _ ▸ hg)
    clear hg
    go_enter Try.func122, Try.ntmps122
    go_wp2_with fail
    refine (spec_nuGood _ false _ Hg.out).mono ?_
    rintro e w' ⟨rfl, rfl⟩
    go_wp2_with fail
    go_ret
    exact ⟨rbool (by rw [← Hv.out]; simp [discB, Hg.out]), rfl⟩
theorem spec_cyGood (a b c : Int) (v : Bool) (w : World) (hv : indefB a b c = v) :
    Calls Try.prog 94 #[.agg #[.int .i64 a, .int .i64 b, .int .i64 c]] w fun e w' => e = .returned (.bool v) ∧ Below w.heap.size w w' := by
  have Hv := Lib.hid hv
  clear hv
  by_cases hg : good3 a b c = true
  · have Hg := Lib.hid hg
    clear hg
    go_enter Try.func94, Try.ntmps94
    go_wp2_with fail
    refine (spec_foGood a b c true _ Hg.out).mono ?_
    rintro e w1 ⟨rfl, hb1⟩
    have hB1 : Below w.heap.size w w1 := Below.after (by go_grown) hb1
    obtain ⟨hc1, hf1⟩ := bcell hb1
    have hy1 := hb1.size
    try simp at hy1
    first | (with_reducible have hx1 := Nat.lt_of_succ_le hy1) | skip
    first | (with_reducible have hv1 := Nat.lt_of_succ_lt hx1) | skip
    first | (with_reducible have hu1 := Nat.lt_of_succ_lt hv1) | skip
    first | (have hz1 : w.heap.size < w1.heap.size := by omega) | (have hz1 := hB1.size)
    clear hb1
    go_wp2_with fail
    refine (spec_foDisc a b c _ Hg.out).mono ?_
    rintro e w2 ⟨rfl, hb2⟩
    have hB2 : Below w.heap.size w w2 := Below.after (by go_grown) hb2
    obtain ⟨hc2, hf2⟩ := bcell hb2
    have hy2 := hb2.size
    try simp at hy2
    first | (with_reducible have hx2 := Nat.lt_of_succ_le hy2) | skip
    first | (with_reducible have hv2 := Nat.lt_of_succ_lt hx2) | skip
    first | (with_reducible have hu2 := Nat.lt_of_succ_lt hv2) | skip
    first | (have hz2 : w.heap.size < w2.heap.size := by omega) | (have hz2 := hB2.size)
    first | (have hq2 : w1.heap.size ≤ w2.heap.size := by omega) | skip
    first | (have hx1_2 := Nat.lt_of_lt_of_le hx1 hq2) | skip
    first | (have hv1_2 := Nat.lt_of_lt_of_le hv1 hq2) | skip
    first | (have hu1_2 := Nat.lt_of_lt_of_le hu1 hq2) | skip
    clear hb2
    go_wp2_with fail
    refine (spec_cyDisc _ _ _ rfl).mono ?_
    rintro e w' ⟨rfl, rfl⟩
    go_wp2_with fail
    all_goals (try go_ret)
    all_goals exact ⟨rbool (by rw [← Hv.out]; simp [indefB, Hg.out]), by go_grown⟩
  · have Hg := Lib.hid (Bool.not_eq_true _ ▸ hg)
    clear hg
    go_enter Try.func94, Try.ntmps94
    go_wp2_with fail
    refine (spec_foGood a b c false _ Hg.out).mono ?_
    rintro e w1 ⟨rfl, hb1⟩
    have hB1 : Below w.heap.size w w1 := Below.after (by go_grown) hb1
    obtain ⟨hc1, hf1⟩ := bcell hb1
    have hy1 := hb1.size
    try simp at hy1
    first | (with_reducible have hx1 := Nat.lt_of_succ_le hy1) | skip
    first | (with_reducible have hv1 := Nat.lt_of_succ_lt hx1) | skip
    first | (with_reducible have hu1 := Nat.lt_of_succ_lt hv1) | skip
    first | (have hz1 : w.heap.size < w1.heap.size := by omega) | (have hz1 := hB1.size)
    clear hb1
    go_wp2_with fail
    go_ret
    exact ⟨rbool (by rw [← Hv.out]; simp [indefB, Hg.out]), by go_grown⟩
theorem impl_isIndefinite (a b c : Int) (v : Bool) (w : World) (hv : indefB a b c = v) :
    Calls Try.prog 78 #[.agg #[.int .i64 a, .int .i64 b, .int .i64 c]] w fun e w' => e = .returned (.bool v) ∧ Below w.heap.size w w' := by
  have Hv := Lib.hid hv
  clear hv
  by_cases hg : good3 a b c = true
  · have Hg := Lib.hid hg
    clear hg
    go_enter Try.func78, Try.ntmps78
    go_wp2_with fail
    refine (impl_IsForm a b c true _ Hg.out).mono ?_
    rintro e w1 ⟨rfl, hb1⟩
    have hB1 : Below w.heap.size w w1 := Below.after (by go_grown) hb1
    obtain ⟨hc1, hf1⟩ := bcell hb1
    have hy1 := hb1.size
    try simp at hy1
    first | (with_reducible have hx1 := Nat.lt_of_succ_le hy1) | skip
    first | (with_reducible have hv1 := Nat.lt_of_succ_lt hx1) | skip
    first | (with_reducible have hu1 := Nat.lt_of_succ_lt hv1) | skip
    first | (have hz1 : w.heap.size < w1.heap.size := by omega) | (have hz1 := hB1.size)
    clear hb1
    go_wp2_with fail
    refine (impl_disc a b c _ Hg.out).mono ?_
    rintro e w2 ⟨rfl, hb2⟩
    have hB2 : Below w.heap.size w w2 := Below.after (by go_grown) hb2
    obtain ⟨hc2, hf2⟩ := bcell hb2
    have hy2 := hb2.size
    try simp at hy2
    first | (with_reducible have hx2 := Nat.lt_of_succ_le hy2) | skip
    first | (with_reducible have hv2 := Nat.lt_of_succ_lt hx2) | skip
    first | (with_reducible have hu2 := Nat.lt_of_succ_lt hv2) | skip
    first | (have hz2 : w.heap.size < w2.heap.size := by omega) | (have hz2 := hB2.size)
    first | (have hq2 : w1.heap.size ≤ w2.heap.size := by omega) | skip
    first | (have hx1_2 := Nat.lt_of_lt_of_le hx1 hq2) | skip
    first | (have hv1_2 := Nat.lt_of_lt_of_le hv1 hq2) | skip
    first | (have hu1_2 := Nat.lt_of_lt_of_le hu1 hq2) | skip
    clear hb2
    go_wp2_with fail
    refine (impl_isPositiveDisc _ _ _ rfl).mono ?_
    rintro e w' ⟨rfl, rfl⟩
    go_wp2_with fail
    all_goals (try go_ret)
    all_goals exact ⟨rbool (by rw [← Hv.out]; simp [indefB, Hg.out]), by go_grown⟩
  · have Hg := Lib.hid (Bool.not_eq_true _ ▸ hg)
    clear hg
    go_enter Try.func78, Try.ntmps78
    go_wp2_with fail
    refine (impl_IsForm a b c false _ Hg.out).mono ?_
    rintro e w1 ⟨rfl, hb1⟩
    have hB1 : Below w.heap.size w w1 := Below.after (by go_grown) hb1
    obtain ⟨hc1, hf1⟩ := bcell hb1
    have hy1 := hb1.size
    try simp at hy1
    first | (with_reducible have hx1 := Nat.lt_of_succ_le hy1) | skip
    first | (with_reducible have hv1 := Nat.lt_of_succ_lt hx1) | skip
    first | (with_reducible have hu1 := Nat.lt_of_succ_lt hv1) | skip
    first | (have hz1 : w.heap.size < w1.heap.size := by omega) | (have hz1 := hB1.size)
    clear hb1
    go_wp2_with fail
    go_ret
    exact ⟨rbool (by rw [← Hv.out]; simp [indefB, Hg.out]), by go_grown⟩
end Go.Proofs.Ytdonpiihjoihcaa
