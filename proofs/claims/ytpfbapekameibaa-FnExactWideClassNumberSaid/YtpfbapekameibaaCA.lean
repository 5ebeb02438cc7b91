/- Contracts: whether an indefinite form is cyclic, its neighbour with the matrix. -/
import Derived.Test.YtpfbapekameibaaCZ
import Derived.Test.YtpfbapekameibaaRB
import Derived.Test.YtpfbapekameibaaD
namespace Go.Proofs.Ytpfbapekameibaa
set_option linter.unusedVariables false
open Go.ChangeShapes Go.WideShapes Go.ChangeAt Go.RowKit

theorem indefB_good {a b c : Int} (h : indefB a b c = true) : good3 a b c = true := (indefB_iff.1 h).1
/-- the bounds that a walk wants -/
theorem indef_bds {a b c : Int} (h : indefB a b c = true) : (-1000000 ≤ a ∧ a ≤ 1000000) ∧ (-1000000 ≤ b ∧ b ≤ 1000000) ∧ (-1000000 ≤ c ∧ c ≤ 1000000) ∧ (5 ≤ disc a b c ∧ disc a b c ≤ 1000) ∧ (2 ≤ isq (disc a b c) ∧ isq (disc a b c) ≤ 31) := by
  obtain ⟨h1, h2⟩ := indefB_iff.1 h
  obtain ⟨a1, a2, a3⟩ := good3_iff.1 h1
  have := root_pos h2
  omega
theorem cyc_parts (a b c : Int) (v : Bool) (h : cycB a b c = v) : (decide (0 < b) && decide (b ≤ isq (disc a b c)) && decide (isq (disc a b c) - b < 2 * (a.natAbs : Int)) && decide (2 * (a.natAbs : Int) ≤ isq (disc a b c) + b)) = v := h
theorem spec_cyIs (a b c : Int) (v : Bool) (w : World) (h : indefB a b c = true) (hv : cycB a b c = v) :
    Calls Try.prog 49 #[.agg #[.int .i64 a, .int .i64 b, .int .i64 c]] w fun e w' => e = .returned (.bool v) ∧ Below w.heap.size w w' := by
  obtain ⟨⟨a1, a2⟩, ⟨b1, b2⟩, ⟨c1, c2⟩, ⟨d1, d2⟩, ⟨r1, r2⟩⟩ := indef_bds h
  have hv2 := cyc_parts a b c v hv
  have H := Lib.hid h
  clear h
  have Hv := Lib.hid hv2
  clear hv2
  clear hv
  by_cases h1 : 0 < b
  · by_cases h2 : b ≤ isq (disc a b c)
    · by_cases h3 : isq (disc a b c) - b < 2 * (a.natAbs : Int)
      · go_enter Try.func49, Try.ntmps49
        go_wp2_with fail
        refine (spec_foDisc a b c _ (indefB_good H.out)).mono ?_
        rintro e w1 ⟨rfl, hb1⟩
        have hB1 : Below w.heap.size w w1 := Below.after (by go_grown) hb1
        obtain ⟨hc1, hf1⟩ := bcell hb1
        have hy1 := hb1.size
        try simp at hy1
        first | (with_reducible have hx1 := Nat.lt_of_succ_le hy1) | skip
        first | (with_reducible have hv1 := Nat.lt_of_succ_lt hx1) | skip
        first | (with_reducible have hu1 := Nat.lt_of_succ_lt hv1) | skip
        first | (have hz1 : w.heap.size < w1.heap.size := by omega) | (have hz1 := hB1.size)
        clear hb1
        go_wp2_with fail
        refine (spec_nuRoot _ _ (by omega) (by omega)).mono ?_
        rintro e w' ⟨rfl, rfl⟩
        go_wp2_with fail
        refine (spec_l1Abs _ _ (by omega) (by omega)).mono ?_
        rintro e w' ⟨rfl, rfl⟩
        go_wp2_with fail
        skip
        go_wp2_with fail
        all_goals (try go_ret)
        all_goals exact ⟨rbool (by rw [← Hv.out, Bool.eq_iff_iff]; simp; try omega), by first | exact below_drewN (by go_grown) _ | go_grown⟩
      · have e3 : decide (isq (disc a b c) - b < 2 * (a.natAbs : Int)) = false := by simpa using h3
        have hn := Lib.hid h3
        clear h3
        go_enter Try.func49, Try.ntmps49
        go_wp2_with fail
        refine (spec_foDisc a b c _ (indefB_good H.out)).mono ?_
        rintro e w1 ⟨rfl, hb1⟩
        have hB1 : Below w.heap.size w w1 := Below.after (by go_grown) hb1
        obtain ⟨hc1, hf1⟩ := bcell hb1
        have hy1 := hb1.size
        try simp at hy1
        first | (with_reducible have hx1 := Nat.lt_of_succ_le hy1) | skip
        first | (with_reducible have hv1 := Nat.lt_of_succ_lt hx1) | skip
        first | (with_reducible have hu1 := Nat.lt_of_succ_lt hv1) | skip
        first | (have hz1 : w.heap.size < w1.heap.size := by omega) | (have hz1 := hB1.size)
        clear hb1
        go_wp2_with fail
        refine (spec_nuRoot _ _ (by omega) (by omega)).mono ?_
        rintro e w' ⟨rfl, rfl⟩
        go_wp2_with fail
        refine (spec_l1Abs _ _ (by omega) (by omega)).mono ?_
        rintro e w' ⟨rfl, rfl⟩
        go_wp2_with fail
        skip
        go_wp2_with fail
        all_goals (try go_ret)
        all_goals exact ⟨rbool (by have := hn.out; rw [← Hv.out, Bool.eq_iff_iff]; simp; try omega), by first | exact below_drewN (by go_grown) _ | go_grown⟩
    · have e2 : decide (b ≤ isq (disc a b c)) = false := by simpa using h2
      have hn := Lib.hid h2
      clear h2
      go_enter Try.func49, Try.ntmps49
      go_wp2_with fail
      refine (spec_foDisc a b c _ (indefB_good H.out)).mono ?_
      rintro e w1 ⟨rfl, hb1⟩
      have hB1 : Below w.heap.size w w1 := Below.after (by go_grown) hb1
      obtain ⟨hc1, hf1⟩ := bcell hb1
      have hy1 := hb1.size
      try simp at hy1
      first | (with_reducible have hx1 := Nat.lt_of_succ_le hy1) | skip
      first | (with_reducible have hv1 := Nat.lt_of_succ_lt hx1) | skip
      first | (with_reducible have hu1 := Nat.lt_of_succ_lt hv1) | skip
      first | (have hz1 : w.heap.size < w1.heap.size := by omega) | (have hz1 := hB1.size)
      clear hb1
      go_wp2_with fail
      refine (spec_nuRoot _ _ (by omega) (by omega)).mono ?_
      rintro e w' ⟨rfl, rfl⟩
      go_wp2_with fail
      refine (spec_l1Abs _ _ (by omega) (by omega)).mono ?_
      rintro e w' ⟨rfl, rfl⟩
      go_wp2_with fail
      skip
      go_wp2_with fail
      all_goals (try go_ret)
      all_goals exact ⟨rbool (by have := hn.out; rw [← Hv.out, Bool.eq_iff_iff]; simp; try omega), by first | exact below_drewN (by go_grown) _ | go_grown⟩
  · have e1 : decide (0 < b) = false := by simpa using h1
    have hn := Lib.hid h1
    clear h1
    go_enter Try.func49, Try.ntmps49
    go_wp2_with fail
    refine (spec_foDisc a b c _ (indefB_good H.out)).mono ?_
    rintro e w1 ⟨rfl, hb1⟩
    have hB1 : Below w.heap.size w w1 := Below.after (by go_grown) hb1
    obtain ⟨hc1, hf1⟩ := bcell hb1
    have hy1 := hb1.size
    try simp at hy1
    first | (with_reducible have hx1 := Nat.lt_of_succ_le hy1) | skip
    first | (with_reducible have hv1 := Nat.lt_of_succ_lt hx1) | skip
    first | (with_reducible have hu1 := Nat.lt_of_succ_lt hv1) | skip
    first | (have hz1 : w.heap.size < w1.heap.size := by omega) | (have hz1 := hB1.size)
    clear hb1
    go_wp2_with fail
    refine (spec_nuRoot _ _ (by omega) (by omega)).mono ?_
    rintro e w' ⟨rfl, rfl⟩
    go_wp2_with fail
    refine (spec_l1Abs _ _ (by omega) (by omega)).mono ?_
    rintro e w' ⟨rfl, rfl⟩
    go_wp2_with fail
    skip
    go_wp2_with fail
    all_goals (try go_ret)
    all_goals exact ⟨rbool (by have := hn.out; rw [← Hv.out, Bool.eq_iff_iff]; simp; try omega), by first | exact below_drewN (by go_grown) _ | go_grown⟩
theorem impl_isCyclic (a b c : Int) (v : Bool) (w : World) (h : indefB a b c = true) (hv : cycB a b c = v) :
    Calls Try.prog 51 #[.agg #[.int .i64 a, .int .i64 b, .int .i64 c]] w fun e w' => e = .returned (.bool v) ∧ Below w.heap.size w w' := by
  obtain ⟨⟨a1, a2⟩, ⟨b1, b2⟩, ⟨c1, c2⟩, ⟨d1, d2⟩, ⟨r1, r2⟩⟩ := indef_bds h
  have hv2 := cyc_parts a b c v hv
  have H := Lib.hid h
  clear h
  have Hv := Lib.hid hv2
  clear hv2
  clear hv
  by_cases h1 : 0 < b
  · by_cases h2 : b ≤ isq (disc a b c)
    · by_cases h3 : isq (disc a b c) - b < 2 * (a.natAbs : Int)
      · go_enter Try.func51, Try.ntmps51
        go_wp2_with fail
        refine (impl_disc a b c _ (indefB_good H.out)).mono ?_
        rintro e w1 ⟨rfl, hb1⟩
        have hB1 : Below w.heap.size w w1 := Below.after (by go_grown) hb1
        obtain ⟨hc1, hf1⟩ := bcell hb1
        have hy1 := hb1.size
        try simp at hy1
        first | (with_reducible have hx1 := Nat.lt_of_succ_le hy1) | skip
        first | (with_reducible have hv1 := Nat.lt_of_succ_lt hx1) | skip
        first | (with_reducible have hu1 := Nat.lt_of_succ_lt hv1) | skip
        first | (have hz1 : w.heap.size < w1.heap.size := by omega) | (have hz1 := hB1.size)
        clear hb1
        go_wp2_with fail
        refine (impl_root _ _ (by omega) (by omega)).mono ?_
        rintro e w' ⟨rfl, rfl⟩
        go_wp2_with fail
        go_quiet ((go_at_call 83; refine Calls.quiet_of_same (same (impl_abs _ _ (by omega) (by omega)))))
        go_wp2_with fail
        all_goals (try go_ret)
        all_goals exact ⟨rbool (by rw [← Hv.out, Bool.eq_iff_iff]; simp; try omega), by first | exact below_drewN (by go_grown) _ | go_grown⟩
      · have e3 : decide (isq (disc a b c) - b < 2 * (a.natAbs : Int)) = false := by simpa using h3
        have hn := Lib.hid h3
        clear h3
        go_enter Try.func51, Try.ntmps51
        go_wp2_with fail
        refine (impl_disc a b c _ (indefB_good H.out)).mono ?_
        rintro e w1 ⟨rfl, hb1⟩
        have hB1 : Below w.heap.size w w1 := Below.after (by go_grown) hb1
        obtain ⟨hc1, hf1⟩ := bcell hb1
        have hy1 := hb1.size
        try simp at hy1
        first | (with_reducible have hx1 := Nat.lt_of_succ_le hy1) | skip
        first | (with_reducible have hv1 := Nat.lt_of_succ_lt hx1) | skip
        first | (with_reducible have hu1 := Nat.lt_of_succ_lt hv1) | skip
        first | (have hz1 : w.heap.size < w1.heap.size := by omega) | (have hz1 := hB1.size)
        clear hb1
        go_wp2_with fail
        refine (impl_root _ _ (by omega) (by omega)).mono ?_
        rintro e w' ⟨rfl, rfl⟩
        go_wp2_with fail
        go_quiet ((go_at_call 83; refine Calls.quiet_of_same (same (impl_abs _ _ (by omega) (by omega)))))
        go_wp2_with fail
        all_goals (try go_ret)
        all_goals exact ⟨rbool (by have := hn.out; rw [← Hv.out, Bool.eq_iff_iff]; simp; try omega), by first | exact below_drewN (by go_grown) _ | go_grown⟩
    · have e2 : decide (b ≤ isq (disc a b c)) = false := by simpa using h2
      have hn := Lib.hid h2
      clear h2
      go_enter Try.func51, Try.ntmps51
      go_wp2_with fail
      refine (impl_disc a b c _ (indefB_good H.out)).mono ?_
      rintro e w1 ⟨rfl, hb1⟩
      have hB1 : Below w.heap.size w w1 := Below.after (by go_grown) hb1
      obtain ⟨hc1, hf1⟩ := bcell hb1
      have hy1 := hb1.size
      try simp at hy1
      first | (with_reducible have hx1 := Nat.lt_of_succ_le hy1) | skip
      first | (with_reducible have hv1 := Nat.lt_of_succ_lt hx1) | skip
      first | (with_reducible have hu1 := Nat.lt_of_succ_lt hv1) | skip
      first | (have hz1 : w.heap.size < w1.heap.size := by omega) | (have hz1 := hB1.size)
      clear hb1
      go_wp2_with fail
      refine (impl_root _ _ (by omega) (by omega)).mono ?_
      rintro e w' ⟨rfl, rfl⟩
      go_wp2_with fail
      go_quiet ((go_at_call 83; refine Calls.quiet_of_same (same (impl_abs _ _ (by omega) (by omega)))))
      go_wp2_with fail
      all_goals (try go_ret)
      all_goals exact ⟨rbool (by have := hn.out; rw [← Hv.out, Bool.eq_iff_iff]; simp; try omega), by first | exact below_drewN (by go_grown) _ | go_grown⟩
  · have e1 : decide (0 < b) = false := by simpa using h1
    have hn := Lib.hid h1
    clear h1
    go_enter Try.func51, Try.ntmps51
    go_wp2_with fail
    refine (impl_disc a b c _ (indefB_good H.out)).mono ?_
    rintro e w1 ⟨rfl, hb1⟩
    have hB1 : Below w.heap.size w w1 := Below.after (by go_grown) hb1
    obtain ⟨hc1, hf1⟩ := bcell hb1
    have hy1 := hb1.size
    try simp at hy1
    first | (with_reducible have hx1 := Nat.lt_of_succ_le hy1) | skip
    first | (with_reducible have hv1 := Nat.lt_of_succ_lt hx1) | skip
    first | (with_reducible have hu1 := Nat.lt_of_succ_lt hv1) | skip
    first | (have hz1 : w.heap.size < w1.heap.size := by omega) | (have hz1 := hB1.size)
    clear hb1
    go_wp2_with fail
    refine (impl_root _ _ (by omega) (by omega)).mono ?_
    rintro e w' ⟨rfl, rfl⟩
    go_wp2_with fail
    go_quiet ((go_at_call 83; refine Calls.quiet_of_same (same (impl_abs _ _ (by omega) (by omega)))))
    go_wp2_with fail
    all_goals (try go_ret)
    all_goals exact ⟨rbool (by have := hn.out; rw [← Hv.out, Bool.eq_iff_iff]; simp; try omega), by first | exact below_drewN (by go_grown) _ | go_grown⟩
theorem spec_IsCyclicForm (a b c : Int) (w : World) :
    Calls Try.prog 15 #[.agg #[.int .i64 a, .int .i64 b, .int .i64 c]] w fun e w' => e = .returned (.tuple #[.bool (indefB a b c && cycB a b c), .bool (indefB a b c)]) ∧ Below w.heap.size w w' := by
  by_cases h : indefB a b c = true
  · have H := Lib.hid h
    clear h
    go_enter Try.func15, Try.ntmps15
    go_wp2_with fail
    refine (spec_cyGood a b c true _ H.out).mono ?_
    rintro e w1 ⟨rfl, hb1⟩
    have hB1 : Below w.heap.size w w1 := Below.after (by go_grown) hb1
    obtain ⟨hc1, hf1⟩ := bcell hb1
    have hy1 := hb1.size
    try simp at hy1
    first | (with_reducible have hx1 := Nat.lt_of_succ_le hy1) | skip
    first | (with_reducible have hv1 := Nat.lt_of_succ_lt hx1) | skip
    first | (with_reducible have hu1 := Nat.lt_of_succ_lt hv1) | skip
    first | (have hz1 : w.heap.size < w1.heap.size := by omega) | (have hz1 := hB1.size)
    clear hb1
    go_wp2_with fail
    refine (spec_cyIs a b c _ _ H.out rfl).mono ?_
    rintro e w2 ⟨rfl, hb2⟩
    have hB2 : Below w.heap.size w w2 := Below.after (by go_grown) hb2
    obtain ⟨hc2, hf2⟩ := bcell hb2
    have hy2 := hb2.size
    try simp at hy2
    first | (with_reducible have hx2 := Nat.lt_of_succ_le hy2) | skip
    first | (with_reducible have hv2 := Nat.lt_of_succ_lt hx2) | skip
    first | (with_reducible have hu2 := Nat.lt_of_succ_lt hv2) | skip
    first | (have hz2 : w.heap.size < w2.heap.size := by omega) | (have hz2 := hB2.size)
    first | (have hq2 : w1.heap.size ≤ w2.heap.size := by omega) | skip
    first | (have hx1_2 := Nat.lt_of_lt_of_le hx1 hq2) | skip
    first | (have hv1_2 := Nat.lt_of_lt_of_le hv1 hq2) | skip
    first | (have hu1_2 := Nat.lt_of_lt_of_le hu1 hq2) | skip
    clear hb2
    go_wp2_with fail
    go_ret2
    exact ⟨by rw [H.out]; simp, by go_grown⟩
  · have H := Lib.hid (Bool.not_eq_true _ ▸ h)
    clear h
    go_enter Try.func15, Try.ntmps15
    go_wp2_with fail
    refine (spec_cyGood a b c false _ H.out).mono ?_
    rintro e w1 ⟨rfl, hb1⟩
    have hB1 : Below w.heap.size w w1 := Below.after (by go_grown) hb1
    obtain ⟨hc1, hf1⟩ := bcell hb1
    have hy1 := hb1.size
    try simp at hy1
    first | (with_reducible have hx1 := Nat.lt_of_succ_le hy1) | skip
    first | (with_reducible have hv1 := Nat.lt_of_succ_lt hx1) | skip
    first | (with_reducible have hu1 := Nat.lt_of_succ_lt hv1) | skip
    first | (have hz1 : w.heap.size < w1.heap.size := by omega) | (have hz1 := hB1.size)
    clear hb1
    go_wp2_with fail
    go_ret2
    exact ⟨by rw [H.out]; simp, by go_grown⟩
theorem impl_IsCyclicForm (a b c : Int) (w : World) :
    Calls Try.prog 17 #[.agg #[.int .i64 a, .int .i64 b, .int .i64 c]] w fun e w' => e = .returned (.tuple #[.bool (indefB a b c && cycB a b c), .bool (indefB a b c)]) ∧ Below w.heap.size w w' := by
  by_cases h : indefB a b c = true
  · have H := Lib.hid h
    clear h
    go_enter Try.func17, Try.ntmps17
    go_wp2_with fail
    refine (impl_isIndefinite a b c true _ H.out).mono ?_
    rintro e w1 ⟨rfl, hb1⟩
    have hB1 : Below w.heap.size w w1 := Below.after (by go_grown) hb1
    obtain ⟨hc1, hf1⟩ := bcell hb1
    have hy1 := hb1.size
    try simp at hy1
    first | (with_reducible have hx1 := Nat.lt_of_succ_le hy1) | skip
    first | (with_reducible have hv1 := Nat.lt_of_succ_lt hx1) | skip
    first | (with_reducible have hu1 := Nat.lt_of_succ_lt hv1) | skip
    first | (have hz1 : w.heap.size < w1.heap.size := by omega) | (have hz1 := hB1.size)
    clear hb1
    go_wp2_with fail
    refine (impl_isCyclic a b c _ _ H.out rfl).mono ?_
    rintro e w2 ⟨rfl, hb2⟩
    have hB2 : Below w.heap.size w w2 := Below.after (by go_grown) hb2
    obtain ⟨hc2, hf2⟩ := bcell hb2
    have hy2 := hb2.size
    try simp at hy2
    first | (with_reducible have hx2 := Nat.lt_of_succ_le hy2) | skip
    first | (with_reducible have hv2 := Nat.lt_of_succ_lt hx2) | skip
    first | (with_reducible have hu2 := Nat.lt_of_succ_lt hv2) | skip
    first | (have hz2 : w.heap.size < w2.heap.size := by omega) | (have hz2 := hB2.size)
    first | (have hq2 : w1.heap.size ≤ w2.heap.size := by omega) | skip
    first | (have hx1_2 := Nat.lt_of_lt_of_le hx1 hq2) | skip
    first | (have hv1_2 := Nat.lt_of_lt_of_le hv1 hq2) | skip
    first | (have hu1_2 := Nat.lt_of_lt_of_le hu1 hq2) | skip
    clear hb2
    go_wp2_with fail
    go_ret2
    exact ⟨by rw [H.out]; simp, by go_grown⟩
  · have H := Lib.hid (Bool.not_eq_true _ ▸ h)
    clear h
    go_enter Try.func17, Try.ntmps17
    go_wp2_with fail
    refine (impl_isIndefinite a b c false _ H.out).mono ?_
    rintro e w1 ⟨rfl, hb1⟩
    have hB1 : Below w.heap.size w w1 := Below.after (by go_grown) hb1
    obtain ⟨hc1, hf1⟩ := bcell hb1
    have hy1 := hb1.size
    try simp at hy1
    first | (with_reducible have hx1 := Nat.lt_of_succ_le hy1) | skip
    first | (with_reducible have hv1 := Nat.lt_of_succ_lt hx1) | skip
    first | (with_reducible have hu1 := Nat.lt_of_succ_lt hv1) | skip
    first | (have hz1 : w.heap.size < w1.heap.size := by omega) | (have hz1 := hB1.size)
    clear hb1
    go_wp2_with fail
    go_ret2
    exact ⟨by rw [H.out]; simp, by go_grown⟩
theorem walkIsCyclicForm (a b c : Int) (w : World) (wa : (Lit.int .i64 a).wf = true) (wb : (Lit.int .i64 b).wf = true) (wc : (Lit.int .i64 c).wf = true) :
    Calls Try.prog 3 #[.agg #[.int .i64 a, .int .i64 b, .int .i64 c]] w fun e w' => e = .returned (.bool true) ∧ Below w.heap.size w w' := by
  go_enter Try.func3, Try.ntmps3
  go_wp2_with fail
  refine (laws_toForm a b c _).mono ?_
  rintro e w1 ⟨rfl, hb1⟩
  have hB1 : Below w.heap.size w w1 := Below.after (by go_grown) hb1
  obtain ⟨hc1, hf1⟩ := bcell hb1
  have hy1 := hb1.size
  try simp at hy1
  first | (with_reducible have hx1 := Nat.lt_of_succ_le hy1) | skip
  first | (with_reducible have hv1 := Nat.lt_of_succ_lt hx1) | skip
  first | (with_reducible have hu1 := Nat.lt_of_succ_lt hv1) | skip
  first | (have hz1 : w.heap.size < w1.heap.size := by omega) | (have hz1 := hB1.size)
  clear hb1
  go_wp2_with fail
  refine (spec_IsCyclicForm a b c _).mono ?_
  rintro e w2 ⟨rfl, hb2⟩
  have hB2 : Below w.heap.size w w2 := Below.after (by go_grown) hb2
  obtain ⟨hc2, hf2⟩ := bcell hb2
  have hy2 := hb2.size
  try simp at hy2
  first | (with_reducible have hx2 := Nat.lt_of_succ_le hy2) | skip
  first | (with_reducible have hv2 := Nat.lt_of_succ_lt hx2) | skip
  first | (with_reducible have hu2 := Nat.lt_of_succ_lt hv2) | skip
  first | (have hz2 : w.heap.size < w2.heap.size := by omega) | (have hz2 := hB2.size)
  first | (have hq2 : w1.heap.size ≤ w2.heap.size := by omega) | skip
  first | (have hx1_2 := Nat.lt_of_lt_of_le hx1 hq2) | skip
  first | (have hv1_2 := Nat.lt_of_lt_of_le hv1 hq2) | skip
  first | (have hu1_2 := Nat.lt_of_lt_of_le hu1 hq2) | skip
  clear hb2
  go_wp2_with fail
  refine (laws_toForm a b c _).mono ?_
  rintro e w3 ⟨rfl, hb3⟩
  have hB3 : Below w.heap.size w w3 := Below.after (by go_grown) hb3
  obtain ⟨hc3, hf3⟩ := bcell hb3
  have hy3 := hb3.size
  try simp at hy3
  first | (with_reducible have hx3 := Nat.lt_of_succ_le hy3) | skip
  first | (with_reducible have hv3 := Nat.lt_of_succ_lt hx3) | skip
  first | (with_reducible have hu3 := Nat.lt_of_succ_lt hv3) | skip
  first | (have hz3 : w.heap.size < w3.heap.size := by omega) | (have hz3 := hB3.size)
  first | (have hq3 : w2.heap.size ≤ w3.heap.size := by omega) | skip
  first | (have hx1_3 := Nat.lt_of_lt_of_le hx1_2 hq3) | skip
  first | (have hv1_3 := Nat.lt_of_lt_of_le hv1_2 hq3) | skip
  first | (have hu1_3 := Nat.lt_of_lt_of_le hu1_2 hq3) | skip
  first | (have hx2_3 := Nat.lt_of_lt_of_le hx2 hq3) | skip
  first | (have hv2_3 := Nat.lt_of_lt_of_le hv2 hq3) | skip
  first | (have hu2_3 := Nat.lt_of_lt_of_le hu2 hq3) | skip
  clear hb3
  go_wp2_with fail
  refine (impl_IsCyclicForm a b c _).mono ?_
  rintro e w4 ⟨rfl, hb4⟩
  have hB4 : Below w.heap.size w w4 := Below.after (by go_grown) hb4
  obtain ⟨hc4, hf4⟩ := bcell hb4
  have hy4 := hb4.size
  try simp at hy4
  first | (with_reducible have hx4 := Nat.lt_of_succ_le hy4) | skip
  first | (with_reducible have hv4 := Nat.lt_of_succ_lt hx4) | skip
  first | (with_reducible have hu4 := Nat.lt_of_succ_lt hv4) | skip
  first | (have hz4 : w.heap.size < w4.heap.size := by omega) | (have hz4 := hB4.size)
  first | (have hq4 : w3.heap.size ≤ w4.heap.size := by omega) | skip
  first | (have hx1_4 := Nat.lt_of_lt_of_le hx1_3 hq4) | skip
  first | (have hv1_4 := Nat.lt_of_lt_of_le hv1_3 hq4) | skip
  first | (have hu1_4 := Nat.lt_of_lt_of_le hu1_3 hq4) | skip
  first | (have hx2_4 := Nat.lt_of_lt_of_le hx2_3 hq4) | skip
  first | (have hv2_4 := Nat.lt_of_lt_of_le hv2_3 hq4) | skip
  first | (have hu2_4 := Nat.lt_of_lt_of_le hu2_3 hq4) | skip
  first | (have hx3_4 := Nat.lt_of_lt_of_le hx3 hq4) | skip
  first | (have hv3_4 := Nat.lt_of_lt_of_le hv3 hq4) | skip
  first | (have hu3_4 := Nat.lt_of_lt_of_le hu3 hq4) | skip
  clear hb4
  go_wp2_with fail
  all_goals (try go_ret)
  all_goals exact ⟨rfl, by go_grown⟩
end Go.Proofs.Ytpfbapekameibaa
