/- Contracts: whether an indefinite form is cyclic, its neighbour with the matrix. -/
import Derived.Test.YtdonpiihjoihcaaCZ
import Derived.Test.YtdonpiihjoihcaaRB
import Derived.Test.YtdonpiihjoihcaaD
namespace Go.Proofs.Ytdonpiihjoihcaa
set_option linter.unusedVariables false
open Go.ChangeShapes Go.WideShapes Go.ChangeAt Go.RowKit

theorem indefB_good {a b c : Int} (h : indefB a b c = true) : good3 a b c = true := (indefB_iff.1 h).1
/-- the bounds that a walk wants -/
theorem indef_bds {a b c : Int} (h : indefB a b c = true) : (-1000000 ≤ a ∧ a ≤ 1000000) ∧ (-1000000 ≤ b ∧ b ≤ 1000000) ∧ (-1000000 ≤ c ∧ c ≤ 1000000) ∧ (5 ≤ disc a b c ∧ disc a b c ≤ 1000) ∧ (2 ≤ isq (disc a b c) ∧ isq (disc a b c) ≤ 31) := by
  obtain ⟨h1, h2⟩ := indefB_iff.1 h
  obtain ⟨a1, a2, a3⟩ := good3_iff.1 h1
  have := root_pos h2
  omega
theorem cyc_parts (a b c : Int) (v : Bool) (h : cycB a b c = v) : (decide (0 < b) && decide (b ≤ isq (disc a b c)) && decide (isq (disc a b c) - b < 2 * (a.natAbs : Int)) && decide (2 * (a.natAbs : Int) ≤ isq (disc a b c) + b)) = v := h
theorem spec_cyIs (a b c : Int) (v : Bool) (w : World) (h : indefB a b c = true) (hv : cycB a b c = v) :
    Calls Try.prog 130 #[.agg #[.int .i64 a, .int .i64 b, .int .i64 c]] w fun e w' => e = .returned (.bool v) ∧ Below w.heap.size w w' := by
  obtain ⟨⟨a1, a2⟩, ⟨b1, b2⟩, ⟨c1, c2⟩, ⟨d1, d2⟩, ⟨r1, r2⟩⟩ := indef_bds h
  have hv2 := cyc_parts a b c v hv
  have H := Lib.hid h
  clear h
  have Hv := Lib.hid hv2
  clear hv2
  clear hv
  by_cases h1 : 0 < b
  · by_cases h2 : b ≤ isq (disc a b c)
    · by_cases h3 : isq (disc a b c) - b < 2 * (a.natAbs : Int)
      · go_enter Try.func130, Try.ntmps130
        go_wp2_with fail
        refine (spec_foDisc a b c _ (indefB_good H.out)).mono ?_
        rintro e w1 ⟨rfl, hb1⟩
        have hB1 : Below w.heap.size w w1 := Below.after (by go_grown) hb1
        obtain ⟨hc1, hf1⟩ := bcell hb1
        have hy1 := hb1.size
        try simp at hy1
        first | (with_reducible have hx1 := Nat.lt_of_succ_le hy1) | skip
        first | (with_reducible have hv1 := Nat.lt_of_succ_lt hx1) | skip
        first | (with_reducible have hu1 := Nat.lt_of_succ_lt hv1) | skip
        first | (have hz1 : w.heap.size < w1.heap.size := by omega) | (have hz1 := hB1.size)
        clear hb1
        go_wp2_with fail
        refine (spec_nuRoot _ _ (by omega) (by omega)).mono ?_
        rintro e w' ⟨rfl, rfl⟩
        go_wp2_with fail
        refine (spec_l1Abs _ _ (by omega) (by omega)).mono ?_
        rintro e w' ⟨rfl, rfl⟩
        go_wp2_with fail
        skip
        go_wp2_with fail
        all_goals (try go_ret)
        all_goals exact ⟨rbool (by rw [← Hv.out, Bool.eq_iff_iff]; simp; try omega), by first | exact below_drewN (by go_grown) _ | go_grown⟩
      · have e3 : decide (isq (disc a b c) - b < 2 * (a.natAbs : Int)) = false := by simpa using h3
        have hn := Lib.hid h3
        clear h3
        go_enter Try.func130, Try.ntmps130
        go_wp2_with fail
        refine (spec_foDisc a b c _ (indefB_good H.out)).mono ?_
        rintro e w1 ⟨rfl, hb1⟩
        have hB1 : Below w.heap.size w w1 := Below.after (by go_grown) hb1
        obtain ⟨hc1, hf1⟩ := bcell hb1
        have hy1 := hb1.size
        try simp at hy1
        first | (with_reducible have hx1 := Nat.lt_of_succ_le hy1) | skip
        first | (with_reducible have hv1 := Nat.lt_of_succ_lt hx1) | skip
        first | (with_reducible have hu1 := Nat.lt_of_succ_lt hv1) | skip
        first | (have hz1 : w.heap.size < w1.heap.size := by omega) | (have hz1 := hB1.size)
        clear hb1
        go_wp2_with fail
        refine (spec_nuRoot _ _ (by omega) (by omega)).mono ?_
        rintro e w' ⟨rfl, rfl⟩
        go_wp2_with fail
        refine (spec_l1Abs _ _ (by omega) (by omega)).mono ?_
        rintro e w' ⟨rfl, rfl⟩
        go_wp2_with fail
        skip
        go_wp2_with fail
        all_goals (try go_ret)
        all_goals exact ⟨rbool (by have := hn.out; rw [← Hv.out, Bool.eq_iff_iff]; simp; try omega), by first | exact below_drewN (by go_grown) _ | go_grown⟩
    · have e2 : decide (b ≤ isq (disc a b c)) = false := by simpa using h2
      have hn := Lib.hid h2
      clear h2
      go_enter Try.func130, Try.ntmps130
      go_wp2_with fail
      refine (spec_foDisc a b c _ (indefB_good H.out)).mono ?_
      rintro e w1 ⟨rfl, hb1⟩
      have hB1 : Below w.heap.size w w1 := Below.after (by go_grown) hb1
      obtain ⟨hc1, hf1⟩ := bcell hb1
      have hy1 := hb1.size
      try simp at hy1
      first | (with_reducible have hx1 := Nat.lt_of_succ_le hy1) | skip
      first | (with_reducible have hv1 := Nat.lt_of_succ_lt hx1) | skip
      first | (with_reducible have hu1 := Nat.lt_of_succ_lt hv1) | skip
      first | (have hz1 : w.heap.size < w1.heap.size := by omega) | (have hz1 := hB1.size)
      clear hb1
      go_wp2_with fail
      refine (spec_nuRoot _ _ (by omega) (by omega)).mono ?_
      rintro e w' ⟨rfl, rfl⟩
      go_wp2_with fail
      refine (spec_l1Abs _ _ (by omega) (by omega)).mono ?_
      rintro e w' ⟨rfl, rfl⟩
      go_wp2_with fail
      skip
      go_wp2_with fail
      all_goals (try go_ret)
      all_goals exact ⟨rbool (by have := hn.out; rw [← Hv.out, Bool.eq_iff_iff]; simp; try omega), by first | exact below_drewN (by go_grown) _ | go_grown⟩
  · have e1 : decide (0 < b) = false := by simpa using h1
    have hn := Lib.hid h1
    clear h1
    go_enter Try.func130, Try.ntmps130
    go_wp2_with fail
    refine (spec_foDisc a b c _ (indefB_good H.out)).mono ?_
    rintro e w1 ⟨rfl, hb1⟩
    have hB1 : Below w.heap.size w w1 := Below.after (by go_grown) hb1
    obtain ⟨hc1, hf1⟩ := bcell hb1
    have hy1 := hb1.size
    try simp at hy1
    first | (with_reducible have hx1 := Nat.lt_of_succ_le hy1) | skip
    first | (with_reducible have hv1 := Nat.lt_of_succ_lt hx1) | skip
    first | (with_reducible have hu1 := Nat.lt_of_succ_lt hv1) | skip
    first | (have hz1 : w.heap.size < w1.heap.size := by omega) | (have hz1 := hB1.size)
    clear hb1
    go_wp2_with fail
    refine (spec_nuRoot _ _ (by omega) (by omega)).mono ?_
    rintro e w' ⟨rfl, rfl⟩
    go_wp2_with fail
    refine (spec_l1Abs _ _ (by omega) (by omega)).mono ?_
    rintro e w' ⟨rfl, rfl⟩
    go_wp2_with fail
    skip
    go_wp2_with fail
    all_goals (try go_ret)
    all_goals exact ⟨rbool (by have := hn.out; rw [← Hv.out, Bool.eq_iff_iff]; simp; try omega), by first | exact below_drewN (by go_grown) _ | go_grown⟩
theorem impl_isCyclic (a b c : Int) (v : Bool) (w : World) (h : indefB a b c = true) (hv : cycB a b c = v) :
    Calls Try.prog 119 #[.agg #[.int .i64 a, .int .i64 b, .int .i64 c]] w fun e w' => e = .returned (.bool v) ∧ Below w.heap.size w w' := by
  obtain ⟨⟨a1, a2⟩, ⟨b1, b2⟩, ⟨c1, c2⟩, ⟨d1, d2⟩, ⟨r1, r2⟩⟩ := indef_bds h
  have hv2 := cyc_parts a b c v hv
  have H := Lib.hid h
  clear h
  have Hv := Lib.hid hv2
  clear hv2
  clear hv
  by_cases h1 : 0 < b
  · by_cases h2 : b ≤ isq (disc a b c)
    · by_cases h3 : isq (disc a b c) - b < 2 * (a.natAbs : Int)
      · go_enter Try.func119, Try.ntmps119
        go_wp2_with fail
        refine (impl_disc a b c _ (indefB_good H.out)).mono ?_
        rintro e w1 ⟨rfl, hb1⟩
        have hB1 : Below w.heap.size w w1 := Below.after (by go_grown) hb1
        obtain ⟨hc1, hf1⟩ := bcell hb1
        have hy1 := hb1.size
        try simp at hy1
        first | (with_reducible have hx1 := Nat.lt_of_succ_le hy1) | skip
        first | (with_reducible have hv1 := Nat.lt_of_succ_lt hx1) | skip
        first | (with_reducible have hu1 := Nat.lt_of_succ_lt hv1) | skip
        first | (have hz1 : w.heap.size < w1.heap.size := by omega) | (have hz1 := hB1.size)
        clear hb1
        go_wp2_with fail
        refine (impl_root _ _ (by omega) (by omega)).mono ?_
        rintro e w' ⟨rfl, rfl⟩
        go_wp2_with fail
        go_quiet ((go_at_call 65; refine Calls.quiet_of_same (same (impl_abs _ _ (by omega) (by omega)))))
        go_wp2_with fail
        all_goals (try go_ret)
        all_goals exact ⟨rbool (by rw [← Hv.out, Bool.eq_iff_iff]; simp; try omega), by first | exact below_drewN (by go_grown) _ | go_grown⟩
      · have e3 : decide (isq (disc a b c) - b < 2 * (a.natAbs : Int)) = false := by simpa using h3
        have hn := Lib.hid h3
        clear h3
        go_enter Try.func119, Try.ntmps119
        go_wp2_with fail
        refine (impl_disc a b c _ (indefB_good H.out)).mono ?_
        rintro e w1 ⟨rfl, hb1⟩
        have hB1 : Below w.heap.size w w1 := Below.after (by go_grown) hb1
        obtain ⟨hc1, hf1⟩ := bcell hb1
        have hy1 := hb1.size
        try simp at hy1
        first | (with_reducible have hx1 := Nat.lt_of_succ_le hy1) | skip
        first | (with_reducible have hv1 := Nat.lt_of_succ_lt hx1) | skip
        first | (with_reducible have hu1 := Nat.lt_of_succ_lt hv1) | skip
        first | (have hz1 : w.heap.size < w1.heap.size := by omega) | (have hz1 := hB1.size)
        clear hb1
        go_wp2_with fail
        refine (impl_root _ _ (by omega) (by omega)).mono ?_
        rintro e w' ⟨rfl, rfl⟩
        go_wp2_with fail
        go_quiet ((go_at_call 65; refine Calls.quiet_of_same (same (impl_abs _ _ (by omega) (by omega)))))
        go_wp2_with fail
        all_goals (try go_ret)
        all_goals exact ⟨rbool (by have := hn.out; rw [← Hv.out, Bool.eq_iff_iff]; simp; try omega), by first | exact below_drewN (by go_grown) _ | go_grown⟩
    · have e2 : decide (b ≤ isq (disc a b c)) = false := by simpa using h2
      have hn := Lib.hid h2
      clear h2
      go_enter Try.func119, Try.ntmps119
      go_wp2_with fail
      refine (impl_disc a b c _ (indefB_good H.out)).mono ?_
      rintro e w1 ⟨rfl, hb1⟩
      have hB1 : Below w.heap.size w w1 := Below.after (by go_grown) hb1
      obtain ⟨hc1, hf1⟩ := bcell hb1
      have hy1 := hb1.size
      try simp at hy1
      first | (with_reducible have hx1 := Nat.lt_of_succ_le hy1) | skip
      first | (with_reducible have hv1 := Nat.lt_of_succ_lt hx1) | skip
      first | (with_reducible have hu1 := Nat.lt_of_succ_lt hv1) | skip
      first | (have hz1 : w.heap.size < w1.heap.size := by omega) | (have hz1 := hB1.size)
      clear hb1
      go_wp2_with fail
      refine (impl_root _ _ (by omega) (by omega)).mono ?_
      rintro e w' ⟨rfl, rfl⟩
      go_wp2_with fail
      go_quiet ((go_at_call 65; refine Calls.quiet_of_same (same (impl_abs _ _ (by omega) (by omega)))))
      go_wp2_with fail
      all_goals (try go_ret)
      all_goals exact ⟨rbool (by have := hn.out; rw [← Hv.out, Bool.eq_iff_iff]; simp; try omega), by first | exact below_drewN (by go_grown) _ | go_grown⟩
  · have e1 : decide (0 < b) = false := by simpa using h1
    have hn := Lib.hid h1
    clear h1
    go_enter Try.func119, Try.ntmps119
    go_wp2_with fail
    refine (impl_disc a b c _ (indefB_good H.out)).mono ?_
    rintro e w1 ⟨rfl, hb1⟩
    have hB1 : Below w.heap.size w w1 := Below.after (by go_grown) hb1
    obtain ⟨hc1, hf1⟩ := bcell hb1
    have hy1 := hb1.size
    try simp at hy1
    first | (with_reducible have hx1 := Nat.lt_of_succ_le hy1) | skip
    first | (with_reducible have hv1 := Nat.lt_of_succ_lt hx1) | skip
    first | (with_reducible have hu1 := Nat.lt_of_succ_lt hv1) | skip
    first | (have hz1 : w.heap.size < w1.heap.size := by omega) | (have hz1 := hB1.size)
    clear hb1
    go_wp2_with fail
    refine (impl_root _ _ (by omega) (by omega)).mono ?_
    rintro e w' ⟨rfl, rfl⟩
    go_wp2_with fail
    go_quiet ((go_at_call 65; refine Calls.quiet_of_same (same (impl_abs _ _ (by omega) (by omega)))))
    go_wp2_with fail
    all_goals (try go_ret)
    all_goals exact ⟨rbool (by have := hn.out; rw [← Hv.out, Bool.eq_iff_iff]; simp; try omega), by first | exact below_drewN (by go_grown) _ | go_grown⟩
end Go.Proofs.Ytdonpiihjoihcaa
