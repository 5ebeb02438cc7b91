/- Contracts and the walk of the law: the neighbour with its matrix. -/
import Derived.Test.YtdonpiihjoihcaaCB
namespace Go.Proofs.Ytdonpiihjoihcaa
set_option linter.unusedVariables false
open Go.ChangeShapes Go.WideShapes Go.ChangeAt Go.RowKit

theorem act_nx {a b c : Int} (h : indefB a b c = true) : valF a b c 0 1 = c ∧ polF a b c 0 1 (-1) (nS a b c) = nB a b c ∧ valF a b c (-1) (nS a b c) = nC a b c := by
  obtain ⟨s, h1, h2, h3, _⟩ := nxt (a := a) (b := b) (indef_ne h).2
  rw [h2, h3]
  unfold valF polF
  refine ⟨by simp, ?_, ?_⟩
  · simp only [Int.mul_zero, Int.zero_mul, Int.mul_one, Int.one_mul, Int.zero_add]
    omega
  · have e : a * -1 * -1 = a := by omega
    have e2 : b * -1 * s = -(b * s) := by rw [Int.mul_neg_one, Int.neg_mul]
    rw [e, e2]; omega
theorem spec_foAct_nx (a b c : Int) (w : World) (h : indefB a b c = true) :
    Calls Try.prog 54 #[.agg #[.int .i64 a, .int .i64 b, .int .i64 c], .agg #[.int .i64 0, .int .i64 (-1), .int .i64 1, .int .i64 (nS a b c)]] w fun e w' => e = .returned (.agg #[.int .i64 c, .int .i64 (nB a b c), .int .i64 (nC a b c)]) ∧ Below w.heap.size w w' := by
  obtain ⟨e1, e2, e3⟩ := act_nx h
  have := spec_foAct a b c 0 (-1) 1 (nS a b c) w (indefB_good h) (nx_mgood h)
  rwa [e1, e2, e3] at this
theorem spec_NextForm_yes (a b c : Int) (w : World) (h : indefB a b c = true) :
    Calls Try.prog 131 #[.agg #[.int .i64 a, .int .i64 b, .int .i64 c]] w fun e w' => e = .returned (.tuple #[.agg #[.int .i64 c, .int .i64 (nB a b c), .int .i64 (nC a b c)], .agg #[.int .i64 0, .int .i64 (-1), .int .i64 1, .int .i64 (nS a b c)], .bool true]) ∧ Below w.heap.size w w' := by
  have Hg := Lib.hid (nx_good h)
  have Hm := Lib.hid (nx_mgood h)
  have H := Lib.hid h
  clear h
  go_enter Try.func131, Try.ntmps131
  go_wp2_with fail
  refine (spec_cyGood a b c true _ H.out).mono ?_
  rintro e w1 ⟨rfl, hb1⟩
  have hB1 : Below w.heap.size w w1 := Below.after (by go_grown) hb1
  obtain ⟨hc1, hf1⟩ := bcell hb1
  have hy1 := hb1.size
  try simp at hy1
  first | (with_reducible have hx1 := Nat.lt_of_succ_le hy1) | skip
  first | (with_reducible have hv1 := Nat.lt_of_succ_lt hx1) | skip
  first | (with_reducible have hu1 := Nat.lt_of_succ_lt hv1) | skip
  first | (have hz1 : w.heap.size < w1.heap.size := by omega) | (have hz1 := hB1.size)
  clear hb1
  go_wp2_with fail
  refine (spec_cyMove a b c _ H.out).mono ?_
  rintro e w2 ⟨rfl, hb2⟩
  have hB2 : Below w.heap.size w w2 := Below.after (by go_grown) hb2
  obtain ⟨hc2, hf2⟩ := bcell hb2
  have hy2 := hb2.size
  try simp at hy2
  first | (with_reducible have hx2 := Nat.lt_of_succ_le hy2) | skip
  first | (with_reducible have hv2 := Nat.lt_of_succ_lt hx2) | skip
  first | (with_reducible have hu2 := Nat.lt_of_succ_lt hv2) | skip
  first | (have hz2 : w.heap.size < w2.heap.size := by omega) | (have hz2 := hB2.size)
  first | (have hq2 : w1.heap.size ≤ w2.heap.size := by omega) | skip
  first | (have hx1_2 := Nat.lt_of_lt_of_le hx1 hq2) | skip
  first | (have hv1_2 := Nat.lt_of_lt_of_le hv1 hq2) | skip
  first | (have hu1_2 := Nat.lt_of_lt_of_le hu1 hq2) | skip
  clear hb2
  go_wp2_with fail
  refine (spec_foAct_nx a b c _ H.out).mono ?_
  rintro e w3 ⟨rfl, hb3⟩
  have hB3 : Below w.heap.size w w3 := Below.after (by go_grown) hb3
  obtain ⟨hc3, hf3⟩ := bcell hb3
  have hy3 := hb3.size
  try simp at hy3
  first | (with_reducible have hx3 := Nat.lt_of_succ_le hy3) | skip
  first | (with_reducible have hv3 := Nat.lt_of_succ_lt hx3) | skip
  first | (with_reducible have hu3 := Nat.lt_of_succ_lt hv3) | skip
  first | (have hz3 : w.heap.size < w3.heap.size := by omega) | (have hz3 := hB3.size)
  first | (have hq3 : w2.heap.size ≤ w3.heap.size := by omega) | skip
  first | (have hx1_3 := Nat.lt_of_lt_of_le hx1_2 hq3) | skip
  first | (have hv1_3 := Nat.lt_of_lt_of_le hv1_2 hq3) | skip
  first | (have hu1_3 := Nat.lt_of_lt_of_le hu1_2 hq3) | skip
  first | (have hx2_3 := Nat.lt_of_lt_of_le hx2 hq3) | skip
  first | (have hv2_3 := Nat.lt_of_lt_of_le hv2 hq3) | skip
  first | (have hu2_3 := Nat.lt_of_lt_of_le hu2 hq3) | skip
  clear hb3
  go_wp2_with fail
  refine (spec_foGood _ _ _ true _ Hg.out).mono ?_
  rintro e w4 ⟨rfl, hb4⟩
  have hB4 : Below w.heap.size w w4 := Below.after (by go_grown) hb4
  obtain ⟨hc4, hf4⟩ := bcell hb4
  have hy4 := hb4.size
  try simp at hy4
  first | (with_reducible have hx4 := Nat.lt_of_succ_le hy4) | skip
  first | (with_reducible have hv4 := Nat.lt_of_succ_lt hx4) | skip
  first | (with_reducible have hu4 := Nat.lt_of_succ_lt hv4) | skip
  first | (have hz4 : w.heap.size < w4.heap.size := by omega) | (have hz4 := hB4.size)
  first | (have hq4 : w3.heap.size ≤ w4.heap.size := by omega) | skip
  first | (have hx1_4 := Nat.lt_of_lt_of_le hx1_3 hq4) | skip
  first | (have hv1_4 := Nat.lt_of_lt_of_le hv1_3 hq4) | skip
  first | (have hu1_4 := Nat.lt_of_lt_of_le hu1_3 hq4) | skip
  first | (have hx2_4 := Nat.lt_of_lt_of_le hx2_3 hq4) | skip
  first | (have hv2_4 := Nat.lt_of_lt_of_le hv2_3 hq4) | skip
  first | (have hu2_4 := Nat.lt_of_lt_of_le hu2_3 hq4) | skip
  first | (have hx3_4 := Nat.lt_of_lt_of_le hx3 hq4) | skip
  first | (have hv3_4 := Nat.lt_of_lt_of_le hv3 hq4) | skip
  first | (have hu3_4 := Nat.lt_of_lt_of_le hu3 hq4) | skip
  clear hb4
  go_wp2_with fail
  refine (spec_foMatrix _ _ _ _ true _ Hm.out).mono ?_
  rintro e w5 ⟨rfl, hb5⟩
  have hB5 : Below w.heap.size w w5 := Below.after (by go_grown) hb5
  obtain ⟨hc5, hf5⟩ := bcell hb5
  have hy5 := hb5.size
  try simp at hy5
  first | (with_reducible have hx5 := Nat.lt_of_succ_le hy5) | skip
  first | (with_reducible have hv5 := Nat.lt_of_succ_lt hx5) | skip
  first | (with_reducible have hu5 := Nat.lt_of_succ_lt hv5) | skip
  first | (have hz5 : w.heap.size < w5.heap.size := by omega) | (have hz5 := hB5.size)
  first | (have hq5 : w4.heap.size ≤ w5.heap.size := by omega) | skip
  first | (have hx1_5 := Nat.lt_of_lt_of_le hx1_4 hq5) | skip
  first | (have hv1_5 := Nat.lt_of_lt_of_le hv1_4 hq5) | skip
  first | (have hu1_5 := Nat.lt_of_lt_of_le hu1_4 hq5) | skip
  first | (have hx2_5 := Nat.lt_of_lt_of_le hx2_4 hq5) | skip
  first | (have hv2_5 := Nat.lt_of_lt_of_le hv2_4 hq5) | skip
  first | (have hu2_5 := Nat.lt_of_lt_of_le hu2_4 hq5) | skip
  first | (have hx3_5 := Nat.lt_of_lt_of_le hx3_4 hq5) | skip
  first | (have hv3_5 := Nat.lt_of_lt_of_le hv3_4 hq5) | skip
  first | (have hu3_5 := Nat.lt_of_lt_of_le hu3_4 hq5) | skip
  first | (have hx4_5 := Nat.lt_of_lt_of_le hx4 hq5) | skip
  first | (have hv4_5 := Nat.lt_of_lt_of_le hv4 hq5) | skip
  first | (have hu4_5 := Nat.lt_of_lt_of_le hu4 hq5) | skip
  clear hb5
  go_wp2_with fail
  go_region
  all_goals (go_wp2_with fail)
  all_goals
    refine bodyPost_ret (v := .tuple #[.agg #[.int .i64 c, .int .i64 (nB a b c), .int .i64 (nC a b c)], .agg #[.int .i64 0, .int .i64 (-1), .int .i64 1, .int .i64 (nS a b c)], .bool true]) (by simp [results, Try.results131, go_sem, *] <;> rfl) rfl ⟨rfl, by go_grown⟩
theorem spec_NextForm_no (a b c : Int) (w : World) (h : indefB a b c = false) :
    Calls Try.prog 131 #[.agg #[.int .i64 a, .int .i64 b, .int .i64 c]] w fun e w' => e = .returned (.tuple #[.agg #[.int .i64 0, .int .i64 0, .int .i64 0], .agg #[.int .i64 0, .int .i64 0, .int .i64 0, .int .i64 0], .bool false]) ∧ Below w.heap.size w w' := by
  have H := Lib.hid h
  clear h
  go_enter Try.func131, Try.ntmps131
  go_wp2_with fail
  refine (spec_cyGood a b c false _ H.out).mono ?_
  rintro e w1 ⟨rfl, hb1⟩
  have hB1 : Below w.heap.size w w1 := Below.after (by go_grown) hb1
  obtain ⟨hc1, hf1⟩ := bcell hb1
  have hy1 := hb1.size
  try simp at hy1
  first | (with_reducible have hx1 := Nat.lt_of_succ_le hy1) | skip
  first | (with_reducible have hv1 := Nat.lt_of_succ_lt hx1) | skip
  first | (with_reducible have hu1 := Nat.lt_of_succ_lt hv1) | skip
  first | (have hz1 : w.heap.size < w1.heap.size := by omega) | (have hz1 := hB1.size)
  clear hb1
  go_wp2_with fail
  refine bodyPost_ret (v := .tuple #[.agg #[.int .i64 0, .int .i64 0, .int .i64 0], .agg #[.int .i64 0, .int .i64 0, .int .i64 0, .int .i64 0], .bool false]) (by simp [results, Try.results131, go_sem, *] <;> rfl) rfl ⟨rfl, by go_grown⟩
theorem impl_NextForm_yes (a b c : Int) (w : World) (h : indefB a b c = true) :
    Calls Try.prog 30 #[.agg #[.int .i64 a, .int .i64 b, .int .i64 c]] w fun e w' => e = .returned (.tuple #[.agg #[.int .i64 c, .int .i64 (nB a b c), .int .i64 (nC a b c)], .agg #[.int .i64 0, .int .i64 (-1), .int .i64 1, .int .i64 (nS a b c)], .bool true]) ∧ Below w.heap.size w w' := by
  have Hg := Lib.hid (nx_good h)
  have Hm := Lib.hid (nx_mgood h)
  have H := Lib.hid h
  clear h
  go_enter Try.func30, Try.ntmps30
  go_wp2_with fail
  refine (impl_isIndefinite a b c true _ H.out).mono ?_
  rintro e w1 ⟨rfl, hb1⟩
  have hB1 : Below w.heap.size w w1 := Below.after (by go_grown) hb1
  obtain ⟨hc1, hf1⟩ := bcell hb1
  have hy1 := hb1.size
  try simp at hy1
  first | (with_reducible have hx1 := Nat.lt_of_succ_le hy1) | skip
  first | (with_reducible have hv1 := Nat.lt_of_succ_lt hx1) | skip
  first | (with_reducible have hu1 := Nat.lt_of_succ_lt hv1) | skip
  first | (have hz1 : w.heap.size < w1.heap.size := by omega) | (have hz1 := hB1.size)
  clear hb1
  go_wp2_with fail
  refine (impl_neighbour a b c _ H.out).mono ?_
  rintro e w2 ⟨rfl, hb2⟩
  have hB2 : Below w.heap.size w w2 := Below.after (by go_grown) hb2
  obtain ⟨hc2, hf2⟩ := bcell hb2
  have hy2 := hb2.size
  try simp at hy2
  first | (with_reducible have hx2 := Nat.lt_of_succ_le hy2) | skip
  first | (with_reducible have hv2 := Nat.lt_of_succ_lt hx2) | skip
  first | (with_reducible have hu2 := Nat.lt_of_succ_lt hv2) | skip
  first | (have hz2 : w.heap.size < w2.heap.size := by omega) | (have hz2 := hB2.size)
  first | (have hq2 : w1.heap.size ≤ w2.heap.size := by omega) | skip
  first | (have hx1_2 := Nat.lt_of_lt_of_le hx1 hq2) | skip
  first | (have hv1_2 := Nat.lt_of_lt_of_le hv1 hq2) | skip
  first | (have hu1_2 := Nat.lt_of_lt_of_le hu1 hq2) | skip
  clear hb2
  go_wp2_with fail
  refine (impl_IsForm _ _ _ true _ Hg.out).mono ?_
  rintro e w3 ⟨rfl, hb3⟩
  have hB3 : Below w.heap.size w w3 := Below.after (by go_grown) hb3
  obtain ⟨hc3, hf3⟩ := bcell hb3
  have hy3 := hb3.size
  try simp at hy3
  first | (with_reducible have hx3 := Nat.lt_of_succ_le hy3) | skip
  first | (with_reducible have hv3 := Nat.lt_of_succ_lt hx3) | skip
  first | (with_reducible have hu3 := Nat.lt_of_succ_lt hv3) | skip
  first | (have hz3 : w.heap.size < w3.heap.size := by omega) | (have hz3 := hB3.size)
  first | (have hq3 : w2.heap.size ≤ w3.heap.size := by omega) | skip
  first | (have hx1_3 := Nat.lt_of_lt_of_le hx1_2 hq3) | skip
  first | (have hv1_3 := Nat.lt_of_lt_of_le hv1_2 hq3) | skip
  first | (have hu1_3 := Nat.lt_of_lt_of_le hu1_2 hq3) | skip
  first | (have hx2_3 := Nat.lt_of_lt_of_le hx2 hq3) | skip
  first | (have hv2_3 := Nat.lt_of_lt_of_le hv2 hq3) | skip
  first | (have hu2_3 := Nat.lt_of_lt_of_le hu2 hq3) | skip
  clear hb3
  go_wp2_with fail
  refine (impl_IsMatrix _ _ _ _ true _ Hm.out).mono ?_
  rintro e w4 ⟨rfl, hb4⟩
  have hB4 : Below w.heap.size w w4 := Below.after (by go_grown) hb4
  obtain ⟨hc4, hf4⟩ := bcell hb4
  have hy4 := hb4.size
  try simp at hy4
  first | (with_reducible have hx4 := Nat.lt_of_succ_le hy4) | skip
  first | (with_reducible have hv4 := Nat.lt_of_succ_lt hx4) | skip
  first | (with_reducible have hu4 := Nat.lt_of_succ_lt hv4) | skip
  first | (have hz4 : w.heap.size < w4.heap.size := by omega) | (have hz4 := hB4.size)
  first | (have hq4 : w3.heap.size ≤ w4.heap.size := by omega) | skip
  first | (have hx1_4 := Nat.lt_of_lt_of_le hx1_3 hq4) | skip
  first | (have hv1_4 := Nat.lt_of_lt_of_le hv1_3 hq4) | skip
  first | (have hu1_4 := Nat.lt_of_lt_of_le hu1_3 hq4) | skip
  first | (have hx2_4 := Nat.lt_of_lt_of_le hx2_3 hq4) | skip
  first | (have hv2_4 := Nat.lt_of_lt_of_le hv2_3 hq4) | skip
  first | (have hu2_4 := Nat.lt_of_lt_of_le hu2_3 hq4) | skip
  first | (have hx3_4 := Nat.lt_of_lt_of_le hx3 hq4) | skip
  first | (have hv3_4 := Nat.lt_of_lt_of_le hv3 hq4) | skip
  first | (have hu3_4 := Nat.lt_of_lt_of_le hu3 hq4) | skip
  clear hb4
  have hk1 : w.heap.size < w2.heap.size + 1 := by omega
  have hk2 : w.heap.size + 1 < w2.heap.size + 1 := by omega
  go_wp2_with fail
  go_region
  all_goals (go_wp2_with fail)
  all_goals
    refine bodyPost_ret (v := .tuple #[.agg #[.int .i64 c, .int .i64 (nB a b c), .int .i64 (nC a b c)], .agg #[.int .i64 0, .int .i64 (-1), .int .i64 1, .int .i64 (nS a b c)], .bool true]) (by simp [results, Try.results30, go_sem, *] <;> rfl) rfl ⟨rfl, by go_grown⟩
theorem impl_NextForm_no (a b c : Int) (w : World) (h : indefB a b c = false) :
    Calls Try.prog 30 #[.agg #[.int .i64 a, .int .i64 b, .int .i64 c]] w fun e w' => e = .returned (.tuple #[.agg #[.int .i64 0, .int .i64 0, .int .i64 0], .agg #[.int .i64 0, .int .i64 0, .int .i64 0, .int .i64 0], .bool false]) ∧ Below w.heap.size w w' := by
  have H := Lib.hid h
  clear h
  go_enter Try.func30, Try.ntmps30
  go_wp2_with fail
  refine (impl_isIndefinite a b c false _ H.out).mono ?_
  rintro e w1 ⟨rfl, hb1⟩
  have hB1 : Below w.heap.size w w1 := Below.after (by go_grown) hb1
  obtain ⟨hc1, hf1⟩ := bcell hb1
  have hy1 := hb1.size
  try simp at hy1
  first | (with_reducible have hx1 := Nat.lt_of_succ_le hy1) | skip
  first | (with_reducible have hv1 := Nat.lt_of_succ_lt hx1) | skip
  first | (with_reducible have hu1 := Nat.lt_of_succ_lt hv1) | skip
  first | (have hz1 : w.heap.size < w1.heap.size := by omega) | (have hz1 := hB1.size)
  clear hb1
  go_wp2_with fail
  refine bodyPost_ret (v := .tuple #[.agg #[.int .i64 0, .int .i64 0, .int .i64 0], .agg #[.int .i64 0, .int .i64 0, .int .i64 0, .int .i64 0], .bool false]) (by simp [results, Try.results30, go_sem, *] <;> rfl) rfl ⟨rfl, by go_grown⟩
end Go.Proofs.Ytdonpiihjoihcaa
