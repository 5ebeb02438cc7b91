/- Contracts and walks of the laws: ideals, identity and principal forms, characters, matrices. -/
import Derived.Test.YtgdhelecflddbaaD
namespace Go.Proofs.Ytgdhelecflddbaa
set_option linter.unusedVariables false
open Go.ChangeShapes Go.WideShapes Go.ChangeAt Go.RowKit

theorem spec_IsClassForm (a b c : Int) (v : Bool) (w : World) (hv : classB a b c = v) :
    Calls Try.prog 26 #[.agg #[.int .i64 a, .int .i64 b, .int .i64 c]] w fun e w' => e = .returned (.bool v) ∧ Below w.heap.size w w' := by
  have Hv := Lib.hid hv
  clear hv
  go_enter Try.func26, Try.ntmps26
  go_wp2_with fail
  refine (spec_coGood a b c v _ Hv.out).mono ?_
  rintro e w1 ⟨rfl, hb1⟩
  have hB1 : Below w.heap.size w w1 := Below.after (by go_grown) hb1
  obtain ⟨hc1, hf1⟩ := bcell hb1
  have hy1 := hb1.size
  try simp at hy1
  first | (with_reducible have hx1 := Nat.lt_of_succ_le hy1) | skip
  first | (with_reducible have hv1 := Nat.lt_of_succ_lt hx1) | skip
  first | (with_reducible have hu1 := Nat.lt_of_succ_lt hv1) | skip
  first | (have hz1 : w.heap.size < w1.heap.size := by omega) | (have hz1 := hB1.size)
  clear hb1
  go_wp2_with fail
  go_ret
  exact ⟨rfl, by go_grown⟩
theorem impl_IsClassForm (a b c : Int) (v : Bool) (w : World) (hv : classB a b c = v) :
    Calls Try.prog 28 #[.agg #[.int .i64 a, .int .i64 b, .int .i64 c]] w fun e w' => e = .returned (.bool v) ∧ Below w.heap.size w w' := by
  have Hv := Lib.hid hv
  clear hv
  go_enter Try.func28, Try.ntmps28
  go_wp2_with fail
  refine (impl_isClassForm a b c v _ Hv.out).mono ?_
  rintro e w1 ⟨rfl, hb1⟩
  have hB1 : Below w.heap.size w w1 := Below.after (by go_grown) hb1
  obtain ⟨hc1, hf1⟩ := bcell hb1
  have hy1 := hb1.size
  try simp at hy1
  first | (with_reducible have hx1 := Nat.lt_of_succ_le hy1) | skip
  first | (with_reducible have hv1 := Nat.lt_of_succ_lt hx1) | skip
  first | (with_reducible have hu1 := Nat.lt_of_succ_lt hv1) | skip
  first | (have hz1 : w.heap.size < w1.heap.size := by omega) | (have hz1 := hB1.size)
  clear hb1
  go_wp2_with fail
  go_ret
  exact ⟨rfl, by go_grown⟩
theorem spec_IsIndefinite (a b c : Int) (v : Bool) (w : World) (hv : indefB a b c = v) :
    Calls Try.prog 42 #[.agg #[.int .i64 a, .int .i64 b, .int .i64 c]] w fun e w' => e = .returned (.bool v) ∧ Below w.heap.size w w' := by
  have Hv := Lib.hid hv
  clear hv
  go_enter Try.func42, Try.ntmps42
  go_wp2_with fail
  refine (spec_cyGood a b c v _ Hv.out).mono ?_
  rintro e w1 ⟨rfl, hb1⟩
  have hB1 : Below w.heap.size w w1 := Below.after (by go_grown) hb1
  obtain ⟨hc1, hf1⟩ := bcell hb1
  have hy1 := hb1.size
  try simp at hy1
  first | (with_reducible have hx1 := Nat.lt_of_succ_le hy1) | skip
  first | (with_reducible have hv1 := Nat.lt_of_succ_lt hx1) | skip
  first | (with_reducible have hu1 := Nat.lt_of_succ_lt hv1) | skip
  first | (have hz1 : w.heap.size < w1.heap.size := by omega) | (have hz1 := hB1.size)
  clear hb1
  go_wp2_with fail
  go_ret
  exact ⟨rfl, by go_grown⟩
theorem impl_IsIndefinite (a b c : Int) (v : Bool) (w : World) (hv : indefB a b c = v) :
    Calls Try.prog 43 #[.agg #[.int .i64 a, .int .i64 b, .int .i64 c]] w fun e w' => e = .returned (.bool v) ∧ Below w.heap.size w w' := by
  have Hv := Lib.hid hv
  clear hv
  go_enter Try.func43, Try.ntmps43
  go_wp2_with fail
  refine (impl_isIndefinite a b c v _ Hv.out).mono ?_
  rintro e w1 ⟨rfl, hb1⟩
  have hB1 : Below w.heap.size w w1 := Below.after (by go_grown) hb1
  obtain ⟨hc1, hf1⟩ := bcell hb1
  have hy1 := hb1.size
  try simp at hy1
  first | (with_reducible have hx1 := Nat.lt_of_succ_le hy1) | skip
  first | (with_reducible have hv1 := Nat.lt_of_succ_lt hx1) | skip
  first | (with_reducible have hu1 := Nat.lt_of_succ_lt hv1) | skip
  first | (have hz1 : w.heap.size < w1.heap.size := by omega) | (have hz1 := hB1.size)
  clear hb1
  go_wp2_with fail
  go_ret
  exact ⟨rfl, by go_grown⟩
theorem spec_IsDiscriminant (d : Int) (v : Bool) (w : World) (hv : discB d = v) :
    Calls Try.prog 38 #[.int .i64 d] w fun e w' => e = .returned (.bool v) ∧ Below w.heap.size w w' := by
  have Hv := Lib.hid hv
  clear hv
  go_enter Try.func38, Try.ntmps38
  go_wp2_with fail
  refine (spec_diIs d v _ Hv.out).mono ?_
  rintro e w' ⟨rfl, rfl⟩
  go_wp2_with fail
  go_ret
  exact ⟨rfl, by go_grown⟩
theorem impl_IsDiscriminant (d : Int) (v : Bool) (w : World) (hv : discB d = v) :
    Calls Try.prog 39 #[.int .i64 d] w fun e w' => e = .returned (.bool v) ∧ Below w.heap.size w w' := by
  have Hv := Lib.hid hv
  clear hv
  go_enter Try.func39, Try.ntmps39
  go_wp2_with fail
  refine (impl_isDiscriminant d v _ Hv.out).mono ?_
  rintro e w1 ⟨rfl, hb1⟩
  have hB1 : Below w.heap.size w w1 := Below.after (by go_grown) hb1
  obtain ⟨hc1, hf1⟩ := bcell hb1
  have hy1 := hb1.size
  try simp at hy1
  first | (with_reducible have hx1 := Nat.lt_of_succ_le hy1) | skip
  first | (with_reducible have hv1 := Nat.lt_of_succ_lt hx1) | skip
  first | (with_reducible have hu1 := Nat.lt_of_succ_lt hv1) | skip
  first | (have hz1 : w.heap.size < w1.heap.size := by omega) | (have hz1 := hB1.size)
  clear hb1
  go_wp2_with fail
  go_ret
  exact ⟨rfl, by go_grown⟩

/-! a law that compares two bools of one struct argument -/
theorem walkIsIdeal (d s a b : Int) (w : World) : (Lit.int .i64 d).wf = true → (Lit.int .i64 s).wf = true → (Lit.int .i64 a).wf = true → (Lit.int .i64 b).wf = true →
    Calls Try.prog 3 #[.int .i64 d, .agg #[.int .i64 s, .int .i64 a, .int .i64 b]] w fun e w' => e = .returned (.bool true) ∧ Below w.heap.size w w' := by
  intros
  go_enter Try.func3, Try.ntmps3
  go_wp2_with fail
  refine (laws_toIdeal s a b _).mono ?_
  rintro e w1 ⟨rfl, hb1⟩
  have hB1 : Below w.heap.size w w1 := Below.after (by go_grown) hb1
  obtain ⟨hc1, hf1⟩ := bcell hb1
  have hy1 := hb1.size
  try simp at hy1
  first | (with_reducible have hx1 := Nat.lt_of_succ_le hy1) | skip
  first | (with_reducible have hv1 := Nat.lt_of_succ_lt hx1) | skip
  first | (with_reducible have hu1 := Nat.lt_of_succ_lt hv1) | skip
  first | (have hz1 : w.heap.size < w1.heap.size := by omega) | (have hz1 := hB1.size)
  clear hb1
  go_wp2_with fail
  refine (spec_IsIdeal d s a b _ _ rfl).mono ?_
  rintro e w2 ⟨rfl, hb2⟩
  have hB2 : Below w.heap.size w w2 := Below.after (by go_grown) hb2
  obtain ⟨hc2, hf2⟩ := bcell hb2
  have hy2 := hb2.size
  try simp at hy2
  first | (with_reducible have hx2 := Nat.lt_of_succ_le hy2) | skip
  first | (with_reducible have hv2 := Nat.lt_of_succ_lt hx2) | skip
  first | (with_reducible have hu2 := Nat.lt_of_succ_lt hv2) | skip
  first | (have hz2 : w.heap.size < w2.heap.size := by omega) | (have hz2 := hB2.size)
  first | (have hq2 : w1.heap.size ≤ w2.heap.size := by omega) | skip
  first | (have hx1_2 := Nat.lt_of_lt_of_le hx1 hq2) | skip
  first | (have hv1_2 := Nat.lt_of_lt_of_le hv1 hq2) | skip
  first | (have hu1_2 := Nat.lt_of_lt_of_le hu1 hq2) | skip
  clear hb2
  go_wp2_with fail
  refine (laws_toIdeal s a b _).mono ?_
  rintro e w3 ⟨rfl, hb3⟩
  have hB3 : Below w.heap.size w w3 := Below.after (by go_grown) hb3
  obtain ⟨hc3, hf3⟩ := bcell hb3
  have hy3 := hb3.size
  try simp at hy3
  first | (with_reducible have hx3 := Nat.lt_of_succ_le hy3) | skip
  first | (with_reducible have hv3 := Nat.lt_of_succ_lt hx3) | skip
  first | (with_reducible have hu3 := Nat.lt_of_succ_lt hv3) | skip
  first | (have hz3 : w.heap.size < w3.heap.size := by omega) | (have hz3 := hB3.size)
  first | (have hq3 : w2.heap.size ≤ w3.heap.size := by omega) | skip
  first | (have hx1_3 := Nat.lt_of_lt_of_le hx1_2 hq3) | skip
  first | (have hv1_3 := Nat.lt_of_lt_of_le hv1_2 hq3) | skip
  first | (have hu1_3 := Nat.lt_of_lt_of_le hu1_2 hq3) | skip
  first | (have hx2_3 := Nat.lt_of_lt_of_le hx2 hq3) | skip
  first | (have hv2_3 := Nat.lt_of_lt_of_le hv2 hq3) | skip
  first | (have hu2_3 := Nat.lt_of_lt_of_le hu2 hq3) | skip
  clear hb3
  go_wp2_with fail
  refine (impl_IsIdeal d s a b _ _ rfl).mono ?_
  rintro e w4 ⟨rfl, hb4⟩
  have hB4 : Below w.heap.size w w4 := Below.after (by go_grown) hb4
  obtain ⟨hc4, hf4⟩ := bcell hb4
  have hy4 := hb4.size
  try simp at hy4
  first | (with_reducible have hx4 := Nat.lt_of_succ_le hy4) | skip
  first | (with_reducible have hv4 := Nat.lt_of_succ_lt hx4) | skip
  first | (with_reducible have hu4 := Nat.lt_of_succ_lt hv4) | skip
  first | (have hz4 : w.heap.size < w4.heap.size := by omega) | (have hz4 := hB4.size)
  first | (have hq4 : w3.heap.size ≤ w4.heap.size := by omega) | skip
  first | (have hx1_4 := Nat.lt_of_lt_of_le hx1_3 hq4) | skip
  first | (have hv1_4 := Nat.lt_of_lt_of_le hv1_3 hq4) | skip
  first | (have hu1_4 := Nat.lt_of_lt_of_le hu1_3 hq4) | skip
  first | (have hx2_4 := Nat.lt_of_lt_of_le hx2_3 hq4) | skip
  first | (have hv2_4 := Nat.lt_of_lt_of_le hv2_3 hq4) | skip
  first | (have hu2_4 := Nat.lt_of_lt_of_le hu2_3 hq4) | skip
  first | (have hx3_4 := Nat.lt_of_lt_of_le hx3 hq4) | skip
  first | (have hv3_4 := Nat.lt_of_lt_of_le hv3 hq4) | skip
  first | (have hu3_4 := Nat.lt_of_lt_of_le hu3 hq4) | skip
  clear hb4
  go_wp2_with fail
  go_ret
  exact ⟨rfl, by go_grown⟩
theorem walkIsClassForm (a b c : Int) (w : World) : (Lit.int .i64 a).wf = true → (Lit.int .i64 b).wf = true → (Lit.int .i64 c).wf = true →
    Calls Try.prog 7 #[.agg #[.int .i64 a, .int .i64 b, .int .i64 c]] w fun e w' => e = .returned (.bool true) ∧ Below w.heap.size w w' := by
  intros
  go_enter Try.func7, Try.ntmps7
  go_wp2_with fail
  refine (laws_toForm a b c _).mono ?_
  rintro e w1 ⟨rfl, hb1⟩
  have hB1 : Below w.heap.size w w1 := Below.after (by go_grown) hb1
  obtain ⟨hc1, hf1⟩ := bcell hb1
  have hy1 := hb1.size
  try simp at hy1
  first | (with_reducible have hx1 := Nat.lt_of_succ_le hy1) | skip
  first | (with_reducible have hv1 := Nat.lt_of_succ_lt hx1) | skip
  first | (with_reducible have hu1 := Nat.lt_of_succ_lt hv1) | skip
  first | (have hz1 : w.heap.size < w1.heap.size := by omega) | (have hz1 := hB1.size)
  clear hb1
  go_wp2_with fail
  refine (spec_IsClassForm a b c _ _ rfl).mono ?_
  rintro e w2 ⟨rfl, hb2⟩
  have hB2 : Below w.heap.size w w2 := Below.after (by go_grown) hb2
  obtain ⟨hc2, hf2⟩ := bcell hb2
  have hy2 := hb2.size
  try simp at hy2
  first | (with_reducible have hx2 := Nat.lt_of_succ_le hy2) | skip
  first | (with_reducible have hv2 := Nat.lt_of_succ_lt hx2) | skip
  first | (with_reducible have hu2 := Nat.lt_of_succ_lt hv2) | skip
  first | (have hz2 : w.heap.size < w2.heap.size := by omega) | (have hz2 := hB2.size)
  first | (have hq2 : w1.heap.size ≤ w2.heap.size := by omega) | skip
  first | (have hx1_2 := Nat.lt_of_lt_of_le hx1 hq2) | skip
  first | (have hv1_2 := Nat.lt_of_lt_of_le hv1 hq2) | skip
  first | (have hu1_2 := Nat.lt_of_lt_of_le hu1 hq2) | skip
  clear hb2
  go_wp2_with fail
  refine (laws_toForm a b c _).mono ?_
  rintro e w3 ⟨rfl, hb3⟩
  have hB3 : Below w.heap.size w w3 := Below.after (by go_grown) hb3
  obtain ⟨hc3, hf3⟩ := bcell hb3
  have hy3 := hb3.size
  try simp at hy3
  first | (with_reducible have hx3 := Nat.lt_of_succ_le hy3) | skip
  first | (with_reducible have hv3 := Nat.lt_of_succ_lt hx3) | skip
  first | (with_reducible have hu3 := Nat.lt_of_succ_lt hv3) | skip
  first | (have hz3 : w.heap.size < w3.heap.size := by omega) | (have hz3 := hB3.size)
  first | (have hq3 : w2.heap.size ≤ w3.heap.size := by omega) | skip
  first | (have hx1_3 := Nat.lt_of_lt_of_le hx1_2 hq3) | skip
  first | (have hv1_3 := Nat.lt_of_lt_of_le hv1_2 hq3) | skip
  first | (have hu1_3 := Nat.lt_of_lt_of_le hu1_2 hq3) | skip
  first | (have hx2_3 := Nat.lt_of_lt_of_le hx2 hq3) | skip
  first | (have hv2_3 := Nat.lt_of_lt_of_le hv2 hq3) | skip
  first | (have hu2_3 := Nat.lt_of_lt_of_le hu2 hq3) | skip
  clear hb3
  go_wp2_with fail
  refine (impl_IsClassForm a b c _ _ rfl).mono ?_
  rintro e w4 ⟨rfl, hb4⟩
  have hB4 : Below w.heap.size w w4 := Below.after (by go_grown) hb4
  obtain ⟨hc4, hf4⟩ := bcell hb4
  have hy4 := hb4.size
  try simp at hy4
  first | (with_reducible have hx4 := Nat.lt_of_succ_le hy4) | skip
  first | (with_reducible have hv4 := Nat.lt_of_succ_lt hx4) | skip
  first | (with_reducible have hu4 := Nat.lt_of_succ_lt hv4) | skip
  first | (have hz4 : w.heap.size < w4.heap.size := by omega) | (have hz4 := hB4.size)
  first | (have hq4 : w3.heap.size ≤ w4.heap.size := by omega) | skip
  first | (have hx1_4 := Nat.lt_of_lt_of_le hx1_3 hq4) | skip
  first | (have hv1_4 := Nat.lt_of_lt_of_le hv1_3 hq4) | skip
  first | (have hu1_4 := Nat.lt_of_lt_of_le hu1_3 hq4) | skip
  first | (have hx2_4 := Nat.lt_of_lt_of_le hx2_3 hq4) | skip
  first | (have hv2_4 := Nat.lt_of_lt_of_le hv2_3 hq4) | skip
  first | (have hu2_4 := Nat.lt_of_lt_of_le hu2_3 hq4) | skip
  first | (have hx3_4 := Nat.lt_of_lt_of_le hx3 hq4) | skip
  first | (have hv3_4 := Nat.lt_of_lt_of_le hv3 hq4) | skip
  first | (have hu3_4 := Nat.lt_of_lt_of_le hu3 hq4) | skip
  clear hb4
  go_wp2_with fail
  go_ret
  exact ⟨rfl, by go_grown⟩
theorem walkIsIndefinite (a b c : Int) (w : World) : (Lit.int .i64 a).wf = true → (Lit.int .i64 b).wf = true → (Lit.int .i64 c).wf = true →
    Calls Try.prog 13 #[.agg #[.int .i64 a, .int .i64 b, .int .i64 c]] w fun e w' => e = .returned (.bool true) ∧ Below w.heap.size w w' := by
  intros
  go_enter Try.func13, Try.ntmps13
  go_wp2_with fail
  refine (laws_toForm a b c _).mono ?_
  rintro e w1 ⟨rfl, hb1⟩
  have hB1 : Below w.heap.size w w1 := Below.after (by go_grown) hb1
  obtain ⟨hc1, hf1⟩ := bcell hb1
  have hy1 := hb1.size
  try simp at hy1
  first | (with_reducible have hx1 := Nat.lt_of_succ_le hy1) | skip
  first | (with_reducible have hv1 := Nat.lt_of_succ_lt hx1) | skip
  first | (with_reducible have hu1 := Nat.lt_of_succ_lt hv1) | skip
  first | (have hz1 : w.heap.size < w1.heap.size := by omega) | (have hz1 := hB1.size)
  clear hb1
  go_wp2_with fail
  refine (spec_IsIndefinite a b c _ _ rfl).mono ?_
  rintro e w2 ⟨rfl, hb2⟩
  have hB2 : Below w.heap.size w w2 := Below.after (by go_grown) hb2
  obtain ⟨hc2, hf2⟩ := bcell hb2
  have hy2 := hb2.size
  try simp at hy2
  first | (with_reducible have hx2 := Nat.lt_of_succ_le hy2) | skip
  first | (with_reducible have hv2 := Nat.lt_of_succ_lt hx2) | skip
  first | (with_reducible have hu2 := Nat.lt_of_succ_lt hv2) | skip
  first | (have hz2 : w.heap.size < w2.heap.size := by omega) | (have hz2 := hB2.size)
  first | (have hq2 : w1.heap.size ≤ w2.heap.size := by omega) | skip
  first | (have hx1_2 := Nat.lt_of_lt_of_le hx1 hq2) | skip
  first | (have hv1_2 := Nat.lt_of_lt_of_le hv1 hq2) | skip
  first | (have hu1_2 := Nat.lt_of_lt_of_le hu1 hq2) | skip
  clear hb2
  go_wp2_with fail
  refine (laws_toForm a b c _).mono ?_
  rintro e w3 ⟨rfl, hb3⟩
  have hB3 : Below w.heap.size w w3 := Below.after (by go_grown) hb3
  obtain ⟨hc3, hf3⟩ := bcell hb3
  have hy3 := hb3.size
  try simp at hy3
  first | (with_reducible have hx3 := Nat.lt_of_succ_le hy3) | skip
  first | (with_reducible have hv3 := Nat.lt_of_succ_lt hx3) | skip
  first | (with_reducible have hu3 := Nat.lt_of_succ_lt hv3) | skip
  first | (have hz3 : w.heap.size < w3.heap.size := by omega) | (have hz3 := hB3.size)
  first | (have hq3 : w2.heap.size ≤ w3.heap.size := by omega) | skip
  first | (have hx1_3 := Nat.lt_of_lt_of_le hx1_2 hq3) | skip
  first | (have hv1_3 := Nat.lt_of_lt_of_le hv1_2 hq3) | skip
  first | (have hu1_3 := Nat.lt_of_lt_of_le hu1_2 hq3) | skip
  first | (have hx2_3 := Nat.lt_of_lt_of_le hx2 hq3) | skip
  first | (have hv2_3 := Nat.lt_of_lt_of_le hv2 hq3) | skip
  first | (have hu2_3 := Nat.lt_of_lt_of_le hu2 hq3) | skip
  clear hb3
  go_wp2_with fail
  refine (impl_IsIndefinite a b c _ _ rfl).mono ?_
  rintro e w4 ⟨rfl, hb4⟩
  have hB4 : Below w.heap.size w w4 := Below.after (by go_grown) hb4
  obtain ⟨hc4, hf4⟩ := bcell hb4
  have hy4 := hb4.size
  try simp at hy4
  first | (with_reducible have hx4 := Nat.lt_of_succ_le hy4) | skip
  first | (with_reducible have hv4 := Nat.lt_of_succ_lt hx4) | skip
  first | (with_reducible have hu4 := Nat.lt_of_succ_lt hv4) | skip
  first | (have hz4 : w.heap.size < w4.heap.size := by omega) | (have hz4 := hB4.size)
  first | (have hq4 : w3.heap.size ≤ w4.heap.size := by omega) | skip
  first | (have hx1_4 := Nat.lt_of_lt_of_le hx1_3 hq4) | skip
  first | (have hv1_4 := Nat.lt_of_lt_of_le hv1_3 hq4) | skip
  first | (have hu1_4 := Nat.lt_of_lt_of_le hu1_3 hq4) | skip
  first | (have hx2_4 := Nat.lt_of_lt_of_le hx2_3 hq4) | skip
  first | (have hv2_4 := Nat.lt_of_lt_of_le hv2_3 hq4) | skip
  first | (have hu2_4 := Nat.lt_of_lt_of_le hu2_3 hq4) | skip
  first | (have hx3_4 := Nat.lt_of_lt_of_le hx3 hq4) | skip
  first | (have hv3_4 := Nat.lt_of_lt_of_le hv3 hq4) | skip
  first | (have hu3_4 := Nat.lt_of_lt_of_le hu3 hq4) | skip
  clear hb4
  go_wp2_with fail
  go_ret
  exact ⟨rfl, by go_grown⟩
theorem walkIsDiscriminant (d : Int) (w : World) (_ : (Lit.int .i64 d).wf = true) :
    Calls Try.prog 11 #[.int .i64 d] w fun e w' => e = .returned (.bool true) ∧ Below w.heap.size w w' := by
  go_enter Try.func11, Try.ntmps11
  go_wp2_with fail
  refine (spec_IsDiscriminant d _ _ rfl).mono ?_
  rintro e w1 ⟨rfl, hb1⟩
  have hB1 : Below w.heap.size w w1 := Below.after (by go_grown) hb1
  obtain ⟨hc1, hf1⟩ := bcell hb1
  have hy1 := hb1.size
  try simp at hy1
  first | (with_reducible have hx1 := Nat.lt_of_succ_le hy1) | skip
  first | (with_reducible have hv1 := Nat.lt_of_succ_lt hx1) | skip
  first | (with_reducible have hu1 := Nat.lt_of_succ_lt hv1) | skip
  first | (have hz1 : w.heap.size < w1.heap.size := by omega) | (have hz1 := hB1.size)
  clear hb1
  go_wp2_with fail
  refine (impl_IsDiscriminant d _ _ rfl).mono ?_
  rintro e w2 ⟨rfl, hb2⟩
  have hB2 : Below w.heap.size w w2 := Below.after (by go_grown) hb2
  obtain ⟨hc2, hf2⟩ := bcell hb2
  have hy2 := hb2.size
  try simp at hy2
  first | (with_reducible have hx2 := Nat.lt_of_succ_le hy2) | skip
  first | (with_reducible have hv2 := Nat.lt_of_succ_lt hx2) | skip
  first | (with_reducible have hu2 := Nat.lt_of_succ_lt hv2) | skip
  first | (have hz2 : w.heap.size < w2.heap.size := by omega) | (have hz2 := hB2.size)
  first | (have hq2 : w1.heap.size ≤ w2.heap.size := by omega) | skip
  first | (have hx1_2 := Nat.lt_of_lt_of_le hx1 hq2) | skip
  first | (have hv1_2 := Nat.lt_of_lt_of_le hv1 hq2) | skip
  first | (have hu1_2 := Nat.lt_of_lt_of_le hu1 hq2) | skip
  clear hb2
  go_wp2_with fail
  go_ret
  exact ⟨rfl, by go_grown⟩
end Go.Proofs.Ytgdhelecflddbaa
