/- Walks of the laws: the cycle of a form, its length. -/
import Derived.Test.YtpfbapekameibaaCG
namespace Go.Proofs.Ytpfbapekameibaa
set_option linter.unusedVariables false
open Go.ChangeShapes Go.WideShapes Go.ChangeAt Go.RowKit

theorem walkCycOf (a b c : Int) (l : List Fm) (v : Bool) (w : World) (hlen : l.length ≤ 1000000) (h : CycOut a b c l v) :
    Calls Try.prog 12 #[.agg #[.int .i64 a, .int .i64 b, .int .i64 c]] w fun e w' => e = .returned (.bool true) ∧ Below w.heap.size w w' := by
  have H := Lib.hid h
  clear h
  go_enter Try.func12, Try.ntmps12
  go_wp2_with fail
  refine (laws_toForm a b c _).mono ?_
  rintro e w1 ⟨rfl, hb1⟩
  have hB1 : Below w.heap.size w w1 := Below.after (by go_grown) hb1
  have a1 : Holds w1 w.heap.size (cF ⟨a, b, c⟩) 23 := by
    refine Holds.below (W := w.alloc (.cells (cF ⟨a, b, c⟩) 23)) ?_ hb1
    exact Holds.new _ _ _
  clear hb1
  have hz1 := a1.lt
  go_wp2_with fail
  refine (spec_CycleOf a b c l v _ H.out).mono ?_
  rintro e w2 ⟨v0, rfl, h0, hb2⟩
  have hB2 : Below w.heap.size w w2 := Below.after hB1 hb2
  have a2 := Holds.below a1 hb2
  have hz2 := hb2.size
  clear hb2 hB1 a1
  have y0 : w2.cell? ⟨w.heap.size, 0, none⟩ = some (.int .i64 a) := Holds.cell a2 rfl
  have y1 : w2.cell? ⟨w.heap.size, 1, none⟩ = some (.int .i64 b) := Holds.cell a2 rfl
  have y2 : w2.cell? ⟨w.heap.size, 2, none⟩ = some (.int .i64 c) := Holds.cell a2 rfl
  have yf0 : w2.frozen? ⟨w.heap.size, 0, none⟩ = false := Holds.free a2
  have yf1 : w2.frozen? ⟨w.heap.size, 1, none⟩ = false := Holds.free a2
  have yf2 : w2.frozen? ⟨w.heap.size, 2, none⟩ = false := Holds.free a2
  have H0 := Lib.hid h0
  clear h0
  go_wp2_with fail
  refine (laws_toForm a b c _).mono ?_
  rintro e w3 ⟨rfl, hb3⟩
  have hB3 : Below w.heap.size w w3 := Below.after hB2 hb3
  have hz3 := hb3.size
  have h0 := H0.out.below hb3
  have a3 := Holds.below a2 hb3
  clear hb3 hB2 a2 y0 y1 y2 yf0 yf1 yf2 H0
  go_wp2_with fail
  refine (impl_CycleOf a b c l v _ H.out).mono ?_
  rintro e w4 ⟨v1, rfl, h1, hb4⟩
  have hB4 : Below w.heap.size w w4 := Below.after hB3 hb4
  have hz4 := hb4.size
  have hsep := sep_ofF h0 h1
  have h0' := h0.below hb4
  have a4 := Holds.below a3 hb4
  clear hb4 hB3 a3 h0
  have Hsep := Lib.hid hsep
  have H0 := Lib.hid h0'
  have H1 := Lib.hid h1
  have A4 := Lib.hid a4
  clear hsep h0' h1 a4
  go_wp2_with fail
  refine (laws_eqFormS l v1 v0 w3.heap.size w1.heap.size _ hlen H1.out H0.out).mono ?_
  rintro e w5 ⟨rfl, hb5⟩
  have hB5 : Below w.heap.size w w5 := Below.after hB4 hb5
  have hz5 := hb5.size
  have H05 := Lib.hid (H0.out.below hb5)
  have H15 := Lib.hid (H1.out.below hb5)
  have A5 := Lib.hid (A4.out.below hb5)
  clear hb5 H0 H1 A4 hB4
  go_wp2_with fail
  refine (laws_markFormS l v1 w3.heap.size _ hlen H15.out).mono ?_
  rintro e w6 ⟨rfl, h6, hg6⟩
  have hB6 : Below w.heap.size w w6 := below_grownF hB5 (H15.out.mono (by omega)) hg6 (by omega)
  have hz6 := hg6.size
  have H06 := Lib.hid (H05.out.kept hg6 Hsep.out)
  have a6 := A5.out.grown hg6 (own_ne' H15.out (by omega))
  have H6 := Lib.hid h6
  clear h6 hg6 H05 H15 A5 hB5 Hsep
  have A6 := Lib.hid a6
  clear a6
  go_wp2_with fail
  refine (laws_heldFormS l.length v1 w3.heap.size _ hlen H6.out).mono ?_
  rintro e w' ⟨rfl, rfl⟩
  have y0 : w6.cell? ⟨w.heap.size, 0, none⟩ = some (.int .i64 a) := Holds.cell A6.out rfl
  have y1 : w6.cell? ⟨w.heap.size, 1, none⟩ = some (.int .i64 b) := Holds.cell A6.out rfl
  have y2 : w6.cell? ⟨w.heap.size, 2, none⟩ = some (.int .i64 c) := Holds.cell A6.out rfl
  have yf0 : w6.frozen? ⟨w.heap.size, 0, none⟩ = false := Holds.free A6.out
  have yf1 : w6.frozen? ⟨w.heap.size, 1, none⟩ = false := Holds.free A6.out
  have yf2 : w6.frozen? ⟨w.heap.size, 2, none⟩ = false := Holds.free A6.out
  go_wp2_with fail
  refine (laws_toForm a b c _).mono ?_
  rintro e w7 ⟨rfl, hb7⟩
  have hB7 : Below w.heap.size w w7 := Below.after hB6 hb7
  have hz7 := hb7.size
  have H07 := Lib.hid (H06.out.below hb7)
  have H17 := Lib.hid (H6.out.below hb7)
  clear hb7 hB6 y0 y1 y2 yf0 yf1 yf2 H06 H6 A6
  go_wp2_with fail
  refine (impl_CycleOf a b c l v _ H.out).mono ?_
  rintro e w8 ⟨v2, rfl, h8, hb8⟩
  have hB8 : Below w.heap.size w w8 := Below.after hB7 hb8
  have H08 := Lib.hid (H07.out.below hb8)
  have H18 := Lib.hid (H17.out.below hb8)
  have H28 := Lib.hid h8
  clear hb8 hB7 h8 H07 H17
  go_wp2_with fail
  refine (laws_eqFormS l v2 v0 _ w1.heap.size _ hlen H28.out H08.out).mono ?_
  rintro e w9 ⟨rfl, hb9⟩
  have hB9 : Below w.heap.size w w9 := Below.after hB8 hb9
  have H19 := Lib.hid (H18.out.below hb9)
  clear hb9 hB8 H08 H28 H18
  go_wp2_with fail
  refine (laws_heldFormS l.length v1 w3.heap.size _ hlen H19.out).mono ?_
  rintro e w' ⟨rfl, rfl⟩
  go_wp2_with fail
  go_ret
  exact ⟨rfl, hB9⟩
theorem walkCycleOf (a b c : Int) (w : World) (wa : (Lit.int .i64 a).wf = true) (wb : (Lit.int .i64 b).wf = true) (wc : (Lit.int .i64 c).wf = true) :
    Calls Try.prog 12 #[.agg #[.int .i64 a, .int .i64 b, .int .i64 c]] w fun e w' => e = .returned (.bool true) ∧ Below w.heap.size w w' := by
  obtain ⟨l, v, h⟩ := cycOut_ex a b c
  exact walkCycOf a b c l v w (cycOut_len h) h
theorem spec_CycleLength (a b c : Int) (l : List Fm) (v : Bool) (w : World) (h : CycOut a b c l v) :
    Calls Try.prog 33 #[.agg #[.int .i64 a, .int .i64 b, .int .i64 c]] w fun e w' => e = .returned (.tuple #[.int .i64 l.length, .bool v]) ∧ Below w.heap.size w w' := by
  have H := Lib.hid h
  clear h
  go_enter Try.func33, Try.ntmps33
  go_wp2_with fail
  refine (spec_CycleOf a b c l v _ H.out).mono ?_
  rintro e w1 ⟨u, rfl, hown, hb1⟩
  have hB1 : Below w.heap.size w w1 := Below.after (by go_grown) hb1
  obtain ⟨p, cp, rfl, _, _⟩ := hown.view
  clear hown hb1
  go_wp2_with fail
  go_ret2
  exact ⟨rfl, hB1⟩
theorem impl_CycleLength (a b c : Int) (l : List Fm) (v : Bool) (w : World) (h : CycOut a b c l v) :
    Calls Try.prog 34 #[.agg #[.int .i64 a, .int .i64 b, .int .i64 c]] w fun e w' => e = .returned (.tuple #[.int .i64 l.length, .bool v]) ∧ Below w.heap.size w w' := by
  have H := Lib.hid h
  clear h
  go_enter Try.func34, Try.ntmps34
  go_wp2_with fail
  refine (impl_CycleOf a b c l v _ H.out).mono ?_
  rintro e w1 ⟨u, rfl, hown, hb1⟩
  have hB1 : Below w.heap.size w w1 := Below.after (by go_grown) hb1
  obtain ⟨p, cp, rfl, _, _⟩ := hown.view
  clear hown hb1
  go_wp2_with fail
  go_ret2
  exact ⟨rfl, hB1⟩
theorem walkCycleLength (a b c : Int) (w : World) (wa : (Lit.int .i64 a).wf = true) (wb : (Lit.int .i64 b).wf = true) (wc : (Lit.int .i64 c).wf = true) :
    Calls Try.prog 9 #[.agg #[.int .i64 a, .int .i64 b, .int .i64 c]] w fun e w' => e = .returned (.bool true) ∧ Below w.heap.size w w' := by
  obtain ⟨l, v, h⟩ := cycOut_ex a b c
  have H := Lib.hid h
  clear h
  go_enter Try.func9, Try.ntmps9
  go_wp2_with fail
  refine (laws_toForm a b c _).mono ?_
  rintro e w1 ⟨rfl, hb1⟩
  have hB1 : Below w.heap.size w w1 := Below.after (by go_grown) hb1
  obtain ⟨hc1, hf1⟩ := bcell hb1
  have hy1 := hb1.size
  try simp at hy1
  first | (with_reducible have hx1 := Nat.lt_of_succ_le hy1) | skip
  first | (with_reducible have hv1 := Nat.lt_of_succ_lt hx1) | skip
  first | (with_reducible have hu1 := Nat.lt_of_succ_lt hv1) | skip
  first | (have hz1 : w.heap.size < w1.heap.size := by omega) | (have hz1 := hB1.size)
  clear hb1
  go_wp2_with fail
  refine (spec_CycleLength a b c l v _ H.out).mono ?_
  rintro e w2 ⟨rfl, hb2⟩
  have hB2 : Below w.heap.size w w2 := Below.after (by go_grown) hb2
  obtain ⟨hc2, hf2⟩ := bcell hb2
  have hy2 := hb2.size
  try simp at hy2
  first | (with_reducible have hx2 := Nat.lt_of_succ_le hy2) | skip
  first | (with_reducible have hv2 := Nat.lt_of_succ_lt hx2) | skip
  first | (with_reducible have hu2 := Nat.lt_of_succ_lt hv2) | skip
  first | (have hz2 : w.heap.size < w2.heap.size := by omega) | (have hz2 := hB2.size)
  first | (have hq2 : w1.heap.size ≤ w2.heap.size := by omega) | skip
  first | (have hx1_2 := Nat.lt_of_lt_of_le hx1 hq2) | skip
  first | (have hv1_2 := Nat.lt_of_lt_of_le hv1 hq2) | skip
  first | (have hu1_2 := Nat.lt_of_lt_of_le hu1 hq2) | skip
  clear hb2
  go_wp2_with fail
  refine (laws_toForm a b c _).mono ?_
  rintro e w3 ⟨rfl, hb3⟩
  have hB3 : Below w.heap.size w w3 := Below.after (by go_grown) hb3
  obtain ⟨hc3, hf3⟩ := bcell hb3
  have hy3 := hb3.size
  try simp at hy3
  first | (with_reducible have hx3 := Nat.lt_of_succ_le hy3) | skip
  first | (with_reducible have hv3 := Nat.lt_of_succ_lt hx3) | skip
  first | (with_reducible have hu3 := Nat.lt_of_succ_lt hv3) | skip
  first | (have hz3 : w.heap.size < w3.heap.size := by omega) | (have hz3 := hB3.size)
  first | (have hq3 : w2.heap.size ≤ w3.heap.size := by omega) | skip
  first | (have hx1_3 := Nat.lt_of_lt_of_le hx1_2 hq3) | skip
  first | (have hv1_3 := Nat.lt_of_lt_of_le hv1_2 hq3) | skip
  first | (have hu1_3 := Nat.lt_of_lt_of_le hu1_2 hq3) | skip
  first | (have hx2_3 := Nat.lt_of_lt_of_le hx2 hq3) | skip
  first | (have hv2_3 := Nat.lt_of_lt_of_le hv2 hq3) | skip
  first | (have hu2_3 := Nat.lt_of_lt_of_le hu2 hq3) | skip
  clear hb3
  go_wp2_with fail
  refine (impl_CycleLength a b c l v _ H.out).mono ?_
  rintro e w4 ⟨rfl, hb4⟩
  have hB4 : Below w.heap.size w w4 := Below.after (by go_grown) hb4
  obtain ⟨hc4, hf4⟩ := bcell hb4
  have hy4 := hb4.size
  try simp at hy4
  first | (with_reducible have hx4 := Nat.lt_of_succ_le hy4) | skip
  first | (with_reducible have hv4 := Nat.lt_of_succ_lt hx4) | skip
  first | (with_reducible have hu4 := Nat.lt_of_succ_lt hv4) | skip
  first | (have hz4 : w.heap.size < w4.heap.size := by omega) | (have hz4 := hB4.size)
  first | (have hq4 : w3.heap.size ≤ w4.heap.size := by omega) | skip
  first | (have hx1_4 := Nat.lt_of_lt_of_le hx1_3 hq4) | skip
  first | (have hv1_4 := Nat.lt_of_lt_of_le hv1_3 hq4) | skip
  first | (have hu1_4 := Nat.lt_of_lt_of_le hu1_3 hq4) | skip
  first | (have hx2_4 := Nat.lt_of_lt_of_le hx2_3 hq4) | skip
  first | (have hv2_4 := Nat.lt_of_lt_of_le hv2_3 hq4) | skip
  first | (have hu2_4 := Nat.lt_of_lt_of_le hu2_3 hq4) | skip
  first | (have hx3_4 := Nat.lt_of_lt_of_le hx3 hq4) | skip
  first | (have hv3_4 := Nat.lt_of_lt_of_le hv3 hq4) | skip
  first | (have hu3_4 := Nat.lt_of_lt_of_le hu3 hq4) | skip
  clear hb4
  go_wp2_with fail
  all_goals (try go_ret)
  all_goals exact ⟨rfl, by go_grown⟩
end Go.Proofs.Ytpfbapekameibaa
