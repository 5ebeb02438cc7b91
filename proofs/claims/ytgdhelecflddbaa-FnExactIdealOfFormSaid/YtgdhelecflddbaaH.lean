/- Contracts and walks of the laws: matrix products, ideals of forms. -/
import Derived.Test.YtgdhelecflddbaaG
namespace Go.Proofs.Ytgdhelecflddbaa
set_option linter.unusedVariables false
open Go.ChangeShapes Go.WideShapes Go.ChangeAt Go.RowKit

theorem spec_foMatrix (p q r s : Int) (v : Bool) (w : World) (hv : good4 p q r s = v) :
    Calls Try.prog 61 #[.agg #[.int .i64 p, .int .i64 q, .int .i64 r, .int .i64 s]] w fun e w' => e = .returned (.bool v) ∧ Below w.heap.size w w' := by
  have Hv := Lib.hid hv
  clear hv
  go_enter Try.func61, Try.ntmps61
  go_wp2_with (go_at_call 82; refine (spec_nuGood _ _ _ rfl).mono ?_; rintro e w' ⟨rfl, rfl⟩)
  all_goals (try go_ret)
  all_goals exact ⟨rbool (by rw [← Hv.out]; simp_all [good4]), by go_grown⟩
theorem impl_IsMatrix (p q r s : Int) (v : Bool) (w : World) (hv : good4 p q r s = v) :
    Calls Try.prog 63 #[.agg #[.int .i64 p, .int .i64 q, .int .i64 r, .int .i64 s]] w fun e w' => e = .returned (.bool v) ∧ Below w.heap.size w w' := by
  have Hv := Lib.hid hv
  clear hv
  go_enter Try.func63, Try.ntmps63
  go_wp2_with fail
  refine (are4 p q r s _ _ v _ Hv.out (by simp) (by simp) (by simp) (by simp)).mono ?_
  rintro e w' ⟨rfl, rfl⟩
  go_wp2
  go_ret
  exact ⟨rfl, by go_grown⟩
theorem impl_checked_yes (p q r s : Int) (w : World) (h : good4 p q r s = true) :
    Calls Try.prog 64 #[.agg #[.int .i64 p, .int .i64 q, .int .i64 r, .int .i64 s]] w fun e w' => e = .returned (.tuple #[.agg #[.int .i64 p, .int .i64 q, .int .i64 r, .int .i64 s], .bool true]) ∧ Below w.heap.size w w' := by
  have H := Lib.hid h
  clear h
  go_enter Try.func64, Try.ntmps64
  go_wp2_with fail
  refine (impl_IsMatrix p q r s true _ H.out).mono ?_
  rintro e w1 ⟨rfl, hb1⟩
  have hB1 : Below w.heap.size w w1 := Below.after (by go_grown) hb1
  obtain ⟨hc1, hf1⟩ := bcell hb1
  have hy1 := hb1.size
  try simp at hy1
  first | (with_reducible have hx1 := Nat.lt_of_succ_le hy1) | skip
  first | (with_reducible have hv1 := Nat.lt_of_succ_lt hx1) | skip
  first | (with_reducible have hu1 := Nat.lt_of_succ_lt hv1) | skip
  first | (have hz1 : w.heap.size < w1.heap.size := by omega) | (have hz1 := hB1.size)
  clear hb1
  go_wp2_with fail
  refine bodyPost_ret (v := .tuple #[.agg #[.int .i64 p, .int .i64 q, .int .i64 r, .int .i64 s], .bool true]) (by simp [results, Try.results64, go_sem, *] <;> rfl) rfl ⟨rfl, by go_grown⟩
theorem impl_checked_no (p q r s : Int) (w : World) (h : good4 p q r s = false) :
    Calls Try.prog 64 #[.agg #[.int .i64 p, .int .i64 q, .int .i64 r, .int .i64 s]] w fun e w' => e = .returned (.tuple #[.agg #[.int .i64 0, .int .i64 0, .int .i64 0, .int .i64 0], .bool false]) ∧ Below w.heap.size w w' := by
  have H := Lib.hid h
  clear h
  go_enter Try.func64, Try.ntmps64
  go_wp2_with fail
  refine (impl_IsMatrix p q r s false _ H.out).mono ?_
  rintro e w1 ⟨rfl, hb1⟩
  have hB1 : Below w.heap.size w w1 := Below.after (by go_grown) hb1
  obtain ⟨hc1, hf1⟩ := bcell hb1
  have hy1 := hb1.size
  try simp at hy1
  first | (with_reducible have hx1 := Nat.lt_of_succ_le hy1) | skip
  first | (with_reducible have hv1 := Nat.lt_of_succ_lt hx1) | skip
  first | (with_reducible have hu1 := Nat.lt_of_succ_lt hv1) | skip
  first | (have hz1 : w.heap.size < w1.heap.size := by omega) | (have hz1 := hB1.size)
  clear hb1
  go_wp2_with fail
  refine bodyPost_ret (v := .tuple #[.agg #[.int .i64 0, .int .i64 0, .int .i64 0, .int .i64 0], .bool false]) (by simp [results, Try.results64, go_sem, *] <;> rfl) rfl ⟨rfl, by go_grown⟩
theorem impl_times (p q r s x y z u : Int) (w : World) (h : good4 p q r s = true) (h' : good4 x y z u = true) :
    Calls Try.prog 65 #[.agg #[.int .i64 p, .int .i64 q, .int .i64 r, .int .i64 s], .agg #[.int .i64 x, .int .i64 y, .int .i64 z, .int .i64 u]] w fun e w' => e = .returned (.agg #[.int .i64 (m1 p q r s x y z u), .int .i64 (m2 p q r s x y z u), .int .i64 (m3 p q r s x y z u), .int .i64 (m4 p q r s x y z u)]) ∧ Below w.heap.size w w' := by
  obtain ⟨hp, hq, hr, hs⟩ := good4_iff.1 h
  obtain ⟨hx, hy, hz, hu⟩ := good4_iff.1 h'
  obtain ⟨a1, a2⟩ := prod_bd hp hx
  obtain ⟨a3, a4⟩ := prod_bd hq hz
  obtain ⟨b1, b2⟩ := prod_bd hp hy
  obtain ⟨b3, b4⟩ := prod_bd hq hu
  obtain ⟨c1, c2⟩ := prod_bd hr hx
  obtain ⟨c3, c4⟩ := prod_bd hs hz
  obtain ⟨d1, d2⟩ := prod_bd hr hy
  obtain ⟨d3, d4⟩ := prod_bd hs hu
  clear h h' hp hq hr hs hx hy hz hu
  go_enter Try.func65, Try.ntmps65
  go_wp2_with fail
  go_returns
  exact ⟨rfl, by go_grown⟩
theorem spec_foMul (p q r s x y z u : Int) (w : World) (h : good4 p q r s = true) (h' : good4 x y z u = true) :
    Calls Try.prog 62 #[.agg #[.int .i64 p, .int .i64 q, .int .i64 r, .int .i64 s], .agg #[.int .i64 x, .int .i64 y, .int .i64 z, .int .i64 u]] w fun e w' => e = .returned (.agg #[.int .i64 (m1 p q r s x y z u), .int .i64 (m2 p q r s x y z u), .int .i64 (m3 p q r s x y z u), .int .i64 (m4 p q r s x y z u)]) ∧ Below w.heap.size w w' := by
  obtain ⟨hp, hq, hr, hs⟩ := good4_iff.1 h
  obtain ⟨hx, hy, hz, hu⟩ := good4_iff.1 h'
  obtain ⟨a1, a2⟩ := prod_bd hp hx
  obtain ⟨a3, a4⟩ := prod_bd hq hz
  obtain ⟨b1, b2⟩ := prod_bd hp hy
  obtain ⟨b3, b4⟩ := prod_bd hq hu
  obtain ⟨c1, c2⟩ := prod_bd hr hx
  obtain ⟨c3, c4⟩ := prod_bd hs hz
  obtain ⟨d1, d2⟩ := prod_bd hr hy
  obtain ⟨d3, d4⟩ := prod_bd hs hu
  clear h h' hp hq hr hs hx hy hz hu
  go_enter Try.func62, Try.ntmps62
  go_wp2_with fail
  go_returns
  exact ⟨rfl, by go_grown⟩
theorem impl_MatrixProduct_yes (p q r s x y z u : Int) (w : World) (h : good4 p q r s = true) (h' : good4 x y z u = true) (hm : mgood p q r s x y z u = true) :
    Calls Try.prog 36 #[.agg #[.int .i64 p, .int .i64 q, .int .i64 r, .int .i64 s], .agg #[.int .i64 x, .int .i64 y, .int .i64 z, .int .i64 u]] w fun e w' => e = .returned (.tuple #[.agg #[.int .i64 (m1 p q r s x y z u), .int .i64 (m2 p q r s x y z u), .int .i64 (m3 p q r s x y z u), .int .i64 (m4 p q r s x y z u)], .bool true]) ∧ Below w.heap.size w w' := by
  have H := Lib.hid h
  clear h
  have H' := Lib.hid h'
  clear h'
  have Hm := Lib.hid hm
  clear hm
  go_enter Try.func36, Try.ntmps36
  go_wp2_with fail
  refine (impl_IsMatrix p q r s true _ H.out).mono ?_
  rintro e w1 ⟨rfl, hb1⟩
  have hB1 : Below w.heap.size w w1 := Below.after (by go_grown) hb1
  obtain ⟨hc1, hf1⟩ := bcell hb1
  have hy1 := hb1.size
  try simp at hy1
  first | (with_reducible have hx1 := Nat.lt_of_succ_le hy1) | skip
  first | (with_reducible have hv1 := Nat.lt_of_succ_lt hx1) | skip
  first | (with_reducible have hu1 := Nat.lt_of_succ_lt hv1) | skip
  first | (have hz1 : w.heap.size < w1.heap.size := by omega) | (have hz1 := hB1.size)
  clear hb1
  go_wp2_with fail
  refine (impl_IsMatrix x y z u true _ H'.out).mono ?_
  rintro e w2 ⟨rfl, hb2⟩
  have hB2 : Below w.heap.size w w2 := Below.after (by go_grown) hb2
  obtain ⟨hc2, hf2⟩ := bcell hb2
  have hy2 := hb2.size
  try simp at hy2
  first | (with_reducible have hx2 := Nat.lt_of_succ_le hy2) | skip
  first | (with_reducible have hv2 := Nat.lt_of_succ_lt hx2) | skip
  first | (with_reducible have hu2 := Nat.lt_of_succ_lt hv2) | skip
  first | (have hz2 : w.heap.size < w2.heap.size := by omega) | (have hz2 := hB2.size)
  first | (have hq2 : w1.heap.size ≤ w2.heap.size := by omega) | skip
  first | (have hx1_2 := Nat.lt_of_lt_of_le hx1 hq2) | skip
  first | (have hv1_2 := Nat.lt_of_lt_of_le hv1 hq2) | skip
  first | (have hu1_2 := Nat.lt_of_lt_of_le hu1 hq2) | skip
  clear hb2
  go_wp2_with fail
  refine (impl_times p q r s x y z u _ H.out H'.out).mono ?_
  rintro e w3 ⟨rfl, hb3⟩
  have hB3 : Below w.heap.size w w3 := Below.after (by go_grown) hb3
  obtain ⟨hc3, hf3⟩ := bcell hb3
  have hy3 := hb3.size
  try simp at hy3
  first | (with_reducible have hx3 := Nat.lt_of_succ_le hy3) | skip
  first | (with_reducible have hv3 := Nat.lt_of_succ_lt hx3) | skip
  first | (with_reducible have hu3 := Nat.lt_of_succ_lt hv3) | skip
  first | (have hz3 : w.heap.size < w3.heap.size := by omega) | (have hz3 := hB3.size)
  first | (have hq3 : w2.heap.size ≤ w3.heap.size := by omega) | skip
  first | (have hx1_3 := Nat.lt_of_lt_of_le hx1_2 hq3) | skip
  first | (have hv1_3 := Nat.lt_of_lt_of_le hv1_2 hq3) | skip
  first | (have hu1_3 := Nat.lt_of_lt_of_le hu1_2 hq3) | skip
  first | (have hx2_3 := Nat.lt_of_lt_of_le hx2 hq3) | skip
  first | (have hv2_3 := Nat.lt_of_lt_of_le hv2 hq3) | skip
  first | (have hu2_3 := Nat.lt_of_lt_of_le hu2 hq3) | skip
  clear hb3
  go_wp2_with fail
  refine (impl_checked_yes _ _ _ _ _ Hm.out).mono ?_
  rintro e w4 ⟨rfl, hb4⟩
  have hB4 : Below w.heap.size w w4 := Below.after (by go_grown) hb4
  obtain ⟨hc4, hf4⟩ := bcell hb4
  have hy4 := hb4.size
  try simp at hy4
  first | (with_reducible have hx4 := Nat.lt_of_succ_le hy4) | skip
  first | (with_reducible have hv4 := Nat.lt_of_succ_lt hx4) | skip
  first | (with_reducible have hu4 := Nat.lt_of_succ_lt hv4) | skip
  first | (have hz4 : w.heap.size < w4.heap.size := by omega) | (have hz4 := hB4.size)
  first | (have hq4 : w3.heap.size ≤ w4.heap.size := by omega) | skip
  first | (have hx1_4 := Nat.lt_of_lt_of_le hx1_3 hq4) | skip
  first | (have hv1_4 := Nat.lt_of_lt_of_le hv1_3 hq4) | skip
  first | (have hu1_4 := Nat.lt_of_lt_of_le hu1_3 hq4) | skip
  first | (have hx2_4 := Nat.lt_of_lt_of_le hx2_3 hq4) | skip
  first | (have hv2_4 := Nat.lt_of_lt_of_le hv2_3 hq4) | skip
  first | (have hu2_4 := Nat.lt_of_lt_of_le hu2_3 hq4) | skip
  first | (have hx3_4 := Nat.lt_of_lt_of_le hx3 hq4) | skip
  first | (have hv3_4 := Nat.lt_of_lt_of_le hv3 hq4) | skip
  first | (have hu3_4 := Nat.lt_of_lt_of_le hu3 hq4) | skip
  clear hb4
  go_wp2_with fail
  refine bodyPost_ret (v := .tuple #[.agg #[.int .i64 (m1 p q r s x y z u), .int .i64 (m2 p q r s x y z u), .int .i64 (m3 p q r s x y z u), .int .i64 (m4 p q r s x y z u)], .bool true]) (by simp [results, Try.results36, go_sem, *] <;> rfl) rfl ⟨rfl, by go_grown⟩
theorem impl_MatrixProduct_no (p q r s x y z u : Int) (w : World) (h : ¬ (good4 p q r s = true ∧ good4 x y z u = true ∧ mgood p q r s x y z u = true)) :
    Calls Try.prog 36 #[.agg #[.int .i64 p, .int .i64 q, .int .i64 r, .int .i64 s], .agg #[.int .i64 x, .int .i64 y, .int .i64 z, .int .i64 u]] w fun e w' => e = .returned (.tuple #[.agg #[.int .i64 0, .int .i64 0, .int .i64 0, .int .i64 0], .bool false]) ∧ Below w.heap.size w w' := by
  by_cases h1 : good4 p q r s = true
  · by_cases h2 : good4 x y z u = true
    · have hm : mgood p q r s x y z u = false := by cases hh : mgood p q r s x y z u <;> simp_all
      clear h
      have H := Lib.hid h1
      clear h1
      have H' := Lib.hid h2
      clear h2
      have Hm := Lib.hid hm
      clear hm
      go_enter Try.func36, Try.ntmps36
      go_wp2_with fail
      refine (impl_IsMatrix p q r s true _ H.out).mono ?_
      rintro e w1 ⟨rfl, hb1⟩
      have hB1 : Below w.heap.size w w1 := Below.after (by go_grown) hb1
      obtain ⟨hc1, hf1⟩ := bcell hb1
      have hy1 := hb1.size
      try simp at hy1
      first | (with_reducible have hx1 := Nat.lt_of_succ_le hy1) | skip
      first | (with_reducible have hv1 := Nat.lt_of_succ_lt hx1) | skip
      first | (with_reducible have hu1 := Nat.lt_of_succ_lt hv1) | skip
      first | (have hz1 : w.heap.size < w1.heap.size := by omega) | (have hz1 := hB1.size)
      clear hb1
      go_wp2_with fail
      refine (impl_IsMatrix x y z u true _ H'.out).mono ?_
      rintro e w2 ⟨rfl, hb2⟩
      have hB2 : Below w.heap.size w w2 := Below.after (by go_grown) hb2
      obtain ⟨hc2, hf2⟩ := bcell hb2
      have hy2 := hb2.size
      try simp at hy2
      first | (with_reducible have hx2 := Nat.lt_of_succ_le hy2) | skip
      first | (with_reducible have hv2 := Nat.lt_of_succ_lt hx2) | skip
      first | (with_reducible have hu2 := Nat.lt_of_succ_lt hv2) | skip
      first | (have hz2 : w.heap.size < w2.heap.size := by omega) | (have hz2 := hB2.size)
      first | (have hq2 : w1.heap.size ≤ w2.heap.size := by omega) | skip
      first | (have hx1_2 := Nat.lt_of_lt_of_le hx1 hq2) | skip
      first | (have hv1_2 := Nat.lt_of_lt_of_le hv1 hq2) | skip
      first | (have hu1_2 := Nat.lt_of_lt_of_le hu1 hq2) | skip
      clear hb2
      go_wp2_with fail
      refine (impl_times p q r s x y z u _ H.out H'.out).mono ?_
      rintro e w3 ⟨rfl, hb3⟩
      have hB3 : Below w.heap.size w w3 := Below.after (by go_grown) hb3
      obtain ⟨hc3, hf3⟩ := bcell hb3
      have hy3 := hb3.size
      try simp at hy3
      first | (with_reducible have hx3 := Nat.lt_of_succ_le hy3) | skip
      first | (with_reducible have hv3 := Nat.lt_of_succ_lt hx3) | skip
      first | (with_reducible have hu3 := Nat.lt_of_succ_lt hv3) | skip
      first | (have hz3 : w.heap.size < w3.heap.size := by omega) | (have hz3 := hB3.size)
      first | (have hq3 : w2.heap.size ≤ w3.heap.size := by omega) | skip
      first | (have hx1_3 := Nat.lt_of_lt_of_le hx1_2 hq3) | skip
      first | (have hv1_3 := Nat.lt_of_lt_of_le hv1_2 hq3) | skip
      first | (have hu1_3 := Nat.lt_of_lt_of_le hu1_2 hq3) | skip
      first | (have hx2_3 := Nat.lt_of_lt_of_le hx2 hq3) | skip
      first | (have hv2_3 := Nat.lt_of_lt_of_le hv2 hq3) | skip
      first | (have hu2_3 := Nat.lt_of_lt_of_le hu2 hq3) | skip
      clear hb3
      go_wp2_with fail
      refine (impl_checked_no _ _ _ _ _ Hm.out).mono ?_
      rintro e w4 ⟨rfl, hb4⟩
      have hB4 : Below w.heap.size w w4 := Below.after (by go_grown) hb4
      obtain ⟨hc4, hf4⟩ := bcell hb4
      have hy4 := hb4.size
      try simp at hy4
      first | (with_reducible have hx4 := Nat.lt_of_succ_le hy4) | skip
      first | (with_reducible have hv4 := Nat.lt_of_succ_lt hx4) | skip
      first | (with_reducible have hu4 := Nat.lt_of_succ_lt hv4) | skip
      first | (have hz4 : w.heap.size < w4.heap.size := by omega) | (have hz4 := hB4.size)
      first | (have hq4 : w3.heap.size ≤ w4.heap.size := by omega) | skip
      first | (have hx1_4 := Nat.lt_of_lt_of_le hx1_3 hq4) | skip
      first | (have hv1_4 := Nat.lt_of_lt_of_le hv1_3 hq4) | skip
      first | (have hu1_4 := Nat.lt_of_lt_of_le hu1_3 hq4) | skip
      first | (have hx2_4 := Nat.lt_of_lt_of_le hx2_3 hq4) | skip
      first | (have hv2_4 := Nat.lt_of_lt_of_le hv2_3 hq4) | skip
      first | (have hu2_4 := Nat.lt_of_lt_of_le hu2_3 hq4) | skip
      first | (have hx3_4 := Nat.lt_of_lt_of_le hx3 hq4) | skip
      first | (have hv3_4 := Nat.lt_of_lt_of_le hv3 hq4) | skip
      first | (have hu3_4 := Nat.lt_of_lt_of_le hu3 hq4) | skip
      clear hb4
      go_wp2_with fail
      refine bodyPost_ret (v := .tuple #[.agg #[.int .i64 0, .int .i64 0, .int .i64 0, .int .i64 0], .bool false]) (by simp [results, Try.results36, go_sem, *] <;> rfl) rfl ⟨rfl, by go_grown⟩
    · clear h
      have H := Lib.hid h1
      clear h1
      have H' := Lib.hid (Bool.not_eq_true _ ▸ h2)
      clear h2
      go_enter Try.func36, Try.ntmps36
      go_wp2_with fail
      refine (impl_IsMatrix p q r s true _ H.out).mono ?_
      rintro e w1 ⟨rfl, hb1⟩
      have hB1 : Below w.heap.size w w1 := Below.after (by go_grown) hb1
      obtain ⟨hc1, hf1⟩ := bcell hb1
      have hy1 := hb1.size
      try simp at hy1
      first | (with_reducible have hx1 := Nat.lt_of_succ_le hy1) | skip
      first | (with_reducible have hv1 := Nat.lt_of_succ_lt hx1) | skip
      first | (with_reducible have hu1 := Nat.lt_of_succ_lt hv1) | skip
      first | (have hz1 : w.heap.size < w1.heap.size := by omega) | (have hz1 := hB1.size)
      clear hb1
      go_wp2_with fail
      refine (impl_IsMatrix x y z u false _ H'.out).mono ?_
      rintro e w2 ⟨rfl, hb2⟩
      have hB2 : Below w.heap.size w w2 := Below.after (by go_grown) hb2
      obtain ⟨hc2, hf2⟩ := bcell hb2
      have hy2 := hb2.size
      try simp at hy2
      first | (with_reducible have hx2 := Nat.lt_of_succ_le hy2) | skip
      first | (with_reducible have hv2 := Nat.lt_of_succ_lt hx2) | skip
      first | (with_reducible have hu2 := Nat.lt_of_succ_lt hv2) | skip
      first | (have hz2 : w.heap.size < w2.heap.size := by omega) | (have hz2 := hB2.size)
      first | (have hq2 : w1.heap.size ≤ w2.heap.size := by omega) | skip
      first | (have hx1_2 := Nat.lt_of_lt_of_le hx1 hq2) | skip
      first | (have hv1_2 := Nat.lt_of_lt_of_le hv1 hq2) | skip
      first | (have hu1_2 := Nat.lt_of_lt_of_le hu1 hq2) | skip
      clear hb2
      go_wp2_with fail
      refine bodyPost_ret (v := .tuple #[.agg #[.int .i64 0, .int .i64 0, .int .i64 0, .int .i64 0], .bool false]) (by simp [results, Try.results36, go_sem, *] <;> rfl) rfl ⟨rfl, by go_grown⟩
  · clear h
    have H := Lib.hid (Bool.not_eq_true _ ▸ h1)
    clear h1
    go_enter Try.func36, Try.ntmps36
    go_wp2_with fail
    refine (impl_IsMatrix p q r s false _ H.out).mono ?_
    rintro e w1 ⟨rfl, hb1⟩
    have hB1 : Below w.heap.size w w1 := Below.after (by go_grown) hb1
    obtain ⟨hc1, hf1⟩ := bcell hb1
    have hy1 := hb1.size
    try simp at hy1
    first | (with_reducible have hx1 := Nat.lt_of_succ_le hy1) | skip
    first | (with_reducible have hv1 := Nat.lt_of_succ_lt hx1) | skip
    first | (with_reducible have hu1 := Nat.lt_of_succ_lt hv1) | skip
    first | (have hz1 : w.heap.size < w1.heap.size := by omega) | (have hz1 := hB1.size)
    clear hb1
    go_wp2_with fail
    refine bodyPost_ret (v := .tuple #[.agg #[.int .i64 0, .int .i64 0, .int .i64 0, .int .i64 0], .bool false]) (by simp [results, Try.results36, go_sem, *] <;> rfl) rfl ⟨rfl, by go_grown⟩
theorem spec_MatrixProduct_yes (p q r s x y z u : Int) (w : World) (h : good4 p q r s = true) (h' : good4 x y z u = true) (hm : mgood p q r s x y z u = true) :
    Calls Try.prog 34 #[.agg #[.int .i64 p, .int .i64 q, .int .i64 r, .int .i64 s], .agg #[.int .i64 x, .int .i64 y, .int .i64 z, .int .i64 u]] w fun e w' => e = .returned (.tuple #[.agg #[.int .i64 (m1 p q r s x y z u), .int .i64 (m2 p q r s x y z u), .int .i64 (m3 p q r s x y z u), .int .i64 (m4 p q r s x y z u)], .bool true]) ∧ Below w.heap.size w w' := by
  have H := Lib.hid h
  clear h
  have H' := Lib.hid h'
  clear h'
  have Hm := Lib.hid hm
  clear hm
  go_enter Try.func34, Try.ntmps34
  go_wp2_with fail
  refine (spec_foMatrix p q r s true _ H.out).mono ?_
  rintro e w1 ⟨rfl, hb1⟩
  have hB1 : Below w.heap.size w w1 := Below.after (by go_grown) hb1
  obtain ⟨hc1, hf1⟩ := bcell hb1
  have hy1 := hb1.size
  try simp at hy1
  first | (with_reducible have hx1 := Nat.lt_of_succ_le hy1) | skip
  first | (with_reducible have hv1 := Nat.lt_of_succ_lt hx1) | skip
  first | (with_reducible have hu1 := Nat.lt_of_succ_lt hv1) | skip
  first | (have hz1 : w.heap.size < w1.heap.size := by omega) | (have hz1 := hB1.size)
  clear hb1
  go_wp2_with fail
  refine (spec_foMatrix x y z u true _ H'.out).mono ?_
  rintro e w2 ⟨rfl, hb2⟩
  have hB2 : Below w.heap.size w w2 := Below.after (by go_grown) hb2
  obtain ⟨hc2, hf2⟩ := bcell hb2
  have hy2 := hb2.size
  try simp at hy2
  first | (with_reducible have hx2 := Nat.lt_of_succ_le hy2) | skip
  first | (with_reducible have hv2 := Nat.lt_of_succ_lt hx2) | skip
  first | (with_reducible have hu2 := Nat.lt_of_succ_lt hv2) | skip
  first | (have hz2 : w.heap.size < w2.heap.size := by omega) | (have hz2 := hB2.size)
  first | (have hq2 : w1.heap.size ≤ w2.heap.size := by omega) | skip
  first | (have hx1_2 := Nat.lt_of_lt_of_le hx1 hq2) | skip
  first | (have hv1_2 := Nat.lt_of_lt_of_le hv1 hq2) | skip
  first | (have hu1_2 := Nat.lt_of_lt_of_le hu1 hq2) | skip
  clear hb2
  go_wp2_with fail
  refine (spec_foMul p q r s x y z u _ H.out H'.out).mono ?_
  rintro e w3 ⟨rfl, hb3⟩
  have hB3 : Below w.heap.size w w3 := Below.after (by go_grown) hb3
  obtain ⟨hc3, hf3⟩ := bcell hb3
  have hy3 := hb3.size
  try simp at hy3
  first | (with_reducible have hx3 := Nat.lt_of_succ_le hy3) | skip
  first | (with_reducible have hv3 := Nat.lt_of_succ_lt hx3) | skip
  first | (with_reducible have hu3 := Nat.lt_of_succ_lt hv3) | skip
  first | (have hz3 : w.heap.size < w3.heap.size := by omega) | (have hz3 := hB3.size)
  first | (have hq3 : w2.heap.size ≤ w3.heap.size := by omega) | skip
  first | (have hx1_3 := Nat.lt_of_lt_of_le hx1_2 hq3) | skip
  first | (have hv1_3 := Nat.lt_of_lt_of_le hv1_2 hq3) | skip
  first | (have hu1_3 := Nat.lt_of_lt_of_le hu1_2 hq3) | skip
  first | (have hx2_3 := Nat.lt_of_lt_of_le hx2 hq3) | skip
  first | (have hv2_3 := Nat.lt_of_lt_of_le hv2 hq3) | skip
  first | (have hu2_3 := Nat.lt_of_lt_of_le hu2 hq3) | skip
  clear hb3
  go_wp2_with fail
  refine (spec_foMatrix _ _ _ _ true _ Hm.out).mono ?_
  rintro e w4 ⟨rfl, hb4⟩
  have hB4 : Below w.heap.size w w4 := Below.after (by go_grown) hb4
  obtain ⟨hc4, hf4⟩ := bcell hb4
  have hy4 := hb4.size
  try simp at hy4
  first | (with_reducible have hx4 := Nat.lt_of_succ_le hy4) | skip
  first | (with_reducible have hv4 := Nat.lt_of_succ_lt hx4) | skip
  first | (with_reducible have hu4 := Nat.lt_of_succ_lt hv4) | skip
  first | (have hz4 : w.heap.size < w4.heap.size := by omega) | (have hz4 := hB4.size)
  first | (have hq4 : w3.heap.size ≤ w4.heap.size := by omega) | skip
  first | (have hx1_4 := Nat.lt_of_lt_of_le hx1_3 hq4) | skip
  first | (have hv1_4 := Nat.lt_of_lt_of_le hv1_3 hq4) | skip
  first | (have hu1_4 := Nat.lt_of_lt_of_le hu1_3 hq4) | skip
  first | (have hx2_4 := Nat.lt_of_lt_of_le hx2_3 hq4) | skip
  first | (have hv2_4 := Nat.lt_of_lt_of_le hv2_3 hq4) | skip
  first | (have hu2_4 := Nat.lt_of_lt_of_le hu2_3 hq4) | skip
  first | (have hx3_4 := Nat.lt_of_lt_of_le hx3 hq4) | skip
  first | (have hv3_4 := Nat.lt_of_lt_of_le hv3 hq4) | skip
  first | (have hu3_4 := Nat.lt_of_lt_of_le hu3 hq4) | skip
  clear hb4
  go_wp2_with fail
  refine (spec_foMul p q r s x y z u _ H.out H'.out).mono ?_
  rintro e w5 ⟨rfl, hb5⟩
  have hB5 : Below w.heap.size w w5 := Below.after (by go_grown) hb5
  obtain ⟨hc5, hf5⟩ := bcell hb5
  have hy5 := hb5.size
  try simp at hy5
  first | (with_reducible have hx5 := Nat.lt_of_succ_le hy5) | skip
  first | (with_reducible have hv5 := Nat.lt_of_succ_lt hx5) | skip
  first | (with_reducible have hu5 := Nat.lt_of_succ_lt hv5) | skip
  first | (have hz5 : w.heap.size < w5.heap.size := by omega) | (have hz5 := hB5.size)
  first | (have hq5 : w4.heap.size ≤ w5.heap.size := by omega) | skip
  first | (have hx1_5 := Nat.lt_of_lt_of_le hx1_4 hq5) | skip
  first | (have hv1_5 := Nat.lt_of_lt_of_le hv1_4 hq5) | skip
  first | (have hu1_5 := Nat.lt_of_lt_of_le hu1_4 hq5) | skip
  first | (have hx2_5 := Nat.lt_of_lt_of_le hx2_4 hq5) | skip
  first | (have hv2_5 := Nat.lt_of_lt_of_le hv2_4 hq5) | skip
  first | (have hu2_5 := Nat.lt_of_lt_of_le hu2_4 hq5) | skip
  first | (have hx3_5 := Nat.lt_of_lt_of_le hx3_4 hq5) | skip
  first | (have hv3_5 := Nat.lt_of_lt_of_le hv3_4 hq5) | skip
  first | (have hu3_5 := Nat.lt_of_lt_of_le hu3_4 hq5) | skip
  first | (have hx4_5 := Nat.lt_of_lt_of_le hx4 hq5) | skip
  first | (have hv4_5 := Nat.lt_of_lt_of_le hv4 hq5) | skip
  first | (have hu4_5 := Nat.lt_of_lt_of_le hu4 hq5) | skip
  clear hb5
  go_wp2_with fail
  refine bodyPost_ret (v := .tuple #[.agg #[.int .i64 (m1 p q r s x y z u), .int .i64 (m2 p q r s x y z u), .int .i64 (m3 p q r s x y z u), .int .i64 (m4 p q r s x y z u)], .bool true]) (by simp [results, Try.results34, go_sem, *] <;> rfl) rfl ⟨rfl, by go_grown⟩
theorem spec_MatrixProduct_no (p q r s x y z u : Int) (w : World) (h : ¬ (good4 p q r s = true ∧ good4 x y z u = true ∧ mgood p q r s x y z u = true)) :
    Calls Try.prog 34 #[.agg #[.int .i64 p, .int .i64 q, .int .i64 r, .int .i64 s], .agg #[.int .i64 x, .int .i64 y, .int .i64 z, .int .i64 u]] w fun e w' => e = .returned (.tuple #[.agg #[.int .i64 0, .int .i64 0, .int .i64 0, .int .i64 0], .bool false]) ∧ Below w.heap.size w w' := by
  by_cases h1 : good4 p q r s = true
  · by_cases h2 : good4 x y z u = true
    · have hm : mgood p q r s x y z u = false := by cases hh : mgood p q r s x y z u <;> simp_all
      clear h
      have H := Lib.hid h1
      clear h1
      have H' := Lib.hid h2
      clear h2
      have Hm := Lib.hid hm
      clear hm
      go_enter Try.func34, Try.ntmps34
      go_wp2_with fail
      refine (spec_foMatrix p q r s true _ H.out).mono ?_
      rintro e w1 ⟨rfl, hb1⟩
      have hB1 : Below w.heap.size w w1 := Below.after (by go_grown) hb1
      obtain ⟨hc1, hf1⟩ := bcell hb1
      have hy1 := hb1.size
      try simp at hy1
      first | (with_reducible have hx1 := Nat.lt_of_succ_le hy1) | skip
      first | (with_reducible have hv1 := Nat.lt_of_succ_lt hx1) | skip
      first | (with_reducible have hu1 := Nat.lt_of_succ_lt hv1) | skip
      first | (have hz1 : w.heap.size < w1.heap.size := by omega) | (have hz1 := hB1.size)
      clear hb1
      go_wp2_with fail
      refine (spec_foMatrix x y z u true _ H'.out).mono ?_
      rintro e w2 ⟨rfl, hb2⟩
      have hB2 : Below w.heap.size w w2 := Below.after (by go_grown) hb2
      obtain ⟨hc2, hf2⟩ := bcell hb2
      have hy2 := hb2.size
      try simp at hy2
      first | (with_reducible have hx2 := Nat.lt_of_succ_le hy2) | skip
      first | (with_reducible have hv2 := Nat.lt_of_succ_lt hx2) | skip
      first | (with_reducible have hu2 := Nat.lt_of_succ_lt hv2) | skip
      first | (have hz2 : w.heap.size < w2.heap.size := by omega) | (have hz2 := hB2.size)
      first | (have hq2 : w1.heap.size ≤ w2.heap.size := by omega) | skip
      first | (have hx1_2 := Nat.lt_of_lt_of_le hx1 hq2) | skip
      first | (have hv1_2 := Nat.lt_of_lt_of_le hv1 hq2) | skip
      first | (have hu1_2 := Nat.lt_of_lt_of_le hu1 hq2) | skip
      clear hb2
      go_wp2_with fail
      refine (spec_foMul p q r s x y z u _ H.out H'.out).mono ?_
      rintro e w3 ⟨rfl, hb3⟩
      have hB3 : Below w.heap.size w w3 := Below.after (by go_grown) hb3
      obtain ⟨hc3, hf3⟩ := bcell hb3
      have hy3 := hb3.size
      try simp at hy3
      first | (with_reducible have hx3 := Nat.lt_of_succ_le hy3) | skip
      first | (with_reducible have hv3 := Nat.lt_of_succ_lt hx3) | skip
      first | (with_reducible have hu3 := Nat.lt_of_succ_lt hv3) | skip
      first | (have hz3 : w.heap.size < w3.heap.size := by omega) | (have hz3 := hB3.size)
      first | (have hq3 : w2.heap.size ≤ w3.heap.size := by omega) | skip
      first | (have hx1_3 := Nat.lt_of_lt_of_le hx1_2 hq3) | skip
      first | (have hv1_3 := Nat.lt_of_lt_of_le hv1_2 hq3) | skip
      first | (have hu1_3 := Nat.lt_of_lt_of_le hu1_2 hq3) | skip
      first | (have hx2_3 := Nat.lt_of_lt_of_le hx2 hq3) | skip
      first | (have hv2_3 := Nat.lt_of_lt_of_le hv2 hq3) | skip
      first | (have hu2_3 := Nat.lt_of_lt_of_le hu2 hq3) | skip
      clear hb3
      go_wp2_with fail
      refine (spec_foMatrix _ _ _ _ false _ Hm.out).mono ?_
      rintro e w4 ⟨rfl, hb4⟩
      have hB4 : Below w.heap.size w w4 := Below.after (by go_grown) hb4
      obtain ⟨hc4, hf4⟩ := bcell hb4
      have hy4 := hb4.size
      try simp at hy4
      first | (with_reducible have hx4 := Nat.lt_of_succ_le hy4) | skip
      first | (with_reducible have hv4 := Nat.lt_of_succ_lt hx4) | skip
      first | (with_reducible have hu4 := Nat.lt_of_succ_lt hv4) | skip
      first | (have hz4 : w.heap.size < w4.heap.size := by omega) | (have hz4 := hB4.size)
      first | (have hq4 : w3.heap.size ≤ w4.heap.size := by omega) | skip
      first | (have hx1_4 := Nat.lt_of_lt_of_le hx1_3 hq4) | skip
      first | (have hv1_4 := Nat.lt_of_lt_of_le hv1_3 hq4) | skip
      first | (have hu1_4 := Nat.lt_of_lt_of_le hu1_3 hq4) | skip
      first | (have hx2_4 := Nat.lt_of_lt_of_le hx2_3 hq4) | skip
      first | (have hv2_4 := Nat.lt_of_lt_of_le hv2_3 hq4) | skip
      first | (have hu2_4 := Nat.lt_of_lt_of_le hu2_3 hq4) | skip
      first | (have hx3_4 := Nat.lt_of_lt_of_le hx3 hq4) | skip
      first | (have hv3_4 := Nat.lt_of_lt_of_le hv3 hq4) | skip
      first | (have hu3_4 := Nat.lt_of_lt_of_le hu3 hq4) | skip
      clear hb4
      go_wp2_with fail
      refine bodyPost_ret (v := .tuple #[.agg #[.int .i64 0, .int .i64 0, .int .i64 0, .int .i64 0], .bool false]) (by simp [results, Try.results34, go_sem, *] <;> rfl) rfl ⟨rfl, by go_grown⟩
    · clear h
      have H := Lib.hid h1
      clear h1
      have H' := Lib.hid (Bool.not_eq_true _ ▸ h2)
      clear h2
      go_enter Try.func34, Try.ntmps34
      go_wp2_with fail
      refine (spec_foMatrix p q r s true _ H.out).mono ?_
      rintro e w1 ⟨rfl, hb1⟩
      have hB1 : Below w.heap.size w w1 := Below.after (by go_grown) hb1
      obtain ⟨hc1, hf1⟩ := bcell hb1
      have hy1 := hb1.size
      try simp at hy1
      first | (with_reducible have hx1 := Nat.lt_of_succ_le hy1) | skip
      first | (with_reducible have hv1 := Nat.lt_of_succ_lt hx1) | skip
      first | (with_reducible have hu1 := Nat.lt_of_succ_lt hv1) | skip
      first | (have hz1 : w.heap.size < w1.heap.size := by omega) | (have hz1 := hB1.size)
      clear hb1
      go_wp2_with fail
      refine (spec_foMatrix x y z u false _ H'.out).mono ?_
      rintro e w2 ⟨rfl, hb2⟩
      have hB2 : Below w.heap.size w w2 := Below.after (by go_grown) hb2
      obtain ⟨hc2, hf2⟩ := bcell hb2
      have hy2 := hb2.size
      try simp at hy2
      first | (with_reducible have hx2 := Nat.lt_of_succ_le hy2) | skip
      first | (with_reducible have hv2 := Nat.lt_of_succ_lt hx2) | skip
      first | (with_reducible have hu2 := Nat.lt_of_succ_lt hv2) | skip
      first | (have hz2 : w.heap.size < w2.heap.size := by omega) | (have hz2 := hB2.size)
      first | (have hq2 : w1.heap.size ≤ w2.heap.size := by omega) | skip
      first | (have hx1_2 := Nat.lt_of_lt_of_le hx1 hq2) | skip
      first | (have hv1_2 := Nat.lt_of_lt_of_le hv1 hq2) | skip
      first | (have hu1_2 := Nat.lt_of_lt_of_le hu1 hq2) | skip
      clear hb2
      go_wp2_with fail
      refine bodyPost_ret (v := .tuple #[.agg #[.int .i64 0, .int .i64 0, .int .i64 0, .int .i64 0], .bool false]) (by simp [results, Try.results34, go_sem, *] <;> rfl) rfl ⟨rfl, by go_grown⟩
  · clear h
    have H := Lib.hid (Bool.not_eq_true _ ▸ h1)
    clear h1
    go_enter Try.func34, Try.ntmps34
    go_wp2_with fail
    refine (spec_foMatrix p q r s false _ H.out).mono ?_
    rintro e w1 ⟨rfl, hb1⟩
    have hB1 : Below w.heap.size w w1 := Below.after (by go_grown) hb1
    obtain ⟨hc1, hf1⟩ := bcell hb1
    have hy1 := hb1.size
    try simp at hy1
    first | (with_reducible have hx1 := Nat.lt_of_succ_le hy1) | skip
    first | (with_reducible have hv1 := Nat.lt_of_succ_lt hx1) | skip
    first | (with_reducible have hu1 := Nat.lt_of_succ_lt hv1) | skip
    first | (have hz1 : w.heap.size < w1.heap.size := by omega) | (have hz1 := hB1.size)
    clear hb1
    go_wp2_with fail
    refine bodyPost_ret (v := .tuple #[.agg #[.int .i64 0, .int .i64 0, .int .i64 0, .int .i64 0], .bool false]) (by simp [results, Try.results34, go_sem, *] <;> rfl) rfl ⟨rfl, by go_grown⟩
end Go.Proofs.Ytgdhelecflddbaa
