/- Contracts and walks of the laws: unit ideals, norms, identity and principal forms, characters, conjugates, matrix products, ideals of forms. -/
import Derived.Test.YtgdhelecflddbaaE
namespace Go.Proofs.Ytgdhelecflddbaa
set_option linter.unusedVariables false
open Go.ChangeShapes Go.WideShapes Go.ChangeAt Go.RowKit

/-! unit ideals -/
theorem impl_unitIdeal (d : Int) (w : World) :
    Calls Try.prog 51 #[.int .i64 d] w fun e w' => e = .returned (.agg #[.int .i64 1, .int .i64 1, .int .i64 (d % 2)]) ∧ Below w.heap.size w w' := by
  have h1 := Int.emod_nonneg d (show (2 : Int) ≠ 0 by omega)
  go_enter Try.func51, Try.ntmps51
  go_wp2_with fail
  refine (impl_mod d 2 _ (by omega) (by omega)).mono ?_
  rintro e w' ⟨rfl, rfl⟩
  go_wp2_with fail
  go_returns
  exact ⟨rfl, by go_grown⟩
theorem impl_UnitIdeal_yes (d : Int) (w : World) (h : negD d = true) :
    Calls Try.prog 19 #[.int .i64 d] w fun e w' => e = .returned (.tuple #[.agg #[.int .i64 1, .int .i64 1, .int .i64 (d % 2)], .bool true]) ∧ Below w.heap.size w w' := by
  have H := Lib.hid h
  clear h
  go_enter Try.func19, Try.ntmps19
  go_wp2_with fail
  refine (impl_isNegativeDisc d true _ H.out).mono ?_
  rintro e w' ⟨rfl, rfl⟩
  go_wp2_with fail
  refine (impl_unitIdeal d _).mono ?_
  rintro e w1 ⟨rfl, hb1⟩
  have hB1 : Below w.heap.size w w1 := Below.after (by go_grown) hb1
  obtain ⟨hc1, hf1⟩ := bcell hb1
  have hy1 := hb1.size
  try simp at hy1
  first | (with_reducible have hx1 := Nat.lt_of_succ_le hy1) | skip
  first | (with_reducible have hv1 := Nat.lt_of_succ_lt hx1) | skip
  first | (with_reducible have hu1 := Nat.lt_of_succ_lt hv1) | skip
  first | (have hz1 : w.heap.size < w1.heap.size := by omega) | (have hz1 := hB1.size)
  clear hb1
  go_wp2_with fail
  refine bodyPost_ret (v := .tuple #[.agg #[.int .i64 1, .int .i64 1, .int .i64 (d % 2)], .bool true]) (by simp [results, Try.results19, go_sem, *] <;> rfl) rfl ⟨rfl, by go_grown⟩
theorem impl_UnitIdeal_no (d : Int) (w : World) (h : negD d = false) :
    Calls Try.prog 19 #[.int .i64 d] w fun e w' => e = .returned (.tuple #[.agg #[.int .i64 0, .int .i64 0, .int .i64 0], .bool false]) ∧ Below w.heap.size w w' := by
  have H := Lib.hid h
  clear h
  go_enter Try.func19, Try.ntmps19
  go_wp2_with fail
  refine (impl_isNegativeDisc d false _ H.out).mono ?_
  rintro e w' ⟨rfl, rfl⟩
  go_wp2_with fail
  refine bodyPost_ret (v := .tuple #[.agg #[.int .i64 0, .int .i64 0, .int .i64 0], .bool false]) (by simp [results, Try.results19, go_sem, *] <;> rfl) rfl ⟨rfl, by go_grown⟩
theorem spec_UnitIdeal_yes (d : Int) (w : World) (h : negD d = true) :
    Calls Try.prog 18 #[.int .i64 d] w fun e w' => e = .returned (.tuple #[.agg #[.int .i64 1, .int .i64 1, .int .i64 (d % 2)], .bool true]) ∧ Below w.heap.size w w' := by
  have H := Lib.hid h
  clear h
  go_enter Try.func18, Try.ntmps18
  go_wp2_with fail
  refine (spec_reDisc d true _ H.out).mono ?_
  rintro e w' ⟨rfl, rfl⟩
  go_wp2_with fail
  refine (spec_nuMod d 2 _ (by omega) (by omega)).mono ?_
  rintro e w' ⟨rfl, rfl⟩
  go_wp2_with fail
  refine bodyPost_ret (v := .tuple #[.agg #[.int .i64 1, .int .i64 1, .int .i64 (d % 2)], .bool true]) (by simp [results, Try.results18, go_sem, *] <;> rfl) rfl ⟨rfl, by go_grown⟩
theorem spec_UnitIdeal_no (d : Int) (w : World) (h : negD d = false) :
    Calls Try.prog 18 #[.int .i64 d] w fun e w' => e = .returned (.tuple #[.agg #[.int .i64 0, .int .i64 0, .int .i64 0], .bool false]) ∧ Below w.heap.size w w' := by
  have H := Lib.hid h
  clear h
  go_enter Try.func18, Try.ntmps18
  go_wp2_with fail
  refine (spec_reDisc d false _ H.out).mono ?_
  rintro e w' ⟨rfl, rfl⟩
  go_wp2_with fail
  refine bodyPost_ret (v := .tuple #[.agg #[.int .i64 0, .int .i64 0, .int .i64 0], .bool false]) (by simp [results, Try.results18, go_sem, *] <;> rfl) rfl ⟨rfl, by go_grown⟩
/-! a law that compares two results (struct, bool) at each outcome of a test B -/
theorem walkUnitIdeal (d : Int) (w : World) (wd : (Lit.int .i64 d).wf = true) :
    Calls Try.prog 4 #[.int .i64 d] w fun e w' => e = .returned (.bool true) ∧ Below w.heap.size w w' := by
  by_cases h : negD d = true
  · have H := Lib.hid h
    clear h
    go_enter Try.func4, Try.ntmps4
    go_wp2_with fail
    refine (spec_UnitIdeal_yes d _ H.out).mono ?_
    rintro e w1 ⟨rfl, hb1⟩
    have hB1 : Below w.heap.size w w1 := Below.after (by go_grown) hb1
    obtain ⟨hc1, hf1⟩ := bcell hb1
    have hy1 := hb1.size
    try simp at hy1
    first | (with_reducible have hx1 := Nat.lt_of_succ_le hy1) | skip
    first | (with_reducible have hv1 := Nat.lt_of_succ_lt hx1) | skip
    first | (with_reducible have hu1 := Nat.lt_of_succ_lt hv1) | skip
    first | (have hz1 : w.heap.size < w1.heap.size := by omega) | (have hz1 := hB1.size)
    clear hb1
    go_wp2_with fail
    refine (impl_UnitIdeal_yes d _ H.out).mono ?_
    rintro e w2 ⟨rfl, hb2⟩
    have hB2 : Below w.heap.size w w2 := Below.after (by go_grown) hb2
    obtain ⟨hc2, hf2⟩ := bcell hb2
    have hy2 := hb2.size
    try simp at hy2
    first | (with_reducible have hx2 := Nat.lt_of_succ_le hy2) | skip
    first | (with_reducible have hv2 := Nat.lt_of_succ_lt hx2) | skip
    first | (with_reducible have hu2 := Nat.lt_of_succ_lt hv2) | skip
    first | (have hz2 : w.heap.size < w2.heap.size := by omega) | (have hz2 := hB2.size)
    first | (have hq2 : w1.heap.size ≤ w2.heap.size := by omega) | skip
    first | (have hx1_2 := Nat.lt_of_lt_of_le hx1 hq2) | skip
    first | (have hv1_2 := Nat.lt_of_lt_of_le hv1 hq2) | skip
    first | (have hu1_2 := Nat.lt_of_lt_of_le hu1 hq2) | skip
    clear hb2
    go_wp2_with fail
    refine (laws_eqIdeal 1 1 _ _).mono ?_
    rintro e w3 ⟨rfl, hb3⟩
    have hB3 : Below w.heap.size w w3 := Below.after (by go_grown) hb3
    obtain ⟨hc3, hf3⟩ := bcell hb3
    have hy3 := hb3.size
    try simp at hy3
    first | (with_reducible have hx3 := Nat.lt_of_succ_le hy3) | skip
    first | (with_reducible have hv3 := Nat.lt_of_succ_lt hx3) | skip
    first | (with_reducible have hu3 := Nat.lt_of_succ_lt hv3) | skip
    first | (have hz3 : w.heap.size < w3.heap.size := by omega) | (have hz3 := hB3.size)
    first | (have hq3 : w2.heap.size ≤ w3.heap.size := by omega) | skip
    first | (have hx1_3 := Nat.lt_of_lt_of_le hx1_2 hq3) | skip
    first | (have hv1_3 := Nat.lt_of_lt_of_le hv1_2 hq3) | skip
    first | (have hu1_3 := Nat.lt_of_lt_of_le hu1_2 hq3) | skip
    first | (have hx2_3 := Nat.lt_of_lt_of_le hx2 hq3) | skip
    first | (have hv2_3 := Nat.lt_of_lt_of_le hv2 hq3) | skip
    first | (have hu2_3 := Nat.lt_of_lt_of_le hu2 hq3) | skip
    clear hb3
    go_wp2_with fail
    go_ret
    exact ⟨rfl, by go_grown⟩
  · have H := Lib.hid (Bool.not_eq_true _ ▸ h)
    clear h
    go_enter Try.func4, Try.ntmps4
    go_wp2_with fail
    refine (spec_UnitIdeal_no d _ H.out).mono ?_
    rintro e w1 ⟨rfl, hb1⟩
    have hB1 : Below w.heap.size w w1 := Below.after (by go_grown) hb1
    obtain ⟨hc1, hf1⟩ := bcell hb1
    have hy1 := hb1.size
    try simp at hy1
    first | (with_reducible have hx1 := Nat.lt_of_succ_le hy1) | skip
    first | (with_reducible have hv1 := Nat.lt_of_succ_lt hx1) | skip
    first | (with_reducible have hu1 := Nat.lt_of_succ_lt hv1) | skip
    first | (have hz1 : w.heap.size < w1.heap.size := by omega) | (have hz1 := hB1.size)
    clear hb1
    go_wp2_with fail
    refine (impl_UnitIdeal_no d _ H.out).mono ?_
    rintro e w2 ⟨rfl, hb2⟩
    have hB2 : Below w.heap.size w w2 := Below.after (by go_grown) hb2
    obtain ⟨hc2, hf2⟩ := bcell hb2
    have hy2 := hb2.size
    try simp at hy2
    first | (with_reducible have hx2 := Nat.lt_of_succ_le hy2) | skip
    first | (with_reducible have hv2 := Nat.lt_of_succ_lt hx2) | skip
    first | (with_reducible have hu2 := Nat.lt_of_succ_lt hv2) | skip
    first | (have hz2 : w.heap.size < w2.heap.size := by omega) | (have hz2 := hB2.size)
    first | (have hq2 : w1.heap.size ≤ w2.heap.size := by omega) | skip
    first | (have hx1_2 := Nat.lt_of_lt_of_le hx1 hq2) | skip
    first | (have hv1_2 := Nat.lt_of_lt_of_le hv1 hq2) | skip
    first | (have hu1_2 := Nat.lt_of_lt_of_le hu1 hq2) | skip
    clear hb2
    go_wp2_with fail
    refine (laws_eqIdeal 0 0 0 _).mono ?_
    rintro e w3 ⟨rfl, hb3⟩
    have hB3 : Below w.heap.size w w3 := Below.after (by go_grown) hb3
    obtain ⟨hc3, hf3⟩ := bcell hb3
    have hy3 := hb3.size
    try simp at hy3
    first | (with_reducible have hx3 := Nat.lt_of_succ_le hy3) | skip
    first | (with_reducible have hv3 := Nat.lt_of_succ_lt hx3) | skip
    first | (with_reducible have hu3 := Nat.lt_of_succ_lt hv3) | skip
    first | (have hz3 : w.heap.size < w3.heap.size := by omega) | (have hz3 := hB3.size)
    first | (have hq3 : w2.heap.size ≤ w3.heap.size := by omega) | skip
    first | (have hx1_3 := Nat.lt_of_lt_of_le hx1_2 hq3) | skip
    first | (have hv1_3 := Nat.lt_of_lt_of_le hv1_2 hq3) | skip
    first | (have hu1_3 := Nat.lt_of_lt_of_le hu1_2 hq3) | skip
    first | (have hx2_3 := Nat.lt_of_lt_of_le hx2 hq3) | skip
    first | (have hv2_3 := Nat.lt_of_lt_of_le hv2 hq3) | skip
    first | (have hu2_3 := Nat.lt_of_lt_of_le hu2 hq3) | skip
    clear hb3
    go_wp2_with fail
    go_ret
    exact ⟨rfl, by go_grown⟩

/-! norms -/
theorem impl_norm (s a b : Int) (w : World) (h : 1 ≤ s ∧ s ≤ 10000 ∧ 1 ≤ a ∧ a ≤ 10000) :
    Calls Try.prog 52 #[.agg #[.int .i64 s, .int .i64 a, .int .i64 b]] w fun e w' => e = .returned (.int .i64 (s * s * a)) ∧ Below w.heap.size w w' := by
  obtain ⟨h1, h2, h3, h4⟩ := h
  obtain ⟨b1, b2⟩ := mul_le (a := s) (b := s) (A := 10000) (B := 10000) (by omega) h2 (by omega) h2
  obtain ⟨b3, b4⟩ := mul_le (a := s * s) (b := a) (A := 100000000) (B := 10000) b1 b2 (by omega) h4
  go_enter Try.func52, Try.ntmps52
  go_wp2_with fail
  go_ret
  exact ⟨rint rfl, by go_grown⟩
theorem impl_IdealNorm_yes (d s a b : Int) (w : World) (h : idealB d s a b = true) :
    Calls Try.prog 22 #[.int .i64 d, .agg #[.int .i64 s, .int .i64 a, .int .i64 b]] w fun e w' => e = .returned (.tuple #[.int .i64 (s * s * a), .bool true]) ∧ Below w.heap.size w w' := by
  obtain ⟨_, ⟨h1, h2, h3, h4, _⟩, _⟩ := idealB_iff.1 h
  have H := Lib.hid h
  clear h
  go_enter Try.func22, Try.ntmps22
  go_wp2_with fail
  refine (impl_isIdeal d s a b true _ H.out).mono ?_
  rintro e w1 ⟨rfl, hb1⟩
  have hB1 : Below w.heap.size w w1 := Below.after (by go_grown) hb1
  obtain ⟨hc1, hf1⟩ := bcell hb1
  have hy1 := hb1.size
  try simp at hy1
  first | (with_reducible have hx1 := Nat.lt_of_succ_le hy1) | skip
  first | (with_reducible have hv1 := Nat.lt_of_succ_lt hx1) | skip
  first | (with_reducible have hu1 := Nat.lt_of_succ_lt hv1) | skip
  first | (have hz1 : w.heap.size < w1.heap.size := by omega) | (have hz1 := hB1.size)
  clear hb1
  go_wp2_with fail
  refine (impl_norm s a b _ ⟨h1, h2, h3, h4⟩).mono ?_
  rintro e w2 ⟨rfl, hb2⟩
  have hB2 : Below w.heap.size w w2 := Below.after (by go_grown) hb2
  obtain ⟨hc2, hf2⟩ := bcell hb2
  have hy2 := hb2.size
  try simp at hy2
  first | (with_reducible have hx2 := Nat.lt_of_succ_le hy2) | skip
  first | (with_reducible have hv2 := Nat.lt_of_succ_lt hx2) | skip
  first | (with_reducible have hu2 := Nat.lt_of_succ_lt hv2) | skip
  first | (have hz2 : w.heap.size < w2.heap.size := by omega) | (have hz2 := hB2.size)
  first | (have hq2 : w1.heap.size ≤ w2.heap.size := by omega) | skip
  first | (have hx1_2 := Nat.lt_of_lt_of_le hx1 hq2) | skip
  first | (have hv1_2 := Nat.lt_of_lt_of_le hv1 hq2) | skip
  first | (have hu1_2 := Nat.lt_of_lt_of_le hu1 hq2) | skip
  clear hb2
  go_wp2_with fail
  go_ret2
  exact ⟨rfl, by go_grown⟩
theorem impl_IdealNorm_no (d s a b : Int) (w : World) (h : idealB d s a b = false) :
    Calls Try.prog 22 #[.int .i64 d, .agg #[.int .i64 s, .int .i64 a, .int .i64 b]] w fun e w' => e = .returned (.tuple #[.int .i64 0, .bool false]) ∧ Below w.heap.size w w' := by
  have H := Lib.hid h
  clear h
  go_enter Try.func22, Try.ntmps22
  go_wp2_with fail
  refine (impl_isIdeal d s a b false _ H.out).mono ?_
  rintro e w1 ⟨rfl, hb1⟩
  have hB1 : Below w.heap.size w w1 := Below.after (by go_grown) hb1
  obtain ⟨hc1, hf1⟩ := bcell hb1
  have hy1 := hb1.size
  try simp at hy1
  first | (with_reducible have hx1 := Nat.lt_of_succ_le hy1) | skip
  first | (with_reducible have hv1 := Nat.lt_of_succ_lt hx1) | skip
  first | (with_reducible have hu1 := Nat.lt_of_succ_lt hv1) | skip
  first | (have hz1 : w.heap.size < w1.heap.size := by omega) | (have hz1 := hB1.size)
  clear hb1
  go_wp2_with fail
  go_ret2
  exact ⟨rfl, by go_grown⟩
theorem spec_IdealNorm_yes (d s a b : Int) (w : World) (h : idealB d s a b = true) :
    Calls Try.prog 21 #[.int .i64 d, .agg #[.int .i64 s, .int .i64 a, .int .i64 b]] w fun e w' => e = .returned (.tuple #[.int .i64 (s * s * a), .bool true]) ∧ Below w.heap.size w w' := by
  obtain ⟨_, ⟨h1, h2, h3, h4, _⟩, _⟩ := idealB_iff.1 h
  obtain ⟨b1, b2⟩ := mul_le (a := s) (b := s) (A := 10000) (B := 10000) (by omega) h2 (by omega) h2
  obtain ⟨b3, b4⟩ := mul_le (a := s * s) (b := a) (A := 100000000) (B := 10000) b1 b2 (by omega) h4
  have H := Lib.hid h
  clear h
  go_enter Try.func21, Try.ntmps21
  go_wp2_with fail
  refine (spec_idGood d s a b true _ H.out).mono ?_
  rintro e w1 ⟨rfl, hb1⟩
  have hB1 : Below w.heap.size w w1 := Below.after (by go_grown) hb1
  obtain ⟨hc1, hf1⟩ := bcell hb1
  have hy1 := hb1.size
  try simp at hy1
  first | (with_reducible have hx1 := Nat.lt_of_succ_le hy1) | skip
  first | (with_reducible have hv1 := Nat.lt_of_succ_lt hx1) | skip
  first | (with_reducible have hu1 := Nat.lt_of_succ_lt hv1) | skip
  first | (have hz1 : w.heap.size < w1.heap.size := by omega) | (have hz1 := hB1.size)
  clear hb1
  go_wp2_with fail
  go_ret2
  exact ⟨rfl, by go_grown⟩
theorem spec_IdealNorm_no (d s a b : Int) (w : World) (h : idealB d s a b = false) :
    Calls Try.prog 21 #[.int .i64 d, .agg #[.int .i64 s, .int .i64 a, .int .i64 b]] w fun e w' => e = .returned (.tuple #[.int .i64 0, .bool false]) ∧ Below w.heap.size w w' := by
  have H := Lib.hid h
  clear h
  go_enter Try.func21, Try.ntmps21
  go_wp2_with fail
  refine (spec_idGood d s a b false _ H.out).mono ?_
  rintro e w1 ⟨rfl, hb1⟩
  have hB1 : Below w.heap.size w w1 := Below.after (by go_grown) hb1
  obtain ⟨hc1, hf1⟩ := bcell hb1
  have hy1 := hb1.size
  try simp at hy1
  first | (with_reducible have hx1 := Nat.lt_of_succ_le hy1) | skip
  first | (with_reducible have hv1 := Nat.lt_of_succ_lt hx1) | skip
  first | (with_reducible have hu1 := Nat.lt_of_succ_lt hv1) | skip
  first | (have hz1 : w.heap.size < w1.heap.size := by omega) | (have hz1 := hB1.size)
  clear hb1
  go_wp2_with fail
  go_ret2
  exact ⟨rfl, by go_grown⟩
theorem walkIdealNorm (d s a b : Int) (w : World) (wd : (Lit.int .i64 d).wf = true) (ws : (Lit.int .i64 s).wf = true) (wa : (Lit.int .i64 a).wf = true) (wb : (Lit.int .i64 b).wf = true) :
    Calls Try.prog 5 #[.int .i64 d, .agg #[.int .i64 s, .int .i64 a, .int .i64 b]] w fun e w' => e = .returned (.bool true) ∧ Below w.heap.size w w' := by
  by_cases h : idealB d s a b = true
  · have H := Lib.hid h
    clear h
    go_enter Try.func5, Try.ntmps5
    go_wp2_with fail
    refine (laws_toIdeal s a b _).mono ?_
    rintro e w1 ⟨rfl, hb1⟩
    have hB1 : Below w.heap.size w w1 := Below.after (by go_grown) hb1
    obtain ⟨hc1, hf1⟩ := bcell hb1
    have hy1 := hb1.size
    try simp at hy1
    first | (with_reducible have hx1 := Nat.lt_of_succ_le hy1) | skip
    first | (with_reducible have hv1 := Nat.lt_of_succ_lt hx1) | skip
    first | (with_reducible have hu1 := Nat.lt_of_succ_lt hv1) | skip
    first | (have hz1 : w.heap.size < w1.heap.size := by omega) | (have hz1 := hB1.size)
    clear hb1
    go_wp2_with fail
    refine (spec_IdealNorm_yes d s a b _ H.out).mono ?_
    rintro e w2 ⟨rfl, hb2⟩
    have hB2 : Below w.heap.size w w2 := Below.after (by go_grown) hb2
    obtain ⟨hc2, hf2⟩ := bcell hb2
    have hy2 := hb2.size
    try simp at hy2
    first | (with_reducible have hx2 := Nat.lt_of_succ_le hy2) | skip
    first | (with_reducible have hv2 := Nat.lt_of_succ_lt hx2) | skip
    first | (with_reducible have hu2 := Nat.lt_of_succ_lt hv2) | skip
    first | (have hz2 : w.heap.size < w2.heap.size := by omega) | (have hz2 := hB2.size)
    first | (have hq2 : w1.heap.size ≤ w2.heap.size := by omega) | skip
    first | (have hx1_2 := Nat.lt_of_lt_of_le hx1 hq2) | skip
    first | (have hv1_2 := Nat.lt_of_lt_of_le hv1 hq2) | skip
    first | (have hu1_2 := Nat.lt_of_lt_of_le hu1 hq2) | skip
    clear hb2
    go_wp2_with fail
    refine (laws_toIdeal s a b _).mono ?_
    rintro e w3 ⟨rfl, hb3⟩
    have hB3 : Below w.heap.size w w3 := Below.after (by go_grown) hb3
    obtain ⟨hc3, hf3⟩ := bcell hb3
    have hy3 := hb3.size
    try simp at hy3
    first | (with_reducible have hx3 := Nat.lt_of_succ_le hy3) | skip
    first | (with_reducible have hv3 := Nat.lt_of_succ_lt hx3) | skip
    first | (with_reducible have hu3 := Nat.lt_of_succ_lt hv3) | skip
    first | (have hz3 : w.heap.size < w3.heap.size := by omega) | (have hz3 := hB3.size)
    first | (have hq3 : w2.heap.size ≤ w3.heap.size := by omega) | skip
    first | (have hx1_3 := Nat.lt_of_lt_of_le hx1_2 hq3) | skip
    first | (have hv1_3 := Nat.lt_of_lt_of_le hv1_2 hq3) | skip
    first | (have hu1_3 := Nat.lt_of_lt_of_le hu1_2 hq3) | skip
    first | (have hx2_3 := Nat.lt_of_lt_of_le hx2 hq3) | skip
    first | (have hv2_3 := Nat.lt_of_lt_of_le hv2 hq3) | skip
    first | (have hu2_3 := Nat.lt_of_lt_of_le hu2 hq3) | skip
    clear hb3
    go_wp2_with fail
    refine (impl_IdealNorm_yes d s a b _ H.out).mono ?_
    rintro e w4 ⟨rfl, hb4⟩
    have hB4 : Below w.heap.size w w4 := Below.after (by go_grown) hb4
    obtain ⟨hc4, hf4⟩ := bcell hb4
    have hy4 := hb4.size
    try simp at hy4
    first | (with_reducible have hx4 := Nat.lt_of_succ_le hy4) | skip
    first | (with_reducible have hv4 := Nat.lt_of_succ_lt hx4) | skip
    first | (with_reducible have hu4 := Nat.lt_of_succ_lt hv4) | skip
    first | (have hz4 : w.heap.size < w4.heap.size := by omega) | (have hz4 := hB4.size)
    first | (have hq4 : w3.heap.size ≤ w4.heap.size := by omega) | skip
    first | (have hx1_4 := Nat.lt_of_lt_of_le hx1_3 hq4) | skip
    first | (have hv1_4 := Nat.lt_of_lt_of_le hv1_3 hq4) | skip
    first | (have hu1_4 := Nat.lt_of_lt_of_le hu1_3 hq4) | skip
    first | (have hx2_4 := Nat.lt_of_lt_of_le hx2_3 hq4) | skip
    first | (have hv2_4 := Nat.lt_of_lt_of_le hv2_3 hq4) | skip
    first | (have hu2_4 := Nat.lt_of_lt_of_le hu2_3 hq4) | skip
    first | (have hx3_4 := Nat.lt_of_lt_of_le hx3 hq4) | skip
    first | (have hv3_4 := Nat.lt_of_lt_of_le hv3 hq4) | skip
    first | (have hu3_4 := Nat.lt_of_lt_of_le hu3 hq4) | skip
    clear hb4
    go_wp2_with fail
    go_ret
    exact ⟨rfl, by go_grown⟩
  · have H := Lib.hid (Bool.not_eq_true _ ▸ h)
    clear h
    go_enter Try.func5, Try.ntmps5
    go_wp2_with fail
    refine (laws_toIdeal s a b _).mono ?_
    rintro e w1 ⟨rfl, hb1⟩
    have hB1 : Below w.heap.size w w1 := Below.after (by go_grown) hb1
    obtain ⟨hc1, hf1⟩ := bcell hb1
    have hy1 := hb1.size
    try simp at hy1
    first | (with_reducible have hx1 := Nat.lt_of_succ_le hy1) | skip
    first | (with_reducible have hv1 := Nat.lt_of_succ_lt hx1) | skip
    first | (with_reducible have hu1 := Nat.lt_of_succ_lt hv1) | skip
    first | (have hz1 : w.heap.size < w1.heap.size := by omega) | (have hz1 := hB1.size)
    clear hb1
    go_wp2_with fail
    refine (spec_IdealNorm_no d s a b _ H.out).mono ?_
    rintro e w2 ⟨rfl, hb2⟩
    have hB2 : Below w.heap.size w w2 := Below.after (by go_grown) hb2
    obtain ⟨hc2, hf2⟩ := bcell hb2
    have hy2 := hb2.size
    try simp at hy2
    first | (with_reducible have hx2 := Nat.lt_of_succ_le hy2) | skip
    first | (with_reducible have hv2 := Nat.lt_of_succ_lt hx2) | skip
    first | (with_reducible have hu2 := Nat.lt_of_succ_lt hv2) | skip
    first | (have hz2 : w.heap.size < w2.heap.size := by omega) | (have hz2 := hB2.size)
    first | (have hq2 : w1.heap.size ≤ w2.heap.size := by omega) | skip
    first | (have hx1_2 := Nat.lt_of_lt_of_le hx1 hq2) | skip
    first | (have hv1_2 := Nat.lt_of_lt_of_le hv1 hq2) | skip
    first | (have hu1_2 := Nat.lt_of_lt_of_le hu1 hq2) | skip
    clear hb2
    go_wp2_with fail
    refine (laws_toIdeal s a b _).mono ?_
    rintro e w3 ⟨rfl, hb3⟩
    have hB3 : Below w.heap.size w w3 := Below.after (by go_grown) hb3
    obtain ⟨hc3, hf3⟩ := bcell hb3
    have hy3 := hb3.size
    try simp at hy3
    first | (with_reducible have hx3 := Nat.lt_of_succ_le hy3) | skip
    first | (with_reducible have hv3 := Nat.lt_of_succ_lt hx3) | skip
    first | (with_reducible have hu3 := Nat.lt_of_succ_lt hv3) | skip
    first | (have hz3 : w.heap.size < w3.heap.size := by omega) | (have hz3 := hB3.size)
    first | (have hq3 : w2.heap.size ≤ w3.heap.size := by omega) | skip
    first | (have hx1_3 := Nat.lt_of_lt_of_le hx1_2 hq3) | skip
    first | (have hv1_3 := Nat.lt_of_lt_of_le hv1_2 hq3) | skip
    first | (have hu1_3 := Nat.lt_of_lt_of_le hu1_2 hq3) | skip
    first | (have hx2_3 := Nat.lt_of_lt_of_le hx2 hq3) | skip
    first | (have hv2_3 := Nat.lt_of_lt_of_le hv2 hq3) | skip
    first | (have hu2_3 := Nat.lt_of_lt_of_le hu2 hq3) | skip
    clear hb3
    go_wp2_with fail
    refine (impl_IdealNorm_no d s a b _ H.out).mono ?_
    rintro e w4 ⟨rfl, hb4⟩
    have hB4 : Below w.heap.size w w4 := Below.after (by go_grown) hb4
    obtain ⟨hc4, hf4⟩ := bcell hb4
    have hy4 := hb4.size
    try simp at hy4
    first | (with_reducible have hx4 := Nat.lt_of_succ_le hy4) | skip
    first | (with_reducible have hv4 := Nat.lt_of_succ_lt hx4) | skip
    first | (with_reducible have hu4 := Nat.lt_of_succ_lt hv4) | skip
    first | (have hz4 : w.heap.size < w4.heap.size := by omega) | (have hz4 := hB4.size)
    first | (have hq4 : w3.heap.size ≤ w4.heap.size := by omega) | skip
    first | (have hx1_4 := Nat.lt_of_lt_of_le hx1_3 hq4) | skip
    first | (have hv1_4 := Nat.lt_of_lt_of_le hv1_3 hq4) | skip
    first | (have hu1_4 := Nat.lt_of_lt_of_le hu1_3 hq4) | skip
    first | (have hx2_4 := Nat.lt_of_lt_of_le hx2_3 hq4) | skip
    first | (have hv2_4 := Nat.lt_of_lt_of_le hv2_3 hq4) | skip
    first | (have hu2_4 := Nat.lt_of_lt_of_le hu2_3 hq4) | skip
    first | (have hx3_4 := Nat.lt_of_lt_of_le hx3 hq4) | skip
    first | (have hv3_4 := Nat.lt_of_lt_of_le hv3 hq4) | skip
    first | (have hu3_4 := Nat.lt_of_lt_of_le hu3 hq4) | skip
    clear hb4
    go_wp2_with fail
    go_ret
    exact ⟨rfl, by go_grown⟩

/-! principal and identity forms -/
def pfC (d : Int) : Int := (d % 2 - d).tdiv 4
theorem impl_principalForm (d : Int) (w : World) (h0 : -1000000 ≤ d ∧ d ≤ 1000000) :
    Calls Try.prog 54 #[.int .i64 d] w fun e w' => e = .returned (.agg #[.int .i64 1, .int .i64 (d % 2), .int .i64 (pfC d)]) ∧ Below w.heap.size w w' := by
  obtain ⟨h1, h2⟩ := h0
  have h3 := Int.emod_nonneg d (show (2 : Int) ≠ 0 by omega)
  have h4 := Int.emod_lt_of_pos d (show (0 : Int) < 2 by omega)
  go_enter Try.func54, Try.ntmps54
  go_wp2_with fail
  refine (impl_mod d 2 _ (by omega) (by omega)).mono ?_
  rintro e w' ⟨rfl, rfl⟩
  go_wp2_with fail
  go_returns
  exact ⟨rfl, by go_grown⟩
theorem spec_coOne (d : Int) (w : World) (h0 : -1000000 ≤ d ∧ d ≤ 1000000) :
    Calls Try.prog 53 #[.int .i64 d] w fun e w' => e = .returned (.agg #[.int .i64 1, .int .i64 (d % 2), .int .i64 (pfC d)]) ∧ Below w.heap.size w w' := by
  obtain ⟨h1, h2⟩ := h0
  have h3 := Int.emod_nonneg d (show (2 : Int) ≠ 0 by omega)
  have h4 := Int.emod_lt_of_pos d (show (0 : Int) < 2 by omega)
  go_enter Try.func53, Try.ntmps53
  go_wp2_with fail
  refine (spec_nuMod d 2 _ (by omega) (by omega)).mono ?_
  rintro e w' ⟨rfl, rfl⟩
  go_wp2_with fail
  go_returns
  exact ⟨rfl, by go_grown⟩
theorem impl_IdentityForm_yes (d : Int) (w : World) (h : negD d = true) :
    Calls Try.prog 24 #[.int .i64 d] w fun e w' => e = .returned (.tuple #[.agg #[.int .i64 1, .int .i64 (d % 2), .int .i64 (pfC d)], .bool true]) ∧ Below w.heap.size w w' := by
  have hd : -1000000 ≤ d ∧ d ≤ 1000000 := by have := negD_iff.1 h; omega
  have H := Lib.hid h
  clear h
  go_enter Try.func24, Try.ntmps24
  go_wp2_with fail
  refine (impl_isNegativeDisc d true _ H.out).mono ?_
  rintro e w' ⟨rfl, rfl⟩
  go_wp2_with fail
  refine (impl_principalForm d _ hd).mono ?_
  rintro e w5 ⟨rfl, hb5⟩
  have hB5 : Below w.heap.size w w5 := Below.after (by go_grown) hb5
  obtain ⟨hc5, hf5⟩ := bcell hb5
  have hy5 := hb5.size
  try simp at hy5
  first | (with_reducible have hx5 := Nat.lt_of_succ_le hy5) | skip
  first | (with_reducible have hv5 := Nat.lt_of_succ_lt hx5) | skip
  first | (with_reducible have hu5 := Nat.lt_of_succ_lt hv5) | skip
  first | (have hz5 : w.heap.size < w5.heap.size := by omega) | (have hz5 := hB5.size)
  first | (have hq5 : w4.heap.size ≤ w5.heap.size := by omega) | skip
  first | (have hx1_5 := Nat.lt_of_lt_of_le hx1_4 hq5) | skip
  first | (have hv1_5 := Nat.lt_of_lt_of_le hv1_4 hq5) | skip
  first | (have hu1_5 := Nat.lt_of_lt_of_le hu1_4 hq5) | skip
  first | (have hx2_5 := Nat.lt_of_lt_of_le hx2_4 hq5) | skip
  first | (have hv2_5 := Nat.lt_of_lt_of_le hv2_4 hq5) | skip
  first | (have hu2_5 := Nat.lt_of_lt_of_le hu2_4 hq5) | skip
  first | (have hx3_5 := Nat.lt_of_lt_of_le hx3_4 hq5) | skip
  first | (have hv3_5 := Nat.lt_of_lt_of_le hv3_4 hq5) | skip
  first | (have hu3_5 := Nat.lt_of_lt_of_le hu3_4 hq5) | skip
  first | (have hx4_5 := Nat.lt_of_lt_of_le hx4 hq5) | skip
  first | (have hv4_5 := Nat.lt_of_lt_of_le hv4 hq5) | skip
  first | (have hu4_5 := Nat.lt_of_lt_of_le hu4 hq5) | skip
  clear hb5
  go_wp2_with fail
  refine bodyPost_ret (v := .tuple #[.agg #[.int .i64 1, .int .i64 (d % 2), .int .i64 (pfC d)], .bool true]) (by simp [results, Try.results24, go_sem, *] <;> rfl) rfl ⟨rfl, by go_grown⟩
theorem impl_IdentityForm_no (d : Int) (w : World) (h : negD d = false) :
    Calls Try.prog 24 #[.int .i64 d] w fun e w' => e = .returned (.tuple #[.agg #[.int .i64 0, .int .i64 0, .int .i64 0], .bool false]) ∧ Below w.heap.size w w' := by
  have H := Lib.hid h
  clear h
  go_enter Try.func24, Try.ntmps24
  go_wp2_with fail
  refine (impl_isNegativeDisc d false _ H.out).mono ?_
  rintro e w' ⟨rfl, rfl⟩
  go_wp2_with fail
  refine bodyPost_ret (v := .tuple #[.agg #[.int .i64 0, .int .i64 0, .int .i64 0], .bool false]) (by simp [results, Try.results24, go_sem, *] <;> rfl) rfl ⟨rfl, by go_grown⟩
theorem spec_IdentityForm_yes (d : Int) (w : World) (h : negD d = true) :
    Calls Try.prog 23 #[.int .i64 d] w fun e w' => e = .returned (.tuple #[.agg #[.int .i64 1, .int .i64 (d % 2), .int .i64 (pfC d)], .bool true]) ∧ Below w.heap.size w w' := by
  have hd : -1000000 ≤ d ∧ d ≤ 1000000 := by have := negD_iff.1 h; omega
  have H := Lib.hid h
  clear h
  go_enter Try.func23, Try.ntmps23
  go_wp2_with fail
  refine (spec_reDisc d true _ H.out).mono ?_
  rintro e w' ⟨rfl, rfl⟩
  go_wp2_with fail
  refine (spec_coOne d _ hd).mono ?_
  rintro e w5 ⟨rfl, hb5⟩
  have hB5 : Below w.heap.size w w5 := Below.after (by go_grown) hb5
  obtain ⟨hc5, hf5⟩ := bcell hb5
  have hy5 := hb5.size
  try simp at hy5
  first | (with_reducible have hx5 := Nat.lt_of_succ_le hy5) | skip
  first | (with_reducible have hv5 := Nat.lt_of_succ_lt hx5) | skip
  first | (with_reducible have hu5 := Nat.lt_of_succ_lt hv5) | skip
  first | (have hz5 : w.heap.size < w5.heap.size := by omega) | (have hz5 := hB5.size)
  first | (have hq5 : w4.heap.size ≤ w5.heap.size := by omega) | skip
  first | (have hx1_5 := Nat.lt_of_lt_of_le hx1_4 hq5) | skip
  first | (have hv1_5 := Nat.lt_of_lt_of_le hv1_4 hq5) | skip
  first | (have hu1_5 := Nat.lt_of_lt_of_le hu1_4 hq5) | skip
  first | (have hx2_5 := Nat.lt_of_lt_of_le hx2_4 hq5) | skip
  first | (have hv2_5 := Nat.lt_of_lt_of_le hv2_4 hq5) | skip
  first | (have hu2_5 := Nat.lt_of_lt_of_le hu2_4 hq5) | skip
  first | (have hx3_5 := Nat.lt_of_lt_of_le hx3_4 hq5) | skip
  first | (have hv3_5 := Nat.lt_of_lt_of_le hv3_4 hq5) | skip
  first | (have hu3_5 := Nat.lt_of_lt_of_le hu3_4 hq5) | skip
  first | (have hx4_5 := Nat.lt_of_lt_of_le hx4 hq5) | skip
  first | (have hv4_5 := Nat.lt_of_lt_of_le hv4 hq5) | skip
  first | (have hu4_5 := Nat.lt_of_lt_of_le hu4 hq5) | skip
  clear hb5
  go_wp2_with fail
  refine bodyPost_ret (v := .tuple #[.agg #[.int .i64 1, .int .i64 (d % 2), .int .i64 (pfC d)], .bool true]) (by simp [results, Try.results23, go_sem, *] <;> rfl) rfl ⟨rfl, by go_grown⟩
theorem spec_IdentityForm_no (d : Int) (w : World) (h : negD d = false) :
    Calls Try.prog 23 #[.int .i64 d] w fun e w' => e = .returned (.tuple #[.agg #[.int .i64 0, .int .i64 0, .int .i64 0], .bool false]) ∧ Below w.heap.size w w' := by
  have H := Lib.hid h
  clear h
  go_enter Try.func23, Try.ntmps23
  go_wp2_with fail
  refine (spec_reDisc d false _ H.out).mono ?_
  rintro e w' ⟨rfl, rfl⟩
  go_wp2_with fail
  refine bodyPost_ret (v := .tuple #[.agg #[.int .i64 0, .int .i64 0, .int .i64 0], .bool false]) (by simp [results, Try.results23, go_sem, *] <;> rfl) rfl ⟨rfl, by go_grown⟩
theorem impl_PrincipalForm_yes (d : Int) (w : World) (h : discB d = true) :
    Calls Try.prog 45 #[.int .i64 d] w fun e w' => e = .returned (.tuple #[.agg #[.int .i64 1, .int .i64 (d % 2), .int .i64 (pfC d)], .bool true]) ∧ Below w.heap.size w w' := by
  have hd : -1000000 ≤ d ∧ d ≤ 1000000 := by have := discB_iff.1 h; omega
  have H := Lib.hid h
  clear h
  go_enter Try.func45, Try.ntmps45
  go_wp2_with fail
  refine (impl_isDiscriminant d true _ H.out).mono ?_
  rintro e w1 ⟨rfl, hb1⟩
  have hB1 : Below w.heap.size w w1 := Below.after (by go_grown) hb1
  obtain ⟨hc1, hf1⟩ := bcell hb1
  have hy1 := hb1.size
  try simp at hy1
  first | (with_reducible have hx1 := Nat.lt_of_succ_le hy1) | skip
  first | (with_reducible have hv1 := Nat.lt_of_succ_lt hx1) | skip
  first | (with_reducible have hu1 := Nat.lt_of_succ_lt hv1) | skip
  first | (have hz1 : w.heap.size < w1.heap.size := by omega) | (have hz1 := hB1.size)
  clear hb1
  go_wp2_with fail
  refine (impl_principalForm d _ hd).mono ?_
  rintro e w5 ⟨rfl, hb5⟩
  have hB5 : Below w.heap.size w w5 := Below.after (by go_grown) hb5
  obtain ⟨hc5, hf5⟩ := bcell hb5
  have hy5 := hb5.size
  try simp at hy5
  first | (with_reducible have hx5 := Nat.lt_of_succ_le hy5) | skip
  first | (with_reducible have hv5 := Nat.lt_of_succ_lt hx5) | skip
  first | (with_reducible have hu5 := Nat.lt_of_succ_lt hv5) | skip
  first | (have hz5 : w.heap.size < w5.heap.size := by omega) | (have hz5 := hB5.size)
  first | (have hq5 : w4.heap.size ≤ w5.heap.size := by omega) | skip
  first | (have hx1_5 := Nat.lt_of_lt_of_le hx1_4 hq5) | skip
  first | (have hv1_5 := Nat.lt_of_lt_of_le hv1_4 hq5) | skip
  first | (have hu1_5 := Nat.lt_of_lt_of_le hu1_4 hq5) | skip
  first | (have hx2_5 := Nat.lt_of_lt_of_le hx2_4 hq5) | skip
  first | (have hv2_5 := Nat.lt_of_lt_of_le hv2_4 hq5) | skip
  first | (have hu2_5 := Nat.lt_of_lt_of_le hu2_4 hq5) | skip
  first | (have hx3_5 := Nat.lt_of_lt_of_le hx3_4 hq5) | skip
  first | (have hv3_5 := Nat.lt_of_lt_of_le hv3_4 hq5) | skip
  first | (have hu3_5 := Nat.lt_of_lt_of_le hu3_4 hq5) | skip
  first | (have hx4_5 := Nat.lt_of_lt_of_le hx4 hq5) | skip
  first | (have hv4_5 := Nat.lt_of_lt_of_le hv4 hq5) | skip
  first | (have hu4_5 := Nat.lt_of_lt_of_le hu4 hq5) | skip
  clear hb5
  go_wp2_with fail
  refine bodyPost_ret (v := .tuple #[.agg #[.int .i64 1, .int .i64 (d % 2), .int .i64 (pfC d)], .bool true]) (by simp [results, Try.results45, go_sem, *] <;> rfl) rfl ⟨rfl, by go_grown⟩
theorem impl_PrincipalForm_no (d : Int) (w : World) (h : discB d = false) :
    Calls Try.prog 45 #[.int .i64 d] w fun e w' => e = .returned (.tuple #[.agg #[.int .i64 0, .int .i64 0, .int .i64 0], .bool false]) ∧ Below w.heap.size w w' := by
  have H := Lib.hid h
  clear h
  go_enter Try.func45, Try.ntmps45
  go_wp2_with fail
  refine (impl_isDiscriminant d false _ H.out).mono ?_
  rintro e w1 ⟨rfl, hb1⟩
  have hB1 : Below w.heap.size w w1 := Below.after (by go_grown) hb1
  obtain ⟨hc1, hf1⟩ := bcell hb1
  have hy1 := hb1.size
  try simp at hy1
  first | (with_reducible have hx1 := Nat.lt_of_succ_le hy1) | skip
  first | (with_reducible have hv1 := Nat.lt_of_succ_lt hx1) | skip
  first | (with_reducible have hu1 := Nat.lt_of_succ_lt hv1) | skip
  first | (have hz1 : w.heap.size < w1.heap.size := by omega) | (have hz1 := hB1.size)
  clear hb1
  go_wp2_with fail
  refine bodyPost_ret (v := .tuple #[.agg #[.int .i64 0, .int .i64 0, .int .i64 0], .bool false]) (by simp [results, Try.results45, go_sem, *] <;> rfl) rfl ⟨rfl, by go_grown⟩
theorem spec_PrincipalForm_yes (d : Int) (w : World) (h : discB d = true) :
    Calls Try.prog 44 #[.int .i64 d] w fun e w' => e = .returned (.tuple #[.agg #[.int .i64 1, .int .i64 (d % 2), .int .i64 (pfC d)], .bool true]) ∧ Below w.heap.size w w' := by
  obtain ⟨⟨h1, h2⟩, _⟩ := discB_iff.1 h
  have h3 := Int.emod_nonneg d (show (2 : Int) ≠ 0 by omega)
  have h4 := Int.emod_lt_of_pos d (show (0 : Int) < 2 by omega)
  have H := Lib.hid h
  clear h
  go_enter Try.func44, Try.ntmps44
  go_wp2_with fail
  refine (spec_diIs d true _ H.out).mono ?_
  rintro e w' ⟨rfl, rfl⟩
  go_wp2_with fail
  refine (spec_nuMod d 2 _ (by omega) (by omega)).mono ?_
  rintro e w' ⟨rfl, rfl⟩
  go_wp2_with fail
  refine bodyPost_ret (v := .tuple #[.agg #[.int .i64 1, .int .i64 (d % 2), .int .i64 (pfC d)], .bool true]) (by simp [results, Try.results44, go_sem, *] <;> rfl) rfl ⟨rfl, by go_grown⟩
theorem spec_PrincipalForm_no (d : Int) (w : World) (h : discB d = false) :
    Calls Try.prog 44 #[.int .i64 d] w fun e w' => e = .returned (.tuple #[.agg #[.int .i64 0, .int .i64 0, .int .i64 0], .bool false]) ∧ Below w.heap.size w w' := by
  have H := Lib.hid h
  clear h
  go_enter Try.func44, Try.ntmps44
  go_wp2_with fail
  refine (spec_diIs d false _ H.out).mono ?_
  rintro e w' ⟨rfl, rfl⟩
  go_wp2_with fail
  refine bodyPost_ret (v := .tuple #[.agg #[.int .i64 0, .int .i64 0, .int .i64 0], .bool false]) (by simp [results, Try.results44, go_sem, *] <;> rfl) rfl ⟨rfl, by go_grown⟩
theorem walkIdentityForm (d : Int) (w : World) (wd : (Lit.int .i64 d).wf = true) :
    Calls Try.prog 6 #[.int .i64 d] w fun e w' => e = .returned (.bool true) ∧ Below w.heap.size w w' := by
  by_cases h : negD d = true
  · have H := Lib.hid h
    clear h
    go_enter Try.func6, Try.ntmps6
    go_wp2_with fail
    refine (spec_IdentityForm_yes d _ H.out).mono ?_
    rintro e w1 ⟨rfl, hb1⟩
    have hB1 : Below w.heap.size w w1 := Below.after (by go_grown) hb1
    obtain ⟨hc1, hf1⟩ := bcell hb1
    have hy1 := hb1.size
    try simp at hy1
    first | (with_reducible have hx1 := Nat.lt_of_succ_le hy1) | skip
    first | (with_reducible have hv1 := Nat.lt_of_succ_lt hx1) | skip
    first | (with_reducible have hu1 := Nat.lt_of_succ_lt hv1) | skip
    first | (have hz1 : w.heap.size < w1.heap.size := by omega) | (have hz1 := hB1.size)
    clear hb1
    go_wp2_with fail
    refine (impl_IdentityForm_yes d _ H.out).mono ?_
    rintro e w2 ⟨rfl, hb2⟩
    have hB2 : Below w.heap.size w w2 := Below.after (by go_grown) hb2
    obtain ⟨hc2, hf2⟩ := bcell hb2
    have hy2 := hb2.size
    try simp at hy2
    first | (with_reducible have hx2 := Nat.lt_of_succ_le hy2) | skip
    first | (with_reducible have hv2 := Nat.lt_of_succ_lt hx2) | skip
    first | (with_reducible have hu2 := Nat.lt_of_succ_lt hv2) | skip
    first | (have hz2 : w.heap.size < w2.heap.size := by omega) | (have hz2 := hB2.size)
    first | (have hq2 : w1.heap.size ≤ w2.heap.size := by omega) | skip
    first | (have hx1_2 := Nat.lt_of_lt_of_le hx1 hq2) | skip
    first | (have hv1_2 := Nat.lt_of_lt_of_le hv1 hq2) | skip
    first | (have hu1_2 := Nat.lt_of_lt_of_le hu1 hq2) | skip
    clear hb2
    go_wp2_with fail
    refine (laws_eqForm 1 _ _ _).mono ?_
    rintro e w3 ⟨rfl, hb3⟩
    have hB3 : Below w.heap.size w w3 := Below.after (by go_grown) hb3
    obtain ⟨hc3, hf3⟩ := bcell hb3
    have hy3 := hb3.size
    try simp at hy3
    first | (with_reducible have hx3 := Nat.lt_of_succ_le hy3) | skip
    first | (with_reducible have hv3 := Nat.lt_of_succ_lt hx3) | skip
    first | (with_reducible have hu3 := Nat.lt_of_succ_lt hv3) | skip
    first | (have hz3 : w.heap.size < w3.heap.size := by omega) | (have hz3 := hB3.size)
    first | (have hq3 : w2.heap.size ≤ w3.heap.size := by omega) | skip
    first | (have hx1_3 := Nat.lt_of_lt_of_le hx1_2 hq3) | skip
    first | (have hv1_3 := Nat.lt_of_lt_of_le hv1_2 hq3) | skip
    first | (have hu1_3 := Nat.lt_of_lt_of_le hu1_2 hq3) | skip
    first | (have hx2_3 := Nat.lt_of_lt_of_le hx2 hq3) | skip
    first | (have hv2_3 := Nat.lt_of_lt_of_le hv2 hq3) | skip
    first | (have hu2_3 := Nat.lt_of_lt_of_le hu2 hq3) | skip
    clear hb3
    go_wp2_with fail
    go_ret
    exact ⟨rfl, by go_grown⟩
  · have H := Lib.hid (Bool.not_eq_true _ ▸ h)
    clear h
    go_enter Try.func6, Try.ntmps6
    go_wp2_with fail
    refine (spec_IdentityForm_no d _ H.out).mono ?_
    rintro e w1 ⟨rfl, hb1⟩
    have hB1 : Below w.heap.size w w1 := Below.after (by go_grown) hb1
    obtain ⟨hc1, hf1⟩ := bcell hb1
    have hy1 := hb1.size
    try simp at hy1
    first | (with_reducible have hx1 := Nat.lt_of_succ_le hy1) | skip
    first | (with_reducible have hv1 := Nat.lt_of_succ_lt hx1) | skip
    first | (with_reducible have hu1 := Nat.lt_of_succ_lt hv1) | skip
    first | (have hz1 : w.heap.size < w1.heap.size := by omega) | (have hz1 := hB1.size)
    clear hb1
    go_wp2_with fail
    refine (impl_IdentityForm_no d _ H.out).mono ?_
    rintro e w2 ⟨rfl, hb2⟩
    have hB2 : Below w.heap.size w w2 := Below.after (by go_grown) hb2
    obtain ⟨hc2, hf2⟩ := bcell hb2
    have hy2 := hb2.size
    try simp at hy2
    first | (with_reducible have hx2 := Nat.lt_of_succ_le hy2) | skip
    first | (with_reducible have hv2 := Nat.lt_of_succ_lt hx2) | skip
    first | (with_reducible have hu2 := Nat.lt_of_succ_lt hv2) | skip
    first | (have hz2 : w.heap.size < w2.heap.size := by omega) | (have hz2 := hB2.size)
    first | (have hq2 : w1.heap.size ≤ w2.heap.size := by omega) | skip
    first | (have hx1_2 := Nat.lt_of_lt_of_le hx1 hq2) | skip
    first | (have hv1_2 := Nat.lt_of_lt_of_le hv1 hq2) | skip
    first | (have hu1_2 := Nat.lt_of_lt_of_le hu1 hq2) | skip
    clear hb2
    go_wp2_with fail
    refine (laws_eqForm 0 0 0 _).mono ?_
    rintro e w3 ⟨rfl, hb3⟩
    have hB3 : Below w.heap.size w w3 := Below.after (by go_grown) hb3
    obtain ⟨hc3, hf3⟩ := bcell hb3
    have hy3 := hb3.size
    try simp at hy3
    first | (with_reducible have hx3 := Nat.lt_of_succ_le hy3) | skip
    first | (with_reducible have hv3 := Nat.lt_of_succ_lt hx3) | skip
    first | (with_reducible have hu3 := Nat.lt_of_succ_lt hv3) | skip
    first | (have hz3 : w.heap.size < w3.heap.size := by omega) | (have hz3 := hB3.size)
    first | (have hq3 : w2.heap.size ≤ w3.heap.size := by omega) | skip
    first | (have hx1_3 := Nat.lt_of_lt_of_le hx1_2 hq3) | skip
    first | (have hv1_3 := Nat.lt_of_lt_of_le hv1_2 hq3) | skip
    first | (have hu1_3 := Nat.lt_of_lt_of_le hu1_2 hq3) | skip
    first | (have hx2_3 := Nat.lt_of_lt_of_le hx2 hq3) | skip
    first | (have hv2_3 := Nat.lt_of_lt_of_le hv2 hq3) | skip
    first | (have hu2_3 := Nat.lt_of_lt_of_le hu2 hq3) | skip
    clear hb3
    go_wp2_with fail
    go_ret
    exact ⟨rfl, by go_grown⟩
theorem walkPrincipalForm (d : Int) (w : World) (wd : (Lit.int .i64 d).wf = true) :
    Calls Try.prog 14 #[.int .i64 d] w fun e w' => e = .returned (.bool true) ∧ Below w.heap.size w w' := by
  by_cases h : discB d = true
  · have H := Lib.hid h
    clear h
    go_enter Try.func14, Try.ntmps14
    go_wp2_with fail
    refine (spec_PrincipalForm_yes d _ H.out).mono ?_
    rintro e w1 ⟨rfl, hb1⟩
    have hB1 : Below w.heap.size w w1 := Below.after (by go_grown) hb1
    obtain ⟨hc1, hf1⟩ := bcell hb1
    have hy1 := hb1.size
    try simp at hy1
    first | (with_reducible have hx1 := Nat.lt_of_succ_le hy1) | skip
    first | (with_reducible have hv1 := Nat.lt_of_succ_lt hx1) | skip
    first | (with_reducible have hu1 := Nat.lt_of_succ_lt hv1) | skip
    first | (have hz1 : w.heap.size < w1.heap.size := by omega) | (have hz1 := hB1.size)
    clear hb1
    go_wp2_with fail
    refine (impl_PrincipalForm_yes d _ H.out).mono ?_
    rintro e w2 ⟨rfl, hb2⟩
    have hB2 : Below w.heap.size w w2 := Below.after (by go_grown) hb2
    obtain ⟨hc2, hf2⟩ := bcell hb2
    have hy2 := hb2.size
    try simp at hy2
    first | (with_reducible have hx2 := Nat.lt_of_succ_le hy2) | skip
    first | (with_reducible have hv2 := Nat.lt_of_succ_lt hx2) | skip
    first | (with_reducible have hu2 := Nat.lt_of_succ_lt hv2) | skip
    first | (have hz2 : w.heap.size < w2.heap.size := by omega) | (have hz2 := hB2.size)
    first | (have hq2 : w1.heap.size ≤ w2.heap.size := by omega) | skip
    first | (have hx1_2 := Nat.lt_of_lt_of_le hx1 hq2) | skip
    first | (have hv1_2 := Nat.lt_of_lt_of_le hv1 hq2) | skip
    first | (have hu1_2 := Nat.lt_of_lt_of_le hu1 hq2) | skip
    clear hb2
    go_wp2_with fail
    refine (laws_eqForm 1 _ _ _).mono ?_
    rintro e w3 ⟨rfl, hb3⟩
    have hB3 : Below w.heap.size w w3 := Below.after (by go_grown) hb3
    obtain ⟨hc3, hf3⟩ := bcell hb3
    have hy3 := hb3.size
    try simp at hy3
    first | (with_reducible have hx3 := Nat.lt_of_succ_le hy3) | skip
    first | (with_reducible have hv3 := Nat.lt_of_succ_lt hx3) | skip
    first | (with_reducible have hu3 := Nat.lt_of_succ_lt hv3) | skip
    first | (have hz3 : w.heap.size < w3.heap.size := by omega) | (have hz3 := hB3.size)
    first | (have hq3 : w2.heap.size ≤ w3.heap.size := by omega) | skip
    first | (have hx1_3 := Nat.lt_of_lt_of_le hx1_2 hq3) | skip
    first | (have hv1_3 := Nat.lt_of_lt_of_le hv1_2 hq3) | skip
    first | (have hu1_3 := Nat.lt_of_lt_of_le hu1_2 hq3) | skip
    first | (have hx2_3 := Nat.lt_of_lt_of_le hx2 hq3) | skip
    first | (have hv2_3 := Nat.lt_of_lt_of_le hv2 hq3) | skip
    first | (have hu2_3 := Nat.lt_of_lt_of_le hu2 hq3) | skip
    clear hb3
    go_wp2_with fail
    go_ret
    exact ⟨rfl, by go_grown⟩
  · have H := Lib.hid (Bool.not_eq_true _ ▸ h)
    clear h
    go_enter Try.func14, Try.ntmps14
    go_wp2_with fail
    refine (spec_PrincipalForm_no d _ H.out).mono ?_
    rintro e w1 ⟨rfl, hb1⟩
    have hB1 : Below w.heap.size w w1 := Below.after (by go_grown) hb1
    obtain ⟨hc1, hf1⟩ := bcell hb1
    have hy1 := hb1.size
    try simp at hy1
    first | (with_reducible have hx1 := Nat.lt_of_succ_le hy1) | skip
    first | (with_reducible have hv1 := Nat.lt_of_succ_lt hx1) | skip
    first | (with_reducible have hu1 := Nat.lt_of_succ_lt hv1) | skip
    first | (have hz1 : w.heap.size < w1.heap.size := by omega) | (have hz1 := hB1.size)
    clear hb1
    go_wp2_with fail
    refine (impl_PrincipalForm_no d _ H.out).mono ?_
    rintro e w2 ⟨rfl, hb2⟩
    have hB2 : Below w.heap.size w w2 := Below.after (by go_grown) hb2
    obtain ⟨hc2, hf2⟩ := bcell hb2
    have hy2 := hb2.size
    try simp at hy2
    first | (with_reducible have hx2 := Nat.lt_of_succ_le hy2) | skip
    first | (with_reducible have hv2 := Nat.lt_of_succ_lt hx2) | skip
    first | (with_reducible have hu2 := Nat.lt_of_succ_lt hv2) | skip
    first | (have hz2 : w.heap.size < w2.heap.size := by omega) | (have hz2 := hB2.size)
    first | (have hq2 : w1.heap.size ≤ w2.heap.size := by omega) | skip
    first | (have hx1_2 := Nat.lt_of_lt_of_le hx1 hq2) | skip
    first | (have hv1_2 := Nat.lt_of_lt_of_le hv1 hq2) | skip
    first | (have hu1_2 := Nat.lt_of_lt_of_le hu1 hq2) | skip
    clear hb2
    go_wp2_with fail
    refine (laws_eqForm 0 0 0 _).mono ?_
    rintro e w3 ⟨rfl, hb3⟩
    have hB3 : Below w.heap.size w w3 := Below.after (by go_grown) hb3
    obtain ⟨hc3, hf3⟩ := bcell hb3
    have hy3 := hb3.size
    try simp at hy3
    first | (with_reducible have hx3 := Nat.lt_of_succ_le hy3) | skip
    first | (with_reducible have hv3 := Nat.lt_of_succ_lt hx3) | skip
    first | (with_reducible have hu3 := Nat.lt_of_succ_lt hv3) | skip
    first | (have hz3 : w.heap.size < w3.heap.size := by omega) | (have hz3 := hB3.size)
    first | (have hq3 : w2.heap.size ≤ w3.heap.size := by omega) | skip
    first | (have hx1_3 := Nat.lt_of_lt_of_le hx1_2 hq3) | skip
    first | (have hv1_3 := Nat.lt_of_lt_of_le hv1_2 hq3) | skip
    first | (have hu1_3 := Nat.lt_of_lt_of_le hu1_2 hq3) | skip
    first | (have hx2_3 := Nat.lt_of_lt_of_le hx2 hq3) | skip
    first | (have hv2_3 := Nat.lt_of_lt_of_le hv2 hq3) | skip
    first | (have hu2_3 := Nat.lt_of_lt_of_le hu2 hq3) | skip
    clear hb3
    go_wp2_with fail
    go_ret
    exact ⟨rfl, by go_grown⟩
end Go.Proofs.Ytgdhelecflddbaa
