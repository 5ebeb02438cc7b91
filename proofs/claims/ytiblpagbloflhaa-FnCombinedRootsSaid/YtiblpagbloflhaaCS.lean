/- Contracts and the walk of the law: the completed form. -/
import Derived.Test.YtiblpagbloflhaaCR
namespace Go.Proofs.Ytiblpagbloflhaa
set_option linter.unusedVariables false
open Go.ChangeShapes Go.WideShapes Go.ChangeAt Go.RowKit

theorem bne1T {a : Int} (h : ¬ a = 1) : (a != 1) = true := by simpa using h
/-- the arguments that are taken -/
def CmA (a b c x y : Int) : Prop := shownB a b c = true ∧ cin x = true ∧ cin y = true ∧ Int.gcd x y = 1
theorem cmA_no {a b c x y : Int} (h : ¬ CmA a b c x y) : shownB a b c = false ∨ (shownB a b c = true ∧ cin x = false) ∨ (shownB a b c = true ∧ cin x = true ∧ cin y = false) ∨ (shownB a b c = true ∧ cin x = true ∧ cin y = true ∧ ¬ Int.gcd x y = 1) := by
  unfold CmA at h
  cases h1 : shownB a b c <;> cases h2 : cin x <;> cases h3 : cin y <;> simp_all
theorem cin_no {x : Int} (h : cin x = false) : x < -1000 ∨ 1000 < x := by
  have : ¬ (cin x = true) := by simp [h]
  rw [cin_iff] at this
  omega
theorem impl_abs_r (n : Int) (w : World) (h0 : -1000 ≤ n) (h1 : n ≤ 1000) : ∃ r : Int, 0 ≤ r ∧ r ≤ 1000 ∧ ∀ w, Calls Try.prog 94 #[.int .i64 n] w fun e w' => e = .returned (.int .i64 r) ∧ w = w' :=
  ⟨n.natAbs, by omega, by omega, fun w => impl_abs n w (by omega) (by omega)⟩
theorem impl_abs_far (n : Int) (h : n < -1000 ∨ 1000 < n) (h0 : -9223372036854775808 ≤ n) (h1 : n ≤ 9223372036854775807) : ∃ r : Int, 1000 < r ∧ ∀ w, Calls Try.prog 94 #[.int .i64 n] w fun e w' => e = .returned (.int .i64 r) ∧ w = w' := by
  by_cases hm : n = -9223372036854775808
  · subst hm
    refine ⟨9223372036854775807, by omega, fun w => ?_⟩
    go_enter Try.func94, Try.ntmps94
    go_wp2
    all_goals (try go_ret)
    all_goals exact ⟨rfl, rfl⟩
  · exact ⟨n.natAbs, by omega, fun w => impl_abs n w (by omega) h1⟩
theorem impl_gcd_r (a b g : Int) (w : World) (ha : -4000000000000000000 ≤ a ∧ a ≤ 4000000000000000000) (hb : -4000000000000000000 ≤ b ∧ b ≤ 4000000000000000000) (hg : (Int.gcd a b : Int) = g) :
    Calls Try.prog 95 #[.int .i64 a, .int .i64 b] w fun e w' => e = .returned (.int .i64 g) ∧ Below w.heap.size w w' := hg ▸ impl_gcd a b w ha hb
theorem spec_nuGcd_r (a b g : Int) (w : World) (ha : -4000000000000000000 ≤ a ∧ a ≤ 4000000000000000000) (hb : -4000000000000000000 ≤ b ∧ b ≤ 4000000000000000000) (hg : (Int.gcd a b : Int) = g) :
    Calls Try.prog 88 #[.int .i64 a, .int .i64 b] w fun e w' => e = .returned (.int .i64 g) ∧ Below w.heap.size w w' := hg ▸ spec_nuGcd a b w ha hb
theorem impl_Cm_bad (a b c x y : Int) (w : World) (h : ¬ CmA a b c x y) (wx : -9223372036854775808 ≤ x ∧ x ≤ 9223372036854775807) (wy : -9223372036854775808 ≤ y ∧ y ≤ 9223372036854775807) :
    Calls Try.prog 27 #[.agg #[.int .i64 a, .int .i64 b, .int .i64 c], .int .i64 x, .int .i64 y] w fun e w' => e = .returned (.tuple #[.agg #[.int .i64 0, .int .i64 0, .int .i64 0], .agg #[.int .i64 0, .int .i64 0, .int .i64 0, .int .i64 0], .bool false]) ∧ Below w.heap.size w w' := by
  rcases cmA_no h with hs | ⟨hs, hx⟩ | ⟨hs, hx, hy⟩ | ⟨hs, hx, hy, hg⟩
  · have H := Lib.hid hs
    clear hs
    clear h
    go_enter Try.func27, Try.ntmps27
    go_wp2_with fail
    refine (impl_isShownForm a b c false _ H.out).mono ?_
    rintro e w1 ⟨rfl, hb1⟩
    have hB1 : Below w.heap.size w w1 := Below.after (by go_grown) hb1
    obtain ⟨hc1, hf1⟩ := bcell hb1
    have hy1 := hb1.size
    try simp at hy1
    first | (with_reducible have hx1 := Nat.lt_of_succ_le hy1) | skip
    first | (with_reducible have hv1 := Nat.lt_of_succ_lt hx1) | skip
    first | (with_reducible have hu1 := Nat.lt_of_succ_lt hv1) | skip
    first | (have hz1 : w.heap.size < w1.heap.size := by omega) | (have hz1 := hB1.size)
    clear hb1
    go_wp2_with fail
    refine bodyPost_ret (v := .tuple #[.agg #[.int .i64 0, .int .i64 0, .int .i64 0], .agg #[.int .i64 0, .int .i64 0, .int .i64 0, .int .i64 0], .bool false]) (by simp [results, Try.results27, go_sem, *] <;> rfl) rfl ⟨rfl, by go_grown⟩
  · obtain ⟨r, hr, hrc⟩ := impl_abs_far x (cin_no hx) wx.1 wx.2
    have H := Lib.hid hs
    clear hs
    have Hr := Lib.hid hrc
    clear hrc
    clear h hx
    go_enter Try.func27, Try.ntmps27
    go_wp2_with fail
    refine (impl_isShownForm a b c true _ H.out).mono ?_
    rintro e w1 ⟨rfl, hb1⟩
    have hB1 : Below w.heap.size w w1 := Below.after (by go_grown) hb1
    obtain ⟨hc1, hf1⟩ := bcell hb1
    have hy1 := hb1.size
    try simp at hy1
    first | (with_reducible have hx1 := Nat.lt_of_succ_le hy1) | skip
    first | (with_reducible have hv1 := Nat.lt_of_succ_lt hx1) | skip
    first | (with_reducible have hu1 := Nat.lt_of_succ_lt hv1) | skip
    first | (have hz1 : w.heap.size < w1.heap.size := by omega) | (have hz1 := hB1.size)
    clear hb1
    go_wp2_with fail
    refine (Hr.out _).mono ?_
    rintro e w' ⟨rfl, rfl⟩
    go_wp2_with fail
    refine bodyPost_ret (v := .tuple #[.agg #[.int .i64 0, .int .i64 0, .int .i64 0], .agg #[.int .i64 0, .int .i64 0, .int .i64 0, .int .i64 0], .bool false]) (by simp [results, Try.results27, go_sem, *] <;> rfl) rfl ⟨rfl, by go_grown⟩
  · obtain ⟨x1, x2⟩ := cin_iff.1 hx
    obtain ⟨q, hq0, hq, hqc⟩ := impl_abs_r x w x1 x2
    obtain ⟨r, hr, hrc⟩ := impl_abs_far y (cin_no hy) wy.1 wy.2
    have H := Lib.hid hs
    clear hs
    have Hr := Lib.hid hrc
    clear hrc
    have Hq := Lib.hid hqc
    clear hqc
    clear h hx hy
    go_enter Try.func27, Try.ntmps27
    go_wp2_with fail
    refine (impl_isShownForm a b c true _ H.out).mono ?_
    rintro e w1 ⟨rfl, hb1⟩
    have hB1 : Below w.heap.size w w1 := Below.after (by go_grown) hb1
    obtain ⟨hc1, hf1⟩ := bcell hb1
    have hy1 := hb1.size
    try simp at hy1
    first | (with_reducible have hx1 := Nat.lt_of_succ_le hy1) | skip
    first | (with_reducible have hv1 := Nat.lt_of_succ_lt hx1) | skip
    first | (with_reducible have hu1 := Nat.lt_of_succ_lt hv1) | skip
    first | (have hz1 : w.heap.size < w1.heap.size := by omega) | (have hz1 := hB1.size)
    clear hb1
    go_wp2_with fail
    refine (Hq.out _).mono ?_
    rintro e w' ⟨rfl, rfl⟩
    go_wp2_with fail
    refine (Hr.out _).mono ?_
    rintro e w' ⟨rfl, rfl⟩
    go_wp2_with fail
    refine bodyPost_ret (v := .tuple #[.agg #[.int .i64 0, .int .i64 0, .int .i64 0], .agg #[.int .i64 0, .int .i64 0, .int .i64 0, .int .i64 0], .bool false]) (by simp [results, Try.results27, go_sem, *] <;> rfl) rfl ⟨rfl, by go_grown⟩
  · obtain ⟨x1, x2⟩ := cin_iff.1 hx
    obtain ⟨y1, y2⟩ := cin_iff.1 hy
    obtain ⟨q, hq0, hq, hqc⟩ := impl_abs_r x w x1 x2
    obtain ⟨r, hr0, hr, hrc⟩ := impl_abs_r y w y1 y2
    obtain ⟨g, hgg⟩ : ∃ g : Int, (Int.gcd x y : Int) = g := ⟨_, rfl⟩
    have bg : (g != 1) = true := bne1T (by omega)
    have H := Lib.hid hs
    clear hs
    have Hr := Lib.hid hrc
    clear hrc
    have Hq := Lib.hid hqc
    clear hqc
    have Hg := Lib.hid hgg
    clear hgg
    clear h hx hy hg
    go_enter Try.func27, Try.ntmps27
    go_wp2_with fail
    refine (impl_isShownForm a b c true _ H.out).mono ?_
    rintro e w1 ⟨rfl, hb1⟩
    have hB1 : Below w.heap.size w w1 := Below.after (by go_grown) hb1
    obtain ⟨hc1, hf1⟩ := bcell hb1
    have hy1 := hb1.size
    try simp at hy1
    first | (with_reducible have hx1 := Nat.lt_of_succ_le hy1) | skip
    first | (with_reducible have hv1 := Nat.lt_of_succ_lt hx1) | skip
    first | (with_reducible have hu1 := Nat.lt_of_succ_lt hv1) | skip
    first | (have hz1 : w.heap.size < w1.heap.size := by omega) | (have hz1 := hB1.size)
    clear hb1
    go_wp2_with fail
    refine (Hq.out _).mono ?_
    rintro e w' ⟨rfl, rfl⟩
    go_wp2_with fail
    refine (Hr.out _).mono ?_
    rintro e w' ⟨rfl, rfl⟩
    go_wp2_with fail
    refine (impl_gcd_r _ _ g _ (by omega) (by omega) Hg.out).mono ?_
    rintro e w2 ⟨rfl, hb2⟩
    have hB2 : Below w.heap.size w w2 := Below.after (by go_grown) hb2
    obtain ⟨hc2, hf2⟩ := bcell hb2
    have hy2 := hb2.size
    try simp at hy2
    first | (with_reducible have hx2 := Nat.lt_of_succ_le hy2) | skip
    first | (with_reducible have hv2 := Nat.lt_of_succ_lt hx2) | skip
    first | (with_reducible have hu2 := Nat.lt_of_succ_lt hv2) | skip
    first | (have hz2 : w.heap.size < w2.heap.size := by omega) | (have hz2 := hB2.size)
    first | (have hq2 : w1.heap.size ≤ w2.heap.size := by omega) | skip
    first | (have hx1_2 := Nat.lt_of_lt_of_le hx1 hq2) | skip
    first | (have hv1_2 := Nat.lt_of_lt_of_le hv1 hq2) | skip
    first | (have hu1_2 := Nat.lt_of_lt_of_le hu1 hq2) | skip
    clear hb2
    go_wp2_with fail
    refine bodyPost_ret (v := .tuple #[.agg #[.int .i64 0, .int .i64 0, .int .i64 0], .agg #[.int .i64 0, .int .i64 0, .int .i64 0, .int .i64 0], .bool false]) (by simp [results, Try.results27, go_sem, *] <;> rfl) rfl ⟨rfl, by go_grown⟩
theorem impl_Cm_yes (a b c x y q s n B0 T Q S B C : Int) (w : World) (h : CmA a b c x y) (F : CmF a b c x y q s n B0 T Q S B C) (hf : good3 n B C = true) (hm : good4 x Q y S = true) :
    Calls Try.prog 27 #[.agg #[.int .i64 a, .int .i64 b, .int .i64 c], .int .i64 x, .int .i64 y] w fun e w' => e = .returned (.tuple #[.agg #[.int .i64 n, .int .i64 B, .int .i64 C], .agg #[.int .i64 x, .int .i64 Q, .int .i64 y, .int .i64 S], .bool true]) ∧ Below w.heap.size w w' := by
  have Hf := Lib.hid hf
  clear hf
  have Hm := Lib.hid hm
  clear hm
  obtain ⟨hs, hx, hy, hg⟩ := h
  obtain ⟨x1, x2⟩ := cin_iff.1 hx
  obtain ⟨y1, y2⟩ := cin_iff.1 hy
  obtain ⟨q', hq0, hq, hqc⟩ := impl_abs_r x w x1 x2
  obtain ⟨r', hr0, hr, hrc⟩ := impl_abs_r y w y1 y2
  have H := Lib.hid hs
  clear hs
  have Hr := Lib.hid hrc
  clear hrc
  have Hq := Lib.hid hqc
  clear hqc
  have Hx := Lib.hid hx
  clear hx
  have Hy := Lib.hid hy
  clear hy
  have Hg := Lib.hid hg
  clear hg
  have HF := Lib.hid F
  clear F
  go_enter Try.func27, Try.ntmps27
  go_wp2_with fail
  refine (impl_isShownForm a b c true _ H.out).mono ?_
  rintro e w1 ⟨rfl, hb1⟩
  have hB1 : Below w.heap.size w w1 := Below.after (by go_grown) hb1
  obtain ⟨hc1, hf1⟩ := bcell hb1
  have hy1 := hb1.size
  try simp at hy1
  first | (with_reducible have hx1 := Nat.lt_of_succ_le hy1) | skip
  first | (with_reducible have hv1 := Nat.lt_of_succ_lt hx1) | skip
  first | (with_reducible have hu1 := Nat.lt_of_succ_lt hv1) | skip
  first | (have hz1 : w.heap.size < w1.heap.size := by omega) | (have hz1 := hB1.size)
  clear hb1
  go_wp2_with fail
  refine (Hq.out _).mono ?_
  rintro e w' ⟨rfl, rfl⟩
  go_wp2_with fail
  refine (Hr.out _).mono ?_
  rintro e w' ⟨rfl, rfl⟩
  go_wp2_with fail
  refine (impl_gcd_r _ _ 1 _ (by omega) (by omega) (by rw [Hg.out]; rfl)).mono ?_
  rintro e w2 ⟨rfl, hb2⟩
  have hB2 : Below w.heap.size w w2 := Below.after (by go_grown) hb2
  obtain ⟨hc2, hf2⟩ := bcell hb2
  have hy2 := hb2.size
  try simp at hy2
  first | (with_reducible have hx2 := Nat.lt_of_succ_le hy2) | skip
  first | (with_reducible have hv2 := Nat.lt_of_succ_lt hx2) | skip
  first | (with_reducible have hu2 := Nat.lt_of_succ_lt hv2) | skip
  first | (have hz2 : w.heap.size < w2.heap.size := by omega) | (have hz2 := hB2.size)
  first | (have hq2 : w1.heap.size ≤ w2.heap.size := by omega) | skip
  first | (have hx1_2 := Nat.lt_of_lt_of_le hx1 hq2) | skip
  first | (have hv1_2 := Nat.lt_of_lt_of_le hv1 hq2) | skip
  first | (have hu1_2 := Nat.lt_of_lt_of_le hu1 hq2) | skip
  clear hb2
  go_wp2_with fail
  refine (impl_complete a b c x y q s n B0 T Q S B C _ (shownB_good H.out) Hx.out Hy.out Hg.out HF.out).mono ?_
  rintro e w3 ⟨rfl, hb3⟩
  have hB3 : Below w.heap.size w w3 := Below.after (by go_grown) hb3
  obtain ⟨hc3, hf3⟩ := bcell hb3
  have hy3 := hb3.size
  try simp at hy3
  first | (with_reducible have hx3 := Nat.lt_of_succ_le hy3) | skip
  first | (with_reducible have hv3 := Nat.lt_of_succ_lt hx3) | skip
  first | (with_reducible have hu3 := Nat.lt_of_succ_lt hv3) | skip
  first | (have hz3 : w.heap.size < w3.heap.size := by omega) | (have hz3 := hB3.size)
  first | (have hq3 : w2.heap.size ≤ w3.heap.size := by omega) | skip
  first | (have hx1_3 := Nat.lt_of_lt_of_le hx1_2 hq3) | skip
  first | (have hv1_3 := Nat.lt_of_lt_of_le hv1_2 hq3) | skip
  first | (have hu1_3 := Nat.lt_of_lt_of_le hu1_2 hq3) | skip
  first | (have hx2_3 := Nat.lt_of_lt_of_le hx2 hq3) | skip
  first | (have hv2_3 := Nat.lt_of_lt_of_le hv2 hq3) | skip
  first | (have hu2_3 := Nat.lt_of_lt_of_le hu2 hq3) | skip
  clear hb3
  go_wp2_with fail
  refine (impl_IsForm _ _ _ true _ Hf.out).mono ?_
  rintro e w4 ⟨rfl, hb4⟩
  have hB4 : Below w.heap.size w w4 := Below.after (by go_grown) hb4
  obtain ⟨hc4, hf4⟩ := bcell hb4
  have hy4 := hb4.size
  try simp at hy4
  first | (with_reducible have hx4 := Nat.lt_of_succ_le hy4) | skip
  first | (with_reducible have hv4 := Nat.lt_of_succ_lt hx4) | skip
  first | (with_reducible have hu4 := Nat.lt_of_succ_lt hv4) | skip
  first | (have hz4 : w.heap.size < w4.heap.size := by omega) | (have hz4 := hB4.size)
  first | (have hq4 : w3.heap.size ≤ w4.heap.size := by omega) | skip
  first | (have hx1_4 := Nat.lt_of_lt_of_le hx1_3 hq4) | skip
  first | (have hv1_4 := Nat.lt_of_lt_of_le hv1_3 hq4) | skip
  first | (have hu1_4 := Nat.lt_of_lt_of_le hu1_3 hq4) | skip
  first | (have hx2_4 := Nat.lt_of_lt_of_le hx2_3 hq4) | skip
  first | (have hv2_4 := Nat.lt_of_lt_of_le hv2_3 hq4) | skip
  first | (have hu2_4 := Nat.lt_of_lt_of_le hu2_3 hq4) | skip
  first | (have hx3_4 := Nat.lt_of_lt_of_le hx3 hq4) | skip
  first | (have hv3_4 := Nat.lt_of_lt_of_le hv3 hq4) | skip
  first | (have hu3_4 := Nat.lt_of_lt_of_le hu3 hq4) | skip
  clear hb4
  go_wp2_with fail
  refine (impl_IsMatrix _ _ _ _ true _ Hm.out).mono ?_
  rintro e w5 ⟨rfl, hb5⟩
  have hB5 : Below w.heap.size w w5 := Below.after (by go_grown) hb5
  obtain ⟨hc5, hf5⟩ := bcell hb5
  have hy5 := hb5.size
  try simp at hy5
  first | (with_reducible have hx5 := Nat.lt_of_succ_le hy5) | skip
  first | (with_reducible have hv5 := Nat.lt_of_succ_lt hx5) | skip
  first | (with_reducible have hu5 := Nat.lt_of_succ_lt hv5) | skip
  first | (have hz5 : w.heap.size < w5.heap.size := by omega) | (have hz5 := hB5.size)
  first | (have hq5 : w4.heap.size ≤ w5.heap.size := by omega) | skip
  first | (have hx1_5 := Nat.lt_of_lt_of_le hx1_4 hq5) | skip
  first | (have hv1_5 := Nat.lt_of_lt_of_le hv1_4 hq5) | skip
  first | (have hu1_5 := Nat.lt_of_lt_of_le hu1_4 hq5) | skip
  first | (have hx2_5 := Nat.lt_of_lt_of_le hx2_4 hq5) | skip
  first | (have hv2_5 := Nat.lt_of_lt_of_le hv2_4 hq5) | skip
  first | (have hu2_5 := Nat.lt_of_lt_of_le hu2_4 hq5) | skip
  first | (have hx3_5 := Nat.lt_of_lt_of_le hx3_4 hq5) | skip
  first | (have hv3_5 := Nat.lt_of_lt_of_le hv3_4 hq5) | skip
  first | (have hu3_5 := Nat.lt_of_lt_of_le hu3_4 hq5) | skip
  first | (have hx4_5 := Nat.lt_of_lt_of_le hx4 hq5) | skip
  first | (have hv4_5 := Nat.lt_of_lt_of_le hv4 hq5) | skip
  first | (have hu4_5 := Nat.lt_of_lt_of_le hu4 hq5) | skip
  clear hb5
  have hk1 : w.heap.size < w3.heap.size + 1 := by omega
  have hk2 : w.heap.size + 1 < w3.heap.size + 1 := by omega
  go_wp2_with fail
  go_region
  all_goals (go_wp2_with fail)
  all_goals
    refine bodyPost_ret (v := .tuple #[.agg #[.int .i64 n, .int .i64 B, .int .i64 C], .agg #[.int .i64 x, .int .i64 Q, .int .i64 y, .int .i64 S], .bool true]) (by simp [results, Try.results27, go_sem, *] <;> rfl) rfl ⟨rfl, by go_grown⟩
theorem impl_Cm_no (a b c x y q s n B0 T Q S B C : Int) (w : World) (h : CmA a b c x y) (F : CmF a b c x y q s n B0 T Q S B C) (hn : good3 n B C = false ∨ (good3 n B C = true ∧ good4 x Q y S = false)) :
    Calls Try.prog 27 #[.agg #[.int .i64 a, .int .i64 b, .int .i64 c], .int .i64 x, .int .i64 y] w fun e w' => e = .returned (.tuple #[.agg #[.int .i64 0, .int .i64 0, .int .i64 0], .agg #[.int .i64 0, .int .i64 0, .int .i64 0, .int .i64 0], .bool false]) ∧ Below w.heap.size w w' := by
  rcases hn with hf | ⟨hf, hm⟩
  · have Hf := Lib.hid hf
    clear hf
    obtain ⟨hs, hx, hy, hg⟩ := h
    obtain ⟨x1, x2⟩ := cin_iff.1 hx
    obtain ⟨y1, y2⟩ := cin_iff.1 hy
    obtain ⟨q', hq0, hq, hqc⟩ := impl_abs_r x w x1 x2
    obtain ⟨r', hr0, hr, hrc⟩ := impl_abs_r y w y1 y2
    have H := Lib.hid hs
    clear hs
    have Hr := Lib.hid hrc
    clear hrc
    have Hq := Lib.hid hqc
    clear hqc
    have Hx := Lib.hid hx
    clear hx
    have Hy := Lib.hid hy
    clear hy
    have Hg := Lib.hid hg
    clear hg
    have HF := Lib.hid F
    clear F
    go_enter Try.func27, Try.ntmps27
    go_wp2_with fail
    refine (impl_isShownForm a b c true _ H.out).mono ?_
    rintro e w1 ⟨rfl, hb1⟩
    have hB1 : Below w.heap.size w w1 := Below.after (by go_grown) hb1
    obtain ⟨hc1, hf1⟩ := bcell hb1
    have hy1 := hb1.size
    try simp at hy1
    first | (with_reducible have hx1 := Nat.lt_of_succ_le hy1) | skip
    first | (with_reducible have hv1 := Nat.lt_of_succ_lt hx1) | skip
    first | (with_reducible have hu1 := Nat.lt_of_succ_lt hv1) | skip
    first | (have hz1 : w.heap.size < w1.heap.size := by omega) | (have hz1 := hB1.size)
    clear hb1
    go_wp2_with fail
    refine (Hq.out _).mono ?_
    rintro e w' ⟨rfl, rfl⟩
    go_wp2_with fail
    refine (Hr.out _).mono ?_
    rintro e w' ⟨rfl, rfl⟩
    go_wp2_with fail
    refine (impl_gcd_r _ _ 1 _ (by omega) (by omega) (by rw [Hg.out]; rfl)).mono ?_
    rintro e w2 ⟨rfl, hb2⟩
    have hB2 : Below w.heap.size w w2 := Below.after (by go_grown) hb2
    obtain ⟨hc2, hf2⟩ := bcell hb2
    have hy2 := hb2.size
    try simp at hy2
    first | (with_reducible have hx2 := Nat.lt_of_succ_le hy2) | skip
    first | (with_reducible have hv2 := Nat.lt_of_succ_lt hx2) | skip
    first | (with_reducible have hu2 := Nat.lt_of_succ_lt hv2) | skip
    first | (have hz2 : w.heap.size < w2.heap.size := by omega) | (have hz2 := hB2.size)
    first | (have hq2 : w1.heap.size ≤ w2.heap.size := by omega) | skip
    first | (have hx1_2 := Nat.lt_of_lt_of_le hx1 hq2) | skip
    first | (have hv1_2 := Nat.lt_of_lt_of_le hv1 hq2) | skip
    first | (have hu1_2 := Nat.lt_of_lt_of_le hu1 hq2) | skip
    clear hb2
    go_wp2_with fail
    refine (impl_complete a b c x y q s n B0 T Q S B C _ (shownB_good H.out) Hx.out Hy.out Hg.out HF.out).mono ?_
    rintro e w3 ⟨rfl, hb3⟩
    have hB3 : Below w.heap.size w w3 := Below.after (by go_grown) hb3
    obtain ⟨hc3, hf3⟩ := bcell hb3
    have hy3 := hb3.size
    try simp at hy3
    first | (with_reducible have hx3 := Nat.lt_of_succ_le hy3) | skip
    first | (with_reducible have hv3 := Nat.lt_of_succ_lt hx3) | skip
    first | (with_reducible have hu3 := Nat.lt_of_succ_lt hv3) | skip
    first | (have hz3 : w.heap.size < w3.heap.size := by omega) | (have hz3 := hB3.size)
    first | (have hq3 : w2.heap.size ≤ w3.heap.size := by omega) | skip
    first | (have hx1_3 := Nat.lt_of_lt_of_le hx1_2 hq3) | skip
    first | (have hv1_3 := Nat.lt_of_lt_of_le hv1_2 hq3) | skip
    first | (have hu1_3 := Nat.lt_of_lt_of_le hu1_2 hq3) | skip
    first | (have hx2_3 := Nat.lt_of_lt_of_le hx2 hq3) | skip
    first | (have hv2_3 := Nat.lt_of_lt_of_le hv2 hq3) | skip
    first | (have hu2_3 := Nat.lt_of_lt_of_le hu2 hq3) | skip
    clear hb3
    go_wp2_with fail
    refine (impl_IsForm _ _ _ false _ Hf.out).mono ?_
    rintro e w4 ⟨rfl, hb4⟩
    have hB4 : Below w.heap.size w w4 := Below.after (by go_grown) hb4
    obtain ⟨hc4, hf4⟩ := bcell hb4
    have hy4 := hb4.size
    try simp at hy4
    first | (with_reducible have hx4 := Nat.lt_of_succ_le hy4) | skip
    first | (with_reducible have hv4 := Nat.lt_of_succ_lt hx4) | skip
    first | (with_reducible have hu4 := Nat.lt_of_succ_lt hv4) | skip
    first | (have hz4 : w.heap.size < w4.heap.size := by omega) | (have hz4 := hB4.size)
    first | (have hq4 : w3.heap.size ≤ w4.heap.size := by omega) | skip
    first | (have hx1_4 := Nat.lt_of_lt_of_le hx1_3 hq4) | skip
    first | (have hv1_4 := Nat.lt_of_lt_of_le hv1_3 hq4) | skip
    first | (have hu1_4 := Nat.lt_of_lt_of_le hu1_3 hq4) | skip
    first | (have hx2_4 := Nat.lt_of_lt_of_le hx2_3 hq4) | skip
    first | (have hv2_4 := Nat.lt_of_lt_of_le hv2_3 hq4) | skip
    first | (have hu2_4 := Nat.lt_of_lt_of_le hu2_3 hq4) | skip
    first | (have hx3_4 := Nat.lt_of_lt_of_le hx3 hq4) | skip
    first | (have hv3_4 := Nat.lt_of_lt_of_le hv3 hq4) | skip
    first | (have hu3_4 := Nat.lt_of_lt_of_le hu3 hq4) | skip
    clear hb4
    have hk1 : w.heap.size < w3.heap.size + 1 := by omega
    have hk2 : w.heap.size + 1 < w3.heap.size + 1 := by omega
    go_wp2_with fail
    refine bodyPost_ret (v := .tuple #[.agg #[.int .i64 0, .int .i64 0, .int .i64 0], .agg #[.int .i64 0, .int .i64 0, .int .i64 0, .int .i64 0], .bool false]) (by simp [results, Try.results27, go_sem, *] <;> rfl) rfl ⟨rfl, by go_grown⟩
  · have Hf := Lib.hid hf
    clear hf
    have Hm := Lib.hid hm
    clear hm
    obtain ⟨hs, hx, hy, hg⟩ := h
    obtain ⟨x1, x2⟩ := cin_iff.1 hx
    obtain ⟨y1, y2⟩ := cin_iff.1 hy
    obtain ⟨q', hq0, hq, hqc⟩ := impl_abs_r x w x1 x2
    obtain ⟨r', hr0, hr, hrc⟩ := impl_abs_r y w y1 y2
    have H := Lib.hid hs
    clear hs
    have Hr := Lib.hid hrc
    clear hrc
    have Hq := Lib.hid hqc
    clear hqc
    have Hx := Lib.hid hx
    clear hx
    have Hy := Lib.hid hy
    clear hy
    have Hg := Lib.hid hg
    clear hg
    have HF := Lib.hid F
    clear F
    go_enter Try.func27, Try.ntmps27
    go_wp2_with fail
    refine (impl_isShownForm a b c true _ H.out).mono ?_
    rintro e w1 ⟨rfl, hb1⟩
    have hB1 : Below w.heap.size w w1 := Below.after (by go_grown) hb1
    obtain ⟨hc1, hf1⟩ := bcell hb1
    have hy1 := hb1.size
    try simp at hy1
    first | (with_reducible have hx1 := Nat.lt_of_succ_le hy1) | skip
    first | (with_reducible have hv1 := Nat.lt_of_succ_lt hx1) | skip
    first | (with_reducible have hu1 := Nat.lt_of_succ_lt hv1) | skip
    first | (have hz1 : w.heap.size < w1.heap.size := by omega) | (have hz1 := hB1.size)
    clear hb1
    go_wp2_with fail
    refine (Hq.out _).mono ?_
    rintro e w' ⟨rfl, rfl⟩
    go_wp2_with fail
    refine (Hr.out _).mono ?_
    rintro e w' ⟨rfl, rfl⟩
    go_wp2_with fail
    refine (impl_gcd_r _ _ 1 _ (by omega) (by omega) (by rw [Hg.out]; rfl)).mono ?_
    rintro e w2 ⟨rfl, hb2⟩
    have hB2 : Below w.heap.size w w2 := Below.after (by go_grown) hb2
    obtain ⟨hc2, hf2⟩ := bcell hb2
    have hy2 := hb2.size
    try simp at hy2
    first | (with_reducible have hx2 := Nat.lt_of_succ_le hy2) | skip
    first | (with_reducible have hv2 := Nat.lt_of_succ_lt hx2) | skip
    first | (with_reducible have hu2 := Nat.lt_of_succ_lt hv2) | skip
    first | (have hz2 : w.heap.size < w2.heap.size := by omega) | (have hz2 := hB2.size)
    first | (have hq2 : w1.heap.size ≤ w2.heap.size := by omega) | skip
    first | (have hx1_2 := Nat.lt_of_lt_of_le hx1 hq2) | skip
    first | (have hv1_2 := Nat.lt_of_lt_of_le hv1 hq2) | skip
    first | (have hu1_2 := Nat.lt_of_lt_of_le hu1 hq2) | skip
    clear hb2
    go_wp2_with fail
    refine (impl_complete a b c x y q s n B0 T Q S B C _ (shownB_good H.out) Hx.out Hy.out Hg.out HF.out).mono ?_
    rintro e w3 ⟨rfl, hb3⟩
    have hB3 : Below w.heap.size w w3 := Below.after (by go_grown) hb3
    obtain ⟨hc3, hf3⟩ := bcell hb3
    have hy3 := hb3.size
    try simp at hy3
    first | (with_reducible have hx3 := Nat.lt_of_succ_le hy3) | skip
    first | (with_reducible have hv3 := Nat.lt_of_succ_lt hx3) | skip
    first | (with_reducible have hu3 := Nat.lt_of_succ_lt hv3) | skip
    first | (have hz3 : w.heap.size < w3.heap.size := by omega) | (have hz3 := hB3.size)
    first | (have hq3 : w2.heap.size ≤ w3.heap.size := by omega) | skip
    first | (have hx1_3 := Nat.lt_of_lt_of_le hx1_2 hq3) | skip
    first | (have hv1_3 := Nat.lt_of_lt_of_le hv1_2 hq3) | skip
    first | (have hu1_3 := Nat.lt_of_lt_of_le hu1_2 hq3) | skip
    first | (have hx2_3 := Nat.lt_of_lt_of_le hx2 hq3) | skip
    first | (have hv2_3 := Nat.lt_of_lt_of_le hv2 hq3) | skip
    first | (have hu2_3 := Nat.lt_of_lt_of_le hu2 hq3) | skip
    clear hb3
    go_wp2_with fail
    refine (impl_IsForm _ _ _ true _ Hf.out).mono ?_
    rintro e w4 ⟨rfl, hb4⟩
    have hB4 : Below w.heap.size w w4 := Below.after (by go_grown) hb4
    obtain ⟨hc4, hf4⟩ := bcell hb4
    have hy4 := hb4.size
    try simp at hy4
    first | (with_reducible have hx4 := Nat.lt_of_succ_le hy4) | skip
    first | (with_reducible have hv4 := Nat.lt_of_succ_lt hx4) | skip
    first | (with_reducible have hu4 := Nat.lt_of_succ_lt hv4) | skip
    first | (have hz4 : w.heap.size < w4.heap.size := by omega) | (have hz4 := hB4.size)
    first | (have hq4 : w3.heap.size ≤ w4.heap.size := by omega) | skip
    first | (have hx1_4 := Nat.lt_of_lt_of_le hx1_3 hq4) | skip
    first | (have hv1_4 := Nat.lt_of_lt_of_le hv1_3 hq4) | skip
    first | (have hu1_4 := Nat.lt_of_lt_of_le hu1_3 hq4) | skip
    first | (have hx2_4 := Nat.lt_of_lt_of_le hx2_3 hq4) | skip
    first | (have hv2_4 := Nat.lt_of_lt_of_le hv2_3 hq4) | skip
    first | (have hu2_4 := Nat.lt_of_lt_of_le hu2_3 hq4) | skip
    first | (have hx3_4 := Nat.lt_of_lt_of_le hx3 hq4) | skip
    first | (have hv3_4 := Nat.lt_of_lt_of_le hv3 hq4) | skip
    first | (have hu3_4 := Nat.lt_of_lt_of_le hu3 hq4) | skip
    clear hb4
    go_wp2_with fail
    refine (impl_IsMatrix _ _ _ _ false _ Hm.out).mono ?_
    rintro e w5 ⟨rfl, hb5⟩
    have hB5 : Below w.heap.size w w5 := Below.after (by go_grown) hb5
    obtain ⟨hc5, hf5⟩ := bcell hb5
    have hy5 := hb5.size
    try simp at hy5
    first | (with_reducible have hx5 := Nat.lt_of_succ_le hy5) | skip
    first | (with_reducible have hv5 := Nat.lt_of_succ_lt hx5) | skip
    first | (with_reducible have hu5 := Nat.lt_of_succ_lt hv5) | skip
    first | (have hz5 : w.heap.size < w5.heap.size := by omega) | (have hz5 := hB5.size)
    first | (have hq5 : w4.heap.size ≤ w5.heap.size := by omega) | skip
    first | (have hx1_5 := Nat.lt_of_lt_of_le hx1_4 hq5) | skip
    first | (have hv1_5 := Nat.lt_of_lt_of_le hv1_4 hq5) | skip
    first | (have hu1_5 := Nat.lt_of_lt_of_le hu1_4 hq5) | skip
    first | (have hx2_5 := Nat.lt_of_lt_of_le hx2_4 hq5) | skip
    first | (have hv2_5 := Nat.lt_of_lt_of_le hv2_4 hq5) | skip
    first | (have hu2_5 := Nat.lt_of_lt_of_le hu2_4 hq5) | skip
    first | (have hx3_5 := Nat.lt_of_lt_of_le hx3_4 hq5) | skip
    first | (have hv3_5 := Nat.lt_of_lt_of_le hv3_4 hq5) | skip
    first | (have hu3_5 := Nat.lt_of_lt_of_le hu3_4 hq5) | skip
    first | (have hx4_5 := Nat.lt_of_lt_of_le hx4 hq5) | skip
    first | (have hv4_5 := Nat.lt_of_lt_of_le hv4 hq5) | skip
    first | (have hu4_5 := Nat.lt_of_lt_of_le hu4 hq5) | skip
    clear hb5
    have hk1 : w.heap.size < w3.heap.size + 1 := by omega
    have hk2 : w.heap.size + 1 < w3.heap.size + 1 := by omega
    go_wp2_with fail
    refine bodyPost_ret (v := .tuple #[.agg #[.int .i64 0, .int .i64 0, .int .i64 0], .agg #[.int .i64 0, .int .i64 0, .int .i64 0, .int .i64 0], .bool false]) (by simp [results, Try.results27, go_sem, *] <;> rfl) rfl ⟨rfl, by go_grown⟩
theorem spec_Cm_bad (a b c x y : Int) (w : World) (h : ¬ CmA a b c x y) :
    Calls Try.prog 26 #[.agg #[.int .i64 a, .int .i64 b, .int .i64 c], .int .i64 x, .int .i64 y] w fun e w' => e = .returned (.tuple #[.agg #[.int .i64 0, .int .i64 0, .int .i64 0], .agg #[.int .i64 0, .int .i64 0, .int .i64 0, .int .i64 0], .bool false]) ∧ Below w.heap.size w w' := by
  rcases cmA_no h with hs | ⟨hs, hx⟩ | ⟨hs, hx, hy⟩ | ⟨hs, hx, hy, hg⟩
  · have H := Lib.hid hs
    clear hs
    clear h
    go_enter Try.func26, Try.ntmps26
    go_wp2_with fail
    refine (spec_vaForm a b c false _ H.out).mono ?_
    rintro e w1 ⟨rfl, hb1⟩
    have hB1 : Below w.heap.size w w1 := Below.after (by go_grown) hb1
    obtain ⟨hc1, hf1⟩ := bcell hb1
    have hy1 := hb1.size
    try simp at hy1
    first | (with_reducible have hx1 := Nat.lt_of_succ_le hy1) | skip
    first | (with_reducible have hv1 := Nat.lt_of_succ_lt hx1) | skip
    first | (with_reducible have hu1 := Nat.lt_of_succ_lt hv1) | skip
    first | (have hz1 : w.heap.size < w1.heap.size := by omega) | (have hz1 := hB1.size)
    clear hb1
    go_wp2_with fail
    refine bodyPost_ret (v := .tuple #[.agg #[.int .i64 0, .int .i64 0, .int .i64 0], .agg #[.int .i64 0, .int .i64 0, .int .i64 0, .int .i64 0], .bool false]) (by simp [results, Try.results26, go_sem, *] <;> rfl) rfl ⟨rfl, by go_grown⟩
  · have H := Lib.hid hs
    clear hs
    have Hx : Hid ((decide (-1000 ≤ x) && decide (x ≤ 1000)) = false) := Lib.hid hx
    clear h hx
    go_enter Try.func26, Try.ntmps26
    go_wp2_with fail
    refine (spec_vaForm a b c true _ H.out).mono ?_
    rintro e w1 ⟨rfl, hb1⟩
    have hB1 : Below w.heap.size w w1 := Below.after (by go_grown) hb1
    obtain ⟨hc1, hf1⟩ := bcell hb1
    have hy1 := hb1.size
    try simp at hy1
    first | (with_reducible have hx1 := Nat.lt_of_succ_le hy1) | skip
    first | (with_reducible have hv1 := Nat.lt_of_succ_lt hx1) | skip
    first | (with_reducible have hu1 := Nat.lt_of_succ_lt hv1) | skip
    first | (have hz1 : w.heap.size < w1.heap.size := by omega) | (have hz1 := hB1.size)
    clear hb1
    go_wp2_with fail
    refine (spec_l1In x (-1000) 1000 false _ Hx.out).mono ?_
    rintro e w' ⟨rfl, rfl⟩
    go_wp2_with fail
    refine bodyPost_ret (v := .tuple #[.agg #[.int .i64 0, .int .i64 0, .int .i64 0], .agg #[.int .i64 0, .int .i64 0, .int .i64 0, .int .i64 0], .bool false]) (by simp [results, Try.results26, go_sem, *] <;> rfl) rfl ⟨rfl, by go_grown⟩
  · have H := Lib.hid hs
    clear hs
    have Hx : Hid ((decide (-1000 ≤ x) && decide (x ≤ 1000)) = true) := Lib.hid hx
    have Hy : Hid ((decide (-1000 ≤ y) && decide (y ≤ 1000)) = false) := Lib.hid hy
    clear h hx hy
    go_enter Try.func26, Try.ntmps26
    go_wp2_with fail
    refine (spec_vaForm a b c true _ H.out).mono ?_
    rintro e w1 ⟨rfl, hb1⟩
    have hB1 : Below w.heap.size w w1 := Below.after (by go_grown) hb1
    obtain ⟨hc1, hf1⟩ := bcell hb1
    have hy1 := hb1.size
    try simp at hy1
    first | (with_reducible have hx1 := Nat.lt_of_succ_le hy1) | skip
    first | (with_reducible have hv1 := Nat.lt_of_succ_lt hx1) | skip
    first | (with_reducible have hu1 := Nat.lt_of_succ_lt hv1) | skip
    first | (have hz1 : w.heap.size < w1.heap.size := by omega) | (have hz1 := hB1.size)
    clear hb1
    go_wp2_with fail
    refine (spec_l1In x (-1000) 1000 true _ Hx.out).mono ?_
    rintro e w' ⟨rfl, rfl⟩
    go_wp2_with fail
    refine (spec_l1In y (-1000) 1000 false _ Hy.out).mono ?_
    rintro e w' ⟨rfl, rfl⟩
    go_wp2_with fail
    refine bodyPost_ret (v := .tuple #[.agg #[.int .i64 0, .int .i64 0, .int .i64 0], .agg #[.int .i64 0, .int .i64 0, .int .i64 0, .int .i64 0], .bool false]) (by simp [results, Try.results26, go_sem, *] <;> rfl) rfl ⟨rfl, by go_grown⟩
  · obtain ⟨x1, x2⟩ := cin_iff.1 hx
    obtain ⟨y1, y2⟩ := cin_iff.1 hy
    obtain ⟨g, hgg⟩ : ∃ g : Int, (Int.gcd x y : Int) = g := ⟨_, rfl⟩
    have bg : (g != 1) = true := bne1T (by omega)
    have H := Lib.hid hs
    clear hs
    have Hg := Lib.hid hgg
    clear hgg
    have Hx : Hid ((decide (-1000 ≤ x) && decide (x ≤ 1000)) = true) := Lib.hid hx
    have Hy : Hid ((decide (-1000 ≤ y) && decide (y ≤ 1000)) = true) := Lib.hid hy
    clear h hx hy hg
    go_enter Try.func26, Try.ntmps26
    go_wp2_with fail
    refine (spec_vaForm a b c true _ H.out).mono ?_
    rintro e w1 ⟨rfl, hb1⟩
    have hB1 : Below w.heap.size w w1 := Below.after (by go_grown) hb1
    obtain ⟨hc1, hf1⟩ := bcell hb1
    have hy1 := hb1.size
    try simp at hy1
    first | (with_reducible have hx1 := Nat.lt_of_succ_le hy1) | skip
    first | (with_reducible have hv1 := Nat.lt_of_succ_lt hx1) | skip
    first | (with_reducible have hu1 := Nat.lt_of_succ_lt hv1) | skip
    first | (have hz1 : w.heap.size < w1.heap.size := by omega) | (have hz1 := hB1.size)
    clear hb1
    go_wp2_with fail
    refine (spec_l1In x (-1000) 1000 true _ Hx.out).mono ?_
    rintro e w' ⟨rfl, rfl⟩
    go_wp2_with fail
    refine (spec_l1In y (-1000) 1000 true _ Hy.out).mono ?_
    rintro e w' ⟨rfl, rfl⟩
    go_wp2_with fail
    refine (spec_nuGcd_r _ _ g _ (by omega) (by omega) Hg.out).mono ?_
    rintro e w2 ⟨rfl, hb2⟩
    have hB2 : Below w.heap.size w w2 := Below.after (by go_grown) hb2
    obtain ⟨hc2, hf2⟩ := bcell hb2
    have hy2 := hb2.size
    try simp at hy2
    first | (with_reducible have hx2 := Nat.lt_of_succ_le hy2) | skip
    first | (with_reducible have hv2 := Nat.lt_of_succ_lt hx2) | skip
    first | (with_reducible have hu2 := Nat.lt_of_succ_lt hv2) | skip
    first | (have hz2 : w.heap.size < w2.heap.size := by omega) | (have hz2 := hB2.size)
    first | (have hq2 : w1.heap.size ≤ w2.heap.size := by omega) | skip
    first | (have hx1_2 := Nat.lt_of_lt_of_le hx1 hq2) | skip
    first | (have hv1_2 := Nat.lt_of_lt_of_le hv1 hq2) | skip
    first | (have hu1_2 := Nat.lt_of_lt_of_le hu1 hq2) | skip
    clear hb2
    go_wp2_with fail
    refine bodyPost_ret (v := .tuple #[.agg #[.int .i64 0, .int .i64 0, .int .i64 0], .agg #[.int .i64 0, .int .i64 0, .int .i64 0, .int .i64 0], .bool false]) (by simp [results, Try.results26, go_sem, *] <;> rfl) rfl ⟨rfl, by go_grown⟩
theorem spec_Cm_far (a b c x y q s n B0 T Q S B C : Int) (w : World) (h : CmA a b c x y) (F : CmF a b c x y q s n B0 T Q S B C) (hn : good n = false) :
    Calls Try.prog 26 #[.agg #[.int .i64 a, .int .i64 b, .int .i64 c], .int .i64 x, .int .i64 y] w fun e w' => e = .returned (.tuple #[.agg #[.int .i64 0, .int .i64 0, .int .i64 0], .agg #[.int .i64 0, .int .i64 0, .int .i64 0, .int .i64 0], .bool false]) ∧ Below w.heap.size w w' := by
  have Hn := Lib.hid hn
  clear hn
  obtain ⟨hs, hx, hy, hg⟩ := h
  obtain ⟨x1, x2⟩ := cin_iff.1 hx
  obtain ⟨y1, y2⟩ := cin_iff.1 hy
  have n1 := F.n1
  have n2 := F.n2
  have Hfv := Lib.hid F.hn
  have Hx' : Hid ((decide (-1000 ≤ x) && decide (x ≤ 1000)) = true) := Lib.hid hx
  have Hy' : Hid ((decide (-1000 ≤ y) && decide (y ≤ 1000)) = true) := Lib.hid hy
  have H := Lib.hid hs
  clear hs
  have Hx := Lib.hid hx
  clear hx
  have Hy := Lib.hid hy
  clear hy
  have Hg := Lib.hid hg
  clear hg
  have HF := Lib.hid F
  clear F
  go_enter Try.func26, Try.ntmps26
  go_wp2_with fail
  refine (spec_vaForm a b c true _ H.out).mono ?_
  rintro e w1 ⟨rfl, hb1⟩
  have hB1 : Below w.heap.size w w1 := Below.after (by go_grown) hb1
  obtain ⟨hc1, hf1⟩ := bcell hb1
  have hy1 := hb1.size
  try simp at hy1
  first | (with_reducible have hx1 := Nat.lt_of_succ_le hy1) | skip
  first | (with_reducible have hv1 := Nat.lt_of_succ_lt hx1) | skip
  first | (with_reducible have hu1 := Nat.lt_of_succ_lt hv1) | skip
  first | (have hz1 : w.heap.size < w1.heap.size := by omega) | (have hz1 := hB1.size)
  clear hb1
  go_wp2_with fail
  refine (spec_l1In x (-1000) 1000 true _ Hx'.out).mono ?_
  rintro e w' ⟨rfl, rfl⟩
  go_wp2_with fail
  refine (spec_l1In y (-1000) 1000 true _ Hy'.out).mono ?_
  rintro e w' ⟨rfl, rfl⟩
  go_wp2_with fail
  refine (spec_nuGcd_r _ _ 1 _ (by omega) (by omega) (by rw [Hg.out]; rfl)).mono ?_
  rintro e w2 ⟨rfl, hb2⟩
  have hB2 : Below w.heap.size w w2 := Below.after (by go_grown) hb2
  obtain ⟨hc2, hf2⟩ := bcell hb2
  have hy2 := hb2.size
  try simp at hy2
  first | (with_reducible have hx2 := Nat.lt_of_succ_le hy2) | skip
  first | (with_reducible have hv2 := Nat.lt_of_succ_lt hx2) | skip
  first | (with_reducible have hu2 := Nat.lt_of_succ_lt hv2) | skip
  first | (have hz2 : w.heap.size < w2.heap.size := by omega) | (have hz2 := hB2.size)
  first | (have hq2 : w1.heap.size ≤ w2.heap.size := by omega) | skip
  first | (have hx1_2 := Nat.lt_of_lt_of_le hx1 hq2) | skip
  first | (have hv1_2 := Nat.lt_of_lt_of_le hv1 hq2) | skip
  first | (have hu1_2 := Nat.lt_of_lt_of_le hu1 hq2) | skip
  clear hb2
  go_wp2_with fail
  refine (spec_foValue_r a b c x y n _ (shownB_good H.out) Hfv.out (by omega) (by omega)).mono ?_
  rintro e w3 ⟨rfl, hb3⟩
  have hB3 : Below w.heap.size w w3 := Below.after (by go_grown) hb3
  obtain ⟨hc3, hf3⟩ := bcell hb3
  have hy3 := hb3.size
  try simp at hy3
  first | (with_reducible have hx3 := Nat.lt_of_succ_le hy3) | skip
  first | (with_reducible have hv3 := Nat.lt_of_succ_lt hx3) | skip
  first | (with_reducible have hu3 := Nat.lt_of_succ_lt hv3) | skip
  first | (have hz3 : w.heap.size < w3.heap.size := by omega) | (have hz3 := hB3.size)
  first | (have hq3 : w2.heap.size ≤ w3.heap.size := by omega) | skip
  first | (have hx1_3 := Nat.lt_of_lt_of_le hx1_2 hq3) | skip
  first | (have hv1_3 := Nat.lt_of_lt_of_le hv1_2 hq3) | skip
  first | (have hu1_3 := Nat.lt_of_lt_of_le hu1_2 hq3) | skip
  first | (have hx2_3 := Nat.lt_of_lt_of_le hx2 hq3) | skip
  first | (have hv2_3 := Nat.lt_of_lt_of_le hv2 hq3) | skip
  first | (have hu2_3 := Nat.lt_of_lt_of_le hu2 hq3) | skip
  clear hb3
  go_wp2_with fail
  refine (spec_nuGood n false _ Hn.out).mono ?_
  rintro e w' ⟨rfl, rfl⟩
  go_wp2_with fail
  refine bodyPost_ret (v := .tuple #[.agg #[.int .i64 0, .int .i64 0, .int .i64 0], .agg #[.int .i64 0, .int .i64 0, .int .i64 0, .int .i64 0], .bool false]) (by simp [results, Try.results26, go_sem, *] <;> rfl) rfl ⟨rfl, by go_grown⟩
theorem spec_Cm_yes (a b c x y q s n B0 T Q S B C : Int) (w : World) (h : CmA a b c x y) (F : CmF a b c x y q s n B0 T Q S B C) (hf : good3 n B C = true) (hm : good4 x Q y S = true) :
    Calls Try.prog 26 #[.agg #[.int .i64 a, .int .i64 b, .int .i64 c], .int .i64 x, .int .i64 y] w fun e w' => e = .returned (.tuple #[.agg #[.int .i64 n, .int .i64 B, .int .i64 C], .agg #[.int .i64 x, .int .i64 Q, .int .i64 y, .int .i64 S], .bool true]) ∧ Below w.heap.size w w' := by
  have hn := (good3_iff.1 hf).1
  obtain ⟨g1, g2⟩ := hn
  have Hn := Lib.hid (good_iff.2 ⟨g1, g2⟩)
  have Hf := Lib.hid hf
  clear hf
  have Hm := Lib.hid hm
  clear hm
  obtain ⟨hs, hx, hy, hg⟩ := h
  obtain ⟨x1, x2⟩ := cin_iff.1 hx
  obtain ⟨y1, y2⟩ := cin_iff.1 hy
  have n1 := F.n1
  have n2 := F.n2
  have Hfv := Lib.hid F.hn
  have Hx' : Hid ((decide (-1000 ≤ x) && decide (x ≤ 1000)) = true) := Lib.hid hx
  have Hy' : Hid ((decide (-1000 ≤ y) && decide (y ≤ 1000)) = true) := Lib.hid hy
  have H := Lib.hid hs
  clear hs
  have Hx := Lib.hid hx
  clear hx
  have Hy := Lib.hid hy
  clear hy
  have Hg := Lib.hid hg
  clear hg
  have HF := Lib.hid F
  clear F
  go_enter Try.func26, Try.ntmps26
  go_wp2_with fail
  refine (spec_vaForm a b c true _ H.out).mono ?_
  rintro e w1 ⟨rfl, hb1⟩
  have hB1 : Below w.heap.size w w1 := Below.after (by go_grown) hb1
  obtain ⟨hc1, hf1⟩ := bcell hb1
  have hy1 := hb1.size
  try simp at hy1
  first | (with_reducible have hx1 := Nat.lt_of_succ_le hy1) | skip
  first | (with_reducible have hv1 := Nat.lt_of_succ_lt hx1) | skip
  first | (with_reducible have hu1 := Nat.lt_of_succ_lt hv1) | skip
  first | (have hz1 : w.heap.size < w1.heap.size := by omega) | (have hz1 := hB1.size)
  clear hb1
  go_wp2_with fail
  refine (spec_l1In x (-1000) 1000 true _ Hx'.out).mono ?_
  rintro e w' ⟨rfl, rfl⟩
  go_wp2_with fail
  refine (spec_l1In y (-1000) 1000 true _ Hy'.out).mono ?_
  rintro e w' ⟨rfl, rfl⟩
  go_wp2_with fail
  refine (spec_nuGcd_r _ _ 1 _ (by omega) (by omega) (by rw [Hg.out]; rfl)).mono ?_
  rintro e w2 ⟨rfl, hb2⟩
  have hB2 : Below w.heap.size w w2 := Below.after (by go_grown) hb2
  obtain ⟨hc2, hf2⟩ := bcell hb2
  have hy2 := hb2.size
  try simp at hy2
  first | (with_reducible have hx2 := Nat.lt_of_succ_le hy2) | skip
  first | (with_reducible have hv2 := Nat.lt_of_succ_lt hx2) | skip
  first | (with_reducible have hu2 := Nat.lt_of_succ_lt hv2) | skip
  first | (have hz2 : w.heap.size < w2.heap.size := by omega) | (have hz2 := hB2.size)
  first | (have hq2 : w1.heap.size ≤ w2.heap.size := by omega) | skip
  first | (have hx1_2 := Nat.lt_of_lt_of_le hx1 hq2) | skip
  first | (have hv1_2 := Nat.lt_of_lt_of_le hv1 hq2) | skip
  first | (have hu1_2 := Nat.lt_of_lt_of_le hu1 hq2) | skip
  clear hb2
  go_wp2_with fail
  refine (spec_foValue_r a b c x y n _ (shownB_good H.out) Hfv.out (by omega) (by omega)).mono ?_
  rintro e w3 ⟨rfl, hb3⟩
  have hB3 : Below w.heap.size w w3 := Below.after (by go_grown) hb3
  obtain ⟨hc3, hf3⟩ := bcell hb3
  have hy3 := hb3.size
  try simp at hy3
  first | (with_reducible have hx3 := Nat.lt_of_succ_le hy3) | skip
  first | (with_reducible have hv3 := Nat.lt_of_succ_lt hx3) | skip
  first | (with_reducible have hu3 := Nat.lt_of_succ_lt hv3) | skip
  first | (have hz3 : w.heap.size < w3.heap.size := by omega) | (have hz3 := hB3.size)
  first | (have hq3 : w2.heap.size ≤ w3.heap.size := by omega) | skip
  first | (have hx1_3 := Nat.lt_of_lt_of_le hx1_2 hq3) | skip
  first | (have hv1_3 := Nat.lt_of_lt_of_le hv1_2 hq3) | skip
  first | (have hu1_3 := Nat.lt_of_lt_of_le hu1_2 hq3) | skip
  first | (have hx2_3 := Nat.lt_of_lt_of_le hx2 hq3) | skip
  first | (have hv2_3 := Nat.lt_of_lt_of_le hv2 hq3) | skip
  first | (have hu2_3 := Nat.lt_of_lt_of_le hu2 hq3) | skip
  clear hb3
  go_wp2_with fail
  refine (spec_nuGood n true _ Hn.out).mono ?_
  rintro e w' ⟨rfl, rfl⟩
  go_wp2_with fail
  refine (spec_vaComplete a b c x y q s n B0 T Q S B C _ (shownB_good H.out) Hx.out Hy.out Hg.out g2 HF.out).mono ?_
  rintro e w4 ⟨rfl, hb4⟩
  have hB4 : Below w.heap.size w w4 := Below.after (by go_grown) hb4
  obtain ⟨hc4, hf4⟩ := bcell hb4
  have hy4 := hb4.size
  try simp at hy4
  first | (with_reducible have hx4 := Nat.lt_of_succ_le hy4) | skip
  first | (with_reducible have hv4 := Nat.lt_of_succ_lt hx4) | skip
  first | (with_reducible have hu4 := Nat.lt_of_succ_lt hv4) | skip
  first | (have hz4 : w.heap.size < w4.heap.size := by omega) | (have hz4 := hB4.size)
  first | (have hq4 : w3.heap.size ≤ w4.heap.size := by omega) | skip
  first | (have hx1_4 := Nat.lt_of_lt_of_le hx1_3 hq4) | skip
  first | (have hv1_4 := Nat.lt_of_lt_of_le hv1_3 hq4) | skip
  first | (have hu1_4 := Nat.lt_of_lt_of_le hu1_3 hq4) | skip
  first | (have hx2_4 := Nat.lt_of_lt_of_le hx2_3 hq4) | skip
  first | (have hv2_4 := Nat.lt_of_lt_of_le hv2_3 hq4) | skip
  first | (have hu2_4 := Nat.lt_of_lt_of_le hu2_3 hq4) | skip
  first | (have hx3_4 := Nat.lt_of_lt_of_le hx3 hq4) | skip
  first | (have hv3_4 := Nat.lt_of_lt_of_le hv3 hq4) | skip
  first | (have hu3_4 := Nat.lt_of_lt_of_le hu3 hq4) | skip
  clear hb4
  go_wp2_with fail
  refine (spec_foGood _ _ _ true _ Hf.out).mono ?_
  rintro e w5 ⟨rfl, hb5⟩
  have hB5 : Below w.heap.size w w5 := Below.after (by go_grown) hb5
  obtain ⟨hc5, hf5⟩ := bcell hb5
  have hy5 := hb5.size
  try simp at hy5
  first | (with_reducible have hx5 := Nat.lt_of_succ_le hy5) | skip
  first | (with_reducible have hv5 := Nat.lt_of_succ_lt hx5) | skip
  first | (with_reducible have hu5 := Nat.lt_of_succ_lt hv5) | skip
  first | (have hz5 : w.heap.size < w5.heap.size := by omega) | (have hz5 := hB5.size)
  first | (have hq5 : w4.heap.size ≤ w5.heap.size := by omega) | skip
  first | (have hx1_5 := Nat.lt_of_lt_of_le hx1_4 hq5) | skip
  first | (have hv1_5 := Nat.lt_of_lt_of_le hv1_4 hq5) | skip
  first | (have hu1_5 := Nat.lt_of_lt_of_le hu1_4 hq5) | skip
  first | (have hx2_5 := Nat.lt_of_lt_of_le hx2_4 hq5) | skip
  first | (have hv2_5 := Nat.lt_of_lt_of_le hv2_4 hq5) | skip
  first | (have hu2_5 := Nat.lt_of_lt_of_le hu2_4 hq5) | skip
  first | (have hx3_5 := Nat.lt_of_lt_of_le hx3_4 hq5) | skip
  first | (have hv3_5 := Nat.lt_of_lt_of_le hv3_4 hq5) | skip
  first | (have hu3_5 := Nat.lt_of_lt_of_le hu3_4 hq5) | skip
  first | (have hx4_5 := Nat.lt_of_lt_of_le hx4 hq5) | skip
  first | (have hv4_5 := Nat.lt_of_lt_of_le hv4 hq5) | skip
  first | (have hu4_5 := Nat.lt_of_lt_of_le hu4 hq5) | skip
  clear hb5
  go_wp2_with fail
  refine (spec_foMatrix _ _ _ _ true _ Hm.out).mono ?_
  rintro e w6 ⟨rfl, hb6⟩
  have hB6 : Below w.heap.size w w6 := Below.after (by go_grown) hb6
  obtain ⟨hc6, hf6⟩ := bcell hb6
  have hy6 := hb6.size
  try simp at hy6
  first | (with_reducible have hx6 := Nat.lt_of_succ_le hy6) | skip
  first | (with_reducible have hv6 := Nat.lt_of_succ_lt hx6) | skip
  first | (with_reducible have hu6 := Nat.lt_of_succ_lt hv6) | skip
  first | (have hz6 : w.heap.size < w6.heap.size := by omega) | (have hz6 := hB6.size)
  first | (have hq6 : w5.heap.size ≤ w6.heap.size := by omega) | skip
  first | (have hx1_6 := Nat.lt_of_lt_of_le hx1_5 hq6) | skip
  first | (have hv1_6 := Nat.lt_of_lt_of_le hv1_5 hq6) | skip
  first | (have hu1_6 := Nat.lt_of_lt_of_le hu1_5 hq6) | skip
  first | (have hx2_6 := Nat.lt_of_lt_of_le hx2_5 hq6) | skip
  first | (have hv2_6 := Nat.lt_of_lt_of_le hv2_5 hq6) | skip
  first | (have hu2_6 := Nat.lt_of_lt_of_le hu2_5 hq6) | skip
  first | (have hx3_6 := Nat.lt_of_lt_of_le hx3_5 hq6) | skip
  first | (have hv3_6 := Nat.lt_of_lt_of_le hv3_5 hq6) | skip
  first | (have hu3_6 := Nat.lt_of_lt_of_le hu3_5 hq6) | skip
  first | (have hx4_6 := Nat.lt_of_lt_of_le hx4_5 hq6) | skip
  first | (have hv4_6 := Nat.lt_of_lt_of_le hv4_5 hq6) | skip
  first | (have hu4_6 := Nat.lt_of_lt_of_le hu4_5 hq6) | skip
  first | (have hx5_6 := Nat.lt_of_lt_of_le hx5 hq6) | skip
  first | (have hv5_6 := Nat.lt_of_lt_of_le hv5 hq6) | skip
  first | (have hu5_6 := Nat.lt_of_lt_of_le hu5 hq6) | skip
  clear hb6
  have hk1 : w.heap.size < w4.heap.size + 1 := by omega
  have hk2 : w.heap.size + 1 < w4.heap.size + 1 := by omega
  go_wp2_with fail
  go_region
  all_goals (go_wp2_with fail)
  all_goals
    refine bodyPost_ret (v := .tuple #[.agg #[.int .i64 n, .int .i64 B, .int .i64 C], .agg #[.int .i64 x, .int .i64 Q, .int .i64 y, .int .i64 S], .bool true]) (by simp [results, Try.results26, go_sem, *] <;> rfl) rfl ⟨rfl, by go_grown⟩
theorem spec_Cm_no (a b c x y q s n B0 T Q S B C : Int) (w : World) (h : CmA a b c x y) (F : CmF a b c x y q s n B0 T Q S B C) (hg0 : good n = true) (hn : good3 n B C = false ∨ (good3 n B C = true ∧ good4 x Q y S = false)) :
    Calls Try.prog 26 #[.agg #[.int .i64 a, .int .i64 b, .int .i64 c], .int .i64 x, .int .i64 y] w fun e w' => e = .returned (.tuple #[.agg #[.int .i64 0, .int .i64 0, .int .i64 0], .agg #[.int .i64 0, .int .i64 0, .int .i64 0, .int .i64 0], .bool false]) ∧ Below w.heap.size w w' := by
  obtain ⟨g1, g2⟩ := good_iff.1 hg0
  have Hn := Lib.hid hg0
  clear hg0
  rcases hn with hf | ⟨hf, hm⟩
  · have Hf := Lib.hid hf
    clear hf
    obtain ⟨hs, hx, hy, hg⟩ := h
    obtain ⟨x1, x2⟩ := cin_iff.1 hx
    obtain ⟨y1, y2⟩ := cin_iff.1 hy
    have n1 := F.n1
    have n2 := F.n2
    have Hfv := Lib.hid F.hn
    have Hx' : Hid ((decide (-1000 ≤ x) && decide (x ≤ 1000)) = true) := Lib.hid hx
    have Hy' : Hid ((decide (-1000 ≤ y) && decide (y ≤ 1000)) = true) := Lib.hid hy
    have H := Lib.hid hs
    clear hs
    have Hx := Lib.hid hx
    clear hx
    have Hy := Lib.hid hy
    clear hy
    have Hg := Lib.hid hg
    clear hg
    have HF := Lib.hid F
    clear F
    go_enter Try.func26, Try.ntmps26
    go_wp2_with fail
    refine (spec_vaForm a b c true _ H.out).mono ?_
    rintro e w1 ⟨rfl, hb1⟩
    have hB1 : Below w.heap.size w w1 := Below.after (by go_grown) hb1
    obtain ⟨hc1, hf1⟩ := bcell hb1
    have hy1 := hb1.size
    try simp at hy1
    first | (with_reducible have hx1 := Nat.lt_of_succ_le hy1) | skip
    first | (with_reducible have hv1 := Nat.lt_of_succ_lt hx1) | skip
    first | (with_reducible have hu1 := Nat.lt_of_succ_lt hv1) | skip
    first | (have hz1 : w.heap.size < w1.heap.size := by omega) | (have hz1 := hB1.size)
    clear hb1
    go_wp2_with fail
    refine (spec_l1In x (-1000) 1000 true _ Hx'.out).mono ?_
    rintro e w' ⟨rfl, rfl⟩
    go_wp2_with fail
    refine (spec_l1In y (-1000) 1000 true _ Hy'.out).mono ?_
    rintro e w' ⟨rfl, rfl⟩
    go_wp2_with fail
    refine (spec_nuGcd_r _ _ 1 _ (by omega) (by omega) (by rw [Hg.out]; rfl)).mono ?_
    rintro e w2 ⟨rfl, hb2⟩
    have hB2 : Below w.heap.size w w2 := Below.after (by go_grown) hb2
    obtain ⟨hc2, hf2⟩ := bcell hb2
    have hy2 := hb2.size
    try simp at hy2
    first | (with_reducible have hx2 := Nat.lt_of_succ_le hy2) | skip
    first | (with_reducible have hv2 := Nat.lt_of_succ_lt hx2) | skip
    first | (with_reducible have hu2 := Nat.lt_of_succ_lt hv2) | skip
    first | (have hz2 : w.heap.size < w2.heap.size := by omega) | (have hz2 := hB2.size)
    first | (have hq2 : w1.heap.size ≤ w2.heap.size := by omega) | skip
    first | (have hx1_2 := Nat.lt_of_lt_of_le hx1 hq2) | skip
    first | (have hv1_2 := Nat.lt_of_lt_of_le hv1 hq2) | skip
    first | (have hu1_2 := Nat.lt_of_lt_of_le hu1 hq2) | skip
    clear hb2
    go_wp2_with fail
    refine (spec_foValue_r a b c x y n _ (shownB_good H.out) Hfv.out (by omega) (by omega)).mono ?_
    rintro e w3 ⟨rfl, hb3⟩
    have hB3 : Below w.heap.size w w3 := Below.after (by go_grown) hb3
    obtain ⟨hc3, hf3⟩ := bcell hb3
    have hy3 := hb3.size
    try simp at hy3
    first | (with_reducible have hx3 := Nat.lt_of_succ_le hy3) | skip
    first | (with_reducible have hv3 := Nat.lt_of_succ_lt hx3) | skip
    first | (with_reducible have hu3 := Nat.lt_of_succ_lt hv3) | skip
    first | (have hz3 : w.heap.size < w3.heap.size := by omega) | (have hz3 := hB3.size)
    first | (have hq3 : w2.heap.size ≤ w3.heap.size := by omega) | skip
    first | (have hx1_3 := Nat.lt_of_lt_of_le hx1_2 hq3) | skip
    first | (have hv1_3 := Nat.lt_of_lt_of_le hv1_2 hq3) | skip
    first | (have hu1_3 := Nat.lt_of_lt_of_le hu1_2 hq3) | skip
    first | (have hx2_3 := Nat.lt_of_lt_of_le hx2 hq3) | skip
    first | (have hv2_3 := Nat.lt_of_lt_of_le hv2 hq3) | skip
    first | (have hu2_3 := Nat.lt_of_lt_of_le hu2 hq3) | skip
    clear hb3
    go_wp2_with fail
    refine (spec_nuGood n true _ Hn.out).mono ?_
    rintro e w' ⟨rfl, rfl⟩
    go_wp2_with fail
    refine (spec_vaComplete a b c x y q s n B0 T Q S B C _ (shownB_good H.out) Hx.out Hy.out Hg.out g2 HF.out).mono ?_
    rintro e w4 ⟨rfl, hb4⟩
    have hB4 : Below w.heap.size w w4 := Below.after (by go_grown) hb4
    obtain ⟨hc4, hf4⟩ := bcell hb4
    have hy4 := hb4.size
    try simp at hy4
    first | (with_reducible have hx4 := Nat.lt_of_succ_le hy4) | skip
    first | (with_reducible have hv4 := Nat.lt_of_succ_lt hx4) | skip
    first | (with_reducible have hu4 := Nat.lt_of_succ_lt hv4) | skip
    first | (have hz4 : w.heap.size < w4.heap.size := by omega) | (have hz4 := hB4.size)
    first | (have hq4 : w3.heap.size ≤ w4.heap.size := by omega) | skip
    first | (have hx1_4 := Nat.lt_of_lt_of_le hx1_3 hq4) | skip
    first | (have hv1_4 := Nat.lt_of_lt_of_le hv1_3 hq4) | skip
    first | (have hu1_4 := Nat.lt_of_lt_of_le hu1_3 hq4) | skip
    first | (have hx2_4 := Nat.lt_of_lt_of_le hx2_3 hq4) | skip
    first | (have hv2_4 := Nat.lt_of_lt_of_le hv2_3 hq4) | skip
    first | (have hu2_4 := Nat.lt_of_lt_of_le hu2_3 hq4) | skip
    first | (have hx3_4 := Nat.lt_of_lt_of_le hx3 hq4) | skip
    first | (have hv3_4 := Nat.lt_of_lt_of_le hv3 hq4) | skip
    first | (have hu3_4 := Nat.lt_of_lt_of_le hu3 hq4) | skip
    clear hb4
    go_wp2_with fail
    refine (spec_foGood _ _ _ false _ Hf.out).mono ?_
    rintro e w5 ⟨rfl, hb5⟩
    have hB5 : Below w.heap.size w w5 := Below.after (by go_grown) hb5
    obtain ⟨hc5, hf5⟩ := bcell hb5
    have hy5 := hb5.size
    try simp at hy5
    first | (with_reducible have hx5 := Nat.lt_of_succ_le hy5) | skip
    first | (with_reducible have hv5 := Nat.lt_of_succ_lt hx5) | skip
    first | (with_reducible have hu5 := Nat.lt_of_succ_lt hv5) | skip
    first | (have hz5 : w.heap.size < w5.heap.size := by omega) | (have hz5 := hB5.size)
    first | (have hq5 : w4.heap.size ≤ w5.heap.size := by omega) | skip
    first | (have hx1_5 := Nat.lt_of_lt_of_le hx1_4 hq5) | skip
    first | (have hv1_5 := Nat.lt_of_lt_of_le hv1_4 hq5) | skip
    first | (have hu1_5 := Nat.lt_of_lt_of_le hu1_4 hq5) | skip
    first | (have hx2_5 := Nat.lt_of_lt_of_le hx2_4 hq5) | skip
    first | (have hv2_5 := Nat.lt_of_lt_of_le hv2_4 hq5) | skip
    first | (have hu2_5 := Nat.lt_of_lt_of_le hu2_4 hq5) | skip
    first | (have hx3_5 := Nat.lt_of_lt_of_le hx3_4 hq5) | skip
    first | (have hv3_5 := Nat.lt_of_lt_of_le hv3_4 hq5) | skip
    first | (have hu3_5 := Nat.lt_of_lt_of_le hu3_4 hq5) | skip
    first | (have hx4_5 := Nat.lt_of_lt_of_le hx4 hq5) | skip
    first | (have hv4_5 := Nat.lt_of_lt_of_le hv4 hq5) | skip
    first | (have hu4_5 := Nat.lt_of_lt_of_le hu4 hq5) | skip
    clear hb5
    have hk1 : w.heap.size < w4.heap.size + 1 := by omega
    have hk2 : w.heap.size + 1 < w4.heap.size + 1 := by omega
    go_wp2_with fail
    refine bodyPost_ret (v := .tuple #[.agg #[.int .i64 0, .int .i64 0, .int .i64 0], .agg #[.int .i64 0, .int .i64 0, .int .i64 0, .int .i64 0], .bool false]) (by simp [results, Try.results26, go_sem, *] <;> rfl) rfl ⟨rfl, by go_grown⟩
  · have Hf := Lib.hid hf
    clear hf
    have Hm := Lib.hid hm
    clear hm
    obtain ⟨hs, hx, hy, hg⟩ := h
    obtain ⟨x1, x2⟩ := cin_iff.1 hx
    obtain ⟨y1, y2⟩ := cin_iff.1 hy
    have n1 := F.n1
    have n2 := F.n2
    have Hfv := Lib.hid F.hn
    have Hx' : Hid ((decide (-1000 ≤ x) && decide (x ≤ 1000)) = true) := Lib.hid hx
    have Hy' : Hid ((decide (-1000 ≤ y) && decide (y ≤ 1000)) = true) := Lib.hid hy
    have H := Lib.hid hs
    clear hs
    have Hx := Lib.hid hx
    clear hx
    have Hy := Lib.hid hy
    clear hy
    have Hg := Lib.hid hg
    clear hg
    have HF := Lib.hid F
    clear F
    go_enter Try.func26, Try.ntmps26
    go_wp2_with fail
    refine (spec_vaForm a b c true _ H.out).mono ?_
    rintro e w1 ⟨rfl, hb1⟩
    have hB1 : Below w.heap.size w w1 := Below.after (by go_grown) hb1
    obtain ⟨hc1, hf1⟩ := bcell hb1
    have hy1 := hb1.size
    try simp at hy1
    first | (with_reducible have hx1 := Nat.lt_of_succ_le hy1) | skip
    first | (with_reducible have hv1 := Nat.lt_of_succ_lt hx1) | skip
    first | (with_reducible have hu1 := Nat.lt_of_succ_lt hv1) | skip
    first | (have hz1 : w.heap.size < w1.heap.size := by omega) | (have hz1 := hB1.size)
    clear hb1
    go_wp2_with fail
    refine (spec_l1In x (-1000) 1000 true _ Hx'.out).mono ?_
    rintro e w' ⟨rfl, rfl⟩
    go_wp2_with fail
    refine (spec_l1In y (-1000) 1000 true _ Hy'.out).mono ?_
    rintro e w' ⟨rfl, rfl⟩
    go_wp2_with fail
    refine (spec_nuGcd_r _ _ 1 _ (by omega) (by omega) (by rw [Hg.out]; rfl)).mono ?_
    rintro e w2 ⟨rfl, hb2⟩
    have hB2 : Below w.heap.size w w2 := Below.after (by go_grown) hb2
    obtain ⟨hc2, hf2⟩ := bcell hb2
    have hy2 := hb2.size
    try simp at hy2
    first | (with_reducible have hx2 := Nat.lt_of_succ_le hy2) | skip
    first | (with_reducible have hv2 := Nat.lt_of_succ_lt hx2) | skip
    first | (with_reducible have hu2 := Nat.lt_of_succ_lt hv2) | skip
    first | (have hz2 : w.heap.size < w2.heap.size := by omega) | (have hz2 := hB2.size)
    first | (have hq2 : w1.heap.size ≤ w2.heap.size := by omega) | skip
    first | (have hx1_2 := Nat.lt_of_lt_of_le hx1 hq2) | skip
    first | (have hv1_2 := Nat.lt_of_lt_of_le hv1 hq2) | skip
    first | (have hu1_2 := Nat.lt_of_lt_of_le hu1 hq2) | skip
    clear hb2
    go_wp2_with fail
    refine (spec_foValue_r a b c x y n _ (shownB_good H.out) Hfv.out (by omega) (by omega)).mono ?_
    rintro e w3 ⟨rfl, hb3⟩
    have hB3 : Below w.heap.size w w3 := Below.after (by go_grown) hb3
    obtain ⟨hc3, hf3⟩ := bcell hb3
    have hy3 := hb3.size
    try simp at hy3
    first | (with_reducible have hx3 := Nat.lt_of_succ_le hy3) | skip
    first | (with_reducible have hv3 := Nat.lt_of_succ_lt hx3) | skip
    first | (with_reducible have hu3 := Nat.lt_of_succ_lt hv3) | skip
    first | (have hz3 : w.heap.size < w3.heap.size := by omega) | (have hz3 := hB3.size)
    first | (have hq3 : w2.heap.size ≤ w3.heap.size := by omega) | skip
    first | (have hx1_3 := Nat.lt_of_lt_of_le hx1_2 hq3) | skip
    first | (have hv1_3 := Nat.lt_of_lt_of_le hv1_2 hq3) | skip
    first | (have hu1_3 := Nat.lt_of_lt_of_le hu1_2 hq3) | skip
    first | (have hx2_3 := Nat.lt_of_lt_of_le hx2 hq3) | skip
    first | (have hv2_3 := Nat.lt_of_lt_of_le hv2 hq3) | skip
    first | (have hu2_3 := Nat.lt_of_lt_of_le hu2 hq3) | skip
    clear hb3
    go_wp2_with fail
    refine (spec_nuGood n true _ Hn.out).mono ?_
    rintro e w' ⟨rfl, rfl⟩
    go_wp2_with fail
    refine (spec_vaComplete a b c x y q s n B0 T Q S B C _ (shownB_good H.out) Hx.out Hy.out Hg.out g2 HF.out).mono ?_
    rintro e w4 ⟨rfl, hb4⟩
    have hB4 : Below w.heap.size w w4 := Below.after (by go_grown) hb4
    obtain ⟨hc4, hf4⟩ := bcell hb4
    have hy4 := hb4.size
    try simp at hy4
    first | (with_reducible have hx4 := Nat.lt_of_succ_le hy4) | skip
    first | (with_reducible have hv4 := Nat.lt_of_succ_lt hx4) | skip
    first | (with_reducible have hu4 := Nat.lt_of_succ_lt hv4) | skip
    first | (have hz4 : w.heap.size < w4.heap.size := by omega) | (have hz4 := hB4.size)
    first | (have hq4 : w3.heap.size ≤ w4.heap.size := by omega) | skip
    first | (have hx1_4 := Nat.lt_of_lt_of_le hx1_3 hq4) | skip
    first | (have hv1_4 := Nat.lt_of_lt_of_le hv1_3 hq4) | skip
    first | (have hu1_4 := Nat.lt_of_lt_of_le hu1_3 hq4) | skip
    first | (have hx2_4 := Nat.lt_of_lt_of_le hx2_3 hq4) | skip
    first | (have hv2_4 := Nat.lt_of_lt_of_le hv2_3 hq4) | skip
    first | (have hu2_4 := Nat.lt_of_lt_of_le hu2_3 hq4) | skip
    first | (have hx3_4 := Nat.lt_of_lt_of_le hx3 hq4) | skip
    first | (have hv3_4 := Nat.lt_of_lt_of_le hv3 hq4) | skip
    first | (have hu3_4 := Nat.lt_of_lt_of_le hu3 hq4) | skip
    clear hb4
    go_wp2_with fail
    refine (spec_foGood _ _ _ true _ Hf.out).mono ?_
    rintro e w5 ⟨rfl, hb5⟩
    have hB5 : Below w.heap.size w w5 := Below.after (by go_grown) hb5
    obtain ⟨hc5, hf5⟩ := bcell hb5
    have hy5 := hb5.size
    try simp at hy5
    first | (with_reducible have hx5 := Nat.lt_of_succ_le hy5) | skip
    first | (with_reducible have hv5 := Nat.lt_of_succ_lt hx5) | skip
    first | (with_reducible have hu5 := Nat.lt_of_succ_lt hv5) | skip
    first | (have hz5 : w.heap.size < w5.heap.size := by omega) | (have hz5 := hB5.size)
    first | (have hq5 : w4.heap.size ≤ w5.heap.size := by omega) | skip
    first | (have hx1_5 := Nat.lt_of_lt_of_le hx1_4 hq5) | skip
    first | (have hv1_5 := Nat.lt_of_lt_of_le hv1_4 hq5) | skip
    first | (have hu1_5 := Nat.lt_of_lt_of_le hu1_4 hq5) | skip
    first | (have hx2_5 := Nat.lt_of_lt_of_le hx2_4 hq5) | skip
    first | (have hv2_5 := Nat.lt_of_lt_of_le hv2_4 hq5) | skip
    first | (have hu2_5 := Nat.lt_of_lt_of_le hu2_4 hq5) | skip
    first | (have hx3_5 := Nat.lt_of_lt_of_le hx3_4 hq5) | skip
    first | (have hv3_5 := Nat.lt_of_lt_of_le hv3_4 hq5) | skip
    first | (have hu3_5 := Nat.lt_of_lt_of_le hu3_4 hq5) | skip
    first | (have hx4_5 := Nat.lt_of_lt_of_le hx4 hq5) | skip
    first | (have hv4_5 := Nat.lt_of_lt_of_le hv4 hq5) | skip
    first | (have hu4_5 := Nat.lt_of_lt_of_le hu4 hq5) | skip
    clear hb5
    go_wp2_with fail
    refine (spec_foMatrix _ _ _ _ false _ Hm.out).mono ?_
    rintro e w6 ⟨rfl, hb6⟩
    have hB6 : Below w.heap.size w w6 := Below.after (by go_grown) hb6
    obtain ⟨hc6, hf6⟩ := bcell hb6
    have hy6 := hb6.size
    try simp at hy6
    first | (with_reducible have hx6 := Nat.lt_of_succ_le hy6) | skip
    first | (with_reducible have hv6 := Nat.lt_of_succ_lt hx6) | skip
    first | (with_reducible have hu6 := Nat.lt_of_succ_lt hv6) | skip
    first | (have hz6 : w.heap.size < w6.heap.size := by omega) | (have hz6 := hB6.size)
    first | (have hq6 : w5.heap.size ≤ w6.heap.size := by omega) | skip
    first | (have hx1_6 := Nat.lt_of_lt_of_le hx1_5 hq6) | skip
    first | (have hv1_6 := Nat.lt_of_lt_of_le hv1_5 hq6) | skip
    first | (have hu1_6 := Nat.lt_of_lt_of_le hu1_5 hq6) | skip
    first | (have hx2_6 := Nat.lt_of_lt_of_le hx2_5 hq6) | skip
    first | (have hv2_6 := Nat.lt_of_lt_of_le hv2_5 hq6) | skip
    first | (have hu2_6 := Nat.lt_of_lt_of_le hu2_5 hq6) | skip
    first | (have hx3_6 := Nat.lt_of_lt_of_le hx3_5 hq6) | skip
    first | (have hv3_6 := Nat.lt_of_lt_of_le hv3_5 hq6) | skip
    first | (have hu3_6 := Nat.lt_of_lt_of_le hu3_5 hq6) | skip
    first | (have hx4_6 := Nat.lt_of_lt_of_le hx4_5 hq6) | skip
    first | (have hv4_6 := Nat.lt_of_lt_of_le hv4_5 hq6) | skip
    first | (have hu4_6 := Nat.lt_of_lt_of_le hu4_5 hq6) | skip
    first | (have hx5_6 := Nat.lt_of_lt_of_le hx5 hq6) | skip
    first | (have hv5_6 := Nat.lt_of_lt_of_le hv5 hq6) | skip
    first | (have hu5_6 := Nat.lt_of_lt_of_le hu5 hq6) | skip
    clear hb6
    have hk1 : w.heap.size < w4.heap.size + 1 := by omega
    have hk2 : w.heap.size + 1 < w4.heap.size + 1 := by omega
    go_wp2_with fail
    refine bodyPost_ret (v := .tuple #[.agg #[.int .i64 0, .int .i64 0, .int .i64 0], .agg #[.int .i64 0, .int .i64 0, .int .i64 0, .int .i64 0], .bool false]) (by simp [results, Try.results26, go_sem, *] <;> rfl) rfl ⟨rfl, by go_grown⟩
theorem walkCm (a b c x y A B C p q r s : Int) (v : Bool) (w : World)
    (hs : ∀ w, Calls Try.prog 26 #[.agg #[.int .i64 a, .int .i64 b, .int .i64 c], .int .i64 x, .int .i64 y] w fun e w' => e = .returned (.tuple #[.agg #[.int .i64 A, .int .i64 B, .int .i64 C], .agg #[.int .i64 p, .int .i64 q, .int .i64 r, .int .i64 s], .bool v]) ∧ Below w.heap.size w w')
    (hi : ∀ w, Calls Try.prog 27 #[.agg #[.int .i64 a, .int .i64 b, .int .i64 c], .int .i64 x, .int .i64 y] w fun e w' => e = .returned (.tuple #[.agg #[.int .i64 A, .int .i64 B, .int .i64 C], .agg #[.int .i64 p, .int .i64 q, .int .i64 r, .int .i64 s], .bool v]) ∧ Below w.heap.size w w') :
    Calls Try.prog 7 #[.agg #[.int .i64 a, .int .i64 b, .int .i64 c], .int .i64 x, .int .i64 y] w fun e w' => e = .returned (.bool true) ∧ Below w.heap.size w w' := by
  have Hs := Lib.hid hs
  clear hs
  have Hi := Lib.hid hi
  clear hi
  go_enter Try.func7, Try.ntmps7
  go_wp2_with fail
  refine (laws_toForm a b c _).mono ?_
  rintro e w1 ⟨rfl, hb1⟩
  have hB1 : Below w.heap.size w w1 := Below.after (by go_grown) hb1
  obtain ⟨hc1, hf1⟩ := bcell hb1
  have hy1 := hb1.size
  try simp at hy1
  first | (with_reducible have hx1 := Nat.lt_of_succ_le hy1) | skip
  first | (with_reducible have hv1 := Nat.lt_of_succ_lt hx1) | skip
  first | (with_reducible have hu1 := Nat.lt_of_succ_lt hv1) | skip
  first | (have hz1 : w.heap.size < w1.heap.size := by omega) | (have hz1 := hB1.size)
  clear hb1
  go_wp2_with fail
  refine (Hs.out _).mono ?_
  rintro e w2 ⟨rfl, hb2⟩
  have hB2 : Below w.heap.size w w2 := Below.after (by go_grown) hb2
  obtain ⟨hc2, hf2⟩ := bcell hb2
  have hy2 := hb2.size
  try simp at hy2
  first | (with_reducible have hx2 := Nat.lt_of_succ_le hy2) | skip
  first | (with_reducible have hv2 := Nat.lt_of_succ_lt hx2) | skip
  first | (with_reducible have hu2 := Nat.lt_of_succ_lt hv2) | skip
  first | (have hz2 : w.heap.size < w2.heap.size := by omega) | (have hz2 := hB2.size)
  first | (have hq2 : w1.heap.size ≤ w2.heap.size := by omega) | skip
  first | (have hx1_2 := Nat.lt_of_lt_of_le hx1 hq2) | skip
  first | (have hv1_2 := Nat.lt_of_lt_of_le hv1 hq2) | skip
  first | (have hu1_2 := Nat.lt_of_lt_of_le hu1 hq2) | skip
  clear hb2
  go_wp2_with fail
  refine (laws_toForm a b c _).mono ?_
  rintro e w3 ⟨rfl, hb3⟩
  have hB3 : Below w.heap.size w w3 := Below.after (by go_grown) hb3
  obtain ⟨hc3, hf3⟩ := bcell hb3
  have hy3 := hb3.size
  try simp at hy3
  first | (with_reducible have hx3 := Nat.lt_of_succ_le hy3) | skip
  first | (with_reducible have hv3 := Nat.lt_of_succ_lt hx3) | skip
  first | (with_reducible have hu3 := Nat.lt_of_succ_lt hv3) | skip
  first | (have hz3 : w.heap.size < w3.heap.size := by omega) | (have hz3 := hB3.size)
  first | (have hq3 : w2.heap.size ≤ w3.heap.size := by omega) | skip
  first | (have hx1_3 := Nat.lt_of_lt_of_le hx1_2 hq3) | skip
  first | (have hv1_3 := Nat.lt_of_lt_of_le hv1_2 hq3) | skip
  first | (have hu1_3 := Nat.lt_of_lt_of_le hu1_2 hq3) | skip
  first | (have hx2_3 := Nat.lt_of_lt_of_le hx2 hq3) | skip
  first | (have hv2_3 := Nat.lt_of_lt_of_le hv2 hq3) | skip
  first | (have hu2_3 := Nat.lt_of_lt_of_le hu2 hq3) | skip
  clear hb3
  go_wp2_with fail
  refine (Hi.out _).mono ?_
  rintro e w4 ⟨rfl, hb4⟩
  have hB4 : Below w.heap.size w w4 := Below.after (by go_grown) hb4
  obtain ⟨hc4, hf4⟩ := bcell hb4
  have hy4 := hb4.size
  try simp at hy4
  first | (with_reducible have hx4 := Nat.lt_of_succ_le hy4) | skip
  first | (with_reducible have hv4 := Nat.lt_of_succ_lt hx4) | skip
  first | (with_reducible have hu4 := Nat.lt_of_succ_lt hv4) | skip
  first | (have hz4 : w.heap.size < w4.heap.size := by omega) | (have hz4 := hB4.size)
  first | (have hq4 : w3.heap.size ≤ w4.heap.size := by omega) | skip
  first | (have hx1_4 := Nat.lt_of_lt_of_le hx1_3 hq4) | skip
  first | (have hv1_4 := Nat.lt_of_lt_of_le hv1_3 hq4) | skip
  first | (have hu1_4 := Nat.lt_of_lt_of_le hu1_3 hq4) | skip
  first | (have hx2_4 := Nat.lt_of_lt_of_le hx2_3 hq4) | skip
  first | (have hv2_4 := Nat.lt_of_lt_of_le hv2_3 hq4) | skip
  first | (have hu2_4 := Nat.lt_of_lt_of_le hu2_3 hq4) | skip
  first | (have hx3_4 := Nat.lt_of_lt_of_le hx3 hq4) | skip
  first | (have hv3_4 := Nat.lt_of_lt_of_le hv3 hq4) | skip
  first | (have hu3_4 := Nat.lt_of_lt_of_le hu3 hq4) | skip
  clear hb4
  go_wp2_with fail
  refine (laws_eqForm A B C _).mono ?_
  rintro e w5 ⟨rfl, hb5⟩
  have hB5 : Below w.heap.size w w5 := Below.after (by go_grown) hb5
  obtain ⟨hc5, hf5⟩ := bcell hb5
  have hy5 := hb5.size
  try simp at hy5
  first | (with_reducible have hx5 := Nat.lt_of_succ_le hy5) | skip
  first | (with_reducible have hv5 := Nat.lt_of_succ_lt hx5) | skip
  first | (with_reducible have hu5 := Nat.lt_of_succ_lt hv5) | skip
  first | (have hz5 : w.heap.size < w5.heap.size := by omega) | (have hz5 := hB5.size)
  first | (have hq5 : w4.heap.size ≤ w5.heap.size := by omega) | skip
  first | (have hx1_5 := Nat.lt_of_lt_of_le hx1_4 hq5) | skip
  first | (have hv1_5 := Nat.lt_of_lt_of_le hv1_4 hq5) | skip
  first | (have hu1_5 := Nat.lt_of_lt_of_le hu1_4 hq5) | skip
  first | (have hx2_5 := Nat.lt_of_lt_of_le hx2_4 hq5) | skip
  first | (have hv2_5 := Nat.lt_of_lt_of_le hv2_4 hq5) | skip
  first | (have hu2_5 := Nat.lt_of_lt_of_le hu2_4 hq5) | skip
  first | (have hx3_5 := Nat.lt_of_lt_of_le hx3_4 hq5) | skip
  first | (have hv3_5 := Nat.lt_of_lt_of_le hv3_4 hq5) | skip
  first | (have hu3_5 := Nat.lt_of_lt_of_le hu3_4 hq5) | skip
  first | (have hx4_5 := Nat.lt_of_lt_of_le hx4 hq5) | skip
  first | (have hv4_5 := Nat.lt_of_lt_of_le hv4 hq5) | skip
  first | (have hu4_5 := Nat.lt_of_lt_of_le hu4 hq5) | skip
  clear hb5
  go_wp2_with fail
  refine (laws_eqMatrix p q r s _).mono ?_
  rintro e w6 ⟨rfl, hb6⟩
  have hB6 : Below w.heap.size w w6 := Below.after (by go_grown) hb6
  obtain ⟨hc6, hf6⟩ := bcell hb6
  have hy6 := hb6.size
  try simp at hy6
  first | (with_reducible have hx6 := Nat.lt_of_succ_le hy6) | skip
  first | (with_reducible have hv6 := Nat.lt_of_succ_lt hx6) | skip
  first | (with_reducible have hu6 := Nat.lt_of_succ_lt hv6) | skip
  first | (have hz6 : w.heap.size < w6.heap.size := by omega) | (have hz6 := hB6.size)
  first | (have hq6 : w5.heap.size ≤ w6.heap.size := by omega) | skip
  first | (have hx1_6 := Nat.lt_of_lt_of_le hx1_5 hq6) | skip
  first | (have hv1_6 := Nat.lt_of_lt_of_le hv1_5 hq6) | skip
  first | (have hu1_6 := Nat.lt_of_lt_of_le hu1_5 hq6) | skip
  first | (have hx2_6 := Nat.lt_of_lt_of_le hx2_5 hq6) | skip
  first | (have hv2_6 := Nat.lt_of_lt_of_le hv2_5 hq6) | skip
  first | (have hu2_6 := Nat.lt_of_lt_of_le hu2_5 hq6) | skip
  first | (have hx3_6 := Nat.lt_of_lt_of_le hx3_5 hq6) | skip
  first | (have hv3_6 := Nat.lt_of_lt_of_le hv3_5 hq6) | skip
  first | (have hu3_6 := Nat.lt_of_lt_of_le hu3_5 hq6) | skip
  first | (have hx4_6 := Nat.lt_of_lt_of_le hx4_5 hq6) | skip
  first | (have hv4_6 := Nat.lt_of_lt_of_le hv4_5 hq6) | skip
  first | (have hu4_6 := Nat.lt_of_lt_of_le hu4_5 hq6) | skip
  first | (have hx5_6 := Nat.lt_of_lt_of_le hx5 hq6) | skip
  first | (have hv5_6 := Nat.lt_of_lt_of_le hv5 hq6) | skip
  first | (have hu5_6 := Nat.lt_of_lt_of_le hu5 hq6) | skip
  clear hb6
  go_wp2_with fail
  all_goals (try go_ret)
  all_goals exact ⟨rfl, by go_grown⟩
theorem walkCompletedForm (a b c x y : Int) (w : World) (wa : (Lit.int .i64 a).wf = true) (wb : (Lit.int .i64 b).wf = true) (wc : (Lit.int .i64 c).wf = true) (wx : (Lit.int .i64 x).wf = true) (wy : (Lit.int .i64 y).wf = true) :
    Calls Try.prog 7 #[.agg #[.int .i64 a, .int .i64 b, .int .i64 c], .int .i64 x, .int .i64 y] w fun e w' => e = .returned (.bool true) ∧ Below w.heap.size w w' := by
  by_cases h : CmA a b c x y
  · obtain ⟨q, s, n, B0, T, Q, S, B, C, F⟩ := cmf_ex h.1 h.2.1 h.2.2.1 h.2.2.2
    cases hf : good3 n B C with
    | true =>
      have hn : good n = true := good_iff.2 (good3_iff.1 hf).1
      cases hm : good4 x Q y S with
      | true => exact walkCm a b c x y _ _ _ _ _ _ _ _ w (fun w => spec_Cm_yes a b c x y q s n B0 T Q S B C w h F hf hm) (fun w => impl_Cm_yes a b c x y q s n B0 T Q S B C w h F hf hm)
      | false => exact walkCm a b c x y _ _ _ _ _ _ _ _ w (fun w => spec_Cm_no a b c x y q s n B0 T Q S B C w h F hn (.inr ⟨hf, hm⟩)) (fun w => impl_Cm_no a b c x y q s n B0 T Q S B C w h F (.inr ⟨hf, hm⟩))
    | false =>
      cases hn : good n with
      | true => exact walkCm a b c x y _ _ _ _ _ _ _ _ w (fun w => spec_Cm_no a b c x y q s n B0 T Q S B C w h F hn (.inl hf)) (fun w => impl_Cm_no a b c x y q s n B0 T Q S B C w h F (.inl hf))
      | false => exact walkCm a b c x y _ _ _ _ _ _ _ _ w (fun w => spec_Cm_far a b c x y q s n B0 T Q S B C w h F hn) (fun w => impl_Cm_no a b c x y q s n B0 T Q S B C w h F (.inl hf))
  · exact walkCm a b c x y _ _ _ _ _ _ _ _ w (fun w => spec_Cm_bad a b c x y w h) (fun w => impl_Cm_bad a b c x y w h (wf_bd wx) (wf_bd wy))
end Go.Proofs.Ytiblpagbloflhaa
