/- Contracts and walks of the laws: the fundamental solution, the least solutions with 1 and with -4, the unit's norm. -/
import Derived.Test.YtdonpiihjoihcaaPY
namespace Go.Proofs.Ytdonpiihjoihcaa
set_option linter.unusedVariables false
open Go.ChangeShapes Go.WideShapes Go.ChangeAt Go.RowKit

/-- what PellFour hands back -/
def PFOut (d t u : Int) (v : Bool) : Prop := (posD d = true ∧ PellOut d t u v) ∨ (posD d = false ∧ t = 0 ∧ u = 0 ∧ v = false)
theorem pfOut_ex (d : Int) : ∃ t u v, PFOut d t u v := by
  cases h : posD d with
  | true =>
    obtain ⟨t, u, v, hp⟩ := pellOut_ex h
    exact ⟨t, u, v, .inl ⟨h, hp⟩⟩
  | false => exact ⟨0, 0, false, .inr ⟨h, rfl, rfl, rfl⟩⟩
theorem pellOut_v {d t u : Int} (h : PellOut d t u false) : t = 0 ∧ u = 0 := by
  rcases h with ⟨h, _⟩ | ⟨_, h1, h2, _⟩
  · cases h
  · exact ⟨h1, h2⟩
theorem pellOut_bd {d t u : Int} {v : Bool} (hd : posD d = true) (h : PellOut d t u v) : 0 ≤ t ∧ t ≤ 100000000 ∧ 0 ≤ u ∧ u ≤ 1000000 := by
  rcases h with ⟨rfl, h1, h2, h3⟩ | ⟨rfl, rfl, rfl, h4⟩
  · have := sol_small hd h1 h3
    have := h1.1
    have := h1.2.1
    omega
  · omega
theorem pfOut_bd {d t u : Int} {v : Bool} (h : PFOut d t u v) : 0 ≤ t ∧ t ≤ 100000000 ∧ 0 ≤ u ∧ u ≤ 1000000 := by
  rcases h with ⟨hd, hp⟩ | ⟨_, rfl, rfl, _⟩
  · exact pellOut_bd hd hp
  · omega
theorem lsOut_of {d t u : Int} {v : Bool} (h : PellOut d t u v) : LsOut d 4 1000000 t u v := by
  have e : ∀ t' u' : Int, 0 < t' → 0 < u' → t' * t' = d * u' * u' + 4 → Sol d t' u' := fun t' u' a b c => ⟨a, b, by omega⟩
  rcases h with ⟨rfl, h1, h2, h3⟩ | ⟨rfl, rfl, rfl, h4⟩
  · exact .inl ⟨rfl, h1.1, h1.2.1, h3, by have := h1.2.2; omega, fun t' u' a b c => h2 _ _ (e t' u' a b c)⟩
  · exact .inr ⟨rfl, rfl, rfl, fun t' u' a b c => h4 _ _ (e t' u' a b c)⟩
theorem laws_eqSolution (a b : Int) (w : World) :
    Calls Try.prog 36 #[.agg #[.int .i64 a, .int .i64 b], .agg #[.int .i64 a, .int .i64 b]] w fun e w' => e = .returned (.bool true) ∧ Below w.heap.size w w' := by
  go_enter Try.func36, Try.ntmps36
  go_wp2_with fail
  go_ret
  exact ⟨rfl, by go_grown⟩
theorem spec_PellFour (d t u : Int) (v : Bool) (w : World) (h : PFOut d t u v) :
    Calls Try.prog 34 #[.int .i64 d] w fun e w' => e = .returned (.tuple #[.agg #[.int .i64 t, .int .i64 u], .bool v]) ∧ Below w.heap.size w w' := by
  rcases h with ⟨h, hp⟩ | ⟨h, rfl, rfl, rfl⟩
  · have H := Lib.hid h
    clear h
    cases v with
    | true =>
      have Hp := Lib.hid hp
      clear hp
      go_enter Try.func34, Try.ntmps34
      go_wp2_with fail
      refine (spec_cyDisc d true _ H.out).mono ?_
      rintro e w' ⟨rfl, rfl⟩
      go_wp2_with fail
      refine (spec_unFour d t u true _ H.out Hp.out).mono ?_
      rintro e w1 ⟨⟨x, y, rfl, hxy⟩, hb1⟩
      obtain ⟨rfl, rfl⟩ := hxy rfl
      have hB1 : Below w.heap.size w w1 := Below.after (by go_grown) hb1
      obtain ⟨hc1, hf1⟩ := bcell hb1
      have hy1 := hb1.size
      try simp at hy1
      first | (with_reducible have hx1 := Nat.lt_of_succ_le hy1) | skip
      first | (with_reducible have hv1 := Nat.lt_of_succ_lt hx1) | skip
      first | (with_reducible have hu1 := Nat.lt_of_succ_lt hv1) | skip
      first | (have hz1 : w.heap.size < w1.heap.size := by omega) | (have hz1 := hB1.size)
      clear hb1
      go_wp2_with fail
      refine bodyPost_ret (v := .tuple #[.agg #[.int .i64 x, .int .i64 y], .bool true]) (by simp [results, Try.results34, go_sem, *] <;> rfl) rfl ⟨rfl, by go_grown⟩
    | false =>
      obtain ⟨rfl, rfl⟩ := pellOut_v hp
      have Hp := Lib.hid hp
      clear hp
      go_enter Try.func34, Try.ntmps34
      go_wp2_with fail
      refine (spec_cyDisc d true _ H.out).mono ?_
      rintro e w' ⟨rfl, rfl⟩
      go_wp2_with fail
      refine (spec_unFour d 0 0 false _ H.out Hp.out).mono ?_
      rintro e w1 ⟨⟨x, y, rfl, hxy⟩, hb1⟩
      clear hxy
      have hB1 : Below w.heap.size w w1 := Below.after (by go_grown) hb1
      obtain ⟨hc1, hf1⟩ := bcell hb1
      have hy1 := hb1.size
      try simp at hy1
      first | (with_reducible have hx1 := Nat.lt_of_succ_le hy1) | skip
      first | (with_reducible have hv1 := Nat.lt_of_succ_lt hx1) | skip
      first | (with_reducible have hu1 := Nat.lt_of_succ_lt hv1) | skip
      first | (have hz1 : w.heap.size < w1.heap.size := by omega) | (have hz1 := hB1.size)
      clear hb1
      go_wp2_with fail
      refine bodyPost_ret (v := .tuple #[.agg #[.int .i64 0, .int .i64 0], .bool false]) (by simp [results, Try.results34, go_sem, *] <;> rfl) rfl ⟨rfl, by go_grown⟩
  · have H := Lib.hid h
    clear h
    go_enter Try.func34, Try.ntmps34
    go_wp2_with fail
    refine (spec_cyDisc d false _ H.out).mono ?_
    rintro e w' ⟨rfl, rfl⟩
    go_wp2_with fail
    refine bodyPost_ret (v := .tuple #[.agg #[.int .i64 0, .int .i64 0], .bool false]) (by simp [results, Try.results34, go_sem, *] <;> rfl) rfl ⟨rfl, by go_grown⟩
theorem impl_pellFour (d t u : Int) (v : Bool) (w : World) (h : posD d = true) (hp : PellOut d t u v) :
    Calls Try.prog 82 #[.int .i64 d] w fun e w' => e = .returned (.tuple #[.agg #[.int .i64 t, .int .i64 u], .bool v]) ∧ Below w.heap.size w w' := by
  obtain ⟨hd1, hd2, _⟩ := posD_iff.1 h
  have Hl := Lib.hid (lsOut_of hp)
  have H := Lib.hid h
  clear h
  cases v with
  | true =>
    have Hp := Lib.hid hp
    clear hp
    go_enter Try.func82, Try.ntmps82
    go_wp2_with fail
    refine (impl_leastSolution d 4 1000000 t u true _ hd1 hd2 (by omega) (by omega) (by omega) (by omega) Hl.out).mono ?_
    rintro e w1 ⟨rfl, hb1⟩
    have hB1 : Below w.heap.size w w1 := Below.after (by go_grown) hb1
    obtain ⟨hc1, hf1⟩ := bcell hb1
    have hy1 := hb1.size
    try simp at hy1
    first | (with_reducible have hx1 := Nat.lt_of_succ_le hy1) | skip
    first | (with_reducible have hv1 := Nat.lt_of_succ_lt hx1) | skip
    first | (with_reducible have hu1 := Nat.lt_of_succ_lt hv1) | skip
    first | (have hz1 : w.heap.size < w1.heap.size := by omega) | (have hz1 := hB1.size)
    clear hb1
    go_wp2_with fail
    refine bodyPost_ret (v := .tuple #[.agg #[.int .i64 t, .int .i64 u], .bool true]) (by simp [results, Try.results82, go_sem, *] <;> rfl) rfl ⟨rfl, by go_grown⟩
  | false =>
    obtain ⟨rfl, rfl⟩ := pellOut_v hp
    have Hp := Lib.hid hp
    clear hp
    go_enter Try.func82, Try.ntmps82
    go_wp2_with fail
    refine (impl_leastSolution d 4 1000000 0 0 false _ hd1 hd2 (by omega) (by omega) (by omega) (by omega) Hl.out).mono ?_
    rintro e w1 ⟨rfl, hb1⟩
    have hB1 : Below w.heap.size w w1 := Below.after (by go_grown) hb1
    obtain ⟨hc1, hf1⟩ := bcell hb1
    have hy1 := hb1.size
    try simp at hy1
    first | (with_reducible have hx1 := Nat.lt_of_succ_le hy1) | skip
    first | (with_reducible have hv1 := Nat.lt_of_succ_lt hx1) | skip
    first | (with_reducible have hu1 := Nat.lt_of_succ_lt hv1) | skip
    first | (have hz1 : w.heap.size < w1.heap.size := by omega) | (have hz1 := hB1.size)
    clear hb1
    go_wp2_with fail
    refine bodyPost_ret (v := .tuple #[.agg #[.int .i64 0, .int .i64 0], .bool false]) (by simp [results, Try.results82, go_sem, *] <;> rfl) rfl ⟨rfl, by go_grown⟩
theorem impl_PellFour (d t u : Int) (v : Bool) (w : World) (h : PFOut d t u v) :
    Calls Try.prog 35 #[.int .i64 d] w fun e w' => e = .returned (.tuple #[.agg #[.int .i64 t, .int .i64 u], .bool v]) ∧ Below w.heap.size w w' := by
  rcases h with ⟨h, hp⟩ | ⟨h, rfl, rfl, rfl⟩
  · have H := Lib.hid h
    clear h
    have Hp := Lib.hid hp
    clear hp
    go_enter Try.func35, Try.ntmps35
    go_wp2_with fail
    refine (impl_isPositiveDisc d true _ H.out).mono ?_
    rintro e w' ⟨rfl, rfl⟩
    go_wp2_with fail
    refine (impl_pellFour d t u v _ H.out Hp.out).mono ?_
    rintro e w1 ⟨rfl, hb1⟩
    have hB1 : Below w.heap.size w w1 := Below.after (by go_grown) hb1
    obtain ⟨hc1, hf1⟩ := bcell hb1
    have hy1 := hb1.size
    try simp at hy1
    first | (with_reducible have hx1 := Nat.lt_of_succ_le hy1) | skip
    first | (with_reducible have hv1 := Nat.lt_of_succ_lt hx1) | skip
    first | (with_reducible have hu1 := Nat.lt_of_succ_lt hv1) | skip
    first | (have hz1 : w.heap.size < w1.heap.size := by omega) | (have hz1 := hB1.size)
    clear hb1
    go_wp2_with fail
    refine bodyPost_ret (v := .tuple #[.agg #[.int .i64 t, .int .i64 u], .bool v]) (by simp [results, Try.results35, go_sem, *] <;> rfl) rfl ⟨rfl, by go_grown⟩
  · have H := Lib.hid h
    clear h
    go_enter Try.func35, Try.ntmps35
    go_wp2_with fail
    refine (impl_isPositiveDisc d false _ H.out).mono ?_
    rintro e w' ⟨rfl, rfl⟩
    go_wp2_with fail
    refine bodyPost_ret (v := .tuple #[.agg #[.int .i64 0, .int .i64 0], .bool false]) (by simp [results, Try.results35, go_sem, *] <;> rfl) rfl ⟨rfl, by go_grown⟩
theorem walkPF (d t u : Int) (v : Bool) (w : World) (h : PFOut d t u v) :
    Calls Try.prog 6 #[.int .i64 d] w fun e w' => e = .returned (.bool true) ∧ Below w.heap.size w w' := by
  have H := Lib.hid h
  clear h
  go_enter Try.func6, Try.ntmps6
  go_wp2_with fail
  refine (spec_PellFour d t u v _ H.out).mono ?_
  rintro e w1 ⟨rfl, hb1⟩
  have hB1 : Below w.heap.size w w1 := Below.after (by go_grown) hb1
  obtain ⟨hc1, hf1⟩ := bcell hb1
  have hy1 := hb1.size
  try simp at hy1
  first | (with_reducible have hx1 := Nat.lt_of_succ_le hy1) | skip
  first | (with_reducible have hv1 := Nat.lt_of_succ_lt hx1) | skip
  first | (with_reducible have hu1 := Nat.lt_of_succ_lt hv1) | skip
  first | (have hz1 : w.heap.size < w1.heap.size := by omega) | (have hz1 := hB1.size)
  clear hb1
  go_wp2_with fail
  refine (impl_PellFour d t u v _ H.out).mono ?_
  rintro e w2 ⟨rfl, hb2⟩
  have hB2 : Below w.heap.size w w2 := Below.after (by go_grown) hb2
  obtain ⟨hc2, hf2⟩ := bcell hb2
  have hy2 := hb2.size
  try simp at hy2
  first | (with_reducible have hx2 := Nat.lt_of_succ_le hy2) | skip
  first | (with_reducible have hv2 := Nat.lt_of_succ_lt hx2) | skip
  first | (with_reducible have hu2 := Nat.lt_of_succ_lt hv2) | skip
  first | (have hz2 : w.heap.size < w2.heap.size := by omega) | (have hz2 := hB2.size)
  first | (have hq2 : w1.heap.size ≤ w2.heap.size := by omega) | skip
  first | (have hx1_2 := Nat.lt_of_lt_of_le hx1 hq2) | skip
  first | (have hv1_2 := Nat.lt_of_lt_of_le hv1 hq2) | skip
  first | (have hu1_2 := Nat.lt_of_lt_of_le hu1 hq2) | skip
  clear hb2
  go_wp2_with fail
  refine (laws_eqSolution t u _).mono ?_
  rintro e w3 ⟨rfl, hb3⟩
  have hB3 : Below w.heap.size w w3 := Below.after (by go_grown) hb3
  obtain ⟨hc3, hf3⟩ := bcell hb3
  have hy3 := hb3.size
  try simp at hy3
  first | (with_reducible have hx3 := Nat.lt_of_succ_le hy3) | skip
  first | (with_reducible have hv3 := Nat.lt_of_succ_lt hx3) | skip
  first | (with_reducible have hu3 := Nat.lt_of_succ_lt hv3) | skip
  first | (have hz3 : w.heap.size < w3.heap.size := by omega) | (have hz3 := hB3.size)
  first | (have hq3 : w2.heap.size ≤ w3.heap.size := by omega) | skip
  first | (have hx1_3 := Nat.lt_of_lt_of_le hx1_2 hq3) | skip
  first | (have hv1_3 := Nat.lt_of_lt_of_le hv1_2 hq3) | skip
  first | (have hu1_3 := Nat.lt_of_lt_of_le hu1_2 hq3) | skip
  first | (have hx2_3 := Nat.lt_of_lt_of_le hx2 hq3) | skip
  first | (have hv2_3 := Nat.lt_of_lt_of_le hv2 hq3) | skip
  first | (have hu2_3 := Nat.lt_of_lt_of_le hu2 hq3) | skip
  clear hb3
  go_wp2_with fail
  all_goals (try go_ret)
  all_goals exact ⟨rfl, by go_grown⟩
theorem walkPellFour (d : Int) (w : World) (wd : (Lit.int .i64 d).wf = true) :
    Calls Try.prog 6 #[.int .i64 d] w fun e w' => e = .returned (.bool true) ∧ Below w.heap.size w w' := by
  obtain ⟨t, u, v, h⟩ := pfOut_ex d
  exact walkPF d t u v w h
/-- what PellOne hands back -/
def POOut (n t u : Int) (v : Bool) : Prop := (2 ≤ n ∧ n ≤ 250 ∧ sqB n = false ∧ ∃ T, PFOut (4 * n) T u v ∧ posD (4 * n) = true ∧ t = T / 2) ∨ (¬ (2 ≤ n ∧ n ≤ 250 ∧ sqB n = false) ∧ t = 0 ∧ u = 0 ∧ v = false)
theorem posD_four {n : Int} (h1 : 2 ≤ n) (h2 : n ≤ 250) (h : sqB n = false) : posD (4 * n) = true := by
  refine posD_iff.2 ⟨by omega, by omega, by omega, ?_⟩
  cases hs : sqB (4 * n) with
  | false => rfl
  | true =>
    exfalso
    obtain ⟨k, hk⟩ : ∃ k : Nat, n = k := ⟨n.toNat, by omega⟩
    subst hk
    have hall : ((List.range 251).all fun k : Nat => !(sqB (4 * (k : Int))) || sqB (k : Int)) = true := by decide +kernel
    have := List.all_eq_true.1 hall k (List.mem_range.2 (by omega))
    rw [hs, h] at this
    cases this
theorem poOut_ex (n : Int) : ∃ t u v, POOut n t u v := by
  by_cases h : 2 ≤ n ∧ n ≤ 250 ∧ sqB n = false
  · obtain ⟨T, u, v, hp⟩ := pfOut_ex (4 * n)
    exact ⟨_, u, v, .inl ⟨h.1, h.2.1, h.2.2, T, hp, posD_four h.1 h.2.1 h.2.2, rfl⟩⟩
  · exact ⟨_, _, _, .inr ⟨h, rfl, rfl, rfl⟩⟩
theorem po_no {n : Int} (h : ¬ (2 ≤ n ∧ n ≤ 250 ∧ sqB n = false)) : (decide (2 ≤ n) && decide (n ≤ 250)) = false ∨ ((2 ≤ n ∧ n ≤ 250) ∧ sqB n = true) := by
  by_cases hr : 2 ≤ n ∧ n ≤ 250
  · right; refine ⟨hr, ?_⟩
    cases hs : sqB n with
    | true => rfl
    | false => exact absurd ⟨hr.1, hr.2, hs⟩ h
  · left; simp; omega
theorem spec_PellOne (n t u : Int) (v : Bool) (w : World) (h : POOut n t u v) :
    Calls Try.prog 37 #[.int .i64 n] w fun e w' => e = .returned (.tuple #[.agg #[.int .i64 t, .int .i64 u], .bool v]) ∧ Below w.heap.size w w' := by
  rcases h with ⟨h1, h2, h3, T, hp, hd, rfl⟩ | ⟨h, rfl, rfl, rfl⟩
  · have hl : (decide (2 ≤ n) && decide (n ≤ 250)) = true := by simp [h1, h2]
    have hbd := pfOut_bd hp
    obtain ⟨bd1, bd2, bd3, bd4⟩ := hbd
    have Hl := Lib.hid hl
    clear hl
    have H3 := Lib.hid h3
    clear h3
    cases v with
    | true =>
      have Hp := Lib.hid hp
      clear hp
      go_enter Try.func37, Try.ntmps37
      go_wp2_with fail
      refine (spec_l1In n 2 250 true _ Hl.out).mono ?_
      rintro e w' ⟨rfl, rfl⟩
      go_wp2_with fail
      refine (spec_nuSquare n false _ (by omega) H3.out).mono ?_
      rintro e w' ⟨rfl, rfl⟩
      go_wp2_with fail
      refine (spec_PellFour (4 * n) T u true _ Hp.out).mono ?_
      rintro e w1 ⟨rfl, hb1⟩
      have hB1 : Below w.heap.size w w1 := Below.after (by go_grown) hb1
      obtain ⟨hc1, hf1⟩ := bcell hb1
      have hy1 := hb1.size
      try simp at hy1
      first | (with_reducible have hx1 := Nat.lt_of_succ_le hy1) | skip
      first | (with_reducible have hv1 := Nat.lt_of_succ_lt hx1) | skip
      first | (with_reducible have hu1 := Nat.lt_of_succ_lt hv1) | skip
      first | (have hz1 : w.heap.size < w1.heap.size := by omega) | (have hz1 := hB1.size)
      clear hb1
      go_wp2_with fail
      refine bodyPost_ret (v := .tuple #[.agg #[.int .i64 (T / 2), .int .i64 u], .bool true]) (by simp [results, Try.results37, go_sem, *] <;> rfl) rfl ⟨rfl, by go_grown⟩
    | false =>
      obtain ⟨rfl, rfl⟩ : T = 0 ∧ u = 0 := by
        rcases hp with ⟨_, hp⟩ | ⟨_, a, b, _⟩
        · exact pellOut_v hp
        · exact ⟨a, b⟩
      have Hp := Lib.hid hp
      clear hp
      go_enter Try.func37, Try.ntmps37
      go_wp2_with fail
      refine (spec_l1In n 2 250 true _ Hl.out).mono ?_
      rintro e w' ⟨rfl, rfl⟩
      go_wp2_with fail
      refine (spec_nuSquare n false _ (by omega) H3.out).mono ?_
      rintro e w' ⟨rfl, rfl⟩
      go_wp2_with fail
      refine (spec_PellFour (4 * n) 0 0 false _ Hp.out).mono ?_
      rintro e w1 ⟨rfl, hb1⟩
      have hB1 : Below w.heap.size w w1 := Below.after (by go_grown) hb1
      obtain ⟨hc1, hf1⟩ := bcell hb1
      have hy1 := hb1.size
      try simp at hy1
      first | (with_reducible have hx1 := Nat.lt_of_succ_le hy1) | skip
      first | (with_reducible have hv1 := Nat.lt_of_succ_lt hx1) | skip
      first | (with_reducible have hu1 := Nat.lt_of_succ_lt hv1) | skip
      first | (have hz1 : w.heap.size < w1.heap.size := by omega) | (have hz1 := hB1.size)
      clear hb1
      go_wp2_with fail
      refine bodyPost_ret (v := .tuple #[.agg #[.int .i64 0, .int .i64 0], .bool false]) (by simp [results, Try.results37, go_sem, *] <;> rfl) rfl ⟨rfl, by go_grown⟩
  · rcases po_no h with hl | ⟨⟨h1, h2⟩, hs⟩
    · have Hl := Lib.hid hl
      clear hl
      clear h
      go_enter Try.func37, Try.ntmps37
      go_wp2_with fail
      refine (spec_l1In n 2 250 false _ Hl.out).mono ?_
      rintro e w' ⟨rfl, rfl⟩
      go_wp2_with fail
      refine bodyPost_ret (v := .tuple #[.agg #[.int .i64 0, .int .i64 0], .bool false]) (by simp [results, Try.results37, go_sem, *] <;> rfl) rfl ⟨rfl, by go_grown⟩
    · have Hl := Lib.hid (show (decide (2 ≤ n) && decide (n ≤ 250)) = true by simp [h1, h2])
      have Hs := Lib.hid hs
      clear hs
      clear h
      go_enter Try.func37, Try.ntmps37
      go_wp2_with fail
      refine (spec_l1In n 2 250 true _ Hl.out).mono ?_
      rintro e w' ⟨rfl, rfl⟩
      go_wp2_with fail
      refine (spec_nuSquare n true _ (by omega) Hs.out).mono ?_
      rintro e w' ⟨rfl, rfl⟩
      go_wp2_with fail
      refine bodyPost_ret (v := .tuple #[.agg #[.int .i64 0, .int .i64 0], .bool false]) (by simp [results, Try.results37, go_sem, *] <;> rfl) rfl ⟨rfl, by go_grown⟩
theorem impl_PellOne (n t u : Int) (v : Bool) (w : World) (h : POOut n t u v) :
    Calls Try.prog 38 #[.int .i64 n] w fun e w' => e = .returned (.tuple #[.agg #[.int .i64 t, .int .i64 u], .bool v]) ∧ Below w.heap.size w w' := by
  rcases h with ⟨h1, h2, h3, T, hp, hd, rfl⟩ | ⟨h, rfl, rfl, rfl⟩
  · have hbd := pfOut_bd hp
    obtain ⟨bd1, bd2, bd3, bd4⟩ := hbd
    have hp' : PellOut (4 * n) T u v := by
      rcases hp with ⟨_, hp⟩ | ⟨hf, _⟩
      · exact hp
      · rw [hd] at hf; cases hf
    clear hp
    have H3 := Lib.hid h3
    clear h3
    have Hd := Lib.hid hd
    clear hd
    have Hp := Lib.hid hp'
    clear hp'
    go_enter Try.func38, Try.ntmps38
    go_wp2_with fail
    refine (impl_isSquare n false _ (by omega) H3.out).mono ?_
    rintro e w' ⟨rfl, rfl⟩
    go_wp2_with fail
    refine (impl_pellFour (4 * n) T u v _ Hd.out Hp.out).mono ?_
    rintro e w1 ⟨rfl, hb1⟩
    have hB1 : Below w.heap.size w w1 := Below.after (by go_grown) hb1
    obtain ⟨hc1, hf1⟩ := bcell hb1
    have hy1 := hb1.size
    try simp at hy1
    first | (with_reducible have hx1 := Nat.lt_of_succ_le hy1) | skip
    first | (with_reducible have hv1 := Nat.lt_of_succ_lt hx1) | skip
    first | (with_reducible have hu1 := Nat.lt_of_succ_lt hv1) | skip
    first | (have hz1 : w.heap.size < w1.heap.size := by omega) | (have hz1 := hB1.size)
    clear hb1
    go_wp2_with fail
    refine bodyPost_ret (v := .tuple #[.agg #[.int .i64 (T / 2), .int .i64 u], .bool v]) (by simp [results, Try.results38, go_sem, *] <;> rfl) rfl ⟨rfl, by go_grown⟩
  · rcases po_no h with hl | ⟨⟨h1, h2⟩, hs⟩
    · clear h
      have hl' : n < 2 ∨ (2 ≤ n ∧ 250 < n) := by simp at hl; omega
      clear hl
      rcases hl' with hl | ⟨hl, hl'⟩
      all_goals
        go_enter Try.func38, Try.ntmps38
        go_wp2_with fail
        refine bodyPost_ret (v := .tuple #[.agg #[.int .i64 0, .int .i64 0], .bool false]) (by simp [results, Try.results38, go_sem, *] <;> rfl) rfl ⟨rfl, by go_grown⟩
    · have Hs := Lib.hid hs
      clear hs
      clear h
      go_enter Try.func38, Try.ntmps38
      go_wp2_with fail
      refine (impl_isSquare n true _ (by omega) Hs.out).mono ?_
      rintro e w' ⟨rfl, rfl⟩
      go_wp2_with fail
      refine bodyPost_ret (v := .tuple #[.agg #[.int .i64 0, .int .i64 0], .bool false]) (by simp [results, Try.results38, go_sem, *] <;> rfl) rfl ⟨rfl, by go_grown⟩
theorem walkPO (d t u : Int) (v : Bool) (w : World) (h : POOut d t u v) :
    Calls Try.prog 7 #[.int .i64 d] w fun e w' => e = .returned (.bool true) ∧ Below w.heap.size w w' := by
  have H := Lib.hid h
  clear h
  go_enter Try.func7, Try.ntmps7
  go_wp2_with fail
  refine (spec_PellOne d t u v _ H.out).mono ?_
  rintro e w1 ⟨rfl, hb1⟩
  have hB1 : Below w.heap.size w w1 := Below.after (by go_grown) hb1
  obtain ⟨hc1, hf1⟩ := bcell hb1
  have hy1 := hb1.size
  try simp at hy1
  first | (with_reducible have hx1 := Nat.lt_of_succ_le hy1) | skip
  first | (with_reducible have hv1 := Nat.lt_of_succ_lt hx1) | skip
  first | (with_reducible have hu1 := Nat.lt_of_succ_lt hv1) | skip
  first | (have hz1 : w.heap.size < w1.heap.size := by omega) | (have hz1 := hB1.size)
  clear hb1
  go_wp2_with fail
  refine (impl_PellOne d t u v _ H.out).mono ?_
  rintro e w2 ⟨rfl, hb2⟩
  have hB2 : Below w.heap.size w w2 := Below.after (by go_grown) hb2
  obtain ⟨hc2, hf2⟩ := bcell hb2
  have hy2 := hb2.size
  try simp at hy2
  first | (with_reducible have hx2 := Nat.lt_of_succ_le hy2) | skip
  first | (with_reducible have hv2 := Nat.lt_of_succ_lt hx2) | skip
  first | (with_reducible have hu2 := Nat.lt_of_succ_lt hv2) | skip
  first | (have hz2 : w.heap.size < w2.heap.size := by omega) | (have hz2 := hB2.size)
  first | (have hq2 : w1.heap.size ≤ w2.heap.size := by omega) | skip
  first | (have hx1_2 := Nat.lt_of_lt_of_le hx1 hq2) | skip
  first | (have hv1_2 := Nat.lt_of_lt_of_le hv1 hq2) | skip
  first | (have hu1_2 := Nat.lt_of_lt_of_le hu1 hq2) | skip
  clear hb2
  go_wp2_with fail
  refine (laws_eqSolution t u _).mono ?_
  rintro e w3 ⟨rfl, hb3⟩
  have hB3 : Below w.heap.size w w3 := Below.after (by go_grown) hb3
  obtain ⟨hc3, hf3⟩ := bcell hb3
  have hy3 := hb3.size
  try simp at hy3
  first | (with_reducible have hx3 := Nat.lt_of_succ_le hy3) | skip
  first | (with_reducible have hv3 := Nat.lt_of_succ_lt hx3) | skip
  first | (with_reducible have hu3 := Nat.lt_of_succ_lt hv3) | skip
  first | (have hz3 : w.heap.size < w3.heap.size := by omega) | (have hz3 := hB3.size)
  first | (have hq3 : w2.heap.size ≤ w3.heap.size := by omega) | skip
  first | (have hx1_3 := Nat.lt_of_lt_of_le hx1_2 hq3) | skip
  first | (have hv1_3 := Nat.lt_of_lt_of_le hv1_2 hq3) | skip
  first | (have hu1_3 := Nat.lt_of_lt_of_le hu1_2 hq3) | skip
  first | (have hx2_3 := Nat.lt_of_lt_of_le hx2 hq3) | skip
  first | (have hv2_3 := Nat.lt_of_lt_of_le hv2 hq3) | skip
  first | (have hu2_3 := Nat.lt_of_lt_of_le hu2 hq3) | skip
  clear hb3
  go_wp2_with fail
  all_goals (try go_ret)
  all_goals exact ⟨rfl, by go_grown⟩
theorem walkPellOne (n : Int) (w : World) (wn : (Lit.int .i64 n).wf = true) :
    Calls Try.prog 7 #[.int .i64 n] w fun e w' => e = .returned (.bool true) ∧ Below w.heap.size w w' := by
  obtain ⟨t, u, v, h⟩ := poOut_ex n
  exact walkPO n t u v w h
end Go.Proofs.Ytdonpiihjoihcaa
