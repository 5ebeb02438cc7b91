/- Contracts and walks of the laws: the least solution with -4, the unit's norm. -/
import Derived.Test.YtdonpiihjoihcaaPZ
namespace Go.Proofs.Ytdonpiihjoihcaa
set_option linter.unusedVariables false
open Go.ChangeShapes Go.WideShapes Go.ChangeAt Go.RowKit

/-- what PellMinusFour hands back -/
def MFOut (d t u : Int) (v : Bool) : Prop := ∃ T U b, PFOut d T U b ∧ ((b = false ∧ t = 0 ∧ u = 0 ∧ v = false) ∨ (b = true ∧ posD d = true ∧ Sol d T U ∧ U ≤ 1000000 ∧ (∀ t' u', Sol d t' u' → U ≤ u') ∧ LsOut d (-4) U t u v))
theorem ls_least {d side : Int} : ∀ (n : Nat) (T U : Int), U.toNat ≤ n → 0 < T → 0 < U → T * T = d * U * U + side → ∃ t u, 0 < t ∧ 0 < u ∧ u ≤ U ∧ t * t = d * u * u + side ∧ ∀ t' u', 0 < t' → 0 < u' → t' * t' = d * u' * u' + side → u ≤ u' := by
  intro n
  induction n with
  | zero => intro T U hn _ h _; omega
  | succ n ih =>
    intro T U hn hT hU he
    by_cases hx : ∃ t' u', 0 < t' ∧ 0 < u' ∧ t' * t' = d * u' * u' + side ∧ u' < U
    · obtain ⟨t', u', h1, h2, h3, h4⟩ := hx
      obtain ⟨t, u, a, b, c, e, f⟩ := ih t' u' (by omega) h1 h2 h3
      exact ⟨t, u, a, b, by omega, e, f⟩
    · exact ⟨T, U, hT, hU, by omega, he, fun t' u' a b c => Int.not_lt.1 fun hc => hx ⟨t', u', a, b, c, hc⟩⟩
theorem lsOut_ex (d side most : Int) : ∃ t u v, LsOut d side most t u v := by
  by_cases h : ∃ t u : Int, 0 < t ∧ 0 < u ∧ u ≤ most ∧ t * t = d * u * u + side
  · obtain ⟨T, U, h1, h2, h3, h4⟩ := h
    obtain ⟨t, u, a, b, c, e, f⟩ := ls_least U.toNat T U (Nat.le_refl _) h1 h2 h4
    exact ⟨t, u, true, .inl ⟨rfl, a, b, by omega, e, f⟩⟩
  · exact ⟨0, 0, false, .inr ⟨rfl, rfl, rfl, fun t' u' a b c => Int.not_le.1 fun hc => h ⟨t', u', a, b, hc, c⟩⟩⟩
theorem mfOut_ex (d : Int) : ∃ t u v, MFOut d t u v := by
  obtain ⟨T, U, b, h⟩ := pfOut_ex d
  cases b with
  | false => exact ⟨0, 0, false, T, U, false, h, .inl ⟨rfl, rfl, rfl, rfl⟩⟩
  | true =>
    obtain ⟨t, u, v, hl⟩ := lsOut_ex d (-4) U
    refine ⟨t, u, v, T, U, true, h, .inr ⟨rfl, ?_⟩⟩
    rcases h with ⟨hd, hp⟩ | ⟨_, _, _, h⟩
    · rcases hp with ⟨_, h1, h2, h3⟩ | ⟨h, _⟩
      · exact ⟨hd, h1, h3, h2, hl⟩
      · cases h
    · cases h
theorem sol_t3 {d T U : Int} (hd : 5 ≤ d) (h : Sol d T U) : 3 ≤ T := by
  obtain ⟨h1, h2, h3⟩ := h
  have : 2 < T := by
    refine sq_lt (by omega) (Int.le_of_lt h1) ?_
    have : 0 < d * U * U := Int.mul_pos (Int.mul_pos (by omega) h2) h2
    omega
  omega
/-- what unMinus sees where there is a solution with -4 -/
theorem minus_yes {d T U t u : Int} (hd : 5 ≤ d) (hs : Sol d T U) (hmin : ∀ t' u', Sol d t' u' → U ≤ u') (h : LsOut d (-4) U t u true) : t * t = T - 2 ∧ U = t * u ∧ 0 < t ∧ 0 < u ∧ t * t - d * u * u = -4 := by
  rcases h with ⟨_, h1, h2, h3, h4, h5⟩ | ⟨h, _⟩
  · have hneg : Neg d t u := ⟨h1, h2, by omega⟩
    obtain ⟨e1, e2⟩ := neg_root hd hs hmin hneg fun t' u' h' => h5 t' u' h'.1 h'.2.1 (by have := h'.2.2; omega)
    exact ⟨by omega, e2, h1, h2, by omega⟩
  · cases h
theorem minus_no {d U t u r : Int} (h : LsOut d (-4) U t u false) (hU : 0 < U) (hr : 0 < r) (hm : U % r = 0) : (r * r - d * (U / r) * (U / r) == -4) = false := by
  rcases h with ⟨h, _⟩ | ⟨_, _, _, h⟩
  · cases h
  · simp only [beq_eq_false_iff_ne, ne_eq]
    intro he
    have hq : 0 < U / r := by
      have hk : U = r * (U / r) := by have := Int.mul_ediv_add_emod U r; omega
      refine Int.not_le.1 fun hc => ?_
      have := Int.mul_nonneg (show 0 ≤ r by omega) (show 0 ≤ -(U / r) by omega)
      rw [Int.mul_neg] at this
      omega
    have := h r (U / r) hr hq (by omega)
    have h2 : U / r ≤ U := Int.ediv_le_self _ (by omega)
    omega
theorem isq_bd {n : Int} (h0 : 0 < n) (h1 : n ≤ 100000000) : 0 < isq n ∧ isq n ≤ 10000 := by
  obtain ⟨b, c⟩ := isq_spec (n := n) (by omega) (by omega)
  have a := isq_nonneg n
  refine ⟨Int.not_le.1 fun hc => ?_, isq_le (by omega) (by omega) (by omega) (by omega)⟩
  have e : isq n = 0 := by omega
  rw [e] at c
  omega
theorem spec_unMinus_yes (T U r : Int) (w : World) (hT1 : 3 ≤ T) (hT2 : T ≤ 100000000) (hU1 : 0 < U) (hU2 : U ≤ 1000000) (hr : isq (T - 2) = r) (he : r * r = T - 2) (hm : U % r = 0) :
    Calls Try.prog 92 #[.agg #[.int .i64 T, .int .i64 U]] w fun e w' => e = .returned (.tuple #[.agg #[.int .i64 r, .int .i64 (U / r)], .bool true]) ∧ Below w.heap.size w w' := by
  obtain ⟨hr0, hr1⟩ := isq_bd (n := T - 2) (by omega) (by omega)
  rw [hr] at hr0 hr1
  have hx : (r * r != T - 2) = false := by simp [he]
  have hm1 : (U % r != 0) = false := by simp [hm]
  have hz1 : (r == 0) = false := by simp; omega
  obtain ⟨b1, b2⟩ : 0 ≤ r * r ∧ r * r ≤ 10000 * 10000 := ⟨Int.mul_nonneg (by omega) (by omega), Int.mul_le_mul hr1 hr1 (by omega) (by omega)⟩
  have hz : ¬ r = 0 := by omega
  have Hr := Lib.hid hr
  clear hr hm
  go_enter Try.func92, Try.ntmps92
  go_wp2_with fail
  refine (spec_nuRoot (T - 2) _ (by omega) (by omega)).mono ?_
  rintro e w' ⟨rfl, rfl⟩
  rw [Hr.out]
  go_wp2_with fail
  refine bodyPost_ret (v := .tuple #[.agg #[.int .i64 r, .int .i64 (U / r)], .bool true]) (by simp [results, Try.results92, go_sem, *] <;> rfl) rfl ⟨rfl, by go_grown⟩
theorem spec_unMinus_no (T U r : Int) (w : World) (hT1 : 3 ≤ T) (hT2 : T ≤ 100000000) (hU1 : 0 < U) (hU2 : U ≤ 1000000) (hr : isq (T - 2) = r) (he : ¬ (r * r = T - 2 ∧ U % r = 0)) :
    Calls Try.prog 92 #[.agg #[.int .i64 T, .int .i64 U]] w fun e w' => e = .returned (.tuple #[.agg #[.int .i64 0, .int .i64 0], .bool false]) ∧ Below w.heap.size w w' := by
  obtain ⟨hr0, hr1⟩ := isq_bd (n := T - 2) (by omega) (by omega)
  rw [hr] at hr0 hr1
  obtain ⟨b1, b2⟩ : 0 ≤ r * r ∧ r * r ≤ 10000 * 10000 := ⟨Int.mul_nonneg (by omega) (by omega), Int.mul_le_mul hr1 hr1 (by omega) (by omega)⟩
  have hz : ¬ r = 0 := by omega
  have hz1 : (r == 0) = false := by simp; omega
  have hc : (¬ r * r = T - 2) ∨ (r * r = T - 2 ∧ ¬ U % r = 0) := by
    by_cases h : r * r = T - 2
    · exact .inr ⟨h, fun h' => he ⟨h, h'⟩⟩
    · exact .inl h
  have Hr := Lib.hid hr
  clear hr he
  rcases hc with hx | ⟨hx, hm⟩
  · have hx1 : (r * r != T - 2) = true := by simp [hx]
    go_enter Try.func92, Try.ntmps92
    go_wp2_with fail
    refine (spec_nuRoot (T - 2) _ (by omega) (by omega)).mono ?_
    rintro e w' ⟨rfl, rfl⟩
    rw [Hr.out]
    go_wp2_with fail
    refine bodyPost_ret (v := .tuple #[.agg #[.int .i64 0, .int .i64 0], .bool false]) (by simp [results, Try.results92, go_sem, *] <;> rfl) rfl ⟨rfl, by go_grown⟩
  · have hx1 : (r * r != T - 2) = false := by simp [hx]
    have hm1 : (U % r != 0) = true := by simp [hm]
    go_enter Try.func92, Try.ntmps92
    go_wp2_with fail
    refine (spec_nuRoot (T - 2) _ (by omega) (by omega)).mono ?_
    rintro e w' ⟨rfl, rfl⟩
    rw [Hr.out]
    go_wp2_with fail
    refine bodyPost_ret (v := .tuple #[.agg #[.int .i64 0, .int .i64 0], .bool false]) (by simp [results, Try.results92, go_sem, *] <;> rfl) rfl ⟨rfl, by go_grown⟩
theorem pf_no {d T U : Int} (h : PFOut d T U false) : T = 0 ∧ U = 0 := by
  rcases h with ⟨_, hp⟩ | ⟨_, a, b, _⟩
  · exact pellOut_v hp
  · exact ⟨a, b⟩
theorem du_bd {d u : Int} (hd1 : 5 ≤ d) (hd2 : d ≤ 1000) (hu1 : 0 ≤ u) (hu2 : u ≤ 1000000) : (0 ≤ d * u ∧ d * u ≤ 1000000000) ∧ (0 ≤ d * u * u ∧ d * u * u ≤ 1000000000000000) := by
  have a1 : 0 ≤ d * u := Int.mul_nonneg (by omega) hu1
  have a2 : d * u ≤ 1000 * 1000000 := Int.mul_le_mul hd2 hu2 hu1 (by omega)
  have a3 : 0 ≤ d * u * u := Int.mul_nonneg a1 hu1
  have a4 : d * u * u ≤ 1000000000 * 1000000 := Int.mul_le_mul (by omega) hu2 hu1 (by omega)
  omega
theorem isq_sq {t n : Int} (h0 : 0 ≤ t) (h : t * t = n) (hn : n ≤ 100000000) : isq n = t :=
  isq_eq h0 (by omega) (by have : (t + 1) * (t + 1) = t * t + 2 * t + 1 := by grind
                           omega) (by omega)
theorem spec_PellMinusFour (d t u : Int) (v : Bool) (w : World) (h : MFOut d t u v) :
    Calls Try.prog 46 #[.int .i64 d] w fun e w' => e = .returned (.tuple #[.agg #[.int .i64 t, .int .i64 u], .bool v]) ∧ Below w.heap.size w w' := by
  obtain ⟨T, U, b, hp, ⟨rfl, rfl, rfl, rfl⟩ | ⟨rfl, hd, hs, hU, hmin, hl⟩⟩ := h
  · obtain ⟨rfl, rfl⟩ := pf_no hp
    have Hp := Lib.hid hp
    clear hp
    go_enter Try.func46, Try.ntmps46
    go_wp2_with fail
    refine (spec_PellFour d 0 0 false _ Hp.out).mono ?_
    rintro e w1 ⟨rfl, hb1⟩
    have hB1 : Below w.heap.size w w1 := Below.after (by go_grown) hb1
    obtain ⟨hc1, hf1⟩ := bcell hb1
    have hy1 := hb1.size
    try simp at hy1
    first | (with_reducible have hx1 := Nat.lt_of_succ_le hy1) | skip
    first | (with_reducible have hv1 := Nat.lt_of_succ_lt hx1) | skip
    first | (with_reducible have hu1 := Nat.lt_of_succ_lt hv1) | skip
    first | (have hz1 : w.heap.size < w1.heap.size := by omega) | (have hz1 := hB1.size)
    clear hb1
    go_wp2_with fail
    refine bodyPost_ret (v := .tuple #[.agg #[.int .i64 0, .int .i64 0], .bool false]) (by simp [results, Try.results46, go_sem, *] <;> rfl) rfl ⟨rfl, by go_grown⟩
  · obtain ⟨hd1, hd2, _⟩ := posD_iff.1 hd
    have hT3 := sol_t3 hd1 hs
    have hT8 := sol_small hd hs hU
    have hU0 := hs.2.1
    cases v with
    | true =>
      obtain ⟨e1, e2, t0, u0, e3⟩ := minus_yes hd1 hs hmin hl
      have hr : isq (T - 2) = t := isq_sq (by omega) e1 (by omega)
      have hm : U % t = 0 := by rw [e2]; exact Int.mul_emod_right t u
      have hq : U / t = u := by rw [e2]; exact Int.mul_ediv_cancel_left u (by omega)
      obtain ⟨_, t1⟩ := isq_bd (n := T - 2) (by omega) (by omega)
      rw [hr] at t1
      have hu6 : u ≤ 1000000 := by
        have := Int.ediv_le_self t (show 0 ≤ U by omega); omega
      obtain ⟨⟨c1, c2⟩, ⟨c3, c4⟩⟩ := du_bd hd1 hd2 (show 0 ≤ u by omega) hu6
      obtain ⟨b1, b2⟩ : 0 ≤ t * t ∧ t * t ≤ 10000 * 10000 := ⟨Int.mul_nonneg (by omega) (by omega), Int.mul_le_mul t1 t1 (by omega) (by omega)⟩
      have hne : (t * t - d * u * u != -4) = false := by simp [e3]
      have hunm : ∀ w, Calls Try.prog 92 #[.agg #[.int .i64 T, .int .i64 U]] w fun e w' => e = .returned (.tuple #[.agg #[.int .i64 t, .int .i64 u], .bool true]) ∧ Below w.heap.size w w' := fun w => by
        have := spec_unMinus_yes T U t w hT3 hT8 hU0 hU hr e1 hm
        rwa [hq] at this
      have Hu := Lib.hid hunm
      have He3 := Lib.hid e3
      clear hunm hr hm hq e1 e2 e3 hl hs hmin
      have Hp := Lib.hid hp
      clear hp
      go_enter Try.func46, Try.ntmps46
      go_wp2_with fail
      refine (spec_PellFour d T U true _ Hp.out).mono ?_
      rintro e w1 ⟨rfl, hb1⟩
      have hB1 : Below w.heap.size w w1 := Below.after (by go_grown) hb1
      obtain ⟨hc1, hf1⟩ := bcell hb1
      have hy1 := hb1.size
      try simp at hy1
      first | (with_reducible have hx1 := Nat.lt_of_succ_le hy1) | skip
      first | (with_reducible have hv1 := Nat.lt_of_succ_lt hx1) | skip
      first | (with_reducible have hu1 := Nat.lt_of_succ_lt hv1) | skip
      first | (have hz1 : w.heap.size < w1.heap.size := by omega) | (have hz1 := hB1.size)
      clear hb1
      go_wp2_with fail
      refine (Hu.out _).mono ?_
      rintro e w2 ⟨rfl, hb2⟩
      have hB2 : Below w.heap.size w w2 := Below.after (by go_grown) hb2
      obtain ⟨hc2, hf2⟩ := bcell hb2
      have hy2 := hb2.size
      try simp at hy2
      first | (with_reducible have hx2 := Nat.lt_of_succ_le hy2) | skip
      first | (with_reducible have hv2 := Nat.lt_of_succ_lt hx2) | skip
      first | (with_reducible have hu2 := Nat.lt_of_succ_lt hv2) | skip
      first | (have hz2 : w.heap.size < w2.heap.size := by omega) | (have hz2 := hB2.size)
      first | (have hq2 : w1.heap.size ≤ w2.heap.size := by omega) | skip
      first | (have hx1_2 := Nat.lt_of_lt_of_le hx1 hq2) | skip
      first | (have hv1_2 := Nat.lt_of_lt_of_le hv1 hq2) | skip
      first | (have hu1_2 := Nat.lt_of_lt_of_le hu1 hq2) | skip
      clear hb2
      go_wp2_with fail
      have hk1 : w.heap.size < w1.heap.size + 1 := by omega
      refine bodyPost_ret (v := .tuple #[.agg #[.int .i64 t, .int .i64 u], .bool true]) (by simp [results, Try.results46, go_sem, *] <;> rfl) rfl ⟨rfl, by go_grown⟩
    | false =>
      obtain ⟨rfl, rfl⟩ : t = 0 ∧ u = 0 := by
        rcases hl with ⟨h, _⟩ | ⟨_, a, b, _⟩
        · cases h
        · exact ⟨a, b⟩
      obtain ⟨r, hr⟩ : ∃ r, isq (T - 2) = r := ⟨_, rfl⟩
      obtain ⟨hr0, hr1⟩ := isq_bd (n := T - 2) (by omega) (by omega)
      rw [hr] at hr0 hr1
      by_cases hc : r * r = T - 2 ∧ U % r = 0
      · obtain ⟨e1, e2⟩ := hc
        have hne : (r * r - d * (U / r) * (U / r) == -4) = false := minus_no hl hU0 hr0 e2
        have hq0 : 0 ≤ U / r := Int.ediv_nonneg (by omega) (by omega)
        have hq1 : U / r ≤ 1000000 := by have := Int.ediv_le_self r (show 0 ≤ U by omega); omega
        have hunm : ∀ w, Calls Try.prog 92 #[.agg #[.int .i64 T, .int .i64 U]] w fun e w' => e = .returned (.tuple #[.agg #[.int .i64 r, .int .i64 (U / r)], .bool true]) ∧ Below w.heap.size w w' := fun w => spec_unMinus_yes T U r w hT3 hT8 hU0 hU hr e1 e2
        obtain ⟨q, hqe⟩ : ∃ q, U / r = q := ⟨_, rfl⟩
        rw [hqe] at hunm hq0 hq1 hne
        obtain ⟨⟨c1, c2⟩, ⟨c3, c4⟩⟩ := du_bd hd1 hd2 hq0 hq1
        obtain ⟨b1, b2⟩ : 0 ≤ r * r ∧ r * r ≤ 10000 * 10000 := ⟨Int.mul_nonneg (by omega) (by omega), Int.mul_le_mul hr1 hr1 (by omega) (by omega)⟩
        have hne1 : (r * r - d * q * q != -4) = true := by rw [bne, hne]; rfl
        have hne2 : ¬ r * r - d * q * q = -4 := by simpa using hne
        have Hu := Lib.hid hunm
        clear hunm hr hqe e1 e2 hl hs hmin hne
        have Hp := Lib.hid hp
        clear hp
        go_enter Try.func46, Try.ntmps46
        go_wp2_with fail
        refine (spec_PellFour d T U true _ Hp.out).mono ?_
        rintro e w1 ⟨rfl, hb1⟩
        have hB1 : Below w.heap.size w w1 := Below.after (by go_grown) hb1
        obtain ⟨hc1, hf1⟩ := bcell hb1
        have hy1 := hb1.size
        try simp at hy1
        first | (with_reducible have hx1 := Nat.lt_of_succ_le hy1) | skip
        first | (with_reducible have hv1 := Nat.lt_of_succ_lt hx1) | skip
        first | (with_reducible have hu1 := Nat.lt_of_succ_lt hv1) | skip
        first | (have hz1 : w.heap.size < w1.heap.size := by omega) | (have hz1 := hB1.size)
        clear hb1
        go_wp2_with fail
        refine (Hu.out _).mono ?_
        rintro e w2 ⟨rfl, hb2⟩
        have hB2 : Below w.heap.size w w2 := Below.after (by go_grown) hb2
        obtain ⟨hc2, hf2⟩ := bcell hb2
        have hy2 := hb2.size
        try simp at hy2
        first | (with_reducible have hx2 := Nat.lt_of_succ_le hy2) | skip
        first | (with_reducible have hv2 := Nat.lt_of_succ_lt hx2) | skip
        first | (with_reducible have hu2 := Nat.lt_of_succ_lt hv2) | skip
        first | (have hz2 : w.heap.size < w2.heap.size := by omega) | (have hz2 := hB2.size)
        first | (have hq2 : w1.heap.size ≤ w2.heap.size := by omega) | skip
        first | (have hx1_2 := Nat.lt_of_lt_of_le hx1 hq2) | skip
        first | (have hv1_2 := Nat.lt_of_lt_of_le hv1 hq2) | skip
        first | (have hu1_2 := Nat.lt_of_lt_of_le hu1 hq2) | skip
        clear hb2
        go_wp2_with fail
        have hk1 : w.heap.size < w1.heap.size + 1 := by omega
        refine bodyPost_ret (v := .tuple #[.agg #[.int .i64 0, .int .i64 0], .bool false]) (by simp [results, Try.results46, go_sem, *] <;> rfl) rfl ⟨rfl, by go_grown⟩
      · have hunm : ∀ w, Calls Try.prog 92 #[.agg #[.int .i64 T, .int .i64 U]] w fun e w' => e = .returned (.tuple #[.agg #[.int .i64 0, .int .i64 0], .bool false]) ∧ Below w.heap.size w w' := fun w => spec_unMinus_no T U r w hT3 hT8 hU0 hU hr hc
        have Hu := Lib.hid hunm
        clear hunm hr hc hl hs hmin
        have Hp := Lib.hid hp
        clear hp
        go_enter Try.func46, Try.ntmps46
        go_wp2_with fail
        refine (spec_PellFour d T U true _ Hp.out).mono ?_
        rintro e w1 ⟨rfl, hb1⟩
        have hB1 : Below w.heap.size w w1 := Below.after (by go_grown) hb1
        obtain ⟨hc1, hf1⟩ := bcell hb1
        have hy1 := hb1.size
        try simp at hy1
        first | (with_reducible have hx1 := Nat.lt_of_succ_le hy1) | skip
        first | (with_reducible have hv1 := Nat.lt_of_succ_lt hx1) | skip
        first | (with_reducible have hu1 := Nat.lt_of_succ_lt hv1) | skip
        first | (have hz1 : w.heap.size < w1.heap.size := by omega) | (have hz1 := hB1.size)
        clear hb1
        go_wp2_with fail
        refine (Hu.out _).mono ?_
        rintro e w2 ⟨rfl, hb2⟩
        have hB2 : Below w.heap.size w w2 := Below.after (by go_grown) hb2
        obtain ⟨hc2, hf2⟩ := bcell hb2
        have hy2 := hb2.size
        try simp at hy2
        first | (with_reducible have hx2 := Nat.lt_of_succ_le hy2) | skip
        first | (with_reducible have hv2 := Nat.lt_of_succ_lt hx2) | skip
        first | (with_reducible have hu2 := Nat.lt_of_succ_lt hv2) | skip
        first | (have hz2 : w.heap.size < w2.heap.size := by omega) | (have hz2 := hB2.size)
        first | (have hq2 : w1.heap.size ≤ w2.heap.size := by omega) | skip
        first | (have hx1_2 := Nat.lt_of_lt_of_le hx1 hq2) | skip
        first | (have hv1_2 := Nat.lt_of_lt_of_le hv1 hq2) | skip
        first | (have hu1_2 := Nat.lt_of_lt_of_le hu1 hq2) | skip
        clear hb2
        go_wp2_with fail
        have hk1 : w.heap.size < w1.heap.size + 1 := by omega
        refine bodyPost_ret (v := .tuple #[.agg #[.int .i64 0, .int .i64 0], .bool false]) (by simp [results, Try.results46, go_sem, *] <;> rfl) rfl ⟨rfl, by go_grown⟩
theorem impl_PellMinusFour (d t u : Int) (v : Bool) (w : World) (h : MFOut d t u v) :
    Calls Try.prog 47 #[.int .i64 d] w fun e w' => e = .returned (.tuple #[.agg #[.int .i64 t, .int .i64 u], .bool v]) ∧ Below w.heap.size w w' := by
  obtain ⟨T, U, b, hp, ⟨rfl, rfl, rfl, rfl⟩ | ⟨rfl, hd, hs, hU, hmin, hl⟩⟩ := h
  · obtain ⟨rfl, rfl⟩ := pf_no hp
    have Hp := Lib.hid hp
    clear hp
    go_enter Try.func47, Try.ntmps47
    go_wp2_with fail
    refine (impl_PellFour d 0 0 false _ Hp.out).mono ?_
    rintro e w1 ⟨rfl, hb1⟩
    have hB1 : Below w.heap.size w w1 := Below.after (by go_grown) hb1
    obtain ⟨hc1, hf1⟩ := bcell hb1
    have hy1 := hb1.size
    try simp at hy1
    first | (with_reducible have hx1 := Nat.lt_of_succ_le hy1) | skip
    first | (with_reducible have hv1 := Nat.lt_of_succ_lt hx1) | skip
    first | (with_reducible have hu1 := Nat.lt_of_succ_lt hv1) | skip
    first | (have hz1 : w.heap.size < w1.heap.size := by omega) | (have hz1 := hB1.size)
    clear hb1
    go_wp2_with fail
    refine bodyPost_ret (v := .tuple #[.agg #[.int .i64 0, .int .i64 0], .bool false]) (by simp [results, Try.results47, go_sem, *] <;> rfl) rfl ⟨rfl, by go_grown⟩
  · obtain ⟨hd1, hd2, _⟩ := posD_iff.1 hd
    have hU0 := hs.2.1
    have Hl := Lib.hid hl
    have Hp := Lib.hid hp
    clear hp
    cases v with
    | true =>
      clear hl hs hmin
      go_enter Try.func47, Try.ntmps47
      go_wp2_with fail
      refine (impl_PellFour d T U true _ Hp.out).mono ?_
      rintro e w1 ⟨rfl, hb1⟩
      have hB1 : Below w.heap.size w w1 := Below.after (by go_grown) hb1
      obtain ⟨hc1, hf1⟩ := bcell hb1
      have hy1 := hb1.size
      try simp at hy1
      first | (with_reducible have hx1 := Nat.lt_of_succ_le hy1) | skip
      first | (with_reducible have hv1 := Nat.lt_of_succ_lt hx1) | skip
      first | (with_reducible have hu1 := Nat.lt_of_succ_lt hv1) | skip
      first | (have hz1 : w.heap.size < w1.heap.size := by omega) | (have hz1 := hB1.size)
      clear hb1
      go_wp2_with fail
      refine (impl_leastSolution d (-4) U t u true _ hd1 hd2 (by omega) (by omega) (by omega) (by omega) Hl.out).mono ?_
      rintro e w2 ⟨rfl, hb2⟩
      have hB2 : Below w.heap.size w w2 := Below.after (by go_grown) hb2
      obtain ⟨hc2, hf2⟩ := bcell hb2
      have hy2 := hb2.size
      try simp at hy2
      first | (with_reducible have hx2 := Nat.lt_of_succ_le hy2) | skip
      first | (with_reducible have hv2 := Nat.lt_of_succ_lt hx2) | skip
      first | (with_reducible have hu2 := Nat.lt_of_succ_lt hv2) | skip
      first | (have hz2 : w.heap.size < w2.heap.size := by omega) | (have hz2 := hB2.size)
      first | (have hq2 : w1.heap.size ≤ w2.heap.size := by omega) | skip
      first | (have hx1_2 := Nat.lt_of_lt_of_le hx1 hq2) | skip
      first | (have hv1_2 := Nat.lt_of_lt_of_le hv1 hq2) | skip
      first | (have hu1_2 := Nat.lt_of_lt_of_le hu1 hq2) | skip
      clear hb2
      go_wp2_with fail
      have hk1 : w.heap.size < w1.heap.size + 1 := by omega
      refine bodyPost_ret (v := .tuple #[.agg #[.int .i64 t, .int .i64 u], .bool true]) (by simp [results, Try.results47, go_sem, *] <;> rfl) rfl ⟨rfl, by go_grown⟩
    | false =>
      obtain ⟨rfl, rfl⟩ : t = 0 ∧ u = 0 := by
        rcases hl with ⟨h, _⟩ | ⟨_, a, b, _⟩
        · cases h
        · exact ⟨a, b⟩
      clear hl hs hmin
      go_enter Try.func47, Try.ntmps47
      go_wp2_with fail
      refine (impl_PellFour d T U true _ Hp.out).mono ?_
      rintro e w1 ⟨rfl, hb1⟩
      have hB1 : Below w.heap.size w w1 := Below.after (by go_grown) hb1
      obtain ⟨hc1, hf1⟩ := bcell hb1
      have hy1 := hb1.size
      try simp at hy1
      first | (with_reducible have hx1 := Nat.lt_of_succ_le hy1) | skip
      first | (with_reducible have hv1 := Nat.lt_of_succ_lt hx1) | skip
      first | (with_reducible have hu1 := Nat.lt_of_succ_lt hv1) | skip
      first | (have hz1 : w.heap.size < w1.heap.size := by omega) | (have hz1 := hB1.size)
      clear hb1
      go_wp2_with fail
      refine (impl_leastSolution d (-4) U 0 0 false _ hd1 hd2 (by omega) (by omega) (by omega) (by omega) Hl.out).mono ?_
      rintro e w2 ⟨rfl, hb2⟩
      have hB2 : Below w.heap.size w w2 := Below.after (by go_grown) hb2
      obtain ⟨hc2, hf2⟩ := bcell hb2
      have hy2 := hb2.size
      try simp at hy2
      first | (with_reducible have hx2 := Nat.lt_of_succ_le hy2) | skip
      first | (with_reducible have hv2 := Nat.lt_of_succ_lt hx2) | skip
      first | (with_reducible have hu2 := Nat.lt_of_succ_lt hv2) | skip
      first | (have hz2 : w.heap.size < w2.heap.size := by omega) | (have hz2 := hB2.size)
      first | (have hq2 : w1.heap.size ≤ w2.heap.size := by omega) | skip
      first | (have hx1_2 := Nat.lt_of_lt_of_le hx1 hq2) | skip
      first | (have hv1_2 := Nat.lt_of_lt_of_le hv1 hq2) | skip
      first | (have hu1_2 := Nat.lt_of_lt_of_le hu1 hq2) | skip
      clear hb2
      go_wp2_with fail
      have hk1 : w.heap.size < w1.heap.size + 1 := by omega
      refine bodyPost_ret (v := .tuple #[.agg #[.int .i64 0, .int .i64 0], .bool false]) (by simp [results, Try.results47, go_sem, *] <;> rfl) rfl ⟨rfl, by go_grown⟩
theorem walkMF (d t u : Int) (v : Bool) (w : World) (h : MFOut d t u v) :
    Calls Try.prog 10 #[.int .i64 d] w fun e w' => e = .returned (.bool true) ∧ Below w.heap.size w w' := by
  have H := Lib.hid h
  clear h
  go_enter Try.func10, Try.ntmps10
  go_wp2_with fail
  refine (spec_PellMinusFour d t u v _ H.out).mono ?_
  rintro e w1 ⟨rfl, hb1⟩
  have hB1 : Below w.heap.size w w1 := Below.after (by go_grown) hb1
  obtain ⟨hc1, hf1⟩ := bcell hb1
  have hy1 := hb1.size
  try simp at hy1
  first | (with_reducible have hx1 := Nat.lt_of_succ_le hy1) | skip
  first | (with_reducible have hv1 := Nat.lt_of_succ_lt hx1) | skip
  first | (with_reducible have hu1 := Nat.lt_of_succ_lt hv1) | skip
  first | (have hz1 : w.heap.size < w1.heap.size := by omega) | (have hz1 := hB1.size)
  clear hb1
  go_wp2_with fail
  refine (impl_PellMinusFour d t u v _ H.out).mono ?_
  rintro e w2 ⟨rfl, hb2⟩
  have hB2 : Below w.heap.size w w2 := Below.after (by go_grown) hb2
  obtain ⟨hc2, hf2⟩ := bcell hb2
  have hy2 := hb2.size
  try simp at hy2
  first | (with_reducible have hx2 := Nat.lt_of_succ_le hy2) | skip
  first | (with_reducible have hv2 := Nat.lt_of_succ_lt hx2) | skip
  first | (with_reducible have hu2 := Nat.lt_of_succ_lt hv2) | skip
  first | (have hz2 : w.heap.size < w2.heap.size := by omega) | (have hz2 := hB2.size)
  first | (have hq2 : w1.heap.size ≤ w2.heap.size := by omega) | skip
  first | (have hx1_2 := Nat.lt_of_lt_of_le hx1 hq2) | skip
  first | (have hv1_2 := Nat.lt_of_lt_of_le hv1 hq2) | skip
  first | (have hu1_2 := Nat.lt_of_lt_of_le hu1 hq2) | skip
  clear hb2
  go_wp2_with fail
  refine (laws_eqSolution t u _).mono ?_
  rintro e w3 ⟨rfl, hb3⟩
  have hB3 : Below w.heap.size w w3 := Below.after (by go_grown) hb3
  obtain ⟨hc3, hf3⟩ := bcell hb3
  have hy3 := hb3.size
  try simp at hy3
  first | (with_reducible have hx3 := Nat.lt_of_succ_le hy3) | skip
  first | (with_reducible have hv3 := Nat.lt_of_succ_lt hx3) | skip
  first | (with_reducible have hu3 := Nat.lt_of_succ_lt hv3) | skip
  first | (have hz3 : w.heap.size < w3.heap.size := by omega) | (have hz3 := hB3.size)
  first | (have hq3 : w2.heap.size ≤ w3.heap.size := by omega) | skip
  first | (have hx1_3 := Nat.lt_of_lt_of_le hx1_2 hq3) | skip
  first | (have hv1_3 := Nat.lt_of_lt_of_le hv1_2 hq3) | skip
  first | (have hu1_3 := Nat.lt_of_lt_of_le hu1_2 hq3) | skip
  first | (have hx2_3 := Nat.lt_of_lt_of_le hx2 hq3) | skip
  first | (have hv2_3 := Nat.lt_of_lt_of_le hv2 hq3) | skip
  first | (have hu2_3 := Nat.lt_of_lt_of_le hu2 hq3) | skip
  clear hb3
  go_wp2_with fail
  all_goals (try go_ret)
  all_goals exact ⟨rfl, by go_grown⟩
theorem walkPellMinusFour (d : Int) (w : World) (wd : (Lit.int .i64 d).wf = true) :
    Calls Try.prog 10 #[.int .i64 d] w fun e w' => e = .returned (.bool true) ∧ Below w.heap.size w w' := by
  obtain ⟨t, u, v, h⟩ := mfOut_ex d
  exact walkMF d t u v w h
/-- what UnitNorm hands back -/
def UNOut (d n : Int) (v : Bool) : Prop := ∃ t u, PFOut d t u v ∧ ((v = false ∧ n = 0) ∨ (v = true ∧ ∃ t' u' v', MFOut d t' u' v' ∧ n = if v' = true then -1 else 1))
theorem unOut_ex (d : Int) : ∃ n v, UNOut d n v := by
  obtain ⟨t, u, v, h⟩ := pfOut_ex d
  obtain ⟨t', u', v', h'⟩ := mfOut_ex d
  cases v with
  | false => exact ⟨0, false, t, u, h, .inl ⟨rfl, rfl⟩⟩
  | true => exact ⟨_, true, t, u, h, .inr ⟨rfl, t', u', v', h', rfl⟩⟩
theorem spec_UnitNorm (d n : Int) (v : Bool) (w : World) (h : UNOut d n v) :
    Calls Try.prog 33 #[.int .i64 d] w fun e w' => e = .returned (.tuple #[.int .i64 n, .bool v]) ∧ Below w.heap.size w w' := by
  obtain ⟨t, u, hp, ⟨rfl, rfl⟩ | ⟨rfl, t', u', v', hm, rfl⟩⟩ := h
  · have Hp := Lib.hid hp
    clear hp
    go_enter Try.func33, Try.ntmps33
    go_wp2_with fail
    refine (spec_PellFour d t u false _ Hp.out).mono ?_
    rintro e w1 ⟨rfl, hb1⟩
    have hB1 : Below w.heap.size w w1 := Below.after (by go_grown) hb1
    obtain ⟨hc1, hf1⟩ := bcell hb1
    have hy1 := hb1.size
    try simp at hy1
    first | (with_reducible have hx1 := Nat.lt_of_succ_le hy1) | skip
    first | (with_reducible have hv1 := Nat.lt_of_succ_lt hx1) | skip
    first | (with_reducible have hu1 := Nat.lt_of_succ_lt hv1) | skip
    first | (have hz1 : w.heap.size < w1.heap.size := by omega) | (have hz1 := hB1.size)
    clear hb1
    go_wp2_with fail
    go_ret2
    exact ⟨rfl, by go_grown⟩
  · have Hp := Lib.hid hp
    clear hp
    have Hm := Lib.hid hm
    clear hm
    cases v' with
    | true =>
      rw [if_pos rfl]
      go_enter Try.func33, Try.ntmps33
      go_wp2_with fail
      refine (spec_PellFour d t u true _ Hp.out).mono ?_
      rintro e w1 ⟨rfl, hb1⟩
      have hB1 : Below w.heap.size w w1 := Below.after (by go_grown) hb1
      obtain ⟨hc1, hf1⟩ := bcell hb1
      have hy1 := hb1.size
      try simp at hy1
      first | (with_reducible have hx1 := Nat.lt_of_succ_le hy1) | skip
      first | (with_reducible have hv1 := Nat.lt_of_succ_lt hx1) | skip
      first | (with_reducible have hu1 := Nat.lt_of_succ_lt hv1) | skip
      first | (have hz1 : w.heap.size < w1.heap.size := by omega) | (have hz1 := hB1.size)
      clear hb1
      go_wp2_with fail
      refine (spec_PellMinusFour d t' u' true _ Hm.out).mono ?_
      rintro e w2 ⟨rfl, hb2⟩
      have hB2 : Below w.heap.size w w2 := Below.after (by go_grown) hb2
      obtain ⟨hc2, hf2⟩ := bcell hb2
      have hy2 := hb2.size
      try simp at hy2
      first | (with_reducible have hx2 := Nat.lt_of_succ_le hy2) | skip
      first | (with_reducible have hv2 := Nat.lt_of_succ_lt hx2) | skip
      first | (with_reducible have hu2 := Nat.lt_of_succ_lt hv2) | skip
      first | (have hz2 : w.heap.size < w2.heap.size := by omega) | (have hz2 := hB2.size)
      first | (have hq2 : w1.heap.size ≤ w2.heap.size := by omega) | skip
      first | (have hx1_2 := Nat.lt_of_lt_of_le hx1 hq2) | skip
      first | (have hv1_2 := Nat.lt_of_lt_of_le hv1 hq2) | skip
      first | (have hu1_2 := Nat.lt_of_lt_of_le hu1 hq2) | skip
      clear hb2
      go_wp2_with fail
      go_ret2
      exact ⟨rfl, by go_grown⟩
    | false =>
      rw [if_neg (by decide)]
      go_enter Try.func33, Try.ntmps33
      go_wp2_with fail
      refine (spec_PellFour d t u true _ Hp.out).mono ?_
      rintro e w1 ⟨rfl, hb1⟩
      have hB1 : Below w.heap.size w w1 := Below.after (by go_grown) hb1
      obtain ⟨hc1, hf1⟩ := bcell hb1
      have hy1 := hb1.size
      try simp at hy1
      first | (with_reducible have hx1 := Nat.lt_of_succ_le hy1) | skip
      first | (with_reducible have hv1 := Nat.lt_of_succ_lt hx1) | skip
      first | (with_reducible have hu1 := Nat.lt_of_succ_lt hv1) | skip
      first | (have hz1 : w.heap.size < w1.heap.size := by omega) | (have hz1 := hB1.size)
      clear hb1
      go_wp2_with fail
      refine (spec_PellMinusFour d t' u' false _ Hm.out).mono ?_
      rintro e w2 ⟨rfl, hb2⟩
      have hB2 : Below w.heap.size w w2 := Below.after (by go_grown) hb2
      obtain ⟨hc2, hf2⟩ := bcell hb2
      have hy2 := hb2.size
      try simp at hy2
      first | (with_reducible have hx2 := Nat.lt_of_succ_le hy2) | skip
      first | (with_reducible have hv2 := Nat.lt_of_succ_lt hx2) | skip
      first | (with_reducible have hu2 := Nat.lt_of_succ_lt hv2) | skip
      first | (have hz2 : w.heap.size < w2.heap.size := by omega) | (have hz2 := hB2.size)
      first | (have hq2 : w1.heap.size ≤ w2.heap.size := by omega) | skip
      first | (have hx1_2 := Nat.lt_of_lt_of_le hx1 hq2) | skip
      first | (have hv1_2 := Nat.lt_of_lt_of_le hv1 hq2) | skip
      first | (have hu1_2 := Nat.lt_of_lt_of_le hu1 hq2) | skip
      clear hb2
      go_wp2_with fail
      go_ret2
      exact ⟨rfl, by go_grown⟩
theorem impl_UnitNorm (d n : Int) (v : Bool) (w : World) (h : UNOut d n v) :
    Calls Try.prog 32 #[.int .i64 d] w fun e w' => e = .returned (.tuple #[.int .i64 n, .bool v]) ∧ Below w.heap.size w w' := by
  obtain ⟨t, u, hp, ⟨rfl, rfl⟩ | ⟨rfl, t', u', v', hm, rfl⟩⟩ := h
  · have Hp := Lib.hid hp
    clear hp
    go_enter Try.func32, Try.ntmps32
    go_wp2_with fail
    refine (impl_PellFour d t u false _ Hp.out).mono ?_
    rintro e w1 ⟨rfl, hb1⟩
    have hB1 : Below w.heap.size w w1 := Below.after (by go_grown) hb1
    obtain ⟨hc1, hf1⟩ := bcell hb1
    have hy1 := hb1.size
    try simp at hy1
    first | (with_reducible have hx1 := Nat.lt_of_succ_le hy1) | skip
    first | (with_reducible have hv1 := Nat.lt_of_succ_lt hx1) | skip
    first | (with_reducible have hu1 := Nat.lt_of_succ_lt hv1) | skip
    first | (have hz1 : w.heap.size < w1.heap.size := by omega) | (have hz1 := hB1.size)
    clear hb1
    go_wp2_with fail
    go_ret2
    exact ⟨rfl, by go_grown⟩
  · have Hp := Lib.hid hp
    clear hp
    have Hm := Lib.hid hm
    clear hm
    cases v' with
    | true =>
      rw [if_pos rfl]
      go_enter Try.func32, Try.ntmps32
      go_wp2_with fail
      refine (impl_PellFour d t u true _ Hp.out).mono ?_
      rintro e w1 ⟨rfl, hb1⟩
      have hB1 : Below w.heap.size w w1 := Below.after (by go_grown) hb1
      obtain ⟨hc1, hf1⟩ := bcell hb1
      have hy1 := hb1.size
      try simp at hy1
      first | (with_reducible have hx1 := Nat.lt_of_succ_le hy1) | skip
      first | (with_reducible have hv1 := Nat.lt_of_succ_lt hx1) | skip
      first | (with_reducible have hu1 := Nat.lt_of_succ_lt hv1) | skip
      first | (have hz1 : w.heap.size < w1.heap.size := by omega) | (have hz1 := hB1.size)
      clear hb1
      go_wp2_with fail
      refine (impl_PellMinusFour d t' u' true _ Hm.out).mono ?_
      rintro e w2 ⟨rfl, hb2⟩
      have hB2 : Below w.heap.size w w2 := Below.after (by go_grown) hb2
      obtain ⟨hc2, hf2⟩ := bcell hb2
      have hy2 := hb2.size
      try simp at hy2
      first | (with_reducible have hx2 := Nat.lt_of_succ_le hy2) | skip
      first | (with_reducible have hv2 := Nat.lt_of_succ_lt hx2) | skip
      first | (with_reducible have hu2 := Nat.lt_of_succ_lt hv2) | skip
      first | (have hz2 : w.heap.size < w2.heap.size := by omega) | (have hz2 := hB2.size)
      first | (have hq2 : w1.heap.size ≤ w2.heap.size := by omega) | skip
      first | (have hx1_2 := Nat.lt_of_lt_of_le hx1 hq2) | skip
      first | (have hv1_2 := Nat.lt_of_lt_of_le hv1 hq2) | skip
      first | (have hu1_2 := Nat.lt_of_lt_of_le hu1 hq2) | skip
      clear hb2
      go_wp2_with fail
      go_ret2
      exact ⟨rfl, by go_grown⟩
    | false =>
      rw [if_neg (by decide)]
      go_enter Try.func32, Try.ntmps32
      go_wp2_with fail
      refine (impl_PellFour d t u true _ Hp.out).mono ?_
      rintro e w1 ⟨rfl, hb1⟩
      have hB1 : Below w.heap.size w w1 := Below.after (by go_grown) hb1
      obtain ⟨hc1, hf1⟩ := bcell hb1
      have hy1 := hb1.size
      try simp at hy1
      first | (with_reducible have hx1 := Nat.lt_of_succ_le hy1) | skip
      first | (with_reducible have hv1 := Nat.lt_of_succ_lt hx1) | skip
      first | (with_reducible have hu1 := Nat.lt_of_succ_lt hv1) | skip
      first | (have hz1 : w.heap.size < w1.heap.size := by omega) | (have hz1 := hB1.size)
      clear hb1
      go_wp2_with fail
      refine (impl_PellMinusFour d t' u' false _ Hm.out).mono ?_
      rintro e w2 ⟨rfl, hb2⟩
      have hB2 : Below w.heap.size w w2 := Below.after (by go_grown) hb2
      obtain ⟨hc2, hf2⟩ := bcell hb2
      have hy2 := hb2.size
      try simp at hy2
      first | (with_reducible have hx2 := Nat.lt_of_succ_le hy2) | skip
      first | (with_reducible have hv2 := Nat.lt_of_succ_lt hx2) | skip
      first | (with_reducible have hu2 := Nat.lt_of_succ_lt hv2) | skip
      first | (have hz2 : w.heap.size < w2.heap.size := by omega) | (have hz2 := hB2.size)
      first | (have hq2 : w1.heap.size ≤ w2.heap.size := by omega) | skip
      first | (have hx1_2 := Nat.lt_of_lt_of_le hx1 hq2) | skip
      first | (have hv1_2 := Nat.lt_of_lt_of_le hv1 hq2) | skip
      first | (have hu1_2 := Nat.lt_of_lt_of_le hu1 hq2) | skip
      clear hb2
      go_wp2_with fail
      go_ret2
      exact ⟨rfl, by go_grown⟩
theorem walkUN (d n : Int) (v : Bool) (w : World) (h : UNOut d n v) :
    Calls Try.prog 11 #[.int .i64 d] w fun e w' => e = .returned (.bool true) ∧ Below w.heap.size w w' := by
  have H := Lib.hid h
  clear h
  go_enter Try.func11, Try.ntmps11
  go_wp2_with fail
  refine (spec_UnitNorm d n v _ H.out).mono ?_
  rintro e w1 ⟨rfl, hb1⟩
  have hB1 : Below w.heap.size w w1 := Below.after (by go_grown) hb1
  obtain ⟨hc1, hf1⟩ := bcell hb1
  have hy1 := hb1.size
  try simp at hy1
  first | (with_reducible have hx1 := Nat.lt_of_succ_le hy1) | skip
  first | (with_reducible have hv1 := Nat.lt_of_succ_lt hx1) | skip
  first | (with_reducible have hu1 := Nat.lt_of_succ_lt hv1) | skip
  first | (have hz1 : w.heap.size < w1.heap.size := by omega) | (have hz1 := hB1.size)
  clear hb1
  go_wp2_with fail
  refine (impl_UnitNorm d n v _ H.out).mono ?_
  rintro e w2 ⟨rfl, hb2⟩
  have hB2 : Below w.heap.size w w2 := Below.after (by go_grown) hb2
  obtain ⟨hc2, hf2⟩ := bcell hb2
  have hy2 := hb2.size
  try simp at hy2
  first | (with_reducible have hx2 := Nat.lt_of_succ_le hy2) | skip
  first | (with_reducible have hv2 := Nat.lt_of_succ_lt hx2) | skip
  first | (with_reducible have hu2 := Nat.lt_of_succ_lt hv2) | skip
  first | (have hz2 : w.heap.size < w2.heap.size := by omega) | (have hz2 := hB2.size)
  first | (have hq2 : w1.heap.size ≤ w2.heap.size := by omega) | skip
  first | (have hx1_2 := Nat.lt_of_lt_of_le hx1 hq2) | skip
  first | (have hv1_2 := Nat.lt_of_lt_of_le hv1 hq2) | skip
  first | (have hu1_2 := Nat.lt_of_lt_of_le hu1 hq2) | skip
  clear hb2
  go_wp2_with fail
  all_goals (try go_ret)
  all_goals exact ⟨rfl, by go_grown⟩
theorem walkUnitNorm (d : Int) (w : World) (wd : (Lit.int .i64 d).wf = true) :
    Calls Try.prog 11 #[.int .i64 d] w fun e w' => e = .returned (.bool true) ∧ Below w.heap.size w w' := by
  obtain ⟨n, v, h⟩ := unOut_ex d
  exact walkUN d n v w h
end Go.Proofs.Ytdonpiihjoihcaa
