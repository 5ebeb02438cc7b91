/- The steps of a symbol: plain, and the contracts of a step in both programs. -/
import Derived.Test.YtiblpagbloflhaaSL
import Derived.Test.YtiblpagbloflhaaSY
namespace Go.Proofs.Ytiblpagbloflhaa
set_option linter.unusedVariables false
open Go.ChangeShapes Go.WideShapes Go.ChangeAt Go.RowKit

def endB (s : St) : Bool := decide (s.a = 0) || decide (s.a = 1)
def nxS (s : St) : St := if 0 ≤ s.a ∧ s.a < s.b then (if s.a % 2 = 0 then ⟨s.a / 2, s.b, s.c * two8s s.b⟩ else ⟨s.b, s.a, flip s.a s.b * s.c⟩) else ⟨s.a % s.b, s.b, s.c⟩
structure OkS (A N : Int) (s : St) : Prop where
  b1 : 1 ≤ s.b
  b2 : s.b ≤ N
  bo : s.b % 2 = 1
  c1 : s.c = 1 ∨ s.c = -1
  a1 : -1000000 ≤ s.a
  a2 : s.a ≤ 1000000
  j : s.c * J s.a s.b = J A N
theorem okS_start {A N : Int} (hA : good A = true) (hN : oddM N = true) : OkS A N ⟨A, N, 1⟩ := by
  obtain ⟨h1, h2⟩ := good_iff.1 hA
  obtain ⟨_, h3, h4⟩ := oddM_iff.1 hN
  exact ⟨h3, Int.le_refl _, h4, .inl rfl, h1, h2, Int.one_mul _⟩
theorem two8s_pm {b : Int} (h : b % 2 = 1) : two8s b = 1 ∨ two8s b = -1 := by rw [two8_odd h]; exact two8_pm b
theorem okS_next {A N : Int} {s : St} (h : OkS A N s) (hN : N ≤ 1000000) (he : endB s = false) : OkS A N (nxS s) ∧ Jm (nxS s).a (nxS s).b < Jm s.a s.b := by
  obtain ⟨b1, b2, bo, c1, a1, a2, j⟩ := h
  have h0 : ¬ (s.a = 0 ∨ s.a = 1) := by unfold endB at he; simpa using he
  unfold nxS
  by_cases hr : 0 ≤ s.a ∧ s.a < s.b
  · rw [if_pos hr]
    by_cases h2 : s.a % 2 = 0
    · rw [if_pos h2]
      refine ⟨⟨b1, b2, bo, ?_, by show -1000000 ≤ s.a / 2; omega, by show s.a / 2 ≤ 1000000; omega, ?_⟩, Jm_half hr (fun e => h0 (.inl e))⟩
      · show s.c * two8s s.b = 1 ∨ s.c * two8s s.b = -1
        rcases c1 with e | e <;> rcases two8s_pm bo with f | f <;> rw [e, f] <;> simp
      · show s.c * two8s s.b * J (s.a / 2) s.b = J A N
        rw [← j, J_half (by omega) h0 hr h2, Int.mul_assoc]
    · rw [if_neg h2]
      refine ⟨⟨by show 1 ≤ s.a; omega, by show s.a ≤ N; omega, by show s.a % 2 = 1; omega, ?_, by show -1000000 ≤ s.b; omega, by show s.b ≤ 1000000; omega, ?_⟩, Jm_swap hr⟩
      · show flip s.a s.b * s.c = 1 ∨ flip s.a s.b * s.c = -1
        rcases c1 with e | e <;> rcases flip_pm s.a s.b with f | f <;> rw [e, f] <;> simp
      · show flip s.a s.b * s.c * J s.b s.a = J A N
        rw [← j, J_swap (by omega) h0 hr h2, Int.mul_comm (flip s.a s.b), Int.mul_assoc]
  · rw [if_neg hr]
    have k1 := Int.emod_nonneg s.a (show s.b ≠ 0 by omega)
    have k2 := Int.emod_lt_of_pos s.a (show 0 < s.b by omega)
    refine ⟨⟨b1, b2, bo, c1, by show -1000000 ≤ s.a % s.b; omega, by show s.a % s.b ≤ 1000000; omega, ?_⟩, Jm_mod (by omega) hr⟩
    show s.c * J (s.a % s.b) s.b = J A N
    rw [← j, ← J_mod (by omega)]
def itS : Nat → St → St
  | 0, s => s
  | k + 1, s => nxS (itS k s)
/-- the number of steps to the end -/
def StopS (s : St) (K : Nat) : Prop := endB (itS K s) = true ∧ ∀ i, i < K → endB (itS i s) = false
theorem itS_shift (s : St) : ∀ k, itS k (nxS s) = itS (k + 1) s
  | 0 => rfl
  | k + 1 => by show nxS (itS k (nxS s)) = nxS (itS (k + 1) s); rw [itS_shift s k]
theorem stop_ex {A N : Int} (hN : N ≤ 1000000) : ∀ (m : Nat) (s : St), OkS A N s → Jm s.a s.b ≤ m → ∃ K, K ≤ m ∧ StopS s K
  | 0, s, h, hm => by
    cases he : endB s with
    | true => exact ⟨0, by omega, he, fun i hi => by omega⟩
    | false => have := (okS_next h hN he).2; omega
  | m + 1, s, h, hm => by
    cases he : endB s with
    | true => exact ⟨0, by omega, he, fun i hi => by omega⟩
    | false =>
      obtain ⟨h1, h2⟩ := okS_next h hN he
      obtain ⟨K, k1, k2, k3⟩ := stop_ex hN m (nxS s) h1 (by omega)
      refine ⟨K + 1, by omega, ?_, fun i hi => ?_⟩
      · rw [← itS_shift]; exact k2
      · cases i with
        | zero => exact he
        | succ i => rw [← itS_shift]; exact k3 i (by omega)
theorem okS_it {A N : Int} {s : St} {K : Nat} (h : OkS A N s) (hN : N ≤ 1000000) (hK : StopS s K) : ∀ k, k ≤ K → OkS A N (itS k s)
  | 0, _ => h
  | k + 1, hk => (okS_next (okS_it h hN hK k (by omega)) hN (hK.2 k (by omega))).1
theorem stop_uniq {s : St} {K K' : Nat} (h : StopS s K) (h' : StopS s K') : K = K' := by
  rcases Nat.lt_trichotomy K K' with c | c | c
  · have := h'.2 K c; rw [h.1] at this; cases this
  · exact c
  · have := h.2 K' c; rw [h'.1] at this; cases this
theorem Jm_le {t b : Int} (h1 : 1 ≤ b) (h2 : b ≤ 1000000) : Jm t b ≤ 2000000 := by
  unfold Jm
  split <;> omega
def itSL (s : St) (k : Nat) : List St := (List.range k).map fun i => itS i s
theorem itSL_succ (s : St) (k : Nat) : itSL s (k + 1) = itSL s k ++ [itS k s] := by simp [itSL, List.range_succ]
theorem itSL_len (s : St) (k : Nat) : (itSL s k).length = k := by simp [itSL]
theorem itSL_get (s : St) (k i : Nat) (h : i < (itSL s k).length) : (itSL s k)[i] = itS i s := by simp [itSL]
/-- the value at the end -/
def valS (s : St) : Int := if s.a = 0 ∧ 1 < s.b then 0 else s.c
theorem val_end {A N : Int} {s : St} (h : OkS A N s) (he : endB s = true) : valS s = J A N := by
  have h0 : s.a = 0 ∨ s.a = 1 := by unfold endB at he; simpa using he
  rw [← h.j, J_end (by have := h.b1; omega) h0]
  unfold valS
  split <;> simp
theorem impl_symbolOfTwo_s (n : Int) (w : World) (h : n % 2 = 1) :
    Calls Try.prog 166 #[.int .i64 n] w fun e w' => e = .returned (.int .i64 (two8s n)) ∧ w = w' := by
  rw [two8_odd h]
  exact impl_symbolOfTwo n w
theorem impl_ends (t b s : Int) (v : Bool) (w : World) (hv : (decide (t = 0) || decide (t = 1)) = v) :
    Calls Try.prog 110 #[.agg #[.int .i64 t, .int .i64 b, .int .i64 s]] w fun e w' => e = .returned (.bool v) ∧ Below w.heap.size w w' := by
  have Hv := Lib.hid hv
  clear hv
  by_cases h0 : t = 0
  · have b0 := beqT h0
    have Hr := Lib.hid h0
    clear h0
    go_enter Try.func110, Try.ntmps110
    go_wp2_with fail
    go_ret
    exact ⟨rbool (by rw [← Hv.out]; simp [Hr.out]), by go_grown⟩
  · have b0 := beqF h0
    have Hr := Lib.hid h0
    clear h0
    go_enter Try.func110, Try.ntmps110
    go_wp2_with fail
    go_ret
    exact ⟨rbool (by rw [← Hv.out, Bool.eq_iff_iff]; simp [Hr.out]), by go_grown⟩
theorem impl_next_out (t b s : Int) (w : World) (hb : 0 < b) (hb2 : b ≤ 4000000000000000000) (hr : ¬ (0 ≤ t ∧ t < b)) :
    Calls Try.prog 111 #[.agg #[.int .i64 t, .int .i64 b, .int .i64 s]] w fun e w' => e = .returned (.agg #[.int .i64 (t % b), .int .i64 b, .int .i64 s]) ∧ Below w.heap.size w w' := by
  by_cases h0 : t < 0
  · clear hr
    go_enter Try.func111, Try.ntmps111
    go_wp2_with fail
    refine (impl_mod t b _ hb hb2).mono ?_
    rintro e w' ⟨rfl, rfl⟩
    go_wp2_with fail
    go_returns
    exact ⟨rfl, by go_grown⟩
  · have h1 : b ≤ t := by omega
    clear hr
    go_enter Try.func111, Try.ntmps111
    go_wp2_with fail
    refine (impl_mod t b _ hb hb2).mono ?_
    rintro e w' ⟨rfl, rfl⟩
    go_wp2_with fail
    go_returns
    exact ⟨rfl, by go_grown⟩
set_option maxRecDepth 100000 in
theorem impl_next_half (t b s : Int) (w : World) (hb : 0 < b) (hb2 : b ≤ 4000000000000000000) (hbo : b % 2 = 1) (hr : 0 ≤ t ∧ t < b) (he : t % 2 = 0) (hs : -1 ≤ s ∧ s ≤ 1) :
    Calls Try.prog 111 #[.agg #[.int .i64 t, .int .i64 b, .int .i64 s]] w fun e w' => e = .returned (.agg #[.int .i64 (t / 2), .int .i64 b, .int .i64 (s * two8s b)]) ∧ Below w.heap.size w w' := by
  have be := beqT he
  have Hbo := Lib.hid hbo
  obtain ⟨r1, r2⟩ := hr
  obtain ⟨s1, s2⟩ := hs
  obtain ⟨t1, t2⟩ := two8s_bd b
  obtain ⟨m1, m2⟩ := mulb (A := 1) (B := 1) s1 s2 t1 t2
  clear he hbo
  go_enter Try.func111, Try.ntmps111
  go_wp2_with fail
  have Hb2 := Lib.hid hb2
  have Hb := Lib.hid hb
  have e1 : IntKind.i64.wrap (s * two8s b) = s * two8s b := IntWalk.i64_in _ (by omega)
  clear hb2 r1 r2 hb m1 m2 s1 s2 t1 t2
  go_wp2_with fail
  refine region_tail 7 (by kernel_rfl) (by kernel_rfl) ?_
  simp only [List.take_succ_cons, List.take_zero, List.drop_succ_cons, List.drop_zero]
  iterate 4 still_step
  refine wpStill_step (fun K hK => ?_)
  go_simp
  refine ⟨_, same (impl_symbolOfTwo_s b _ Hbo.out), hK _ ?_⟩
  iterate 2 still_step
  refine wpStill_nil ?_
  go_wp2_with fail
  go_returns
  exact ⟨rfl, by go_grown⟩
theorem impl_next_swap (t b s : Int) (w : World) (hb : 0 < b) (hb2 : b ≤ 4000000000000000000) (hr : 0 ≤ t ∧ t < b) (he : t % 2 = 1) (hs : -1 ≤ s ∧ s ≤ 1) :
    Calls Try.prog 111 #[.agg #[.int .i64 t, .int .i64 b, .int .i64 s]] w fun e w' => e = .returned (.agg #[.int .i64 b, .int .i64 t, .int .i64 (flip t b * s)]) ∧ Below w.heap.size w w' := by
  have be : (t % 2 == 0) = false := beqF (by omega)
  obtain ⟨r1, r2⟩ := hr
  obtain ⟨s1, s2⟩ := hs
  clear he
  by_cases hf1 : t % 4 = 3
  · have bf1 := beqT hf1
    by_cases hf2 : b % 4 = 3
    · have Hf := Lib.hid (show flip t b * s = -s by unfold flip; rw [if_pos ⟨hf1, hf2⟩]; omega)
      have bf2 := beqT hf2
      clear hf1 hf2
      go_enter Try.func111, Try.ntmps111
      go_wp2_with fail
      go_returns
      exact ⟨by rw [Hf.out], by go_grown⟩
    · have Hf := Lib.hid (show flip t b * s = s by unfold flip; rw [if_neg (by simp [hf2])]; omega)
      have bf2 := beqF hf2
      clear hf1 hf2
      go_enter Try.func111, Try.ntmps111
      go_wp2_with fail
      go_returns
      exact ⟨by rw [Hf.out], by go_grown⟩
  · have Hf := Lib.hid (show flip t b * s = s by unfold flip; rw [if_neg (by simp [hf1])]; omega)
    have bf1 := beqF hf1
    clear hf1
    go_enter Try.func111, Try.ntmps111
    go_wp2_with fail
    go_returns
    exact ⟨by rw [Hf.out], by go_grown⟩
theorem spec_succ {A N : Int} (t b s t' b' s' : Int) (w : World) (h : OkS A N ⟨t, b, s⟩) (hN : N ≤ 1000000) (hn : nxS ⟨t, b, s⟩ = ⟨t', b', s'⟩) :
    Calls Try.prog 114 #[.agg #[.int .i64 t, .int .i64 b, .int .i64 s]] w fun e w' => e = .returned (.agg #[.int .i64 t', .int .i64 b', .int .i64 s']) ∧ Below w.heap.size w w' := by
  have b1 : 1 ≤ b := h.b1
  have b2 : b ≤ N := h.b2
  have bo : b % 2 = 1 := h.bo
  have c1 : s = 1 ∨ s = -1 := h.c1
  unfold nxS at hn
  by_cases hr : 0 ≤ t ∧ t < b
  · rw [if_pos (show 0 ≤ (⟨t, b, s⟩ : St).a ∧ (⟨t, b, s⟩ : St).a < (⟨t, b, s⟩ : St).b from hr)] at hn
    by_cases h2 : t % 2 = 0
    · rw [if_pos (show (⟨t, b, s⟩ : St).a % 2 = 0 from h2)] at hn
      simp only [St.mk.injEq] at hn
      obtain ⟨rfl, rfl, rfl⟩ := hn
      exact spec_syStep_half t b s w (by omega) (by omega) hr h2 (by omega)
    · rw [if_neg (show ¬ (⟨t, b, s⟩ : St).a % 2 = 0 from h2)] at hn
      simp only [St.mk.injEq] at hn
      obtain ⟨rfl, rfl, rfl⟩ := hn
      exact spec_syStep_swap t b s w (by omega) (by omega) hr (by omega) (by omega)
  · rw [if_neg (show ¬ (0 ≤ (⟨t, b, s⟩ : St).a ∧ (⟨t, b, s⟩ : St).a < (⟨t, b, s⟩ : St).b) from hr)] at hn
    simp only [St.mk.injEq] at hn
    obtain ⟨rfl, rfl, rfl⟩ := hn
    exact spec_syStep_out t b s w (by omega) (by omega) hr
theorem impl_next {A N : Int} (t b s t' b' s' : Int) (w : World) (h : OkS A N ⟨t, b, s⟩) (hN : N ≤ 1000000) (hn : nxS ⟨t, b, s⟩ = ⟨t', b', s'⟩) :
    Calls Try.prog 111 #[.agg #[.int .i64 t, .int .i64 b, .int .i64 s]] w fun e w' => e = .returned (.agg #[.int .i64 t', .int .i64 b', .int .i64 s']) ∧ Below w.heap.size w w' := by
  have b1 : 1 ≤ b := h.b1
  have b2 : b ≤ N := h.b2
  have bo : b % 2 = 1 := h.bo
  have c1 : s = 1 ∨ s = -1 := h.c1
  unfold nxS at hn
  by_cases hr : 0 ≤ t ∧ t < b
  · rw [if_pos (show 0 ≤ (⟨t, b, s⟩ : St).a ∧ (⟨t, b, s⟩ : St).a < (⟨t, b, s⟩ : St).b from hr)] at hn
    by_cases h2 : t % 2 = 0
    · rw [if_pos (show (⟨t, b, s⟩ : St).a % 2 = 0 from h2)] at hn
      simp only [St.mk.injEq] at hn
      obtain ⟨rfl, rfl, rfl⟩ := hn
      exact impl_next_half t b s w (by omega) (by omega) bo hr h2 (by omega)
    · rw [if_neg (show ¬ (⟨t, b, s⟩ : St).a % 2 = 0 from h2)] at hn
      simp only [St.mk.injEq] at hn
      obtain ⟨rfl, rfl, rfl⟩ := hn
      exact impl_next_swap t b s w (by omega) (by omega) hr (by omega) (by omega)
  · rw [if_neg (show ¬ (0 ≤ (⟨t, b, s⟩ : St).a ∧ (⟨t, b, s⟩ : St).a < (⟨t, b, s⟩ : St).b) from hr)] at hn
    simp only [St.mk.injEq] at hn
    obtain ⟨rfl, rfl, rfl⟩ := hn
    exact impl_next_out t b s w (by omega) (by omega) hr
end Go.Proofs.Ytiblpagbloflhaa
