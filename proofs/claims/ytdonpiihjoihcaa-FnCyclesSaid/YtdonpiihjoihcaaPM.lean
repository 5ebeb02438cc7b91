/- Plain: the least solution of t t - d u u = -4. -/
import Derived.Test.YtdonpiihjoihcaaPG
namespace Go.Proofs.Ytdonpiihjoihcaa
set_option linter.unusedVariables false

def Neg (d t u : Int) : Prop := 0 < t ∧ 0 < u ∧ t * t - d * u * u = -4
/-- the square of a solution with -4 -/
theorem neg_sq {d t u : Int} (h : Neg d t u) : Sol d (t * t + 2) (t * u) := by
  obtain ⟨h1, h2, h3⟩ := h
  refine ⟨by have := Int.mul_pos h1 h1; omega, Int.mul_pos h1 h2, by grind⟩
theorem neg_least {d : Int} : ∀ (n : Nat) (T U : Int), U.toNat ≤ n → Neg d T U → ∃ t u, Neg d t u ∧ u ≤ U ∧ ∀ t' u', Neg d t' u' → u ≤ u' := by
  intro n
  induction n with
  | zero => intro T U hn h; have := h.2.1; omega
  | succ n ih =>
    intro T U hn h
    by_cases hx : ∃ t' u', Neg d t' u' ∧ u' < U
    · obtain ⟨t', u', h1, h2⟩ := hx
      obtain ⟨t, u, a, b, c⟩ := ih t' u' (by have := h1.2.1; omega) h1
      exact ⟨t, u, a, by omega, c⟩
    · exact ⟨T, U, h, by omega, fun t' u' h' => Int.not_lt.1 fun hc => hx ⟨t', u', h', hc⟩⟩
/-- the least solution with 4 is the square of the least solution with -4 -/
theorem neg_root {d T U t u : Int} (hd : 5 ≤ d) (h : Sol d T U) (hmin : ∀ t' u', Sol d t' u' → U ≤ u') (h0 : Neg d t u) (hmin0 : ∀ t' u', Neg d t' u' → u ≤ u') : T = t * t + 2 ∧ U = t * u := by
  obtain ⟨hT, hU, hs⟩ := h
  obtain ⟨ht, hu, hs0⟩ := h0
  have hle : U ≤ t * u := hmin _ _ (neg_sq ⟨ht, hu, hs0⟩)
  have e1 := even_of_sq (a := T) (b := U) (d := d) (c := 1) (by omega)
  have e2 := even_of_sq (a := t) (b := u) (d := d) (c := -1) (by omega)
  have e3 : (t * T - d * u * U) % 2 = 0 := by
    obtain ⟨x, hx⟩ : ∃ x, T = d * U + 2 * x := ⟨(T - d * U) / 2, by omega⟩
    obtain ⟨y, hy⟩ : ∃ y, t = d * u + 2 * y := ⟨(t - d * u) / 2, by omega⟩
    have hdd : ∃ z, d * d - d = 2 * z := by
      rcases Int.emod_two_eq d with h | h
      · exact ⟨(d / 2) * (d - 1), by have : d = 2 * (d / 2) := by omega
                                     generalize d / 2 = k at *; subst this; grind⟩
      · exact ⟨d * (d / 2), by have : d = 2 * (d / 2) + 1 := by omega
                               generalize d / 2 = k at *; subst this; grind⟩
    obtain ⟨z, hz⟩ := hdd
    have : t * T - d * u * U = 2 * (z * U * u + d * U * y + x * d * u + 2 * x * y) := by grind
    omega
  have e4 : (u * T - t * U) % 2 = 0 := by
    obtain ⟨x, hx⟩ : ∃ x, T = d * U + 2 * x := ⟨(T - d * U) / 2, by omega⟩
    obtain ⟨y, hy⟩ : ∃ y, t = d * u + 2 * y := ⟨(t - d * u) / 2, by omega⟩
    have : u * T - t * U = 2 * (u * x - y * U) := by grind
    omega
  obtain ⟨t', ht'⟩ : ∃ t', t * T - d * u * U = 2 * t' := ⟨(t * T - d * u * U) / 2, by omega⟩
  obtain ⟨u', hu'⟩ : ∃ u', u * T - t * U = 2 * u' := ⟨(u * T - t * U) / 2, by omega⟩
  have huT : 0 < u * T := Int.mul_pos hu hT
  have htU : 0 < t * U := Int.mul_pos ht hU
  have p1 : t * U < u * T := sq_lt (Int.le_of_lt htU) (Int.le_of_lt huT) (by
    have h1 : (u * T) * (u * T) - (t * U) * (t * U) = 4 * (u * u + U * U) := by grind
    have h2 : 0 < u * u := Int.mul_pos hu hu
    have h3 : 0 < U * U := Int.mul_pos hU hU
    omega)
  have hu0 : 0 < u' := by omega
  have hn : t' * t' - d * u' * u' = -4 := by
    have : (2 * t') * (2 * t') - d * (2 * u') * (2 * u') = -16 := by rw [← ht', ← hu']; grind
    have h4 : (2 * t') * (2 * t') - d * (2 * u') * (2 * u') = 4 * (t' * t' - d * u' * u') := by grind
    omega
  have ht0 : t' ≠ 0 := by
    intro e
    subst e
    have h1 : 0 < u' * u' := Int.mul_pos hu0 hu0
    have h2 : 5 * (u' * u') ≤ d * (u' * u') := Int.mul_le_mul_of_nonneg_right hd (by omega)
    have h3 : d * u' * u' = d * (u' * u') := Int.mul_assoc _ _ _
    omega
  have hab : ab t' * ab t' = t' * t' := ab_sq t'
  have hle2 : u ≤ u' := hmin0 (ab t') u' ⟨by have := ab_pos ht0; omega, hu0, by rw [hab]; exact hn⟩
  -- u (T - 2) is not below t U
  have hge : t * U ≤ u * (T - 2) := by
    have : u * (T - 2) = u * T - 2 * u := by grind
    omega
  have hT2 : 2 < T := by
    refine sq_lt (by omega) (Int.le_of_lt hT) ?_
    have : 0 < d * U * U := Int.mul_pos (Int.mul_pos (by omega) hU) hU
    omega
  have hsq := sq_le (Int.le_of_lt htU) hge
  have key : t * t + 2 ≤ T := by
    have h1 : d * ((u * (T - 2)) * (u * (T - 2))) - d * ((t * U) * (t * U)) = (T - 2) * (4 * (T - t * t - 2)) := by grind
    have h2 : 0 ≤ d * ((u * (T - 2)) * (u * (T - 2))) - d * ((t * U) * (t * U)) := by
      have := Int.mul_le_mul_of_nonneg_left hsq (show 0 ≤ d by omega)
      omega
    rw [h1] at h2
    refine Int.not_lt.1 fun hc => ?_
    have : (T - 2) * (4 * (T - t * t - 2)) < 0 := Int.mul_neg_of_pos_of_neg (by omega) (by omega)
    omega
  have hT3 : T ≤ t * t + 2 := by
    refine Int.not_lt.1 fun hc => ?_
    have hs2 := neg_sq ⟨ht, hu, hs0⟩
    have a1 := sq_le (Int.le_of_lt hU) hle
    have a2 : d * (U * U) ≤ d * ((t * u) * (t * u)) := Int.mul_le_mul_of_nonneg_left a1 (by omega)
    have a3 : (t * t + 2) * (t * t + 2) < T * T := Int.mul_lt_mul hc (Int.le_of_lt hc) hs2.1 (Int.le_of_lt hT)
    have a4 := hs2.2.2
    have a5 : d * U * U = d * (U * U) := Int.mul_assoc _ _ _
    have a6 : d * (t * u) * (t * u) = d * ((t * u) * (t * u)) := Int.mul_assoc _ _ _
    omega
  have hTe : T = t * t + 2 := by omega
  refine ⟨hTe, ?_⟩
  have hs2 := neg_sq ⟨ht, hu, hs0⟩
  subst hTe
  have a1 : d * (U * U) = d * ((t * u) * (t * u)) := by have := hs2.2.2; have a5 : d * U * U = d * (U * U) := Int.mul_assoc _ _ _; have a6 : d * (t * u) * (t * u) = d * ((t * u) * (t * u)) := Int.mul_assoc _ _ _; omega
  have a2 : U * U = (t * u) * (t * u) := Int.eq_of_mul_eq_mul_left (by omega) a1
  refine Int.le_antisymm hle (Int.not_lt.1 fun hc => ?_)
  have := Int.mul_lt_mul hc (Int.le_of_lt hc) hU (Int.le_of_lt (Int.mul_pos ht hu))
  omega
end Go.Proofs.Ytdonpiihjoihcaa
