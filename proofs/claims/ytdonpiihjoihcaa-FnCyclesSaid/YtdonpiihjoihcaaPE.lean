/- Plain: the least solution of t t - d u u = 4. -/
import Derived.Test.YtdonpiihjoihcaaM
namespace Go.Proofs.Ytdonpiihjoihcaa
set_option linter.unusedVariables false

/-- the traces of the powers of a unit with trace t -/
def pv (t : Int) : Nat → Int
  | 0 => 2
  | 1 => t
  | n + 2 => t * pv t (n + 1) - pv t n
def Sol (d t u : Int) : Prop := 0 < t ∧ 0 < u ∧ t * t - d * u * u = 4
theorem even_of_sq {a b d : Int} {c : Int} (h : a * a - d * b * b = 4 * c) : (a - d * b) % 2 = 0 := by
  have h1 : (a * a) % 2 = (d * b * b) % 2 := by omega
  rcases Int.emod_two_eq a with ha | ha <;> rcases Int.emod_two_eq b with hb | hb <;> rcases Int.emod_two_eq d with hd | hd <;>
    (rw [Int.mul_emod, Int.mul_emod (d * b), Int.mul_emod d, ha, hb, hd] at h1; have : (d * b) % 2 = ((d % 2) * (b % 2)) % 2 := Int.mul_emod _ _ _
     rw [hb, hd] at this; omega)
/-- one step down -/
theorem sol_down {d T U t u : Int} (hd : 0 < d) (h : Sol d T U) (h0 : Sol d t u) (hu : u < U) :
    ∃ T' U', T * t - d * U * u = 2 * T' ∧ U * t - T * u = 2 * U' ∧ Sol d T' U' ∧ U' < U := by
  obtain ⟨hT, hU, hs⟩ := h
  obtain ⟨ht, hu0, hs0⟩ := h0
  have e1 := even_of_sq (a := T) (b := U) (d := d) (c := 1) (by omega)
  have e2 := even_of_sq (a := t) (b := u) (d := d) (c := 1) (by omega)
  have e3 : (T * t - d * U * u) % 2 = 0 := by
    obtain ⟨x, hx⟩ : ∃ x, T = d * U + 2 * x := ⟨(T - d * U) / 2, by omega⟩
    obtain ⟨y, hy⟩ : ∃ y, t = d * u + 2 * y := ⟨(t - d * u) / 2, by omega⟩
    have hdd : ∃ z, d * d - d = 2 * z := by
      rcases Int.emod_two_eq d with h | h
      · exact ⟨(d / 2) * (d - 1), by have : d = 2 * (d / 2) := by omega
                                     generalize d / 2 = k at *; subst this; grind⟩
      · exact ⟨d * (d / 2), by have : d = 2 * (d / 2) + 1 := by omega
                               generalize d / 2 = k at *; subst this; grind⟩
    obtain ⟨z, hz⟩ := hdd
    have : T * t - d * U * u = 2 * (z * U * u + d * U * y + x * d * u + 2 * x * y) := by grind
    omega
  have e4 : (U * t - T * u) % 2 = 0 := by
    obtain ⟨x, hx⟩ : ∃ x, T = d * U + 2 * x := ⟨(T - d * U) / 2, by omega⟩
    obtain ⟨y, hy⟩ : ∃ y, t = d * u + 2 * y := ⟨(t - d * u) / 2, by omega⟩
    have : U * t - T * u = 2 * (U * y - x * u) := by grind
    omega
  obtain ⟨T', hT'⟩ : ∃ T', T * t - d * U * u = 2 * T' := ⟨(T * t - d * U * u) / 2, by omega⟩
  obtain ⟨U', hU'⟩ : ∃ U', U * t - T * u = 2 * U' := ⟨(U * t - T * u) / 2, by omega⟩
  have hTt : 0 < T * t := Int.mul_pos hT ht
  have hUt : 0 < U * t := Int.mul_pos hU ht
  have hTu : 0 < T * u := Int.mul_pos hT hu0
  have hUu : 0 < U * u := Int.mul_pos hU hu0
  have huu : u * u < U * U := by
    have := Int.mul_lt_mul hu (Int.le_of_lt hu) hu0 (Int.le_of_lt hU)
    exact this
  have p1 : T * u < U * t := sq_lt (Int.le_of_lt hTu) (Int.le_of_lt hUt) (by
    have : (U * t) * (U * t) - (T * u) * (T * u) = 4 * (U * U - u * u) := by grind
    omega)
  have p2 : d * U * u < T * t := by
    have hpos : 0 < d * U * u := Int.mul_pos (Int.mul_pos hd hU) hu0
    refine sq_lt (Int.le_of_lt hpos) (Int.le_of_lt hTt) ?_
    have h1 : (T * t) * (T * t) - (d * U * u) * (d * U * u) = 16 + 4 * (d * (U * U)) + 4 * (d * (u * u)) := by grind
    have h2 : 0 ≤ d * (U * U) := Int.mul_nonneg (Int.le_of_lt hd) (Int.mul_nonneg (Int.le_of_lt hU) (Int.le_of_lt hU))
    have h3 : 0 ≤ d * (u * u) := Int.mul_nonneg (Int.le_of_lt hd) (Int.mul_nonneg (Int.le_of_lt hu0) (Int.le_of_lt hu0))
    omega
  have t2 : 2 < t := by
    refine sq_lt (by omega) (Int.le_of_lt ht) ?_
    have : 0 < d * u * u := Int.mul_pos (Int.mul_pos hd hu0) hu0
    omega
  have p3 : U * (t - 2) < T * u := by
    refine sq_lt (Int.mul_nonneg (Int.le_of_lt hU) (by omega)) (Int.le_of_lt hTu) ?_
    have h1 : (T * u) * (T * u) - (U * (t - 2)) * (U * (t - 2)) = 4 * (u * u) + 4 * (U * U * (t - 2)) := by grind
    have h2 : 0 < u * u := Int.mul_pos hu0 hu0
    have h3 : 0 ≤ U * U * (t - 2) := Int.mul_nonneg (Int.mul_nonneg (Int.le_of_lt hU) (Int.le_of_lt hU)) (by omega)
    omega
  refine ⟨T', U', hT', hU', ⟨by omega, by omega, ?_⟩, ?_⟩
  · have : (2 * T') * (2 * T') - d * (2 * U') * (2 * U') = 16 := by rw [← hT', ← hU']; grind
    have h4 : (2 * T') * (2 * T') - d * (2 * U') * (2 * U') = 4 * (T' * T' - d * U' * U') := by grind
    omega
  · have : U * (t - 2) = U * t - 2 * U := by grind
    omega
/-- every solution is a power of the least -/
theorem sol_power {d t u : Int} (hd : 0 < d) (h0 : Sol d t u) (hmin : ∀ t' u', Sol d t' u' → u ≤ u') : ∀ (n : Nat) (T U : Int), U.toNat ≤ n → Sol d T U →
    ∃ k : Nat, T = pv t (k + 1) ∧ T * t - d * U * u = 2 * pv t k := by
  intro n
  induction n with
  | zero => intro T U hn h; have := h.2.1; omega
  | succ n ih =>
    intro T U hn h
    by_cases hu : u < U
    · obtain ⟨T', U', h1, h2, h3, h4⟩ := sol_down hd h h0 hu
      obtain ⟨k, hk, hk'⟩ := ih T' U' (by have := h3.2.1; omega) h3
      refine ⟨k + 1, ?_, by rw [h1, hk]⟩
      have hs0 := h0.2.2
      have e : 2 * T = 2 * (t * T' - pv t k) := by
        have : 4 * T = 2 * (t * (2 * T')) - 2 * (2 * pv t k) := by
          rw [← hk']
          have : 2 * (T' * t - d * U' * u) = (T * t - d * U * u) * t - d * (U * t - T * u) * u := by rw [h1, h2]; grind
          rw [this, ← h1]
          grind
        have e2 : t * (2 * T') = 2 * (t * T') := by grind
        rw [e2] at this
        omega
      show T = t * pv t (k + 1) - pv t k
      rw [← hk]; omega
    · have hu' : U = u := by have := hmin T U h; omega
      subst hu'
      have hT : T = t := by
        have h1 : T * T = t * t := by have := h.2.2; have := h0.2.2; omega
        have a := h.1
        have b := h0.1
        rcases Int.lt_trichotomy T t with c | c | c
        · have := Int.mul_lt_mul c (Int.le_of_lt c) a (Int.le_of_lt b); omega
        · exact c
        · have := Int.mul_lt_mul c (Int.le_of_lt c) b (Int.le_of_lt a); omega
      subst hT
      exact ⟨0, rfl, by have := h0.2.2; show _ = 2 * 2; omega⟩
/-- there is a least solution if there is one -/
theorem sol_least {d : Int} : ∀ (n : Nat) (T U : Int), U.toNat ≤ n → Sol d T U → ∃ t u, Sol d t u ∧ ∀ t' u', Sol d t' u' → u ≤ u' := by
  intro n
  induction n with
  | zero => intro T U hn h; have := h.2.1; omega
  | succ n ih =>
    intro T U hn h
    by_cases hx : ∃ t' u', Sol d t' u' ∧ u' < U
    · obtain ⟨t', u', h1, h2⟩ := hx
      exact ih t' u' (by have := h1.2.1; omega) h1
    · exact ⟨T, U, h, fun t' u' h' => Int.not_lt.1 fun hc => hx ⟨t', u', h', hc⟩⟩
/-- a solution whose trace is no higher trace is the least -/
theorem sol_is_least {d T U : Int} (hd : 0 < d) (h : Sol d T U) (hno : ∀ (k : Nat) (t : Int), 3 ≤ t → pv t (k + 2) = T → (t * t - 4) % d ≠ 0) : ∀ t' u', Sol d t' u' → U ≤ u' := by
  obtain ⟨t, u, h0, hmin⟩ := sol_least U.toNat T U (Nat.le_refl _) h
  obtain ⟨k, hk, hk'⟩ := sol_power hd h0 hmin U.toNat T U (Nat.le_refl _) h
  have t3 : 3 ≤ t := by
    have : 2 < t := by
      refine sq_lt (by omega) (Int.le_of_lt h0.1) ?_
      have : 0 < d * u * u := Int.mul_pos (Int.mul_pos hd h0.2.1) h0.2.1
      have := h0.2.2
      omega
    omega
  cases k with
  | zero =>
    have hT : T = t := hk
    have hU : U * U = u * u := by
      have h1 := h.2.2; have h2 := h0.2.2
      rw [hT] at h1
      have : d * (U * U) = d * (u * u) := by grind
      exact Int.eq_of_mul_eq_mul_left (by omega) this
    have : U ≤ u := by
      refine Int.not_lt.1 fun hc => ?_
      have := Int.mul_lt_mul hc (Int.le_of_lt hc) h0.2.1 (Int.le_of_lt h.2.1)
      omega
    intro t' u' h'
    exact Int.le_trans this (hmin t' u' h')
  | succ k =>
    refine absurd ?_ (hno k t t3 hk.symm)
    have : t * t - 4 = d * (u * u) := by have := h0.2.2; grind
    rw [this, Int.mul_emod_right]
end Go.Proofs.Ytdonpiihjoihcaa
