/- Plain: higher traces, and a test that a number is none. -/
import Derived.Test.YtdonpiihjoihcaaPE
namespace Go.Proofs.Ytdonpiihjoihcaa
set_option linter.unusedVariables false

theorem pv_up {t : Int} (ht : 2 ≤ t) : ∀ k : Nat, 2 ≤ pv t k ∧ pv t k ≤ pv t (k + 1)
  | 0 => ⟨by show (2 : Int) ≤ 2; omega, ht⟩
  | k + 1 => by
    obtain ⟨h1, h2⟩ := pv_up ht k
    refine ⟨by omega, ?_⟩
    show pv t (k + 1) ≤ t * pv t (k + 1) - pv t k
    have : 2 * pv t (k + 1) ≤ t * pv t (k + 1) := Int.mul_le_mul_of_nonneg_right ht (by omega)
    omega
/-- with a greater trace all traces are greater -/
theorem pv_more {s t : Int} (hs : 2 ≤ s) (h : s ≤ t) : ∀ k : Nat, pv s k ≤ pv t k ∧ pv t k - pv s k ≤ pv t (k + 1) - pv s (k + 1)
  | 0 => ⟨by show (2 : Int) ≤ 2; omega, by show (2 : Int) - 2 ≤ t - s; omega⟩
  | k + 1 => by
    obtain ⟨h1, h2⟩ := pv_more hs h k
    refine ⟨by omega, ?_⟩
    show pv t (k + 1) - pv s (k + 1) ≤ (t * pv t (k + 1) - pv t k) - (s * pv s (k + 1) - pv s k)
    have a1 : 0 ≤ (t - s) * pv t (k + 1) := Int.mul_nonneg (by omega) (by have := (pv_up (t := t) (by omega) (k + 1)).1; omega)
    have a2 : 2 * (pv t (k + 1) - pv s (k + 1)) ≤ s * (pv t (k + 1) - pv s (k + 1)) := Int.mul_le_mul_of_nonneg_right hs (by omega)
    have a3 : t * pv t (k + 1) - s * pv s (k + 1) = (t - s) * pv t (k + 1) + s * (pv t (k + 1) - pv s (k + 1)) := by grind
    omega
theorem pv_two {t : Int} (ht : 3 ≤ t) : ∀ k : Nat, 3 * (2 : Int) ^ k ≤ pv t (k + 1) ∧ 2 * pv t k ≤ pv t (k + 1) + 1
  | 0 => ⟨by show 3 * (1 : Int) ≤ t; omega, by show (2 : Int) * 2 ≤ t + 1; omega⟩
  | k + 1 => by
    obtain ⟨h1, h2⟩ := pv_two ht k
    have h3 := pv_up (t := t) (by omega) k
    have h4 : 3 * pv t (k + 1) ≤ t * pv t (k + 1) := Int.mul_le_mul_of_nonneg_right ht (by omega)
    have h5 : pv t (k + 2) = t * pv t (k + 1) - pv t k := rfl
    refine ⟨?_, by rw [show k + 1 + 1 = k + 2 from rfl, h5]; omega⟩
    rw [show k + 1 + 1 = k + 2 from rfl, h5, Int.pow_succ]
    omega
/-- the traces, with numbers that do not go below nought -/
def pvL (t : Nat) : Nat → Nat → Nat → Nat
  | 0, a, _ => a
  | n + 1, a, b => pvL t n b (t * b - a)
theorem pvL_pv {t : Nat} (ht : 2 ≤ t) : ∀ (n k a b : Nat), (a : Int) = pv t k → (b : Int) = pv t (k + 1) → (pvL t n a b : Int) = pv t (k + n)
  | 0, k, a, b, h1, h2 => h1
  | n + 1, k, a, b, h1, h2 => by
    have h3 := pv_up (t := t) (by omega) k
    have h4 : 2 * pv (t : Int) (k + 1) ≤ t * pv t (k + 1) := Int.mul_le_mul_of_nonneg_right (by omega) (by omega)
    have h5 : (((t * b - a : Nat)) : Int) = pv t (k + 2) := by
      show _ = (t : Int) * pv t (k + 1) - pv t k
      rw [← h1, ← h2] at *
      have : a ≤ t * b := by
        have : ((a : Nat) : Int) ≤ ((t * b : Nat) : Int) := by rw [Int.natCast_mul]; omega
        omega
      rw [Int.natCast_sub this, Int.natCast_mul]
    have := pvL_pv ht n (k + 1) b (t * b - a) h2 h5
    rw [show k + (n + 1) = k + 1 + n by omega]
    exact this
/-- a number whose trace of this order is not above T, by halving -/
def bis (T k : Nat) : Nat → Nat → Nat → Nat
  | 0, lo, _ => lo
  | n + 1, lo, hi => if hi ≤ lo + 1 then lo else if pvL ((lo + hi) / 2) k 2 ((lo + hi) / 2) ≤ T then bis T k n ((lo + hi) / 2) hi else bis T k n lo ((lo + hi) / 2)
theorem pv_strict {s t : Int} (hs : 2 ≤ s) (h : s < t) : ∀ k : Nat, pv s (k + 1) < pv t (k + 1)
  | 0 => h
  | k + 1 => by
    have h1 := pv_strict hs h k
    have h2 := (pv_more hs (Int.le_of_lt h) (k + 1)).2
    rw [show k + 1 + 1 = (k + 1) + 1 from rfl] at *
    omega
def between (d T k t : Nat) : Bool := decide (2 ≤ t) && ((decide (pvL t k 2 t < T) && decide (T < pvL (t + 1) k 2 (t + 1))) || (decide (pvL t k 2 t = T) && decide ((t * t - 4) % d ≠ 0)))
/-- T is no trace of the orders 2, 3, .. , K + 1 of a solution, and too small for greater ones -/
def noHigh (d T K : Nat) : Bool := decide (T < 3 * 2 ^ (K + 1)) && (List.range K).all fun k => between d T (k + 2) (bis T (k + 2) 200 2 (2 ^ (Nat.log2 T / (k + 2) + 2)))
theorem noHigh_spec {d T K : Nat} (h : noHigh d T K = true) (k : Nat) (t : Int) (ht : 3 ≤ t) (he : pv t (k + 2) = T) : (t * t - 4) % (d : Int) ≠ 0 := by
  simp only [noHigh, Bool.and_eq_true, decide_eq_true_eq, List.all_eq_true, List.mem_range] at h
  obtain ⟨h1, h2⟩ := h
  by_cases hk : k < K
  · have := h2 k hk
    generalize bis T (k + 2) 200 2 (2 ^ (Nat.log2 T / (k + 2) + 2)) = s at this
    simp only [between, Bool.and_eq_true, Bool.or_eq_true, decide_eq_true_eq] at this
    obtain ⟨b1, ⟨b2, b3⟩ | ⟨b2, b3⟩⟩ := this
    · have e1 := pvL_pv (t := s) b1 (k + 2) 0 2 s rfl rfl
      have e2 := pvL_pv (t := s + 1) (by omega) (k + 2) 0 2 (s + 1) rfl rfl
      rw [Nat.zero_add] at e1 e2
      by_cases hs : t ≤ s
      · have := (pv_more (s := t) (t := s) (by omega) hs (k + 2)).1
        omega
      · have := (pv_more (s := ((s + 1 : Nat) : Int)) (t := t) (by omega) (by omega) (k + 2)).1
        omega
    · have e1 := pvL_pv (t := s) b1 (k + 2) 0 2 s rfl rfl
      rw [Nat.zero_add] at e1
      have hts : t = (s : Int) := by
        rcases Int.lt_trichotomy t s with c | c | c
        · have := pv_strict (s := t) (t := s) (by omega) c (k + 1); rw [show k + 1 + 1 = k + 2 from rfl] at this; omega
        · exact c
        · have := pv_strict (s := s) (t := t) (by omega) c (k + 1); rw [show k + 1 + 1 = k + 2 from rfl] at this; omega
      have h4 : 4 ≤ s * s := Nat.le_trans (by omega : 4 ≤ 2 * 2) (Nat.mul_le_mul b1 b1)
      have : t * t - 4 = ((s * s - 4 : Nat) : Int) := by rw [hts, Int.natCast_sub h4, Int.natCast_mul]; rfl
      rw [this]
      omega
  · have a1 := (pv_two ht (k + 1)).1
    have a2 : (2 : Nat) ^ (K + 1) ≤ 2 ^ (k + 1) := Nat.pow_le_pow_right (by omega) (by omega)
    have a3 : ((2 ^ (k + 1) : Nat) : Int) = (2 : Int) ^ (k + 1) := by simp
    rw [show k + 1 + 1 = k + 2 from rfl] at a1
    omega
end Go.Proofs.Ytdonpiihjoihcaa
