/- Plain: inverses modulo m by Euclid's steps; the completed form of a definite form. No program in sight. -/
import Derived.Test.YtiblpagbloflhaaM
namespace Go.Proofs.Ytiblpagbloflhaa
set_option linter.unusedVariables false

/-- v is the inverse of a modulo m -/
def Inv (a m v : Int) : Prop := 0 ≤ v ∧ v < m ∧ (a * v - 1) % m = 0
theorem inv_uniq {a m v v' : Int} (h : Inv a m v) (h' : Inv a m v') : v = v' := by
  obtain ⟨h1, h2, h3⟩ := h
  obtain ⟨k1, k2, k3⟩ := h'
  obtain ⟨q, hq⟩ := Int.dvd_of_emod_eq_zero h3
  obtain ⟨r, hr⟩ := Int.dvd_of_emod_eq_zero k3
  have e : v - v' = m * (v * r - v' * q) * (-1) := by
    have e1 : v * (a * v' - 1) = v * (m * r) := by rw [hr]
    have e2 : v' * (a * v - 1) = v' * (m * q) := by rw [hq]
    grind
  have hd : m ∣ v - v' := ⟨-(v * r - v' * q), by rw [e]; grind⟩
  obtain ⟨k, hk⟩ := hd
  rcases Int.lt_trichotomy k 0 with c | c | c
  · have := Int.mul_le_mul_of_nonneg_left (show k ≤ -1 by omega) (show 0 ≤ m by omega); omega
  · subst c; omega
  · have := Int.mul_le_mul_of_nonneg_left (show 1 ≤ k by omega) (show 0 ≤ m by omega); omega
/-- Euclid's steps: r and s are multiples of a, up to multiples of m, by x and y; both numbers stay small -/
def Euc (a m r s x y : Int) : Prop :=
  0 ≤ r ∧ 0 ≤ s ∧ (∃ k, r = a * x + m * k) ∧ (∃ k, s = a * y + m * k) ∧ Int.gcd r s = 1 ∧
  ((0 ≤ x ∧ y ≤ 0 ∧ x * s - y * r = m) ∨ (x ≤ 0 ∧ 0 ≤ y ∧ y * r - x * s = m))
theorem euc_start1 {a m : Int} (hm : 1 ≤ m) (hg : Int.gcd a m = 1) : Euc a m m (a % m) 0 1 := by
  have h1 := Int.emod_nonneg a (show m ≠ 0 by omega)
  refine ⟨by omega, h1, ⟨1, by omega⟩, ⟨-(a / m), ?_⟩, ?_, .inr ⟨by omega, by omega, by omega⟩⟩
  · have := Int.emod_add_mul_ediv a m; rw [Int.mul_neg]; omega
  · rw [← hg]
    conv => rhs; rw [← Int.emod_add_mul_ediv a m]
    rw [Int.gcd_add_mul_left_left, Int.gcd_comm]
theorem euc_start2 {a m : Int} (hm : 1 ≤ m) (hg : Int.gcd a m = 1) : Euc a m (a % m) m 1 0 := by
  have h1 := Int.emod_nonneg a (show m ≠ 0 by omega)
  refine ⟨h1, by omega, ⟨-(a / m), ?_⟩, ⟨1, by omega⟩, ?_, .inl ⟨by omega, by omega, by omega⟩⟩
  · have := Int.emod_add_mul_ediv a m; rw [Int.mul_neg]; omega
  · rw [← hg]
    conv => rhs; rw [← Int.emod_add_mul_ediv a m]
    rw [Int.gcd_add_mul_left_left]
theorem euc_next {a m r s x y : Int} (h : Euc a m r s x y) (hs : s ≠ 0) : Euc a m s (r - r / s * s) y (x - r / s * y) := by
  obtain ⟨h1, h2, ⟨k, hk⟩, ⟨l, hl⟩, hg, hb⟩ := h
  have hq := Int.ediv_nonneg h1 h2
  have e := Int.emod_add_mul_ediv r s
  have hm := Int.emod_nonneg r hs
  have er : r - r / s * s = r % s := by rw [Int.mul_comm]; omega
  refine ⟨h2, by omega, ⟨l, hl⟩, ⟨k - r / s * l, by rw [hk, hl]; grind⟩, ?_, ?_⟩
  · rw [er, ← hg]
    conv => rhs; rw [← e]
    rw [Int.gcd_add_mul_left_left, Int.gcd_comm]
  · rcases hb with ⟨b1, b2, b3⟩ | ⟨b1, b2, b3⟩
    · right
      have := Int.mul_nonneg hq (show 0 ≤ -y by omega)
      rw [Int.mul_neg] at this
      exact ⟨b2, by omega, by grind⟩
    · left
      have := Int.mul_nonneg hq b2
      exact ⟨b2, by omega, by grind⟩
/-- while s is not 0, the numbers are at most m -/
theorem euc_bd {a m r s x y : Int} (h : Euc a m r s x y) (hs : s ≠ 0) : -m ≤ x ∧ x ≤ m ∧ (r ≠ 0 → -m ≤ y ∧ y ≤ m) := by
  obtain ⟨h1, h2, _, _, _, hb⟩ := h
  rcases hb with ⟨b1, b2, b3⟩ | ⟨b1, b2, b3⟩
  · have e1 := Int.mul_nonneg (show 0 ≤ -y by omega) h1
    have e2 := Int.mul_le_mul_of_nonneg_left (show 1 ≤ s by omega) b1
    rw [Int.neg_mul] at e1
    rw [Int.mul_one] at e2
    refine ⟨by omega, by omega, fun hr => ?_⟩
    have e3 := Int.mul_le_mul_of_nonneg_left (show 1 ≤ r by omega) (show 0 ≤ -y by omega)
    have e4 := Int.mul_nonneg b1 h2
    simp only [Int.neg_mul, Int.mul_one] at e3
    omega
  · have e1 := Int.mul_nonneg b2 h1
    have e2 := Int.mul_le_mul_of_nonneg_left (show 1 ≤ s by omega) (show 0 ≤ -x by omega)
    simp only [Int.neg_mul, Int.mul_one] at e2
    refine ⟨by omega, by omega, fun hr => ?_⟩
    have e3 := Int.mul_le_mul_of_nonneg_left (show 1 ≤ r by omega) b2
    have e4 := Int.mul_nonneg (show 0 ≤ -x by omega) h2
    rw [Int.neg_mul] at e4
    rw [Int.mul_one] at e3
    omega
/-- how great the products of a step are -/
theorem euc_step {a m r s x y : Int} (h : Euc a m r s x y) (hs : s ≠ 0) (hm : 0 ≤ m) : (0 ≤ r / s ∧ r / s ≤ r) ∧ (0 ≤ r / s * s ∧ r / s * s ≤ r) ∧ (-m - m ≤ r / s * y ∧ r / s * y ≤ m + m) ∧ (-m ≤ x ∧ x ≤ m) ∧ (-m ≤ x - r / s * y ∧ x - r / s * y ≤ m) := by
  have hx := euc_bd h hs
  have hn := euc_next h hs
  obtain ⟨h1, h2, _, _, _, _⟩ := h
  have hq := Int.ediv_nonneg h1 h2
  have e := Int.emod_add_mul_ediv r s
  have hm1 := Int.emod_nonneg r hs
  have e2 := Int.mul_nonneg hq h2
  rw [Int.mul_comm] at e
  have hq2 := Int.ediv_le_self s h1
  have hy : -m ≤ x - r / s * y ∧ x - r / s * y ≤ m := by
    obtain ⟨n1, n2, _, _, _, nb⟩ := hn
    rcases nb with ⟨b1, b2, b3⟩ | ⟨b1, b2, b3⟩
    · have e3 := Int.mul_le_mul_of_nonneg_left (show 1 ≤ s by omega) (show 0 ≤ -(x - r / s * y) by omega)
      have e4 := Int.mul_nonneg b1 n2
      simp only [Int.neg_mul, Int.mul_one] at e3
      omega
    · have e3 := Int.mul_le_mul_of_nonneg_left (show 1 ≤ s by omega) b2
      have e4 := Int.mul_nonneg (show 0 ≤ -y by omega) n2
      rw [Int.neg_mul] at e4
      rw [Int.mul_one] at e3
      omega
  exact ⟨⟨hq, hq2⟩, ⟨e2, by omega⟩, by omega, ⟨hx.1, hx.2.1⟩, hy⟩
/-- the end: r is 1 and x the inverse -/
theorem euc_end {a m r x y : Int} (h : Euc a m r 0 x y) (hm : 1 ≤ m) : r = 1 ∧ Inv a m (x % m) := by
  obtain ⟨h1, _, ⟨k, hk⟩, _, hg, _⟩ := h
  have hr : r = 1 := by rw [Int.gcd_zero_right] at hg; omega
  subst hr
  refine ⟨rfl, Int.emod_nonneg x (by omega), Int.emod_lt_of_pos x (by omega), ?_⟩
  have e := Int.emod_add_mul_ediv x m
  have : a * (x % m) - 1 = m * (-k - a * (x / m)) := by
    have : a * x = a * (x % m) + m * (a * (x / m)) := by conv => lhs; rw [← e]
                                                         grind
    grind
  rw [this, Int.mul_emod_right]
theorem inv_total {a m : Int} (hm : 1 ≤ m) (hg : Int.gcd a m = 1) : ∃ v, Inv a m v := by
  have key : ∀ (n : Nat) (r s x y : Int), s.toNat ≤ n → Euc a m r s x y → ∃ v, Inv a m v := by
    intro n
    induction n with
    | zero =>
      intro r s x y hn h
      have : s = 0 := by have := h.2.1; omega
      subst this
      exact ⟨_, (euc_end h hm).2⟩
    | succ n ih =>
      intro r s x y hn h
      by_cases hs : s = 0
      · subst hs; exact ⟨_, (euc_end h hm).2⟩
      · have h2 := h.2.1
        have e := Int.emod_add_mul_ediv r s
        have h3 := Int.emod_lt_of_pos r (show 0 < s by omega)
        exact ih _ _ _ _ (by rw [Int.mul_comm]; omega) (euc_next h hs)
  exact key _ _ _ _ _ (Nat.le_refl _) (euc_start1 hm hg)
end Go.Proofs.Ytiblpagbloflhaa
