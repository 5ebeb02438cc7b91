/- Plain lemmas: the Jacobi and Kronecker symbols, as a function on integers. No program in sight. -/
import Derived.Test.YtdonpiihjoihcaaM
namespace Go.Proofs.Ytdonpiihjoihcaa
set_option linter.unusedVariables false

def two8 (a : Int) : Int := if a % 8 = 1 ∨ a % 8 = 7 then 1 else -1
def two8s (a : Int) : Int := if a % 8 = 1 ∨ a % 8 = 7 then 1 else if a % 8 = 3 ∨ a % 8 = 5 then -1 else 0
theorem two8_odd {a : Int} (h : a % 2 = 1) : two8s a = two8 a := by
  unfold two8s two8
  split
  · rfl
  · rw [if_pos (by omega)]
theorem two8s_even {a : Int} (h : a % 2 = 0) : two8s a = 0 := by
  unfold two8s
  rw [if_neg (by omega), if_neg (by omega)]
theorem two8_pm (a : Int) : two8 a = 1 ∨ two8 a = -1 := by unfold two8; split <;> simp
theorem two8s_bd (a : Int) : -1 ≤ two8s a ∧ two8s a ≤ 1 := by unfold two8s; split <;> (try split) <;> omega
def flip (a b : Int) : Int := if a % 4 = 3 ∧ b % 4 = 3 then -1 else 1
theorem flip_pm (a b : Int) : flip a b = 1 ∨ flip a b = -1 := by unfold flip; split <;> simp

/-- how far a step is from the end -/
def Jm (t b : Int) : Nat := if 0 ≤ t ∧ t < b then (t + b).toNat else (2 * b).toNat
theorem Jm_mod {t b : Int} (hb : 0 < b) (h : ¬ (0 ≤ t ∧ t < b)) : Jm (t % b) b < Jm t b := by
  have h1 := Int.emod_nonneg t (show b ≠ 0 by omega)
  have h2 := Int.emod_lt_of_pos t hb
  unfold Jm
  rw [if_pos ⟨h1, h2⟩, if_neg h]
  omega
theorem Jm_half {t b : Int} (h : 0 ≤ t ∧ t < b) (h0 : t ≠ 0) : Jm (t / 2) b < Jm t b := by
  unfold Jm
  rw [if_pos (by omega), if_pos h]
  omega
theorem Jm_swap {t b : Int} (h : 0 ≤ t ∧ t < b) : Jm b t < Jm t b := by
  unfold Jm
  rw [if_neg (by omega), if_pos h]
  omega
def J (t b : Int) : Int :=
  if hb : b ≤ 0 then 0
  else if h0 : t = 0 ∨ t = 1 then (if t = 0 ∧ 1 < b then 0 else 1)
  else if hr : 0 ≤ t ∧ t < b then
    if t % 2 = 0 then two8s b * J (t / 2) b else flip t b * J b t
  else J (t % b) b
termination_by Jm t b
decreasing_by
  · exact Jm_half hr (fun h => h0 (.inl h))
  · exact Jm_swap hr
  · exact Jm_mod (by omega) hr
theorem J_end {t b : Int} (hb : 0 < b) (h : t = 0 ∨ t = 1) : J t b = if t = 0 ∧ 1 < b then 0 else 1 := by
  rw [J, dif_neg (by omega), dif_pos h]
theorem J_out {t b : Int} (hb : 0 < b) (h0 : ¬ (t = 0 ∨ t = 1)) (h : ¬ (0 ≤ t ∧ t < b)) : J t b = J (t % b) b := by
  rw [J, dif_neg (by omega), dif_neg h0, dif_neg h]
theorem J_half {t b : Int} (hb : 0 < b) (h0 : ¬ (t = 0 ∨ t = 1)) (h : 0 ≤ t ∧ t < b) (he : t % 2 = 0) : J t b = two8s b * J (t / 2) b := by
  rw [J, dif_neg (by omega), dif_neg h0, dif_pos h, if_pos he]
theorem J_swap {t b : Int} (hb : 0 < b) (h0 : ¬ (t = 0 ∨ t = 1)) (h : 0 ≤ t ∧ t < b) (he : ¬ t % 2 = 0) : J t b = flip t b * J b t := by
  rw [J, dif_neg (by omega), dif_neg h0, dif_pos h, if_neg he]
/-- the three steps as the program takes them -/
theorem J_mod {t b : Int} (hb : 0 < b) : J t b = J (t % b) b := by
  by_cases h : 0 ≤ t ∧ t < b
  · rw [Int.emod_eq_of_lt h.1 h.2]
  · by_cases h0 : t = 0 ∨ t = 1
    · have ht : t = 1 := by omega
      have hb1 : b = 1 := by omega
      subst ht; subst hb1
      rw [J_end (by omega) (.inr rfl), J_end (by omega) (.inl (by decide))]
      rfl
    · exact J_out hb h0 h
theorem J_even {t b : Int} (hb : 0 < b) (hbo : b % 2 = 1) (ht : 0 < t) (hlt : t < b) (he : t % 2 = 0) : J t b = two8 b * J (t / 2) b := by
  rw [J_half hb (by omega) ⟨by omega, hlt⟩ he, two8_odd hbo]
theorem J_flip {t b : Int} (hb : 0 < b) (ht : 0 < t) (hlt : t < b) (he : t % 2 = 1) : J t b = flip t b * J b t := by
  by_cases h1 : t = 1
  · subst h1
    rw [J_end hb (.inr rfl), J_mod (t := b) (b := 1) (by omega), Int.emod_one, J_end (by omega) (.inl rfl)]
    simp [flip]
  · exact J_swap hb (by omega) ⟨by omega, hlt⟩ (by omega)
theorem J_zero {n : Int} (hn : 0 < n) : J 0 n = if n = 1 then 1 else 0 := by
  rw [J_end hn (.inl rfl)]
  by_cases h : n = 1
  · rw [if_pos h, if_neg (by omega)]
  · rw [if_neg h, if_pos (by omega)]
theorem J_bd : ∀ (m : Nat) (t b : Int), Jm t b ≤ m → -1 ≤ J t b ∧ J t b ≤ 1 := by
  intro m
  induction m with
  | zero =>
    intro t b h
    rw [J]
    split
    · omega
    · unfold Jm at h
      split at h <;> omega
  | succ m ih =>
    intro t b h
    rw [J]
    split
    · omega
    · rename_i hb
      split
      · split <;> omega
      · rename_i h0
        split
        · rename_i hr
          split
          · have h1 := ih (t / 2) b (by have := Jm_half hr (fun h => h0 (.inl h)); omega)
            have h2 := two8s_bd b
            have := mulb (A := 1) (B := 1) h2.1 h2.2 h1.1 h1.2
            omega
          · have h1 := ih b t (by have := Jm_swap hr; omega)
            rcases flip_pm t b with h2 | h2 <;> rw [h2] <;> omega
        · rename_i hr
          exact ih (t % b) b (by have := Jm_mod (by omega) hr; omega)
theorem J_bounds (t b : Int) : -1 ≤ J t b ∧ J t b ≤ 1 := J_bd _ t b (Nat.le_refl _)

/-! the symbol of Kronecker -/
def kron2 (a n s : Int) : Int × Int :=
  if h : n ≠ 0 ∧ n % 2 = 0 then kron2 a (n / 2) (s * two8s a) else (n, s)
termination_by n.natAbs
decreasing_by omega
theorem kron2_yes {a n s : Int} (h0 : n ≠ 0) (h : n % 2 = 0) : kron2 a n s = kron2 a (n / 2) (s * two8s a) := by rw [kron2, dif_pos ⟨h0, h⟩]
theorem kron2_no {a n s : Int} (h : ¬ n % 2 = 0) : kron2 a n s = (n, s) := by rw [kron2, dif_neg (by simp [h])]
def ksign (a n : Int) : Int := if n < 0 ∧ a < 0 then -1 else 1
def kron (a n : Int) : Int := if n = 0 then (if a.natAbs = 1 then 1 else 0) else (kron2 a n.natAbs (ksign a n)).2 * J a (kron2 a n.natAbs (ksign a n)).1
theorem kron_zero (a : Int) : kron a 0 = if a.natAbs = 1 then 1 else 0 := by unfold kron; rw [if_pos rfl]
theorem kron_ne {a n : Int} (h : n ≠ 0) : kron a n = (kron2 a n.natAbs (ksign a n)).2 * J a (kron2 a n.natAbs (ksign a n)).1 := by unfold kron; rw [if_neg h]
theorem kron2_zero (a : Int) (h : a % 2 = 0) : ∀ (m : Nat) (n : Int), n.natAbs ≤ m → (kron2 a n 0).2 = 0 := by
  intro m
  induction m with
  | zero =>
    intro n hn
    rw [kron2]
    split
    · omega
    · rfl
  | succ m ih =>
    intro n hn
    rw [kron2]
    split
    · rename_i h1
      rw [Int.zero_mul]
      exact ih (n / 2) (by omega)
    · rfl
theorem kron2_even {a n s : Int} (ha : a % 2 = 0) (h0 : n ≠ 0) (h : n % 2 = 0) : (kron2 a n s).2 = 0 := by
  rw [kron2_yes h0 h, two8s_even ha, Int.mul_zero]
  exact kron2_zero a ha _ _ (Nat.le_refl _)
theorem kron2_bd (a : Int) : ∀ (m : Nat) (n s : Int), n.natAbs ≤ m → 0 < n → -1 ≤ s ∧ s ≤ 1 → (1 ≤ (kron2 a n s).1 ∧ (kron2 a n s).1 ≤ n ∧ (kron2 a n s).1 % 2 = 1) ∧ -1 ≤ (kron2 a n s).2 ∧ (kron2 a n s).2 ≤ 1 := by
  intro m
  induction m with
  | zero => intro n s h1 h2; omega
  | succ m ih =>
    intro n s h1 h2 h3
    by_cases h : n % 2 = 0
    · rw [kron2_yes (by omega) h]
      have h4 := two8s_bd a
      have h5 := mulb (A := 1) (B := 1) h3.1 h3.2 h4.1 h4.2
      have := ih (n / 2) (s * two8s a) (by omega) (by omega) (by omega)
      omega
    · rw [kron2_no h]; exact ⟨by simp; omega, h3⟩
theorem kron_bd (a n : Int) : -1 ≤ kron a n ∧ kron a n ≤ 1 := by
  unfold kron
  split
  · split <;> omega
  · rename_i h
    have h1 := kron2_bd a _ (n.natAbs : Int) (ksign a n) (Nat.le_refl _) (by omega) (by unfold ksign; split <;> omega)
    have h2 := J_bounds a (kron2 a n.natAbs (ksign a n)).1
    have := mulb (A := 1) (B := 1) h1.2.1 h1.2.2 h2.1 h2.2
    omega
end Go.Proofs.Ytdonpiihjoihcaa
