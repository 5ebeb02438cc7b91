/- Plain: exponents, and the first prime of a list that forbids a value. -/
import Derived.Test.YtiblpagbloflhaaN
import Derived.Test.YtiblpagbloflhaaRD
namespace Go.Proofs.Ytiblpagbloflhaa
set_option linter.unusedVariables false

/-- how often p divides m -/
def expoF : Nat → Int → Int → Nat
  | 0, _, _ => 0
  | f + 1, p, m => if m % p = 0 then expoF f p (m / p) + 1 else 0
theorem expo_step {p m : Int} (hp : 2 ≤ p) (hm : 1 ≤ m) (h : m % p = 0) : 1 ≤ m / p ∧ m / p < m := by
  have h1 : m = p * (m / p) := by have := Int.mul_ediv_add_emod m p; omega
  have h2 : 1 ≤ m / p := by
    refine Int.not_lt.1 fun hc => ?_
    have := Int.mul_nonneg (show 0 ≤ p by omega) (show 0 ≤ -(m / p) by omega)
    rw [Int.mul_neg] at this
    omega
  refine ⟨h2, ?_⟩
  have := Int.mul_le_mul_of_nonneg_right hp (show 0 ≤ m / p by omega)
  omega
/-- enough steps are enough -/
theorem expoF_more {p : Int} (hp : 2 ≤ p) : ∀ (f g : Nat) (m : Int), 1 ≤ m → m.toNat ≤ f → m.toNat ≤ g → expoF f p m = expoF g p m
  | 0, g, m, hm, hf, hg => by omega
  | f + 1, 0, m, hm, hf, hg => by omega
  | f + 1, g + 1, m, hm, hf, hg => by
    unfold expoF
    split
    · rename_i h
      obtain ⟨h1, h2⟩ := expo_step hp hm h
      rw [expoF_more hp f g (m / p) h1 (by omega) (by omega)]
    · rfl
def expo (p m : Int) : Nat := expoF m.toNat p m
theorem expo_yes {p m : Int} (hp : 2 ≤ p) (hm : 1 ≤ m) (h : m % p = 0) : expo p m = expo p (m / p) + 1 := by
  obtain ⟨h1, h2⟩ := expo_step hp hm h
  obtain ⟨f, hf⟩ : ∃ f, m.toNat = f + 1 := ⟨m.toNat - 1, by omega⟩
  unfold expo
  rw [hf]
  show (if m % p = 0 then expoF f p (m / p) + 1 else 0) = _
  rw [if_pos h, expoF_more hp f (m / p).toNat (m / p) h1 (by omega) (Nat.le_refl _)]
theorem expo_no {p m : Int} (hm : 1 ≤ m) (h : ¬ m % p = 0) : expo p m = 0 := by
  obtain ⟨f, hf⟩ : ∃ f, m.toNat = f + 1 := ⟨m.toNat - 1, by omega⟩
  unfold expo
  rw [hf]
  show (if m % p = 0 then expoF f p (m / p) + 1 else 0) = _
  rw [if_neg h]
theorem expo_le {p : Int} (hp : 2 ≤ p) : ∀ (f : Nat) (m : Int), 1 ≤ m → m.toNat ≤ f → (expo p m : Int) ≤ m
  | 0, m, hm, hf => by omega
  | f + 1, m, hm, hf => by
    by_cases h : m % p = 0
    · obtain ⟨h1, h2⟩ := expo_step hp hm h
      rw [expo_yes hp hm h]
      have := expo_le hp f (m / p) h1 (by omega)
      omega
    · rw [expo_no hm h]; omega
theorem facGo_leX : ∀ (k : Nat) (p n : Int), (n - p + 1).toNat ≤ k → 2 ≤ p → 1 ≤ n → ∀ x, x ∈ facGo p n → x ≤ n := by
  intro k
  induction k with
  | zero =>
    intro p n hk hp hn x hx
    have h1 := Int.mul_le_mul_of_nonneg_right hp (show 0 ≤ p by omega)
    rw [facGo_end (by omega)] at hx
    split at hx
    · simp at hx; omega
    · simp at hx
  | succ k ih =>
    intro p n hk hp hn x hx
    have h1 := Int.mul_le_mul_of_nonneg_right hp (show 0 ≤ p by omega)
    by_cases h : p * p ≤ n
    · obtain ⟨a, b, c, d⟩ := stripN_bd hp hn
      rw [facGo_step hp h, List.mem_append] at hx
      rcases hx with hx | hx
      · have := stripL_all p n.toNat n (Nat.le_refl _) x hx
        omega
      · have := ih (p + 1) (stripN p n) (by omega) (by omega) a x hx
        omega
    · rw [facGo_end (by omega)] at hx
      split at hx
      · simp at hx; omega
      · simp at hx
theorem prs_bdX {n x : Int} (hn : 1 ≤ n) (h : x ∈ prs n) : 2 ≤ x ∧ x ≤ n :=
  ⟨(facs_sorted hn).1 x (mem_prs hn h), facGo_leX _ 2 n (Nat.le_refl _) (by omega) hn x (mem_prs hn h)⟩
/-- p forbids n for the discriminant d -/
def forbB (d n p : Int) : Bool := decide (expo p n % 2 = 1) && (rdL d p (2 * p).toNat).isEmpty
def forbL (d n : Int) : List Int → Int × Bool
  | [] => (0, false)
  | p :: t => if forbB d n p = true then (p, true) else forbL d n t
end Go.Proofs.Ytiblpagbloflhaa
