/- Plain lemmas on integers: bounds of products, residues, integer square roots, greatest common divisors, primes. No program in sight. -/
namespace Go.Proofs.Ytdonpiihjoihcaa
set_option linter.unusedVariables false

theorem mulb {a b A B : Int} (h1 : -A ≤ a) (h2 : a ≤ A) (h3 : -B ≤ b) (h4 : b ≤ B) : -(A * B) ≤ a * b ∧ a * b ≤ A * B := by
  have e1 := Int.mul_nonneg (show 0 ≤ A - a by omega) (show 0 ≤ B + b by omega)
  have e2 := Int.mul_nonneg (show 0 ≤ A + a by omega) (show 0 ≤ B - b by omega)
  have e3 := Int.mul_nonneg (show 0 ≤ A - a by omega) (show 0 ≤ B - b by omega)
  have e4 := Int.mul_nonneg (show 0 ≤ A + a by omega) (show 0 ≤ B + b by omega)
  simp only [Int.mul_add, Int.add_mul, Int.sub_mul, Int.mul_sub] at e1 e2 e3 e4
  omega
theorem sqn (b : Int) : 0 ≤ b * b := by
  rcases Int.le_total 0 b with h | h
  · exact Int.mul_nonneg h h
  · have := Int.mul_nonneg (show 0 ≤ -b by omega) (show 0 ≤ -b by omega)
    rwa [Int.neg_mul_neg] at this
theorem sqb {b B : Int} (h1 : -B ≤ b) (h2 : b ≤ B) : 0 ≤ b * b ∧ b * b ≤ B * B := ⟨sqn b, (mulb h1 h2 h1 h2).2⟩
theorem mul_le {a b A B : Int} (h1 : 0 ≤ a) (h2 : a ≤ A) (h3 : 0 ≤ b) (h4 : b ≤ B) : 0 ≤ a * b ∧ a * b ≤ A * B :=
  ⟨Int.mul_nonneg h1 h3, (mulb (by omega) h2 (by omega) h4).2⟩

/-! residues -/
theorem tmod_bd (a : Int) {m : Int} (h : 0 < m) : -m < a.tmod m ∧ a.tmod m < m :=
  ⟨by have := Int.lt_tmod_of_pos a h; omega, Int.tmod_lt_of_pos a h⟩
theorem tmod_neg_fix (a : Int) {m : Int} (h : 0 < m) (hn : a.tmod m < 0) : a.tmod m + m = a % m := by
  have := Int.tmod_eq_emod (a := a) (b := m)
  split at this
  · have := Int.emod_nonneg a (show m ≠ 0 by omega); omega
  · omega
theorem tmod_pos_fix (a : Int) {m : Int} (h : 0 < m) (hn : 0 ≤ a.tmod m) : a.tmod m = a % m := by
  have := Int.tmod_eq_emod (a := a) (b := m)
  split at this
  · omega
  · have := Int.emod_lt_of_pos a h; omega
theorem tmod_zero_iff (a m : Int) : a.tmod m = 0 ↔ a % m = 0 := by
  rw [← Int.dvd_iff_tmod_eq_zero, ← Int.dvd_iff_emod_eq_zero]
theorem beq_tmod (a m : Int) : (a.tmod m == 0) = decide (a % m = 0) := by
  rw [Bool.eq_iff_iff]; simp [tmod_zero_iff]

/-! integer square roots -/
def isqF : Nat → Nat → Nat
  | 0, _ => 0
  | f + 1, n => let r := 2 * isqF f (n / 4); if (r + 1) * (r + 1) ≤ n then r + 1 else r
theorem isqF_spec : ∀ (f n : Nat), n < 4 ^ f → isqF f n * isqF f n ≤ n ∧ n < (isqF f n + 1) * (isqF f n + 1)
  | 0, n, h => by simp at h; subst h; simp [isqF]
  | f + 1, n, h => by
    have ih := isqF_spec f (n / 4) (by rw [Nat.pow_succ] at h; omega)
    revert ih
    simp only [isqF]
    generalize isqF f (n / 4) = r
    intro ⟨h1, h2⟩
    simp only [Nat.add_mul, Nat.mul_add, Nat.one_mul, Nat.mul_one] at h2
    have e1 : 2 * r * (2 * r) = 4 * (r * r) := by rw [Nat.mul_assoc, Nat.mul_left_comm r 2 r, ← Nat.mul_assoc]
    split
    · rename_i hc
      simp only [Nat.add_mul, Nat.mul_add, Nat.one_mul, Nat.mul_one] at hc ⊢
      rw [e1] at hc ⊢
      omega
    · rename_i hc
      refine ⟨by rw [e1]; omega, by omega⟩
def isq (n : Int) : Int := (isqF 64 n.toNat : Nat)
theorem isq_nonneg (n : Int) : 0 ≤ isq n := by unfold isq; omega
theorem isq_spec {n : Int} (h0 : 0 ≤ n) (h1 : n ≤ 10000000000000000000) : isq n * isq n ≤ n ∧ n < (isq n + 1) * (isq n + 1) := by
  obtain ⟨a, b⟩ := isqF_spec 64 n.toNat (by have : (4 : Nat) ^ 64 = 340282366920938463463374607431768211456 := by decide
                                            omega)
  unfold isq
  generalize isqF 64 n.toNat = r at a b
  have a' : ((r * r : Nat) : Int) ≤ (n.toNat : Int) := by omega
  have b' : (n.toNat : Int) < (((r + 1) * (r + 1) : Nat) : Int) := by omega
  rw [Int.toNat_of_nonneg h0] at a' b'
  simpa using ⟨a', b'⟩
theorem sq_lt {a b : Int} (h0 : 0 ≤ a) (hb : 0 ≤ b) (h : a * a < b * b) : a < b := by
  refine Int.not_le.1 fun hc => ?_
  have := Int.mul_le_mul hc hc hb h0
  omega
theorem sq_le {a b : Int} (h0 : 0 ≤ a) (h : a ≤ b) : a * a ≤ b * b := Int.mul_le_mul h h h0 (by omega)
theorem isq_eq {n r : Int} (h0 : 0 ≤ r) (h1 : r * r ≤ n) (h2 : n < (r + 1) * (r + 1)) (h3 : n ≤ 10000000000000000000) : isq n = r := by
  have hn : 0 ≤ n := by have := sqn r; omega
  obtain ⟨a, b⟩ := isq_spec hn h3
  have hp := isq_nonneg n
  have c1 := sq_lt (a := isq n) (b := r + 1) hp (by omega) (by omega)
  have c2 := sq_lt (a := r) (b := isq n + 1) h0 (by omega) (by omega)
  omega
theorem isq_le {n B : Int} (h0 : 0 ≤ n) (h1 : n ≤ 10000000000000000000) (hB : 0 ≤ B) (h : n < (B + 1) * (B + 1)) : isq n ≤ B := by
  obtain ⟨a, _⟩ := isq_spec h0 h1
  have := sq_lt (isq_nonneg n) (show 0 ≤ B + 1 by omega) (by omega)
  omega
def sqB (n : Int) : Bool := decide (0 ≤ n) && decide (isq n * isq n = n)

/-! greatest common divisors -/
theorem gcd_step (a b : Int) : Int.gcd b (a.tmod b) = Int.gcd a b := by
  show Nat.gcd b.natAbs (a.tmod b).natAbs = Nat.gcd a.natAbs b.natAbs
  rw [Int.natAbs_tmod, Nat.gcd_comm a.natAbs, Nat.gcd_rec b.natAbs a.natAbs, Nat.gcd_comm]
theorem gcd_zero (a : Int) : (Int.gcd a 0 : Int) = a.natAbs := by simp

/-! primes -/
def PrimeN (n : Int) : Prop := 2 ≤ n ∧ ∀ d : Int, 2 ≤ d → d * d ≤ n → n % d ≠ 0
open Classical in
noncomputable def primeB (n : Int) : Bool := decide (PrimeN n)
theorem primeB_true {n : Int} (h : PrimeN n) : primeB n = true := by unfold primeB; simpa using h
theorem primeB_false {n : Int} (h : ¬ PrimeN n) : primeB n = false := by unfold primeB; simpa using h

/-! the program's words -/
def good (n : Int) : Bool := decide (-1000000 ≤ n) && decide (n ≤ 1000000)
theorem good_iff {n : Int} : good n = true ↔ -1000000 ≤ n ∧ n ≤ 1000000 := by simp [good]
theorem good_no {n : Int} (h : n < -1000000 ∨ 1000000 < n) : good n = false := by unfold good; simp; omega
theorem good_yes {n : Int} (h : -1000000 ≤ n) (h2 : n ≤ 1000000) : good n = true := by unfold good; simp; omega
theorem all_no {xs : List Int} {k : Nat} (h : k < xs.length) (g : good xs[k] = false) : xs.all good = false := by
  rw [List.all_eq_false]; exact ⟨xs[k], List.getElem_mem h, by simp [g]⟩
theorem all_yes {xs : List Int} (h : ∀ j, j < xs.length → good (xs.getD j 0) = true) : xs.all good = true := by
  rw [List.all_eq_true]; intro x hx
  obtain ⟨j, hj, rfl⟩ := List.getElem_of_mem hx
  have := h j hj
  simpa [List.getD, List.getElem?_eq_getElem hj] using this
def good2 (a b : Int) : Bool := good a && good b
def good3 (a b c : Int) : Bool := good a && good b && good c
def good4 (a b c d : Int) : Bool := good a && good b && good c && good d
theorem good2_iff {a b : Int} : good2 a b = true ↔ (-1000000 ≤ a ∧ a ≤ 1000000) ∧ (-1000000 ≤ b ∧ b ≤ 1000000) := by simp [good2, good]
theorem good3_iff {a b c : Int} : good3 a b c = true ↔ (-1000000 ≤ a ∧ a ≤ 1000000) ∧ (-1000000 ≤ b ∧ b ≤ 1000000) ∧ (-1000000 ≤ c ∧ c ≤ 1000000) := by simp [good3, good, and_assoc]
theorem good4_iff {a b c d : Int} : good4 a b c d = true ↔ (-1000000 ≤ a ∧ a ≤ 1000000) ∧ (-1000000 ≤ b ∧ b ≤ 1000000) ∧ (-1000000 ≤ c ∧ c ≤ 1000000) ∧ (-1000000 ≤ d ∧ d ≤ 1000000) := by simp [good4, good, and_assoc]

def disc (a b c : Int) : Int := b * b - 4 * a * c
theorem disc_bd {a b c : Int} (h : good3 a b c = true) : (0 ≤ b * b ∧ b * b ≤ 1000000000000) ∧ (-4000000000000 ≤ 4 * a * c ∧ 4 * a * c ≤ 4000000000000) ∧ (-4000000000000 ≤ disc a b c ∧ disc a b c ≤ 5000000000000) := by
  obtain ⟨⟨a1, a2⟩, ⟨b1, b2⟩, ⟨c1, c2⟩⟩ := good3_iff.1 h
  have h1 := sqb b1 b2
  have h2 := mulb (a := 4 * a) (b := c) (A := 4000000) (B := 1000000) (by omega) (by omega) c1 c2
  unfold disc
  omega
def negD (d : Int) : Bool := decide (-2000 ≤ d) && decide (d ≤ -3) && decide (d % 4 ≤ 1)
def posD (d : Int) : Bool := decide (5 ≤ d) && decide (d ≤ 1000) && decide (d % 4 ≤ 1) && !sqB d
def discB (d : Int) : Bool := good d && decide (d % 4 ≤ 1) && !sqB d
def idealB (d s a b : Int) : Bool := negD d && (decide (1 ≤ s) && decide (s ≤ 10000) && decide (1 ≤ a) && decide (a ≤ 10000) && decide (0 ≤ b) && decide (b < 2 * a)) && decide ((b * b - d) % (4 * a) = 0)
def definB (a b c : Int) : Bool := good3 a b c && decide (disc a b c < 0) && decide (0 < a)
def shownB (a b c : Int) : Bool := definB a b c && decide (-2000 ≤ disc a b c)
def indefB (a b c : Int) : Bool := good3 a b c && posD (disc a b c)
theorem negD_iff {d : Int} : negD d = true ↔ -2000 ≤ d ∧ d ≤ -3 ∧ d % 4 ≤ 1 := by simp [negD, and_assoc]
theorem negD_no {d : Int} (h : ¬ (-2000 ≤ d ∧ d ≤ -3 ∧ d % 4 ≤ 1)) : negD d = false := by
  rw [← Bool.not_eq_true, negD_iff]; exact h
theorem idealB_iff {d s a b : Int} : idealB d s a b = true ↔ (-2000 ≤ d ∧ d ≤ -3 ∧ d % 4 ≤ 1) ∧ (1 ≤ s ∧ s ≤ 10000 ∧ 1 ≤ a ∧ a ≤ 10000 ∧ 0 ≤ b ∧ b < 2 * a) ∧ (b * b - d) % (4 * a) = 0 := by
  simp [idealB, negD, and_assoc]
theorem disc_mod (a b c : Int) : disc a b c % 4 = 0 ∨ disc a b c % 4 = 1 := by
  have e : disc a b c = b * b - 4 * (a * c) := by unfold disc; rw [Int.mul_assoc]
  rw [e]
  obtain ⟨q, hq⟩ : ∃ q, b = q + q + b % 2 := ⟨b / 2, by omega⟩
  have hb : b * b = (q + q + b % 2) * (q + q + b % 2) := by rw [← hq]
  rcases Int.emod_two_eq b with h | h <;> rw [h] at hb <;> simp only [Int.mul_add, Int.add_mul, Int.mul_one, Int.one_mul, Int.add_zero] at hb <;> omega

def content (a b c : Int) : Int := (Int.gcd (Int.gcd a b) c : Nat)
theorem content_eq (a b c : Int) : ((Int.gcd a (Int.gcd b c) : Nat) : Int) = content a b c := by unfold content; rw [Int.gcd_assoc]
theorem gcd_bd {a b B : Int} (ha : -B ≤ a ∧ a ≤ B) (hb : -B ≤ b ∧ b ≤ B) : 0 ≤ (Int.gcd a b : Int) ∧ (Int.gcd a b : Int) ≤ B := by
  refine ⟨by omega, ?_⟩
  by_cases h : a = 0
  · subst h; simp; omega
  · have := Int.gcd_le_natAbs_left b h; omega
def classB (a b c : Int) : Bool := shownB a b c && decide (content a b c = 1)
noncomputable def oddPrimeB (p : Int) : Bool := decide (p ≠ 2) && good p && primeB p
theorem primeB_two {p : Int} (h : primeB p = true) : 2 ≤ p := (Classical.byContradiction fun hn => by rw [primeB_false fun hp => hn hp.1] at h; cases h)
noncomputable def charB (k p : Int) : Bool := if k = 1 then oddPrimeB p else decide (2 ≤ k) && decide (k ≤ 4) && decide (p = 0)
theorem ideal_in {d a b : Int} : (b % (2 * a) * (b % (2 * a)) - d) % (4 * a) = 0 ↔ (b * b - d) % (4 * a) = 0 := by
  have e : b = 2 * a * (b / (2 * a)) + b % (2 * a) := (Int.mul_ediv_add_emod b (2 * a)).symm
  generalize b / (2 * a) = q at e
  generalize b % (2 * a) = r at e ⊢
  subst e
  have : (2 * a * q + r) * (2 * a * q + r) - d = (r * r - d) + 4 * a * (a * (q * q) + q * r) := by
    have h1 : 2 * a * q * (2 * a * q) = 4 * a * (a * (q * q)) := by
      rw [show (4 : Int) = 2 * 2 from rfl]; simp only [Int.mul_assoc, Int.mul_left_comm, Int.mul_comm]
    have h2 : 2 * a * q * r + r * (2 * a * q) = 4 * a * (q * r) := by
      rw [Int.mul_comm r, show (4 : Int) = 2 + 2 from rfl]; simp only [Int.add_mul, Int.mul_assoc]
    simp only [Int.mul_add, Int.add_mul] at h1 h2 ⊢
    omega
  rw [this, Int.add_mul_emod_self_left]
theorem disc_ideal {a b c : Int} : (b * b - disc a b c) % (4 * a) = 0 := by
  unfold disc
  rw [show b * b - (b * b - 4 * a * c) = 4 * a * c by omega, Int.mul_emod_right]
theorem oddPrimeB_no {p : Int} (h : p ≤ 2) : oddPrimeB p = false := by
  unfold oddPrimeB
  by_cases h2 : p = 2
  · simp [h2]
  · cases hp : primeB p
    · simp
    · have := primeB_two hp; omega
theorem definB_iff {a b c : Int} : definB a b c = true ↔ good3 a b c = true ∧ disc a b c < 0 ∧ 0 < a := by simp [definB, and_assoc]
theorem shown_disc {a b c : Int} (h : definB a b c = true) (h2 : -2000 ≤ disc a b c) : negD (disc a b c) = true := by
  have := disc_mod a b c
  have := (definB_iff.1 h).2.1
  rw [negD_iff]; omega
theorem idealOfForm_law {a b c : Int} (h : definB a b c = true) (h2 : -2000 ≤ disc a b c) : idealB (disc a b c) 1 a (b % (2 * a)) = decide (a ≤ 10000) := by
  have hd := negD_iff.1 (shown_disc h h2)
  have ha := (definB_iff.1 h).2.2
  have h1 := Int.emod_nonneg b (show 2 * a ≠ 0 by omega)
  have h3 := Int.emod_lt_of_pos b (show 0 < 2 * a by omega)
  rw [Bool.eq_iff_iff, idealB_iff, ideal_in, decide_eq_true_iff]
  exact ⟨fun h => h.2.1.2.2.2.1, fun h => ⟨hd, ⟨by omega, by omega, by omega, h, h1, h3⟩, disc_ideal⟩⟩
/-- the product of two matrices, entry by entry -/
def m1 (p q r s x y z u : Int) : Int := p * x + q * z
def m2 (p q r s x y z u : Int) : Int := p * y + q * u
def m3 (p q r s x y z u : Int) : Int := r * x + s * z
def m4 (p q r s x y z u : Int) : Int := r * y + s * u
def mgood (p q r s x y z u : Int) : Bool := good4 (m1 p q r s x y z u) (m2 p q r s x y z u) (m3 p q r s x y z u) (m4 p q r s x y z u)
theorem prod_bd {a b : Int} (ha : -1000000 ≤ a ∧ a ≤ 1000000) (hb : -1000000 ≤ b ∧ b ≤ 1000000) : -1000000000000 ≤ a * b ∧ a * b ≤ 1000000000000 :=
  mulb ha.1 ha.2 hb.1 hb.2
theorem definB_good {a b c : Int} (h : definB a b c = true) : good3 a b c = true := by unfold definB at h; simp_all
theorem shownB_good {a b c : Int} (h : shownB a b c = true) : good3 a b c = true := by unfold shownB at h; exact definB_good (by simp_all)
theorem posD_iff {d : Int} : posD d = true ↔ 5 ≤ d ∧ d ≤ 1000 ∧ d % 4 ≤ 1 ∧ sqB d = false := by simp [posD, and_assoc]
theorem discB_iff {d : Int} : discB d = true ↔ (-1000000 ≤ d ∧ d ≤ 1000000) ∧ d % 4 ≤ 1 ∧ sqB d = false := by simp [discB, good, and_assoc]
end Go.Proofs.Ytdonpiihjoihcaa
