/- Plain: Gauss's lemma, the law of quadratic reciprocity, and that the symbol J is the sign of the count of Gauss. No program in sight. -/
import Derived.Test.YtiblpagbloflhaaJ
namespace Go.Proofs.Ytiblpagbloflhaa
set_option linter.unusedVariables false

/-! sums -/
def sumN : Nat → (Nat → Nat) → Nat
  | 0, _ => 0
  | k + 1, f => sumN k f + f k
theorem sumN_congr : ∀ (k : Nat) {f g : Nat → Nat}, (∀ i, i < k → f i = g i) → sumN k f = sumN k g
  | 0, _, _, _ => rfl
  | k + 1, f, g, h => by
    simp only [sumN]
    rw [sumN_congr k (fun i hi => h i (by omega)), h k (by omega)]
theorem sumN_add : ∀ (k : Nat) (f g : Nat → Nat), sumN k (fun i => f i + g i) = sumN k f + sumN k g
  | 0, _, _ => rfl
  | k + 1, f, g => by simp only [sumN]; rw [sumN_add k f g]; omega
theorem sumN_zero : ∀ (k : Nat), sumN k (fun _ => 0) = 0
  | 0 => rfl
  | k + 1 => by simp only [sumN]; rw [sumN_zero k]
theorem sumN_const : ∀ (k c : Nat), sumN k (fun _ => c) = k * c
  | 0, c => by simp [sumN]
  | k + 1, c => by simp only [sumN]; rw [sumN_const k c, Nat.succ_mul]
theorem sumN_swap : ∀ (k l : Nat) (f : Nat → Nat → Nat), sumN k (fun i => sumN l (fun j => f i j)) = sumN l (fun j => sumN k (fun i => f i j))
  | 0, l, f => by simp only [sumN]; rw [sumN_zero]
  | k + 1, l, f => by
    simp only [sumN]
    rw [sumN_swap k l f, ← sumN_add]
/-- a change at one place -/
theorem sumN_upd : ∀ (k j : Nat) (f : Nat → Nat) (c : Nat), j < k → sumN k (fun i => if i = j then c else f i) + f j = sumN k f + c
  | 0, j, f, c, h => by omega
  | k + 1, j, f, c, h => by
    simp only [sumN]
    by_cases hj : j = k
    · subst hj
      rw [sumN_congr j (g := f) (fun i hi => by rw [if_neg (by omega)]), if_pos rfl]
      omega
    · have := sumN_upd k j f c (by omega)
      rw [if_neg (Ne.symm hj)]
      omega
/-- a sum does not hang on the order -/
theorem sumN_perm : ∀ (k : Nat) (f : Nat → Nat) (σ : Nat → Nat), (∀ i, i < k → σ i < k) → (∀ i j, i < k → j < k → σ i = σ j → i = j) → sumN k (fun i => f (σ i)) = sumN k f
  | 0, _, _, _, _ => rfl
  | k + 1, f, σ, hm, hi => by
    simp only [sumN]
    by_cases hk : σ k = k
    · rw [hk, sumN_perm k f σ (fun i h => by
        have h1 := hm i (by omega)
        have h2 : σ i ≠ k := fun e => by have := hi i k (by omega) (by omega) (by omega); omega
        omega) (fun i j h1 h2 h => hi i j (by omega) (by omega) h)]
    · have hlt : σ k < k := by have := hm k (by omega); omega
      have e1 : sumN k (fun i => f (σ i)) = sumN k (fun i => (fun x => if x = σ k then f k else f x) (if σ i = k then σ k else σ i)) := by
        refine sumN_congr k fun i h => ?_
        show f (σ i) = if (if σ i = k then σ k else σ i) = σ k then f k else f (if σ i = k then σ k else σ i)
        by_cases h1 : σ i = k
        · rw [if_pos h1, if_pos rfl, h1]
        · rw [if_neg h1, if_neg (fun e => by have := hi i k (by omega) (by omega) e; omega)]
      have e2 := sumN_perm k (fun x => if x = σ k then f k else f x) (fun i => if σ i = k then σ k else σ i)
        (fun i h => by
          show (if σ i = k then σ k else σ i) < k
          have := hm i (by omega)
          split <;> omega)
        (fun i j h1 h2 h => by
          have h : (if σ i = k then σ k else σ i) = (if σ j = k then σ k else σ j) := h
          by_cases c1 : σ i = k
          · by_cases c2 : σ j = k
            · exact hi i j (by omega) (by omega) (by omega)
            · rw [if_pos c1, if_neg c2] at h
              have := hi k j (by omega) (by omega) h
              omega
          · by_cases c2 : σ j = k
            · rw [if_neg c1, if_pos c2] at h
              have := hi i k (by omega) (by omega) h
              omega
            · rw [if_neg c1, if_neg c2] at h
              exact hi i j (by omega) (by omega) h)
      have e3 := sumN_upd k (σ k) f (f k) hlt
      rw [e1, e2]
      omega
theorem sumN_mod2 : ∀ (k : Nat) {f g : Nat → Nat}, (∀ i, i < k → f i % 2 = g i % 2) → sumN k f % 2 = sumN k g % 2
  | 0, _, _, _ => rfl
  | k + 1, f, g, h => by
    simp only [sumN]
    have := sumN_mod2 k (fun i hi => h i (by omega))
    have := h k (by omega)
    omega

/-! halves of the residues modulo n = 2 h + 1 -/
def hab (h : Nat) (x : Int) : Int := if x % (2 * h + 1) ≤ h then x % (2 * h + 1) else 2 * h + 1 - x % (2 * h + 1)
def hng (h : Nat) (x : Int) : Nat := if x % (2 * h + 1) ≤ h then 0 else 1
theorem hmod (h : Nat) (x : Int) : 0 ≤ x % (2 * h + 1) ∧ x % (2 * h + 1) < 2 * h + 1 := ⟨Int.emod_nonneg _ (by omega), Int.emod_lt_of_pos _ (by omega)⟩
theorem hab_bd {h : Nat} {x : Int} (hx : x % (2 * h + 1) ≠ 0) : 1 ≤ hab h x ∧ hab h x ≤ h := by
  have := hmod h x
  unfold hab
  split <;> omega
theorem hng_bd (h : Nat) (x : Int) : hng h x ≤ 1 := by unfold hng; split <;> omega
theorem h_split (h : Nat) (x : Int) : (hng h x = 0 ∧ ∃ q, x = hab h x + (2 * h + 1) * q) ∨ (hng h x = 1 ∧ ∃ q, x = -hab h x + (2 * h + 1) * q) := by
  have e := Int.emod_add_mul_ediv x (2 * h + 1)
  unfold hab hng
  by_cases hc : x % (2 * h + 1) ≤ h
  · left
    rw [if_pos hc, if_pos hc]
    exact ⟨rfl, x / (2 * h + 1), by omega⟩
  · right
    rw [if_neg hc, if_neg hc]
    refine ⟨rfl, x / (2 * h + 1) + 1, ?_⟩
    rw [Int.mul_add]
    omega
theorem h_congr {h : Nat} {x y : Int} (e : x % (2 * h + 1) = y % (2 * h + 1)) : hab h x = hab h y ∧ hng h x = hng h y := by
  unfold hab hng; rw [e]; exact ⟨rfl, rfl⟩
theorem mod_neg' {h : Nat} {x : Int} (hx : x % (2 * h + 1) ≠ 0) : (-x) % (2 * h + 1) = 2 * h + 1 - x % (2 * h + 1) := by
  have := hmod h x
  have e := Int.emod_add_mul_ediv x (2 * h + 1)
  have e2 : -x = (2 * h + 1 - x % (2 * h + 1)) + (2 * h + 1) * (-(x / (2 * h + 1)) - 1) := by
    rw [Int.mul_sub, Int.mul_neg]; omega
  rw [e2, Int.add_mul_emod_self_left, Int.emod_eq_of_lt (by omega) (by omega)]
theorem h_neg {h : Nat} {x : Int} (hx : x % (2 * h + 1) ≠ 0) : hab h (-x) = hab h x ∧ hng h (-x) + hng h x = 1 := by
  have := hmod h x
  unfold hab hng
  rw [mod_neg' hx]
  constructor
  · split <;> split <;> omega
  · split <;> split <;> omega
/-- the count of Gauss -/
def gauss (h : Nat) (a : Int) : Nat := sumN h (fun i => hng h (a * (i + 1 : Nat)))
theorem cop_mul {n a x : Int} (hg : Int.gcd a n = 1) (hx : (a * x) % n = 0) : x % n = 0 := by
  have h1 : n ∣ a * x := Int.dvd_of_emod_eq_zero hx
  have h2 : n ∣ Int.gcd n a * x := Int.dvd_gcd_mul_iff_dvd_mul.2 h1
  rw [Int.gcd_comm, hg] at h2
  exact Int.emod_eq_zero_of_dvd (by simpa using h2)
theorem unit_ne {h i : Nat} (hi : i < h) : ((i + 1 : Nat) : Int) % (2 * h + 1) ≠ 0 := by
  rw [Int.emod_eq_of_lt (by omega) (by omega)]; omega
theorem row_ne {h i : Nat} {a : Int} (hg : Int.gcd a (2 * h + 1) = 1) (hi : i < h) : (a * (i + 1 : Nat)) % (2 * h + 1) ≠ 0 :=
  fun e => unit_ne hi (cop_mul hg e)
def hperm (h : Nat) (a : Int) (i : Nat) : Nat := (hab h (a * (i + 1 : Nat)) - 1).toNat
theorem hperm_lt {h i : Nat} {a : Int} (hg : Int.gcd a (2 * h + 1) = 1) (hi : i < h) : hperm h a i < h := by
  have := hab_bd (row_ne hg hi)
  unfold hperm; omega
theorem hperm_eq {h i : Nat} {a : Int} (hg : Int.gcd a (2 * h + 1) = 1) (hi : i < h) : ((hperm h a i + 1 : Nat) : Int) = hab h (a * (i + 1 : Nat)) := by
  have := hab_bd (row_ne hg hi)
  unfold hperm; omega
theorem dvd_small {n x : Int} (hx : x % n = 0) (h1 : -n < x) (h2 : x < n) : x = 0 := by
  obtain ⟨q, rfl⟩ := Int.dvd_of_emod_eq_zero hx
  rcases Int.lt_trichotomy q 0 with h | h | h
  · have := Int.mul_le_mul_of_nonneg_left (show q ≤ -1 by omega) (show 0 ≤ n by omega)
    omega
  · simp [h]
  · have := Int.mul_le_mul_of_nonneg_left (show 1 ≤ q by omega) (show 0 ≤ n by omega)
    omega
theorem hperm_inj {h i j : Nat} {a : Int} (hg : Int.gcd a (2 * h + 1) = 1) (hi : i < h) (hj : j < h) (e : hperm h a i = hperm h a j) : i = j := by
  have e1 := hperm_eq hg hi
  have e2 := hperm_eq hg hj
  rw [e, e2] at e1
  have key : (a * ((i + 1 : Nat) - (j + 1 : Nat) : Int)) % (2 * h + 1) = 0 ∨ (a * ((i + 1 : Nat) + (j + 1 : Nat) : Int)) % (2 * h + 1) = 0 := by
    rcases h_split h (a * (i + 1 : Nat)) with ⟨_, q, hq⟩ | ⟨_, q, hq⟩ <;> rcases h_split h (a * (j + 1 : Nat)) with ⟨_, r, hr⟩ | ⟨_, r, hr⟩
    · left; rw [show a * ((i + 1 : Nat) - (j + 1 : Nat) : Int) = (2 * h + 1) * (q - r) by rw [Int.mul_sub, Int.mul_sub]; omega, Int.mul_emod_right]
    · right; rw [show a * ((i + 1 : Nat) + (j + 1 : Nat) : Int) = (2 * h + 1) * (q + r) by rw [Int.mul_add, Int.mul_add]; omega, Int.mul_emod_right]
    · right; rw [show a * ((i + 1 : Nat) + (j + 1 : Nat) : Int) = (2 * h + 1) * (q + r) by rw [Int.mul_add, Int.mul_add]; omega, Int.mul_emod_right]
    · left; rw [show a * ((i + 1 : Nat) - (j + 1 : Nat) : Int) = (2 * h + 1) * (q - r) by rw [Int.mul_sub, Int.mul_sub]; omega, Int.mul_emod_right]
  rcases key with k | k
  · have := dvd_small (cop_mul hg k) (by omega) (by omega); omega
  · have := dvd_small (cop_mul hg k) (by omega) (by omega); omega
theorem gauss_mod (h : Nat) (a : Int) : gauss h (a % (2 * h + 1)) = gauss h a := by
  unfold gauss
  refine sumN_congr h fun i _ => (h_congr ?_).2
  rw [Int.mul_emod, Int.emod_emod, ← Int.mul_emod]
/-- the count is multiplicative -/
theorem gauss_mul {h : Nat} {a b : Int} (ha : Int.gcd a (2 * h + 1) = 1) (hb : Int.gcd b (2 * h + 1) = 1) : gauss h (a * b) % 2 = (gauss h a + gauss h b) % 2 := by
  have e1 : gauss h (a * b) % 2 = sumN h (fun i => hng h (a * (hperm h b i + 1 : Nat)) + hng h (b * (i + 1 : Nat))) % 2 := by
    unfold gauss
    refine sumN_mod2 h fun i hi => ?_
    show hng h (a * b * (i + 1 : Nat)) % 2 = (hng h (a * (hperm h b i + 1 : Nat)) + hng h (b * (i + 1 : Nat))) % 2
    have hne : (a * (b * (i + 1 : Nat))) % (2 * h + 1) ≠ 0 := fun e => row_ne hb hi (cop_mul ha e)
    rw [hperm_eq hb hi, Int.mul_assoc]
    rcases h_split h (b * (i + 1 : Nat)) with ⟨s, q, hq⟩ | ⟨s, q, hq⟩
    · have : (a * (b * (i + 1 : Nat))) % (2 * h + 1) = (a * hab h (b * (i + 1 : Nat))) % (2 * h + 1) := by
        rw [show a * (b * (i + 1 : Nat)) = a * hab h (b * (i + 1 : Nat)) + (2 * h + 1) * (a * q) by
          conv => lhs; rw [hq]
          rw [Int.mul_add, Int.mul_left_comm], Int.add_mul_emod_self_left]
      rw [s, (h_congr this).2]
      simp
    · have : (a * (b * (i + 1 : Nat))) % (2 * h + 1) = (-(a * hab h (b * (i + 1 : Nat)))) % (2 * h + 1) := by
        rw [show a * (b * (i + 1 : Nat)) = -(a * hab h (b * (i + 1 : Nat))) + (2 * h + 1) * (a * q) by
          conv => lhs; rw [hq]
          rw [Int.mul_add, Int.mul_left_comm, Int.mul_neg], Int.add_mul_emod_self_left]
      have hne2 : (a * hab h (b * (i + 1 : Nat))) % (2 * h + 1) ≠ 0 := fun e => by
        rw [this] at hne
        exact hne (Int.emod_eq_zero_of_dvd (Int.dvd_neg.2 (Int.dvd_of_emod_eq_zero e)))
      have := (h_neg hne2).2
      rw [(h_congr ‹_›).2, s]
      omega
  rw [e1, sumN_add]
  have e2 := sumN_perm h (fun i => hng h (a * (i + 1 : Nat))) (hperm h b) (fun i hi => hperm_lt hb hi) (fun i j hi hj e => hperm_inj hb hi hj e)
  rw [e2]
  rfl
theorem gauss_one (h : Nat) : gauss h 1 = 0 := by
  unfold gauss
  rw [sumN_congr h (g := fun _ => 0) (fun i hi => by
    show hng h (1 * (i + 1 : Nat)) = 0
    unfold hng
    rw [Int.one_mul, Int.emod_eq_of_lt (by omega) (by omega), if_pos (by omega)]), sumN_zero]
theorem sumN_above : ∀ (k t : Nat), sumN k (fun i => if 2 * (i + 1) ≤ t then 0 else 1) = k - t / 2
  | 0, t => by simp [sumN]
  | k + 1, t => by
    simp only [sumN]
    rw [sumN_above k t]
    split <;> omega
theorem gauss_two (h : Nat) : gauss h 2 = h - h / 2 := by
  unfold gauss
  rw [← sumN_above h h]
  refine sumN_congr h fun i hi => ?_
  show hng h (2 * (i + 1 : Nat)) = _
  unfold hng
  rw [Int.emod_eq_of_lt (by omega) (by omega)]
  by_cases hc : 2 * (i + 1) ≤ h
  · rw [if_pos hc, if_pos (by omega)]
  · rw [if_neg hc, if_neg (by omega)]
def sgn (k : Nat) : Int := if k % 2 = 0 then 1 else -1
theorem sgn_add (k l : Nat) : sgn (k + l) = sgn k * sgn l := by
  unfold sgn
  split <;> split <;> split <;> first | rfl | omega
theorem sgn_congr {k l : Nat} (h : k % 2 = l % 2) : sgn k = sgn l := by unfold sgn; rw [h]
theorem sgn_pm (k : Nat) : sgn k = 1 ∨ sgn k = -1 := by unfold sgn; split <;> simp
theorem sgn_sq (k : Nat) : sgn k * sgn k = 1 := by rcases sgn_pm k with h | h <;> rw [h] <;> rfl
theorem sgn_two (h : Nat) : sgn (gauss h 2) = two8 (2 * h + 1) := by
  rw [gauss_two]
  unfold sgn two8
  by_cases hc : (h - h / 2) % 2 = 0
  · rw [if_pos hc, if_pos (by omega)]
  · rw [if_neg hc, if_neg (by omega)]

/-! the sum of Eisenstein -/
def eis (a : Int) (n : Int) (h : Nat) : Nat := sumN h (fun i => (a * (i + 1 : Nat) / n).toNat)
theorem sumN_id (h : Nat) {a : Int} (hg : Int.gcd a (2 * h + 1) = 1) : sumN h (fun i => (hab h (a * (i + 1 : Nat))).toNat) = sumN h (fun i => i + 1) := by
  rw [← sumN_perm h (fun i => i + 1) (hperm h a) (fun i hi => hperm_lt hg hi) (fun i j hi hj e => hperm_inj hg hi hj e)]
  refine sumN_congr h fun i hi => ?_
  have := hperm_eq hg hi
  show _ = hperm h a i + 1
  omega
theorem gauss_eis {h : Nat} {a : Int} (hg : Int.gcd a (2 * h + 1) = 1) (ha : 0 < a) (ho : a % 2 = 1) : gauss h a % 2 = eis a (2 * h + 1) h % 2 := by
  have e1 : sumN h (fun i => i + 1) % 2 = sumN h (fun i => (a * (i + 1 : Nat) / (2 * h + 1)).toNat + ((hab h (a * (i + 1 : Nat))).toNat + hng h (a * (i + 1 : Nat)))) % 2 := by
    refine sumN_mod2 h fun i hi => ?_
    show (i + 1) % 2 = ((a * (i + 1 : Nat) / (2 * h + 1)).toNat + ((hab h (a * (i + 1 : Nat))).toNat + hng h (a * (i + 1 : Nat)))) % 2
    have hb := hab_bd (row_ne hg hi)
    have hq := Int.ediv_nonneg (show 0 ≤ a * (i + 1 : Nat) from Int.mul_nonneg (by omega) (by omega)) (show (0 : Int) ≤ 2 * h + 1 by omega)
    have e := Int.emod_add_mul_ediv (a * (i + 1 : Nat)) (2 * h + 1)
    have hm := hmod h (a * (i + 1 : Nat))
    obtain ⟨k, hk⟩ : ∃ k, a = 2 * k + 1 := ⟨a / 2, by omega⟩
    have e2 : a * (i + 1 : Nat) = 2 * (k * (i + 1 : Nat)) + (i + 1 : Nat) := by rw [hk, Int.add_mul, Int.one_mul, Int.mul_assoc]
    have e3 : (2 * h + 1) * (a * (i + 1 : Nat) / (2 * h + 1)) = 2 * (h * (a * (i + 1 : Nat) / (2 * h + 1))) + a * (i + 1 : Nat) / (2 * h + 1) := by rw [Int.add_mul, Int.one_mul, Int.mul_assoc]
    unfold hab hng at *
    generalize k * ((i + 1 : Nat) : Int) = u at *
    generalize a * ((i + 1 : Nat) : Int) = x at *
    generalize x / (2 * (h : Int) + 1) = q at *
    generalize (h : Int) * q = v at *
    generalize x % (2 * (h : Int) + 1) = r at *
    split <;> simp_all <;> omega
  rw [sumN_add h (fun i => (a * (i + 1 : Nat) / (2 * h + 1)).toNat), sumN_add h (fun i => (hab h (a * (i + 1 : Nat))).toNat), sumN_id h hg] at e1
  have : sumN h (fun i => hng h (a * (i + 1 : Nat))) = gauss h a := rfl
  have : sumN h (fun i => (a * (i + 1 : Nat) / (2 * h + 1)).toNat) = eis a (2 * h + 1) h := rfl
  omega
theorem count_below : ∀ (k : Nat) (t : Int), 0 ≤ t → t ≤ k → sumN k (fun j => if ((j + 1 : Nat) : Int) ≤ t then 1 else 0) = t.toNat
  | 0, t, h0, h1 => by simp [sumN]; omega
  | k + 1, t, h0, h1 => by
    simp only [sumN]
    by_cases hc : t ≤ k
    · rw [count_below k t h0 hc, if_neg (by omega)]; rfl
    · have hk := sumN_congr k (f := fun j => if ((j + 1 : Nat) : Int) ≤ t then 1 else 0) (g := fun _ => 1) (fun j hj => by
        show (if ((j + 1 : Nat) : Int) ≤ t then 1 else 0) = 1
        rw [if_pos (by omega)])
      rw [hk, sumN_const, if_pos (by omega)]
      omega
/-- a quotient as a count of points -/
theorem quot_count {h k i : Nat} (hi : i < h) : sumN k (fun j => if (2 * (h : Int) + 1) * (j + 1 : Nat) ≤ (2 * (k : Int) + 1) * (i + 1 : Nat) then 1 else 0) = ((2 * (k : Int) + 1) * (i + 1 : Nat) / (2 * (h : Int) + 1)).toNat := by
  have h0 : 0 ≤ (2 * (k : Int) + 1) * (i + 1 : Nat) / (2 * (h : Int) + 1) := Int.ediv_nonneg (Int.mul_nonneg (by omega) (by omega)) (by omega)
  have h1 : (2 * (k : Int) + 1) * (i + 1 : Nat) / (2 * (h : Int) + 1) ≤ k := by
    refine Int.lt_add_one_iff.1 (Int.ediv_lt_of_lt_mul (by omega) ?_)
    have := Int.mul_le_mul_of_nonneg_left (show ((i + 1 : Nat) : Int) ≤ h by omega) (show (0 : Int) ≤ 2 * k + 1 by omega)
    have e1 : (2 * (k : Int) + 1) * h = 2 * (k * h) + h := by rw [Int.add_mul, Int.one_mul, Int.mul_assoc]
    have e2 : ((k : Int) + 1) * (2 * h + 1) = 2 * (k * h) + k + (2 * h + 1) := by rw [Int.add_mul, Int.one_mul, Int.mul_add, Int.mul_one, Int.mul_left_comm]
    omega
  rw [← count_below k _ h0 h1]
  refine sumN_congr k fun j hj => ?_
  show (if (2 * (h : Int) + 1) * (j + 1 : Nat) ≤ (2 * (k : Int) + 1) * (i + 1 : Nat) then 1 else 0) = (if ((j + 1 : Nat) : Int) ≤ (2 * (k : Int) + 1) * (i + 1 : Nat) / (2 * (h : Int) + 1) then 1 else 0)
  have := Int.le_ediv_iff_mul_le (a := ((j + 1 : Nat) : Int)) (b := (2 * (k : Int) + 1) * (i + 1 : Nat)) (show (0 : Int) < 2 * h + 1 by omega)
  rw [Int.mul_comm ((j + 1 : Nat) : Int)] at this
  by_cases hc : (2 * (h : Int) + 1) * (j + 1 : Nat) ≤ (2 * (k : Int) + 1) * (i + 1 : Nat)
  · rw [if_pos hc, if_pos (this.2 hc)]
  · rw [if_neg hc, if_neg (fun e => hc (this.1 e))]
/-- all points below and above the line -/
theorem eis_add {h k : Nat} (hg : Int.gcd (2 * k + 1) (2 * h + 1) = 1) : eis (2 * k + 1) (2 * h + 1) h + eis (2 * h + 1) (2 * k + 1) k = h * k := by
  have e1 : eis (2 * k + 1) (2 * h + 1) h = sumN h (fun i => sumN k (fun j => if (2 * (h : Int) + 1) * (j + 1 : Nat) ≤ (2 * (k : Int) + 1) * (i + 1 : Nat) then 1 else 0)) :=
    sumN_congr h fun i hi => (quot_count hi).symm
  have e2 : eis (2 * h + 1) (2 * k + 1) k = sumN h (fun i => sumN k (fun j => if (2 * (k : Int) + 1) * (i + 1 : Nat) ≤ (2 * (h : Int) + 1) * (j + 1 : Nat) then 1 else 0)) := by
    rw [sumN_swap]
    exact sumN_congr k fun j hj => (quot_count hj).symm
  rw [e1, e2, ← sumN_add, ← sumN_const h k]
  refine sumN_congr h fun i hi => ?_
  show sumN k (fun j => if (2 * (h : Int) + 1) * (j + 1 : Nat) ≤ (2 * (k : Int) + 1) * (i + 1 : Nat) then 1 else 0) + sumN k (fun j => if (2 * (k : Int) + 1) * (i + 1 : Nat) ≤ (2 * (h : Int) + 1) * (j + 1 : Nat) then 1 else 0) = k
  rw [← sumN_add]
  refine (sumN_congr k (g := fun _ => 1) fun j hj => ?_).trans (by rw [sumN_const, Nat.mul_one])
  show (if (2 * (h : Int) + 1) * (j + 1 : Nat) ≤ (2 * (k : Int) + 1) * (i + 1 : Nat) then 1 else 0) + (if (2 * (k : Int) + 1) * (i + 1 : Nat) ≤ (2 * (h : Int) + 1) * (j + 1 : Nat) then 1 else 0) = 1
  have hne : (2 * (h : Int) + 1) * (j + 1 : Nat) ≠ (2 * (k : Int) + 1) * (i + 1 : Nat) := fun e => by
    have h1 : ((2 * (k : Int) + 1) * (i + 1 : Nat)) % (2 * (h : Int) + 1) = 0 := by rw [← e, Int.mul_emod_right]
    exact row_ne hg hi h1
  generalize (2 * (h : Int) + 1) * (j + 1 : Nat) = u at *
  generalize (2 * (k : Int) + 1) * (i + 1 : Nat) = v at *
  split <;> split <;> omega
/-- the law of reciprocity -/
theorem gauss_flip {h k : Nat} (hg : Int.gcd (2 * k + 1) (2 * h + 1) = 1) : sgn (gauss h (2 * k + 1)) = sgn (h * k) * sgn (gauss k (2 * h + 1)) := by
  have e1 := gauss_eis hg (by omega) (by omega)
  have e2 := gauss_eis (h := k) (a := 2 * h + 1) (by rw [Int.gcd_comm]; exact hg) (by omega) (by omega)
  have e3 := eis_add hg
  rw [← sgn_add]
  refine sgn_congr ?_
  omega
theorem flip_sgn (h k : Nat) : flip (2 * k + 1) (2 * h + 1) = sgn (h * k) := by
  have hm : (h * k) % 2 = ((h % 2) * (k % 2)) % 2 := Nat.mul_mod h k 2
  unfold flip sgn
  rcases Nat.mod_two_eq_zero_or_one h with e | e <;> rcases Nat.mod_two_eq_zero_or_one k with f | f <;> rw [e, f] at hm <;> rw [hm] <;> simp <;> omega
theorem gcd_emod' (t b : Int) : Int.gcd (t % b) b = Int.gcd t b := by
  conv => rhs; rw [← Int.emod_add_mul_ediv t b]
  rw [Int.gcd_add_mul_left_left]
/-- the symbol is the sign of the count -/
theorem J_gauss : ∀ (m : Nat) (t : Int) (h : Nat), Jm t (2 * h + 1) ≤ m → J t (2 * h + 1) = if Int.gcd t (2 * h + 1) = 1 then sgn (gauss h t) else 0 := by
  intro m
  induction m with
  | zero =>
    intro t h hm
    unfold Jm at hm
    split at hm <;> omega
  | succ m ih =>
    intro t h hm
    by_cases h0 : t = 0
    · subst h0
      rw [J_zero (by omega)]
      by_cases h1 : h = 0
      · subst h1; rfl
      · rw [if_neg (by omega), if_neg (by rw [Int.gcd_zero_left]; omega)]
    by_cases h1 : t = 1
    · subst h1
      rw [J_end (by omega) (.inr rfl), if_neg (by omega), Int.one_gcd, if_pos rfl, gauss_one]; rfl
    by_cases hr : 0 ≤ t ∧ t < 2 * h + 1
    · by_cases he : t % 2 = 0
      · rw [J_even (by omega) (by omega) (by omega) hr.2 he, ih (t / 2) h (by have := Jm_half hr h0; omega)]
        have ht : t = 2 * (t / 2) := by omega
        have h2 : Int.gcd 2 (2 * h + 1) = 1 := by
          have : (2 * (h : Int) + 1) = 1 + 2 * h := by omega
          rw [this, Int.gcd_add_mul_left_right]; decide
        have hg : Int.gcd t (2 * h + 1) = Int.gcd (t / 2) (2 * h + 1) := by
          conv => lhs; rw [ht]
          exact Int.gcd_mul_right_left_of_gcd_eq_one h2
        rw [hg]
        split
        · rename_i hc
          rw [← sgn_two, ← sgn_add, Nat.add_comm]
          refine sgn_congr ?_
          have := gauss_mul (a := 2) (b := t / 2) h2 hc
          rw [← ht] at this
          omega
        · rw [Int.mul_zero]
      · obtain ⟨k, hk⟩ : ∃ k : Nat, t = 2 * k + 1 := ⟨(t / 2).toNat, by omega⟩
        rw [J_flip (by omega) (by omega) hr.2 (by omega), hk, flip_sgn, ih (2 * h + 1) k (by rw [← hk]; have := Jm_swap hr; omega), Int.gcd_comm]
        split
        · rename_i hc
          rw [gauss_flip hc]
        · rw [Int.mul_zero]
    · rw [J_mod (by omega), ih (t % (2 * h + 1)) h (by have := Jm_mod (b := 2 * h + 1) (by omega) hr; omega), gcd_emod', gauss_mod]
theorem J_law (t : Int) (h : Nat) : J t (2 * h + 1) = if Int.gcd t (2 * h + 1) = 1 then sgn (gauss h t) else 0 := J_gauss _ t h (Nat.le_refl _)
end Go.Proofs.Ytiblpagbloflhaa
