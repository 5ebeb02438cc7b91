/- Plain: roots modulo powers of a prime, one above the other; residues in common; the count of roots. No program in sight. -/
import Derived.Test.YtiblpagbloflhaaZG
import Derived.Test.YtiblpagbloflhaaCP
namespace Go.Proofs.Ytiblpagbloflhaa
set_option linter.unusedVariables false

/-- x is a root modulo q, and 2 x is prime to p -/
def Rt (b p q x : Int) : Prop := 0 ≤ x ∧ x < q ∧ (x * x - b) % q = 0 ∧ Int.gcd (2 * x) p = 1
/-- y is a root modulo q p above x -/
def Abv (b p q x y : Int) : Prop := 0 ≤ y ∧ y < q * p ∧ (y * y - b) % (q * p) = 0 ∧ y % q = x
theorem lft_st {b p q x v s : Int} (hp : 1 ≤ p) (hq : 1 ≤ q) (hd : p ∣ q) (h : Rt b p q x) (hv : Inv (2 * x) p v) (hs : b - x * x = q * s) :
    0 ≤ s % p * v % p ∧ s % p * v % p < p ∧ Abv b p q x (x + q * (s % p * v % p)) := by
  obtain ⟨x0, x1, h1, h2⟩ := h
  obtain ⟨v0, v1, hv⟩ := hv
  obtain ⟨t, ht⟩ : ∃ t, s % p * v % p = t := ⟨_, rfl⟩
  have t0 : 0 ≤ t := by rw [← ht]; exact Int.emod_nonneg _ (by omega)
  have t1 : t < p := by rw [← ht]; exact Int.emod_lt_of_pos _ (by omega)
  have ht2 : (s * v - t) % p = 0 := by
    rw [← ht, Int.sub_emod, Int.emod_emod_of_dvd _ (Int.dvd_refl p), Int.mul_emod (s % p) v p, Int.emod_emod_of_dvd _ (Int.dvd_refl p), ← Int.mul_emod, Int.sub_self]
    simp
  rw [ht]
  refine ⟨t0, t1, ?_, ?_, ?_, ?_⟩
  · have := Int.mul_nonneg (show 0 ≤ q by omega) t0; omega
  · have := Int.mul_le_mul_of_nonneg_left (show t ≤ p - 1 by omega) (show 0 ≤ q by omega)
    rw [Int.mul_sub] at this
    omega
  · obtain ⟨c, hc⟩ := hd
    obtain ⟨d, hd⟩ := Int.dvd_of_emod_eq_zero hv
    obtain ⟨e, he⟩ := Int.dvd_of_emod_eq_zero ht2
    refine Int.emod_eq_zero_of_dvd ⟨s * d - 2 * x * e + c * t * t, ?_⟩
    have e1 : (x + q * t) * (x + q * t) - b = q * (2 * x * t - s + q * t * t) := by grind
    have e2 : 2 * x * t - s + q * t * t = p * (s * d - 2 * x * e + c * t * t) := by
      have e3 : t = s * v - p * e := by omega
      have e4 : 2 * x * (s * v) - s = p * (s * d) := by
        have : s * (2 * x * v - 1) = s * (p * d) := by rw [hd]
        grind
      have e5 : 2 * x * t = 2 * x * (s * v) - 2 * x * (p * e) := by rw [e3]; grind
      have e6 : q * t * t = p * (c * t * t) := by rw [hc]; grind
      rw [e5, e6]
      grind
    rw [e1, e2]
    grind
  · rw [Int.add_mul_emod_self_left]
    exact Int.emod_eq_of_lt x0 x1
theorem st_uniq {b p q x y y' : Int} (hp : 1 ≤ p) (hq : 1 ≤ q) (hd : p ∣ q) (h : Int.gcd (2 * x) p = 1) (h1 : Abv b p q x y) (h2 : Abv b p q x y') : y = y' := by
  obtain ⟨a1, a2, a3, a4⟩ := h1
  obtain ⟨c1, c2, c3, c4⟩ := h2
  obtain ⟨j, hj⟩ : ∃ j, y / q = j := ⟨_, rfl⟩
  obtain ⟨k, hk⟩ : ∃ k, y' / q = k := ⟨_, rfl⟩
  have ej : y = x + q * j := by have := Int.emod_add_mul_ediv y q; rw [a4, hj] at this; omega
  have ek : y' = x + q * k := by have := Int.emod_add_mul_ediv y' q; rw [c4, hk] at this; omega
  have j0 : 0 ≤ j := by rw [← hj]; exact Int.ediv_nonneg a1 (by omega)
  have k0 : 0 ≤ k := by rw [← hk]; exact Int.ediv_nonneg c1 (by omega)
  have j1 : j < p := by rw [← hj]; exact Int.ediv_lt_of_lt_mul (by omega) (by rw [Int.mul_comm]; exact a2)
  have k1 : k < p := by rw [← hk]; exact Int.ediv_lt_of_lt_mul (by omega) (by rw [Int.mul_comm]; exact c2)
  obtain ⟨d, hd'⟩ := hd
  obtain ⟨u, hu⟩ := Int.dvd_of_emod_eq_zero a3
  obtain ⟨w, hw⟩ := Int.dvd_of_emod_eq_zero c3
  have e1 : q * ((j - k) * (2 * x + q * (j + k))) = q * (p * (u - w)) := by
    have : (y * y - b) - (y' * y' - b) = q * p * u - q * p * w := by rw [hu, hw]
    rw [ej, ek] at this
    grind
  have e2 : (j - k) * (2 * x + q * (j + k)) = p * (u - w) := Int.eq_of_mul_eq_mul_left (by omega) e1
  have e3 : (2 * x) * (j - k) = p * (u - w - d * (j + k) * (j - k)) := by rw [hd'] at e2; grind
  have e4 := cop_mul h (Int.emod_eq_zero_of_dvd ⟨_, e3⟩)
  have e5 := dvd_small e4 (by omega) (by omega)
  have : j = k := by omega
  rw [ej, ek, this]
theorem rt_next {b p q x y : Int} (hd : p ∣ q) (h : Rt b p q x) (hs : Abv b p q x y) : Rt b p (q * p) y := by
  obtain ⟨a1, a2, a3, a4⟩ := hs
  refine ⟨a1, a2, a3, ?_⟩
  have ej : y = x + q * (y / q) := by have := Int.emod_add_mul_ediv y q; rw [a4] at this; omega
  obtain ⟨d, hd'⟩ := hd
  have : 2 * y = 2 * x + p * (2 * (d * (y / q))) := by rw [ej, hd']; grind
  rw [this, Int.gcd_add_mul_left_left]
  exact h.2.2.2
/-- a tower over x0 -/
def Tw (b p x0 : Int) (L : List Int) : Prop := L[0]? = some x0 ∧ ∀ (i : Nat) (x y : Int), L[i]? = some x → L[i + 1]? = some y → Abv b p (p ^ (i + 1)) x y
theorem pow_pos' {p : Int} (hp : 1 ≤ p) : ∀ n : Nat, 1 ≤ p ^ n
  | 0 => by simp
  | n + 1 => by
    have := Int.mul_le_mul (pow_pos' hp n) hp (by omega) (by have := pow_pos' hp n; omega)
    rw [Int.pow_succ]
    omega
theorem dvd_pow' (p : Int) (n : Nat) : p ∣ p ^ (n + 1) := ⟨p ^ n, by rw [Int.pow_succ, Int.mul_comm]⟩
theorem tw_one (b p x0 : Int) : Tw b p x0 [x0] := ⟨rfl, fun i x y h1 h2 => by simp at h2⟩
theorem tw_app {b p x0 x y : Int} {L : List Int} {n : Nat} (h : Tw b p x0 L) (hn : L.length = n + 1) (hx : L[n]? = some x) (hs : Abv b p (p ^ (n + 1)) x y) : Tw b p x0 (L ++ [y]) := by
  refine ⟨?_, fun i u z h1 h2 => ?_⟩
  · rw [List.getElem?_append_left (by omega)]; exact h.1
  · by_cases hi : i + 1 < L.length
    · rw [List.getElem?_append_left (by omega)] at h1 h2
      exact h.2 i u z h1 h2
    · have hi2 : i + 1 < (L ++ [y]).length := by
        rcases Nat.lt_or_ge (i + 1) (L ++ [y]).length with h | h
        · exact h
        · rw [List.getElem?_eq_none h] at h2; cases h2
      simp at hi2
      obtain rfl : i = n := by omega
      rw [List.getElem?_append_left (by omega), hx] at h1
      rw [List.getElem?_append_right (by omega), show i + 1 - L.length = 0 by omega] at h2
      simp at h1 h2
      subst h1; subst h2
      exact hs
theorem tw_rt {b p x0 : Int} {L : List Int} (h : Tw b p x0 L) (h0 : Rt b p p x0) : ∀ (i : Nat) (x : Int), L[i]? = some x → Rt b p (p ^ (i + 1)) x
  | 0, x, hx => by
    rw [h.1] at hx
    injection hx with hx
    subst hx
    show Rt b p (p ^ (0 + 1)) x0
    rw [Int.pow_succ, Int.pow_zero, Int.one_mul]
    exact h0
  | i + 1, x, hx => by
    have hlt : i + 1 < L.length := by
      rcases Nat.lt_or_ge (i + 1) L.length with h | h
      · exact h
      · rw [List.getElem?_eq_none h] at hx; cases hx
    have hz : L[i]? = some L[i] := List.getElem?_eq_getElem (by omega)
    have h1 := tw_rt h h0 i _ hz
    rw [Int.pow_succ]
    exact rt_next (dvd_pow' p i) h1 (h.2 i _ _ hz hx)
theorem tw_uniq {b p x0 : Int} {L M : List Int} (hp : 1 ≤ p) (h : Tw b p x0 L) (h' : Tw b p x0 M) (h0 : Rt b p p x0) (hl : L.length = M.length) : L = M := by
  have key : ∀ i, i < L.length → L[i]? = M[i]? := by
    intro i
    induction i with
    | zero => intro _; rw [h.1, h'.1]
    | succ i ih =>
      intro hi
      have e := ih (by omega)
      have hz : L[i]? = some L[i] := List.getElem?_eq_getElem (by omega)
      have hy : L[i + 1]? = some L[i + 1] := List.getElem?_eq_getElem hi
      have hy' : M[i + 1]? = some (M[i + 1]'(by omega)) := List.getElem?_eq_getElem (by omega)
      have s1 := h.2 i _ _ hz hy
      have s2 := h'.2 i _ _ (e ▸ hz) hy'
      have hr := tw_rt h h0 i _ hz
      rw [hy, hy', st_uniq hp (pow_pos' hp _) (dvd_pow' p i) hr.2.2.2 s1 s2]
  refine List.ext_getElem? fun i => ?_
  rcases Nat.lt_or_ge i L.length with hi | hi
  · exact key i hi
  · rw [List.getElem?_eq_none hi, List.getElem?_eq_none (by omega)]
/-- a square has the symbol 1 -/
theorem J_square {h : Nat} {b x : Int} (hx : Int.gcd x (2 * h + 1) = 1) (hr : (x * x - b) % (2 * h + 1) = 0) : J b (2 * h + 1) = 1 := by
  have e : b % (2 * (h : Int) + 1) = (x * x) % (2 * h + 1) := (Int.emod_eq_emod_iff_emod_sub_eq_zero.2 hr).symm
  have hg : Int.gcd (x * x) (2 * h + 1) = 1 := by
    rw [Int.gcd_comm, Int.gcd_mul_right_right_of_gcd_eq_one (by rw [Int.gcd_comm]; exact hx), Int.gcd_comm]
    exact hx
  rw [J_mod (by omega), e, ← J_mod (by omega), J_law, if_pos hg]
  have := gauss_mul hx hx
  unfold sgn
  rw [if_pos (by omega)]
/-- the residue in common -/
theorem crt {m n x y v : Int} (hm : 1 ≤ m) (hn : 1 ≤ n) (hx0 : 0 ≤ x) (hx : x < m) (hy0 : 0 ≤ y) (hy : y < n) (hv : Inv m n v) :
    0 ≤ x + m * ((y - x) * v % n) ∧ x + m * ((y - x) * v % n) < m * n ∧ (x + m * ((y - x) * v % n)) % m = x ∧ (x + m * ((y - x) * v % n)) % n = y := by
  obtain ⟨v0, v1, hv⟩ := hv
  obtain ⟨t, ht⟩ : ∃ t, (y - x) * v % n = t := ⟨_, rfl⟩
  have t0 : 0 ≤ t := by rw [← ht]; exact Int.emod_nonneg _ (by omega)
  have t1 : t < n := by rw [← ht]; exact Int.emod_lt_of_pos _ (by omega)
  obtain ⟨e, he⟩ : ∃ e, (y - x) * v = t + n * e := ⟨(y - x) * v / n, by have := Int.emod_add_mul_ediv ((y - x) * v) n; omega⟩
  obtain ⟨d, hd⟩ := Int.dvd_of_emod_eq_zero hv
  rw [ht]
  refine ⟨?_, ?_, ?_, ?_⟩
  · have := Int.mul_nonneg (show 0 ≤ m by omega) t0; omega
  · have := Int.mul_le_mul_of_nonneg_left (show t ≤ n - 1 by omega) (show 0 ≤ m by omega)
    rw [Int.mul_sub] at this
    omega
  · rw [Int.add_mul_emod_self_left]; exact Int.emod_eq_of_lt hx0 hx
  · have e1 : x + m * t = y + n * ((y - x) * d - m * e) := by
      have e2 : m * t = m * ((y - x) * v) - m * (n * e) := by rw [he]; grind
      have e3 : m * ((y - x) * v) = (y - x) * (m * v - 1) + (y - x) := by grind
      rw [e2, e3, hd]
      grind
    rw [e1, Int.add_mul_emod_self_left]
    exact Int.emod_eq_of_lt hy0 hy
theorem sq_cong {a m x y : Int} (h : (x * x - a) % m = 0) (e : y % m = x % m) : (y * y - a) % m = 0 := by
  obtain ⟨d, hd⟩ := Int.dvd_of_emod_eq_zero h
  obtain ⟨k, hk⟩ : ∃ k, y = x + m * k := ⟨y / m - x / m, by
    have h1 := Int.emod_add_mul_ediv y m
    have h2 := Int.emod_add_mul_ediv x m
    rw [Int.mul_sub]
    omega⟩
  refine Int.emod_eq_zero_of_dvd ⟨d + 2 * x * k + m * k * k, ?_⟩
  rw [hk]
  grind
theorem cop_dvd {m n c : Int} (hg : Int.gcd m n = 1) (h1 : c % m = 0) (h2 : c % n = 0) : c % (m * n) = 0 := by
  obtain ⟨d, hd⟩ := Int.dvd_of_emod_eq_zero h1
  have h3 : d % n = 0 := cop_mul hg (by rw [← hd]; exact h2)
  obtain ⟨e, he⟩ := Int.dvd_of_emod_eq_zero h3
  exact Int.emod_eq_zero_of_dvd ⟨e, by rw [hd, he, Int.mul_assoc]⟩
/-! sums over pairs -/
theorem sumN_cat : ∀ (l : Nat) (k : Nat) (f : Nat → Nat), sumN (k + l) f = sumN k f + sumN l (fun j => f (k + j))
  | 0, k, f => rfl
  | l + 1, k, f => by
    show sumN (k + l) f + f (k + l) = sumN k f + (sumN l (fun j => f (k + j)) + f (k + l))
    rw [sumN_cat l k f]
    omega
theorem sumN_flat : ∀ (m n : Nat) (f : Nat → Nat), sumN (m * n) f = sumN m (fun i => sumN n (fun j => f (i * n + j)))
  | 0, n, f => by simp [sumN]
  | m + 1, n, f => by
    rw [Nat.succ_mul, sumN_cat]
    simp only [sumN]
    rw [sumN_flat m n f]
theorem sumN_mulr : ∀ (k c : Nat) (f : Nat → Nat), sumN k (fun i => f i * c) = sumN k f * c
  | 0, c, f => by simp [sumN]
  | k + 1, c, f => by simp only [sumN]; rw [sumN_mulr k c f, Nat.add_mul]
theorem sumN_mull : ∀ (k c : Nat) (f : Nat → Nat), sumN k (fun i => c * f i) = c * sumN k f
  | 0, c, f => by simp [sumN]
  | k + 1, c, f => by simp only [sumN]; rw [sumN_mull k c f, Nat.mul_add]
theorem filter_sum (P : Nat → Bool) : ∀ k : Nat, ((List.range k).filter P).length = sumN k (fun i => if P i = true then 1 else 0)
  | 0 => rfl
  | k + 1 => by
    rw [List.range_succ, List.filter_append, List.length_append, filter_sum P k]
    simp only [sumN]
    by_cases h : P k = true <;> simp [h]
/-- roots modulo m n are pairs of roots -/
theorem count_pairs {m n : Nat} (hm : 1 ≤ m) (hn : 1 ≤ n) (hg : Nat.gcd m n = 1) (P Q R : Nat → Bool) (h : ∀ z, z < m * n → (R z = true ↔ P (z % m) = true ∧ Q (z % n) = true)) :
    ((List.range (m * n)).filter R).length = ((List.range m).filter P).length * ((List.range n).filter Q).length := by
  rw [filter_sum, filter_sum, filter_sum]
  have lt1 : ∀ i, i < m * n → (i % m) * n + i % n < m * n := fun i _ => by
    have h1 := Nat.mod_lt i (show 0 < m by omega)
    have h2 := Nat.mod_lt i (show 0 < n by omega)
    have h3 := Nat.mul_le_mul_right n (show i % m + 1 ≤ m by omega)
    rw [Nat.succ_mul] at h3
    omega
  have e1 := sumN_perm (m * n) (fun z => (if P (z / n) = true then 1 else 0) * (if Q (z % n) = true then 1 else 0)) (fun z => (z % m) * n + z % n) lt1 (fun i j hi hj e => by
    have a1 := Nat.mod_lt i (show 0 < n by omega)
    have a2 := Nat.mod_lt j (show 0 < n by omega)
    have e2 : i % n = j % n := by
      have := congrArg (· % n) e
      simpa [Nat.mul_comm, Nat.mul_add_mod, Nat.mod_eq_of_lt a1, Nat.mod_eq_of_lt a2] using this
    have e3 : i % m = j % m := by
      have e' : i % m * n + i % n = j % m * n + j % n := e
      rw [e2] at e'
      exact Nat.eq_of_mul_eq_mul_right (show 0 < n by omega) (by omega)
    have d1 : (m : Int) ∣ (i : Int) - j := Int.dvd_of_emod_eq_zero (Int.emod_eq_emod_iff_emod_sub_eq_zero.1 (by exact_mod_cast e3))
    have d2 : (n : Int) ∣ (i : Int) - j := Int.dvd_of_emod_eq_zero (Int.emod_eq_emod_iff_emod_sub_eq_zero.1 (by exact_mod_cast e2))
    have d3 := cop_dvd (m := m) (n := n) (c := (i : Int) - j) (by simpa [Int.gcd] using hg) (Int.emod_eq_zero_of_dvd d1) (Int.emod_eq_zero_of_dvd d2)
    have hi' : (i : Int) < (m : Int) * n := by exact_mod_cast hi
    have hj' : (j : Int) < (m : Int) * n := by exact_mod_cast hj
    have := dvd_small d3 (by omega) (by omega)
    omega)
  have e4 : sumN (m * n) (fun z => if R z = true then 1 else 0) = sumN (m * n) (fun i => (if P (((i % m) * n + i % n) / n) = true then 1 else 0) * (if Q (((i % m) * n + i % n) % n) = true then 1 else 0)) := by
    refine sumN_congr _ fun z hz => ?_
    have a1 := Nat.mod_lt z (show 0 < n by omega)
    have b1 : (z % m * n + z % n) / n = z % m := by
      rw [Nat.add_comm, Nat.add_mul_div_right _ _ (show 0 < n by omega), Nat.div_eq_of_lt a1, Nat.zero_add]
    have b2 : (z % m * n + z % n) % n = z % n := by
      rw [Nat.add_comm, Nat.add_mul_mod_self_right, Nat.mod_mod]
    rw [b1, b2]
    have := h z hz
    cases hP : P (z % m) <;> cases hQ : Q (z % n) <;> cases hR : R z <;> simp_all
  rw [e4, e1, sumN_flat, ← sumN_mulr]
  refine sumN_congr _ fun i hi => ?_
  rw [← sumN_mull]
  refine sumN_congr _ fun j hj => ?_
  have b1 : (i * n + j) / n = i := by
    rw [Nat.add_comm, Nat.add_mul_div_right _ _ (show 0 < n by omega), Nat.div_eq_of_lt hj, Nat.zero_add]
  have b2 : (i * n + j) % n = j := by
    rw [Nat.add_comm, Nat.add_mul_mod_self_right, Nat.mod_eq_of_lt hj]
  rw [b1, b2]
end Go.Proofs.Ytiblpagbloflhaa
