/- Plain: the sign of the multiplication by a on the residues modulo an odd n, counted by cycles, is the sign of the count of Gauss (Zolotarev). No program in sight. -/
import Derived.Test.YtiblpagbloflhaaZG
namespace Go.Proofs.Ytiblpagbloflhaa
set_option linter.unusedVariables false
open Classical

/-! cycles of a permutation of 0..N-1 -/
structure Prm (N : Nat) (σ : Nat → Nat) : Prop where
  to : ∀ i, i < N → σ i < N
  inj : ∀ i j, i < N → j < N → σ i = σ j → i = j
def pit (σ : Nat → Nat) : Nat → Nat → Nat
  | 0, x => x
  | k + 1, x => σ (pit σ k x)
theorem pit_add (σ : Nat → Nat) (j x : Nat) : ∀ i, pit σ (i + j) x = pit σ i (pit σ j x)
  | 0 => by rw [Nat.zero_add]; rfl
  | i + 1 => by rw [Nat.add_right_comm]; show σ (pit σ (i + j) x) = σ (pit σ i (pit σ j x)); rw [pit_add σ j x i]
theorem pit_one (σ : Nat → Nat) (x : Nat) : pit σ 1 x = σ x := rfl
section
variable {N : Nat} {σ : Nat → Nat} (H : Prm N σ)
include H
theorem pit_lt {x : Nat} (hx : x < N) : ∀ k, pit σ k x < N
  | 0 => hx
  | k + 1 => H.to _ (pit_lt hx k)
theorem pit_inj {x y : Nat} (hx : x < N) (hy : y < N) : ∀ k, pit σ k x = pit σ k y → x = y
  | 0, h => h
  | k + 1, h => pit_inj hx hy k (H.inj _ _ (pit_lt H hx k) (pit_lt H hy k) h)
end
theorem pigeonN : ∀ (n : Nat) (g : Nat → Nat), (∀ i, i ≤ n → g i < n) → ∃ i j, i < j ∧ j ≤ n ∧ g i = g j
  | 0, g, h => absurd (h 0 (Nat.le_refl _)) (by omega)
  | n + 1, g, h => by
    by_cases hc : ∃ i, i ≤ n ∧ g i = g (n + 1)
    · obtain ⟨i, hi, e⟩ := hc
      exact ⟨i, n + 1, by omega, Nat.le_refl _, e⟩
    · have hne : ∀ i, i ≤ n → g i ≠ g (n + 1) := fun i hi e => hc ⟨i, hi, e⟩
      obtain ⟨i, j, h1, h2, h3⟩ := pigeonN n (fun i => if g i = n then g (n + 1) else g i) (fun i hi => by
        show (if g i = n then g (n + 1) else g i) < n
        have a1 := h i (by omega)
        have a2 := h (n + 1) (Nat.le_refl _)
        have a3 := hne i hi
        split <;> omega)
      refine ⟨i, j, h1, by omega, ?_⟩
      have h3 : (if g i = n then g (n + 1) else g i) = (if g j = n then g (n + 1) else g j) := h3
      have a1 := hne i (by omega)
      have a2 := hne j (by omega)
      split at h3 <;> split at h3 <;> omega
section
variable {N : Nat} {σ : Nat → Nat} (H : Prm N σ)
include H
theorem per_exN {x : Nat} (hx : x < N) : ∃ p, 1 ≤ p ∧ p ≤ N ∧ pit σ p x = x := by
  obtain ⟨i, j, h1, h2, h3⟩ := pigeonN N (fun i => pit σ i x) (fun i _ => pit_lt H hx i)
  refine ⟨j - i, by omega, by omega, ?_⟩
  have e : pit σ i (pit σ (j - i) x) = pit σ i x := by
    rw [← pit_add, show i + (j - i) = j by omega]; exact h3.symm
  exact pit_inj H (pit_lt H hx _) hx i e
end
theorem least_ex {P : Nat → Prop} : ∀ (n : Nat), P n → ∃ m, P m ∧ m ≤ n ∧ ∀ i, i < m → ¬ P i
  | 0, h => ⟨0, h, Nat.le_refl _, fun i hi => by omega⟩
  | n + 1, h => by
    by_cases hc : ∃ i, i ≤ n ∧ P i
    · obtain ⟨i, hi, hp⟩ := hc
      have key : ∀ (k i : Nat), i ≤ k → P i → ∃ m, P m ∧ m ≤ i ∧ ∀ j, j < m → ¬ P j := by
        intro k
        induction k with
        | zero => intro i hi hp; exact ⟨i, hp, Nat.le_refl _, fun j hj => by omega⟩
        | succ k ih =>
          intro i hi hp
          by_cases hd : ∃ j, j < i ∧ P j
          · obtain ⟨j, hj, hpj⟩ := hd
            obtain ⟨m, m1, m2, m3⟩ := ih j (by omega) hpj
            exact ⟨m, m1, by omega, m3⟩
          · exact ⟨i, hp, Nat.le_refl _, fun j hj hpj => hd ⟨j, hj, hpj⟩⟩
      obtain ⟨m, m1, m2, m3⟩ := key n i hi hp
      exact ⟨m, m1, by omega, m3⟩
    · exact ⟨n + 1, h, Nat.le_refl _, fun i hi hp => hc ⟨i, by omega, hp⟩⟩
/-- the length of a cycle -/
def IsOrd (σ : Nat → Nat) (x p : Nat) : Prop := (1 ≤ p ∧ pit σ p x = x) ∧ ∀ i, i < p → ¬ (1 ≤ i ∧ pit σ i x = x)
noncomputable def ordN (σ : Nat → Nat) (x : Nat) : Nat := if h : ∃ p, IsOrd σ x p then h.choose else 0
/-- the least element of a cycle -/
def IsLead (σ : Nat → Nat) (x m : Nat) : Prop := (∃ i, pit σ i x = m) ∧ ∀ i, i < m → ¬ ∃ j, pit σ j x = i
theorem lead_ex (σ : Nat → Nat) (x : Nat) : ∃ m, IsLead σ x m := by
  obtain ⟨m, h1, _, h2⟩ := least_ex (P := fun m => ∃ i, pit σ i x = m) x ⟨0, rfl⟩
  exact ⟨m, h1, h2⟩
noncomputable def leadN (σ : Nat → Nat) (x : Nat) : Nat := (lead_ex σ x).choose
theorem leadN_spec (σ : Nat → Nat) (x : Nat) : IsLead σ x (leadN σ x) := (lead_ex σ x).choose_spec
theorem lead_le (σ : Nat → Nat) (x i : Nat) : leadN σ x ≤ pit σ i x :=
  Nat.not_lt.1 fun h => (leadN_spec σ x).2 _ h ⟨i, rfl⟩
theorem lead_self (σ : Nat → Nat) (x : Nat) : leadN σ x ≤ x := lead_le σ x 0
theorem lead_lt' {N : Nat} (σ : Nat → Nat) {x : Nat} (hx : x < N) : leadN σ x < N := Nat.lt_of_le_of_lt (lead_self σ x) hx
section
variable {N : Nat} {σ : Nat → Nat} (H : Prm N σ)
include H
theorem ord_spec {x : Nat} (hx : x < N) : IsOrd σ x (ordN σ x) := by
  obtain ⟨p, h1, _, h3⟩ := per_exN H hx
  obtain ⟨m, m1, _, m2⟩ := least_ex (P := fun p => 1 ≤ p ∧ pit σ p x = x) p ⟨h1, h3⟩
  have hex : ∃ p, IsOrd σ x p := ⟨m, m1, m2⟩
  unfold ordN
  rw [dif_pos hex]
  exact hex.choose_spec
theorem ord_pos {x : Nat} (hx : x < N) : 1 ≤ ordN σ x := (ord_spec H hx).1.1
theorem ord_back {x : Nat} (hx : x < N) : pit σ (ordN σ x) x = x := (ord_spec H hx).1.2
theorem ord_min {x i : Nat} (hx : x < N) (h1 : 1 ≤ i) (h : pit σ i x = x) : ordN σ x ≤ i :=
  Nat.not_lt.1 fun hc => (ord_spec H hx).2 i hc ⟨h1, h⟩
theorem ord_le {x : Nat} (hx : x < N) : ordN σ x ≤ N := by
  obtain ⟨p, h1, h2, h3⟩ := per_exN H hx
  have := ord_min H hx h1 h3
  omega
theorem ord_eq {x y : Nat} (hx : x < N) (hy : y < N) (h : ∀ i, pit σ i x = x ↔ pit σ i y = y) : ordN σ x = ordN σ y := by
  have h1 := ord_min H hx (ord_pos H hy) ((h _).2 (ord_back H hy))
  have h2 := ord_min H hy (ord_pos H hx) ((h _).1 (ord_back H hx))
  omega
theorem pit_dist {x i j : Nat} (hx : x < N) (hi : i < ordN σ x) (hj : j < ordN σ x) (e : pit σ i x = pit σ j x) : i = j := by
  rcases Nat.lt_trichotomy i j with h | h | h
  · have e2 : pit σ i (pit σ (j - i) x) = pit σ i x := by rw [← pit_add, show i + (j - i) = j by omega]; exact e.symm
    have := ord_min H hx (i := j - i) (by omega) (pit_inj H (pit_lt H hx _) hx i e2)
    omega
  · exact h
  · have e2 : pit σ j (pit σ (i - j) x) = pit σ j x := by rw [← pit_add, show j + (i - j) = i by omega]; exact e
    have := ord_min H hx (i := i - j) (by omega) (pit_inj H (pit_lt H hx _) hx j e2)
    omega
theorem pit_small {x : Nat} (hx : x < N) : ∀ i, ∃ j, j < ordN σ x ∧ pit σ j x = pit σ i x
  | 0 => ⟨0, ord_pos H hx, rfl⟩
  | i + 1 => by
    obtain ⟨j, h1, h2⟩ := pit_small hx i
    by_cases hc : j + 1 < ordN σ x
    · exact ⟨j + 1, hc, by show σ (pit σ j x) = σ (pit σ i x); rw [h2]⟩
    · refine ⟨0, ord_pos H hx, ?_⟩
      show x = σ (pit σ i x)
      rw [← h2]
      have : pit σ (j + 1) x = x := by rw [show j + 1 = ordN σ x by omega]; exact ord_back H hx
      exact this.symm
theorem reach_back {x i : Nat} (hx : x < N) : ∃ j, pit σ j (pit σ i x) = x := by
  obtain ⟨j, h1, h2⟩ := pit_small H hx i
  refine ⟨ordN σ x - j, ?_⟩
  rw [← h2, ← pit_add, show ordN σ x - j + j = ordN σ x by omega]
  exact ord_back H hx
theorem lead_reach {x i : Nat} (hx : x < N) : leadN σ (pit σ i x) = leadN σ x := by
  obtain ⟨j, hj⟩ := reach_back (i := i) H hx
  obtain ⟨k, hk⟩ := (leadN_spec σ x).1
  obtain ⟨l, hl⟩ := (leadN_spec σ (pit σ i x)).1
  have h1 := lead_le σ (pit σ i x) (k + j)
  rw [pit_add, hj, hk] at h1
  have h2 := lead_le σ x (l + i)
  rw [pit_add, hl] at h2
  omega
theorem lead_lead {x : Nat} (hx : x < N) : leadN σ (leadN σ x) = leadN σ x := by
  obtain ⟨k, hk⟩ := (leadN_spec σ x).1
  conv => lhs; rw [← hk]
  exact lead_reach H hx
/-- the elements of a cycle -/
theorem lead_iff {x k : Nat} (hx : x < N) (hk : k < N) (hl : leadN σ k = k) : leadN σ x = k ↔ ∃ i, i < ordN σ k ∧ pit σ i k = x := by
  constructor
  · intro h
    obtain ⟨i, hi⟩ := (leadN_spec σ x).1
    rw [h] at hi
    obtain ⟨j, hj⟩ := reach_back (i := i) H hx
    rw [hi] at hj
    obtain ⟨l, h1, h2⟩ := pit_small H hk j
    exact ⟨l, h1, by rw [h2, hj]⟩
  · rintro ⟨i, _, rfl⟩
    rw [lead_reach H hk, hl]
end
/-! the cycles' walk: what has been seen -/
def SeenN (σ : Nat → Nat) (k j x : Nat) : Prop := leadN σ x < k ∨ ∃ i, i < j ∧ pit σ i k = x
/-- the number of steps inside the cycles with leaders below k -/
noncomputable def stepsN (σ : Nat → Nat) (k : Nat) : Nat := sumN k (fun k => if leadN σ k = k then ordN σ k - 1 else 0)
theorem seen_zero {σ : Nat → Nat} {k x : Nat} : SeenN σ k 0 x ↔ leadN σ x < k := by
  unfold SeenN
  constructor
  · rintro (h | ⟨i, h, _⟩)
    · exact h
    · omega
  · exact .inl
theorem seen_succ {σ : Nat → Nat} {k j x : Nat} : SeenN σ k (j + 1) x ↔ SeenN σ k j x ∨ x = pit σ j k := by
  unfold SeenN
  constructor
  · rintro (h | ⟨i, h, e⟩)
    · exact .inl (.inl h)
    · by_cases hc : i = j
      · subst hc; exact .inr e.symm
      · exact .inl (.inr ⟨i, by omega, e⟩)
  · rintro ((h | ⟨i, h, e⟩) | h)
    · exact .inl h
    · exact .inr ⟨i, by omega, e⟩
    · exact .inr ⟨j, by omega, h.symm⟩
section
variable {N : Nat} {σ : Nat → Nat} (H : Prm N σ)
include H
theorem seen_skip {k x : Nat} (hk : k < N) (hx : x < N) (h : leadN σ k ≠ k) : SeenN σ k 0 k ∧ (SeenN σ k 0 x ↔ SeenN σ (k + 1) 0 x) := by
  refine ⟨seen_zero.2 (by have := lead_self σ k; omega), ?_⟩
  rw [seen_zero, seen_zero]
  constructor
  · intro h1; omega
  · intro h1
    have : leadN σ x ≠ k := fun e => by
      have := lead_lead H hx
      rw [e] at this
      exact h this
    omega
theorem seen_not {k j : Nat} (hk : k < N) (h : leadN σ k = k) (hj : j < ordN σ k) : ¬ SeenN σ k j (pit σ j k) := by
  rintro (h1 | ⟨i, h1, e⟩)
  · rw [lead_reach H hk, h] at h1; omega
  · have := pit_dist H hk (show i < ordN σ k by omega) hj e; omega
theorem seen_end {k : Nat} (hk : k < N) : SeenN σ k (ordN σ k) (pit σ (ordN σ k) k) :=
  .inr ⟨0, ord_pos H hk, by rw [ord_back H hk]; rfl⟩
theorem seen_next {k x : Nat} (hk : k < N) (hx : x < N) (h : leadN σ k = k) : SeenN σ k (ordN σ k) x ↔ SeenN σ (k + 1) 0 x := by
  rw [seen_zero]
  constructor
  · rintro (h1 | ⟨i, _, rfl⟩)
    · omega
    · rw [lead_reach H hk, h]; omega
  · intro h1
    by_cases hc : leadN σ x = k
    · exact .inr ((lead_iff H hx hk h).1 hc)
    · exact .inl (by omega)
end
theorem steps_succ (σ : Nat → Nat) (k : Nat) : stepsN σ (k + 1) = stepsN σ k + if leadN σ k = k then ordN σ k - 1 else 0 := rfl

/-! sums over cycles -/
theorem sumN_first : ∀ (k : Nat) (f : Nat → Nat), sumN (k + 1) f = f 0 + sumN k (fun i => f (i + 1))
  | 0, f => by simp [sumN]
  | k + 1, f => by
    rw [sumN, sumN_first k f]
    simp only [sumN]
    omega
theorem sumN_app (k : Nat) (f : Nat → Nat) : ∀ (l : Nat), sumN (k + l) f = sumN k f + sumN l (fun i => f (k + i))
  | 0 => by simp [sumN]
  | l + 1 => by rw [← Nat.add_assoc]; simp only [sumN]; rw [sumN_app k f l]; omega
theorem sumN_list {N : Nat} (f u : Nat → Nat) : ∀ (L : Nat), (∀ i, i < L → u i < N) → (∀ i j, i < L → j < L → u i = u j → i = j) →
    sumN N (fun x => if ∃ i, i < L ∧ u i = x then f x else 0) = sumN L (fun i => f (u i))
  | 0, _, _ => by
    rw [sumN_congr N (g := fun _ => 0) (fun x _ => by show (if _ then _ else _) = _; rw [if_neg (by rintro ⟨i, h, _⟩; omega)]), sumN_zero]
    rfl
  | L + 1, h1, h2 => by
    have e := sumN_list f u L (fun i h => h1 i (by omega)) (fun i j a b => h2 i j (by omega) (by omega))
    have e2 := sumN_upd N (u L) (fun x => if ∃ i, i < L ∧ u i = x then f x else 0) (f (u L)) (h1 L (by omega))
    have e3 : (if ∃ i, i < L ∧ u i = u L then f (u L) else 0) = 0 := if_neg (by
      rintro ⟨i, hi, e⟩
      have := h2 i L (by omega) (by omega) e
      omega)
    have e4 : sumN N (fun x => if ∃ i, i < L + 1 ∧ u i = x then f x else 0) = sumN N (fun i => if i = u L then f (u L) else (fun x => if ∃ i, i < L ∧ u i = x then f x else 0) i) := by
      refine sumN_congr N fun x _ => ?_
      show (if ∃ i, i < L + 1 ∧ u i = x then f x else 0) = if x = u L then f (u L) else if ∃ i, i < L ∧ u i = x then f x else 0
      by_cases hx : x = u L
      · rw [if_pos hx, hx, if_pos ⟨L, by omega, rfl⟩]
      · rw [if_neg hx]
        by_cases hc : ∃ i, i < L ∧ u i = x
        · obtain ⟨i, a, b⟩ := hc
          rw [if_pos ⟨i, by omega, b⟩, if_pos ⟨i, a, b⟩]
        · rw [if_neg hc, if_neg]
          rintro ⟨i, a, b⟩
          by_cases hi : i = L
          · subst hi; exact hx b.symm
          · exact hc ⟨i, by omega, b⟩
    simp only [sumN]
    rw [e4, ← e]
    have e2' : sumN N (fun i => if i = u L then f (u L) else (fun x => if ∃ i, i < L ∧ u i = x then f x else 0) i) + (if ∃ i, i < L ∧ u i = u L then f (u L) else 0) = sumN N (fun x => if ∃ i, i < L ∧ u i = x then f x else 0) + f (u L) := e2
    rw [e3] at e2'
    omega
noncomputable def orbN (σ : Nat → Nat) (f : Nat → Nat) (x : Nat) : Nat := sumN (ordN σ x) (fun i => f (pit σ i x))
section
variable {N : Nat} {σ : Nat → Nat} (H : Prm N σ)
include H
theorem sum_below (f : Nat → Nat) : ∀ (k : Nat), k ≤ N → sumN N (fun x => if leadN σ x < k then f x else 0) = sumN k (fun k => if leadN σ k = k then orbN σ f k else 0)
  | 0, _ => by
    rw [sumN_congr N (g := fun _ => 0) (fun x _ => by show (if _ then _ else _) = _; rw [if_neg (by omega)]), sumN_zero]
    rfl
  | k + 1, hk => by
    simp only [sumN]
    rw [← sum_below f k (by omega)]
    have e : sumN N (fun x => if leadN σ x < k + 1 then f x else 0) = sumN N (fun x => if leadN σ x < k then f x else 0) + sumN N (fun x => if leadN σ x = k then f x else 0) := by
      rw [← sumN_add]
      refine sumN_congr N fun x _ => ?_
      show (if leadN σ x < k + 1 then f x else 0) = (if leadN σ x < k then f x else 0) + (if leadN σ x = k then f x else 0)
      by_cases h1 : leadN σ x < k
      · rw [if_pos h1, if_pos (by omega), if_neg (by omega)]; rfl
      · by_cases h2 : leadN σ x = k
        · rw [if_neg h1, if_pos (by omega), if_pos h2, Nat.zero_add]
        · rw [if_neg h1, if_neg (by omega), if_neg h2]
    rw [e]
    congr 1
    by_cases hl : leadN σ k = k
    · rw [if_pos hl]
      unfold orbN
      rw [← sumN_list (N := N) f (fun i => pit σ i k) (ordN σ k) (fun i _ => pit_lt H (by omega) i) (fun i j h1 h2 e => pit_dist H (by omega) h1 h2 e)]
      refine sumN_congr N fun x hx => ?_
      show (if leadN σ x = k then f x else 0) = (if ∃ i, i < ordN σ k ∧ pit σ i k = x then f x else 0)
      have := lead_iff H hx (show k < N by omega) hl
      by_cases hc : leadN σ x = k
      · rw [if_pos hc, if_pos (this.1 hc)]
      · rw [if_neg hc, if_neg (fun e => hc (this.2 e))]
    · rw [if_neg hl, sumN_congr N (g := fun _ => 0) (fun x hx => by
        show (if leadN σ x = k then f x else 0) = 0
        rw [if_neg]
        intro e
        have := lead_lead H hx
        rw [e] at this
        exact hl this), sumN_zero]
theorem sum_cycles (f : Nat → Nat) : sumN N f = sumN N (fun k => if leadN σ k = k then orbN σ f k else 0) := by
  rw [← sum_below H f N (Nat.le_refl _)]
  refine sumN_congr N fun x hx => ?_
  show f x = if leadN σ x < N then f x else 0
  rw [if_pos (lead_lt' σ hx)]
theorem ord_reach {x : Nat} (hx : x < N) (i : Nat) : ordN σ (pit σ i x) = ordN σ x := by
  refine ord_eq H (pit_lt H hx i) hx fun j => ?_
  rw [← pit_add, Nat.add_comm, pit_add]
  exact ⟨fun e => pit_inj H (pit_lt H hx _) hx i e, fun e => by rw [e]⟩
theorem orb_shift (f : Nat → Nat) {x : Nat} (hx : x < N) : sumN (ordN σ x) (fun i => f (pit σ (i + 1) x)) = orbN σ f x := by
  have h1 := sumN_first (ordN σ x) (fun i => f (pit σ i x))
  simp only [sumN] at h1
  rw [ord_back H hx] at h1
  have h2 : f (pit σ 0 x) = f x := rfl
  unfold orbN
  omega
theorem orb_next (f : Nat → Nat) {x : Nat} (hx : x < N) : orbN σ f (σ x) = orbN σ f x := by
  rw [← orb_shift H f hx]
  unfold orbN
  have := ord_reach H hx 1
  rw [pit_one] at this
  rw [this]
  refine sumN_congr _ fun i _ => ?_
  show f (pit σ i (σ x)) = f (pit σ (i + 1) x)
  rw [pit_add]; rfl
theorem orb_reach (f : Nat → Nat) {x : Nat} (hx : x < N) : ∀ i, orbN σ f (pit σ i x) = orbN σ f x
  | 0 => rfl
  | i + 1 => by
    show orbN σ f (σ (pit σ i x)) = _
    rw [orb_next H f (pit_lt H hx i), orb_reach f hx i]
theorem orb_lead (f : Nat → Nat) {x : Nat} (hx : x < N) : orbN σ f (leadN σ x) = orbN σ f x ∧ ordN σ (leadN σ x) = ordN σ x := by
  obtain ⟨i, hi⟩ := (leadN_spec σ x).1
  rw [← hi]
  exact ⟨orb_reach H f hx i, ord_reach H hx i⟩
end
/-- an involution: values that are the same at both ends of a pair and even at the fixed points have an even sum -/
theorem sum_pairs {N : Nat} (ι d : Nat → Nat) (h1 : ∀ k, k < N → ι k < N) (h2 : ∀ k, k < N → ι (ι k) = k) (h3 : ∀ k, k < N → d (ι k) = d k) (h4 : ∀ k, k < N → ι k = k → d k % 2 = 0) : sumN N d % 2 = 0 := by
  have e1 : sumN N d % 2 = sumN N (fun k => (if k < ι k then d k else 0) + (if ι k < k then d k else 0)) % 2 := by
    refine sumN_mod2 N fun k hk => ?_
    show d k % 2 = ((if k < ι k then d k else 0) + (if ι k < k then d k else 0)) % 2
    have := h4 k hk
    by_cases a : k < ι k
    · rw [if_pos a, if_neg (by omega)]; rfl
    · by_cases b : ι k < k
      · rw [if_neg a, if_pos b, Nat.zero_add]
      · rw [if_neg a, if_neg b]; exact this (by omega)
  have e2 := sumN_perm N (fun k => if k < ι k then d k else 0) ι h1 (fun i j hi hj e => by
    have a := h2 i hi
    rw [e, h2 j hj] at a
    exact a.symm)
  have e3 : sumN N (fun k => if ι k < k then d k else 0) = sumN N (fun i => (fun k => if k < ι k then d k else 0) (ι i)) := by
    refine sumN_congr N fun k hk => ?_
    show (if ι k < k then d k else 0) = if ι k < ι (ι k) then d (ι k) else 0
    rw [h2 k hk, h3 k hk]
  rw [e1, sumN_add, e3, e2]
  omega

/-! the permutation of the residues -/
def mulP (h : Nat) (a : Int) (x : Nat) : Nat := (a * x % (2 * h + 1)).toNat
def negP (h x : Nat) : Nat := if x = 0 then 0 else 2 * h + 1 - x
def uP (h x : Nat) : Nat := if x ≤ h then 1 else 0
def psiP (h : Nat) (σ : Nat → Nat) (x : Nat) : Nat := if x ≤ h ∧ h < σ x then 1 else 0
theorem mulP_eq (h : Nat) (a : Int) (x : Nat) : (mulP h a x : Int) = a * x % (2 * h + 1) := by
  have := hmod h (a * x)
  unfold mulP; omega
theorem mulP_prm {h : Nat} {a : Int} (hg : Int.gcd a (2 * h + 1) = 1) : Prm (2 * h + 1) (mulP h a) where
  to i _ := by have := hmod h (a * i); unfold mulP; omega
  inj i j hi hj e := by
    have e1 := mulP_eq h a i
    have e2 := mulP_eq h a j
    rw [e, e2] at e1
    have e3 : (a * ((i : Int) - j)) % (2 * h + 1) = 0 := by
      rw [Int.mul_sub]
      exact Int.emod_eq_emod_iff_emod_sub_eq_zero.1 e1.symm
    have := dvd_small (cop_mul hg e3) (by omega) (by omega)
    omega
theorem mulP_zero (h : Nat) (a : Int) : mulP h a 0 = 0 := by
  unfold mulP; simp
theorem mulP_neg {h : Nat} {a : Int} (hg : Int.gcd a (2 * h + 1) = 1) {x : Nat} (hx : x < 2 * h + 1) : mulP h a (negP h x) = negP h (mulP h a x) := by
  by_cases h0 : x = 0
  · subst h0
    have : negP h 0 = 0 := rfl
    rw [this, mulP_zero]; rfl
  · have hm : (a * (x : Int)) % (2 * h + 1) ≠ 0 := fun e => by
      have := cop_mul hg e
      rw [Int.emod_eq_of_lt (by omega) (by omega)] at this
      omega
    have hm2 := mulP_eq h a x
    have h1 : ((negP h x : Nat) : Int) = 2 * h + 1 - x := by unfold negP; rw [if_neg h0]; omega
    have e1 := mulP_eq h a (negP h x)
    have e3 : a * ((2 * (h : Int) + 1) - x) = -(a * x) + (2 * h + 1) * a := by rw [Int.mul_sub, Int.mul_comm a (2 * h + 1)]; omega
    rw [h1, e3, Int.add_mul_emod_self_left, mod_neg' hm] at e1
    have h2 : negP h (mulP h a x) = 2 * h + 1 - mulP h a x := by unfold negP; rw [if_neg (by omega)]
    rw [h2]
    omega
theorem negP_neg {h x : Nat} (hx : x < 2 * h + 1) : negP h (negP h x) = x ∧ negP h x < 2 * h + 1 := by
  by_cases h0 : x = 0
  · subst h0; exact ⟨rfl, by show 0 < 2 * h + 1; omega⟩
  · have e : negP h x = 2 * h + 1 - x := by unfold negP; rw [if_neg h0]
    rw [e]
    refine ⟨?_, by omega⟩
    unfold negP
    rw [if_neg (by omega)]
    omega
theorem gauss_psi {h : Nat} {a : Int} (hg : Int.gcd a (2 * h + 1) = 1) : gauss h a = sumN (2 * h + 1) (psiP h (mulP h a)) := by
  rw [show 2 * h + 1 = (h + 1) + h by omega, sumN_app, sumN_first]
  have e0 : psiP h (mulP h a) 0 = 0 := by unfold psiP; rw [mulP_zero, if_neg (by omega)]
  have e1 : sumN h (fun i => psiP h (mulP h a) (h + 1 + i)) = 0 := by
    rw [sumN_congr h (g := fun _ => 0) (fun i _ => by show psiP h (mulP h a) (h + 1 + i) = 0; unfold psiP; rw [if_neg (by omega)]), sumN_zero]
  rw [e0, e1, Nat.zero_add, Nat.add_zero]
  unfold gauss
  refine sumN_congr h fun i hi => ?_
  show hng h (a * (i + 1 : Nat)) = psiP h (mulP h a) (i + 1)
  have := mulP_eq h a (i + 1)
  unfold hng psiP
  by_cases hc : a * (i + 1 : Nat) % (2 * h + 1) ≤ h
  · rw [if_pos hc, if_neg (by omega)]
  · rw [if_neg hc, if_pos (by omega)]
theorem pit_negA {h : Nat} {σ : Nat → Nat} (H : Prm (2 * h + 1) σ) (hn : ∀ x, x < 2 * h + 1 → σ (negP h x) = negP h (σ x)) {x : Nat} (hx : x < 2 * h + 1) : ∀ i, pit σ i (negP h x) = negP h (pit σ i x)
  | 0 => rfl
  | i + 1 => by
    show σ (pit σ i (negP h x)) = negP h (σ (pit σ i x))
    rw [pit_negA H hn hx i, hn _ (pit_lt H hx i)]
theorem pit_zeroA {σ : Nat → Nat} (h0 : σ 0 = 0) : ∀ i, pit σ i 0 = 0
  | 0 => rfl
  | i + 1 => by show σ (pit σ i 0) = 0; rw [pit_zeroA h0 i, h0]
theorem teleA (h : Nat) (σ : Nat → Nat) (x : Nat) : ∀ m, (sumN m (fun i => uP h (pit σ i x) + uP h (pit σ (i + 1) x)) + uP h x + uP h (pit σ m x)) % 2 = 0
  | 0 => by show (0 + uP h x + uP h x) % 2 = 0; omega
  | m + 1 => by
    have := teleA h σ x m
    simp only [sumN]
    omega
structure SymP (h : Nat) (σ : Nat → Nat) : Prop where
  prm : Prm (2 * h + 1) σ
  zero : σ 0 = 0
  neg : ∀ x, x < 2 * h + 1 → σ (negP h x) = negP h (σ x)
section
variable {h : Nat} {σ : Nat → Nat} (S : SymP h σ)
include S
theorem pit_ne {x : Nat} (hx : x < 2 * h + 1) (hne : x ≠ 0) (i : Nat) : pit σ i x ≠ 0 := fun e =>
  hne (pit_inj S.prm hx (by omega) i (by rw [e, pit_zeroA S.zero i]))
theorem ord_neg {x : Nat} (hx : x < 2 * h + 1) : ordN σ (negP h x) = ordN σ x := by
  refine ord_eq S.prm (negP_neg hx).2 hx fun i => ?_
  rw [pit_negA S.prm S.neg hx]
  constructor
  · intro e
    have e2 : negP h (negP h (pit σ i x)) = negP h (negP h x) := by rw [e]
    rw [(negP_neg (pit_lt S.prm hx i)).1, (negP_neg hx).1] at e2
    exact e2
  · intro e; rw [e]
theorem psi_neg {x : Nat} (hx : x < 2 * h + 1) (hne : x ≠ 0) : psiP h σ (negP h x) + uP h x = psiP h σ x + uP h (σ x) := by
  have h1 := S.prm.to x hx
  have h2 : σ x ≠ 0 := fun e => hne (S.prm.inj _ _ hx (by omega) (by rw [e, S.zero]))
  unfold psiP uP
  rw [S.neg x hx]
  unfold negP
  rw [if_neg hne, if_neg h2]
  split <;> split <;> split <;> split <;> omega
theorem orb_neg {x : Nat} (hx : x < 2 * h + 1) : orbN σ (psiP h σ) (negP h x) = orbN σ (psiP h σ) x := by
  by_cases hne : x = 0
  · subst hne; rfl
  · have e1 : sumN (ordN σ x) (fun i => psiP h σ (negP h (pit σ i x)) + uP h (pit σ i x)) = sumN (ordN σ x) (fun i => psiP h σ (pit σ i x) + uP h (pit σ (i + 1) x)) :=
      sumN_congr _ fun i _ => psi_neg S (pit_lt S.prm hx i) (pit_ne S hx hne i)
    rw [sumN_add, sumN_add, orb_shift S.prm (uP h) hx] at e1
    have e2 : orbN σ (psiP h σ) (negP h x) = sumN (ordN σ x) (fun i => psiP h σ (negP h (pit σ i x))) := by
      unfold orbN
      rw [ord_neg S hx]
      exact sumN_congr _ fun i _ => by rw [pit_negA S.prm S.neg hx]
    have e3 : orbN σ (uP h) x = sumN (ordN σ x) (fun i => uP h (pit σ i x)) := rfl
    have e4 : orbN σ (psiP h σ) x = sumN (ordN σ x) (fun i => psiP h σ (pit σ i x)) := rfl
    omega
/-- a cycle that holds the negative of its leader -/
theorem orb_self {k : Nat} (hk : k < 2 * h + 1) (hne : k ≠ 0) (hl : leadN σ (negP h k) = k) : (ordN σ k - 1 + orbN σ (psiP h σ) k) % 2 = 0 := by
  have hnk := (negP_neg hk).2
  obtain ⟨i, hi⟩ := (leadN_spec σ (negP h k)).1
  rw [hl] at hi
  obtain ⟨j, hj⟩ := reach_back (i := i) S.prm hnk
  rw [hi] at hj
  obtain ⟨m, hm1, hm2⟩ := pit_small S.prm hk j
  rw [hj] at hm2
  have hnn : negP h k ≠ k := by unfold negP; rw [if_neg hne]; omega
  have hm0 : m ≠ 0 := fun e => by subst e; exact hnn hm2.symm
  have h2m : pit σ (m + m) k = k := by rw [pit_add, hm2, pit_negA S.prm S.neg hk, hm2, (negP_neg hk).1]
  have hL : ordN σ k = m + m := by
    have a1 := ord_min S.prm hk (show 1 ≤ m + m by omega) h2m
    by_cases hc : m + m = ordN σ k
    · exact hc.symm
    · have e1 : pit σ (m + m - ordN σ k) k = k := by
        have : pit σ (m + m - ordN σ k + ordN σ k) k = k := by rw [show m + m - ordN σ k + ordN σ k = m + m by omega]; exact h2m
        rw [pit_add, ord_back S.prm hk] at this
        exact this
      have := ord_min S.prm hk (show 1 ≤ m + m - ordN σ k by omega) e1
      omega
  have e1 : orbN σ (psiP h σ) k % 2 = sumN m (fun i => uP h (pit σ i k) + uP h (pit σ (i + 1) k)) % 2 := by
    unfold orbN
    rw [hL, sumN_app, ← sumN_add]
    refine sumN_mod2 m fun i hi => ?_
    show (psiP h σ (pit σ i k) + psiP h σ (pit σ (m + i) k)) % 2 = (uP h (pit σ i k) + uP h (pit σ (i + 1) k)) % 2
    rw [Nat.add_comm m i, pit_add, hm2, pit_negA S.prm S.neg hk]
    have := psi_neg S (pit_lt S.prm hk i) (pit_ne S hk hne i)
    have e : pit σ (i + 1) k = σ (pit σ i k) := rfl
    rw [e]
    omega
  have e2 := teleA h σ k m
  rw [hm2] at e2
  have e3 : uP h k + uP h (negP h k) = 1 := by
    unfold uP negP
    rw [if_neg hne]
    split <;> split <;> omega
  omega
theorem zolo : (stepsN σ (2 * h + 1) + sumN (2 * h + 1) (psiP h σ)) % 2 = 0 := by
  rw [sum_cycles S.prm (psiP h σ)]
  unfold stepsN
  rw [← sumN_add]
  refine sum_pairs (fun k => if leadN σ k = k then leadN σ (negP h k) else k) _ (fun k hk => ?_) (fun k hk => ?_) (fun k hk => ?_) (fun k hk hf => ?_)
  · show (if leadN σ k = k then leadN σ (negP h k) else k) < _
    split
    · exact lead_lt' σ (negP_neg hk).2
    · exact hk
  · show (if leadN σ (if leadN σ k = k then leadN σ (negP h k) else k) = (if leadN σ k = k then leadN σ (negP h k) else k) then leadN σ (negP h (if leadN σ k = k then leadN σ (negP h k) else k)) else (if leadN σ k = k then leadN σ (negP h k) else k)) = k
    by_cases hc : leadN σ k = k
    · rw [if_pos hc]
      have hnk := (negP_neg hk).2
      rw [if_pos (lead_lead S.prm hnk)]
      obtain ⟨i, hi⟩ := (leadN_spec σ (negP h k)).1
      rw [← hi, pit_negA S.prm S.neg hk, (negP_neg (pit_lt S.prm hk i)).1, lead_reach S.prm hk, hc]
    · rw [if_neg hc, if_neg hc]
  · show (fun k => (if leadN σ k = k then ordN σ k - 1 else 0) + (if leadN σ k = k then orbN σ (psiP h σ) k else 0)) (if leadN σ k = k then leadN σ (negP h k) else k) = (if leadN σ k = k then ordN σ k - 1 else 0) + (if leadN σ k = k then orbN σ (psiP h σ) k else 0)
    by_cases hc : leadN σ k = k
    · have hnk := (negP_neg hk).2
      have := orb_lead S.prm (psiP h σ) hnk
      simp only [if_pos hc]
      rw [if_pos (lead_lead S.prm hnk), if_pos (lead_lead S.prm hnk), this.1, this.2, ord_neg S hk, orb_neg S hk]
    · simp only [if_neg hc]
  · have hf : (if leadN σ k = k then leadN σ (negP h k) else k) = k := hf
    show ((if leadN σ k = k then ordN σ k - 1 else 0) + (if leadN σ k = k then orbN σ (psiP h σ) k else 0)) % 2 = 0
    by_cases hc : leadN σ k = k
    · rw [if_pos hc] at hf
      rw [if_pos hc, if_pos hc]
      by_cases hz : k = 0
      · subst hz
        have o1 : ordN σ 0 = 1 := by
          have a1 := ord_pos S.prm hk
          have a2 := ord_min S.prm hk (i := 1) (by omega) (by rw [pit_one]; exact S.zero)
          omega
        unfold orbN
        rw [o1]
        show (1 - 1 + (0 + psiP h σ 0)) % 2 = 0
        unfold psiP
        rw [S.zero, if_neg (by omega)]
      · exact orb_self S hk hz hf
    · rw [if_neg hc, if_neg hc]
end
/-- the sign of the multiplication by a is the symbol of Jacobi -/
theorem zolo_J {h : Nat} {a : Int} (hg : Int.gcd a (2 * h + 1) = 1) : sgn (stepsN (mulP h a) (2 * h + 1)) = J a (2 * h + 1) := by
  have e := zolo ⟨mulP_prm hg, mulP_zero h a, fun x hx => mulP_neg hg hx⟩
  rw [J_law, if_pos hg, gauss_psi hg]
  exact sgn_congr (by omega)
end Go.Proofs.Ytiblpagbloflhaa
