/- Plain lemmas on cycles of forms: they close, their lists, reduction with its matrix, products round a cycle. No program in sight. -/
import Derived.Test.YtdonpiihjoihcaaCY
namespace Go.Proofs.Ytdonpiihjoihcaa
set_option linter.unusedVariables false

/-! a function that stays below n takes a value twice -/
theorem pigeon : ∀ (n : Nat) (g : Nat → Nat), (∀ i, i ≤ n → g i < n) → ∃ i j, i < j ∧ j ≤ n ∧ g i = g j
  | 0, g, h => absurd (h 0 (Nat.le_refl _)) (Nat.not_lt_zero _)
  | n + 1, g, h => by
    by_cases he : ∃ i, i ≤ n ∧ g i = g (n + 1)
    · obtain ⟨i, hi, e⟩ := he
      exact ⟨i, n + 1, by omega, Nat.le_refl _, e⟩
    · have hne : ∀ i, i ≤ n → g i ≠ g (n + 1) := fun i hi e => he ⟨i, hi, e⟩
      have hm := h (n + 1) (Nat.le_refl _)
      obtain ⟨i, j, hij, hj, e⟩ := pigeon n (fun i => if g i < g (n + 1) then g i else g i - 1) (fun i hi => by
        have h1 := h i (by omega)
        have h2 := hne i hi
        split <;> omega)
      have h1 := hne i (by omega)
      have h2 := hne j hj
      refine ⟨i, j, hij, by omega, ?_⟩
      split at e <;> split at e <;> omega

/-! the neighbour over and over -/
def it : Nat → Fm → Fm
  | 0, f => f
  | k + 1, f => nx (it k f)
theorem it_zero (f : Fm) : it 0 f = f := rfl
theorem it_succ (k : Nat) (f : Fm) : it (k + 1) f = nx (it k f) := rfl
theorem it_add (j : Nat) (f : Fm) : ∀ i, it (i + j) f = it i (it j f)
  | 0 => by rw [Nat.zero_add]; rfl
  | i + 1 => by rw [show i + 1 + j = (i + j) + 1 by omega, it_succ, it_succ, it_add j f i]
def InF (d : Int) (f : Fm) : Prop := indefB f.a f.b f.c = true ∧ disc f.a f.b f.c = d
def Cy (d : Int) (f : Fm) : Prop := InF d f ∧ cycB f.a f.b f.c = true
theorem inF_nx {d : Int} {f : Fm} (h : InF d f) : InF d (nx f) := ⟨nx_indef h.1, by rw [← h.2]; exact nx_disc (indef_ne h.1).2⟩
theorem cy_nx {d : Int} {f : Fm} (h : Cy d f) : Cy d (nx f) := ⟨inF_nx h.1, nx_cyc h.1.1 h.2⟩
theorem cy_it {d : Int} {f : Fm} (h : Cy d f) : ∀ k, Cy d (it k f)
  | 0 => h
  | k + 1 => cy_nx (cy_it h k)
theorem cy_nx_inj {d : Int} {f g : Fm} (hf : Cy d f) (hg : Cy d g) (h : nx f = nx g) : f = g :=
  nx_inj hf.1.1 hg.1.1 hf.2 hg.2 (hf.1.2.trans hg.1.2.symm) h
theorem cy_bd {d : Int} {f : Fm} (h : Cy d f) : (-31 ≤ f.a ∧ f.a ≤ 31) ∧ (1 ≤ f.b ∧ f.b ≤ 31) ∧ (-31 ≤ f.c ∧ f.c ≤ 31) := by
  obtain ⟨⟨h1, h2⟩, h3⟩ := h
  obtain ⟨r2, r31, _⟩ := root_pos (indefB_iff.1 h1).2
  obtain ⟨c1, c2, c3, c4⟩ := cycB_iff.1 h3
  obtain ⟨_, m2, _⟩ := cyc_mid h1 h3
  unfold ab at *; omega
def keyF (f : Fm) : Nat := ((f.a + 31) * 32 + f.b).toNat
theorem keyF_lt {d : Int} {f : Fm} (h : Cy d f) : keyF f < 2048 := by
  have := cy_bd h; unfold keyF; omega
theorem keyF_inj {d : Int} {f g : Fm} (hf : Cy d f) (hg : Cy d g) (h : keyF f = keyF g) : f = g := by
  have b1 := cy_bd hf
  have b2 := cy_bd hg
  have ha := (indef_ne hf.1.1).1
  have hd := hf.1.2.trans hg.1.2.symm
  obtain ⟨fa, fb, fc⟩ := f
  obtain ⟨ga, gb, gc⟩ := g
  unfold keyF at h
  simp only at h b1 b2 ha hd
  have e1 : fa = ga := by omega
  have e2 : fb = gb := by omega
  subst e1 e2
  have : 4 * fa * fc = 4 * fa * gc := by unfold disc at hd; omega
  have := Int.eq_of_mul_eq_mul_left (show 4 * fa ≠ 0 by omega) this
  rw [this]
theorem it_back {d : Int} {f : Fm} (h : Cy d f) : ∀ i n, it i f = it (i + n) f → it n f = f
  | 0, n, e => by rw [Nat.zero_add] at e; exact e.symm
  | i + 1, n, e => by
    rw [show i + 1 + n = (i + n) + 1 by omega, it_succ, it_succ] at e
    exact it_back h i n (cy_nx_inj (cy_it h i) (cy_it h _) e)
/-- the least number of steps that lead back -/
def Per (f : Fm) (p : Nat) : Prop := 1 ≤ p ∧ p ≤ 2048 ∧ it p f = f ∧ ∀ i, 1 ≤ i → i < p → it i f ≠ f
theorem per_ex {d : Int} {f : Fm} (h : Cy d f) : ∃ p, Per f p := by
  obtain ⟨i, j, hij, hj, e⟩ := pigeon 2048 (fun i => keyF (it i f)) (fun i _ => keyF_lt (cy_it h i))
  have e' := keyF_inj (cy_it h i) (cy_it h j) e
  have hp := it_back h i (j - i) (by rw [show i + (j - i) = j by omega]; exact e')
  have key : ∀ n, (∃ p, 1 ≤ p ∧ p ≤ n ∧ it p f = f) → ∃ p, 1 ≤ p ∧ p ≤ n ∧ it p f = f ∧ ∀ i, 1 ≤ i → i < p → it i f ≠ f := by
    intro n
    induction n with
    | zero => intro ⟨p, h1, h2, _⟩; omega
    | succ n ih =>
      intro ⟨p, h1, h2, h3⟩
      by_cases hs : ∃ p, 1 ≤ p ∧ p ≤ n ∧ it p f = f
      · obtain ⟨q, q1, q2, q3⟩ := ih hs
        exact ⟨q, q1, by omega, q3⟩
      · refine ⟨p, h1, h2, h3, fun i i1 i2 hi => hs ⟨i, i1, by omega, hi⟩⟩
  obtain ⟨p, h1, h2, h3, h4⟩ := key 2048 ⟨j - i, by omega, by omega, hp⟩
  exact ⟨p, h1, h2, h3, h4⟩
theorem per_next {f : Fm} {p k : Nat} (h : Per f p) (hk : k + 1 ≤ p) (hne : it (k + 1) f ≠ f) : k + 2 ≤ p := by
  refine Classical.byContradiction fun hc => hne ?_
  have : k + 1 = p := by omega
  rw [this]; exact h.2.2.1
theorem per_stop {f : Fm} {p k : Nat} (h : Per f p) (hk : k + 1 ≤ p) (he : it (k + 1) f = f) : k + 1 = p := by
  refine Classical.byContradiction fun hc => h.2.2.2 (k + 1) (by omega) (by omega) he

/-! the list of a cycle, to be reckoned -/
def cycT : Nat → Fm → Fm → List Fm
  | 0, _, _ => []
  | n + 1, f, g => if g = f then [] else g :: cycT n f (nx g)
def cyc (f : Fm) : List Fm := f :: cycT 2048 f (nx f)
def itL (f : Fm) (k : Nat) : List Fm := (List.range k).map fun i => it i f
theorem itL_succ (f : Fm) (k : Nat) : itL f (k + 1) = itL f k ++ [it k f] := by simp [itL, List.range_succ]
theorem itL_len (f : Fm) (k : Nat) : (itL f k).length = k := by simp [itL]
theorem cycT_eq : ∀ (m n k : Nat) (f : Fm), (∀ i, k ≤ i → i < k + m → it i f ≠ f) → it (k + m) f = f → m < n → cycT n f (it k f) = (List.range m).map fun i => it (k + i) f
  | 0, n, k, f, _, h2, h3 => by
    match n, h3 with
    | n + 1, _ => rw [Nat.add_zero] at h2; simp [cycT, h2]
  | m + 1, n, k, f, h1, h2, h3 => by
    match n, h3 with
    | n + 1, h3 =>
      have hk := h1 k (Nat.le_refl _) (by omega)
      have ih := cycT_eq m n (k + 1) f (fun i i1 i2 => h1 i (by omega) (by omega)) (by rw [show k + 1 + m = k + (m + 1) by omega]; exact h2) (by omega)
      rw [it_succ] at ih
      simp only [cycT]
      rw [if_neg hk, ih, List.range_succ_eq_map]
      simp only [List.map_cons, List.map_map, Nat.add_zero]
      congr 1
      apply List.map_congr_left
      intro i _
      simp only [Function.comp, Nat.succ_eq_add_one, show k + 1 + i = k + (i + 1) by omega]
theorem cyc_eq {f : Fm} {p : Nat} (h : Per f p) : cyc f = itL f p := by
  obtain ⟨h1, h2, h3, h4⟩ := h
  obtain ⟨q, rfl⟩ : ∃ q, p = q + 1 := ⟨p - 1, by omega⟩
  unfold cyc
  have := cycT_eq q 2048 1 f (fun i i1 i2 => h4 i i1 (by omega)) (by rw [Nat.add_comm]; exact h3) (by omega)
  rw [show it 1 f = nx f from rfl] at this
  rw [this]
  unfold itL
  rw [List.range_succ_eq_map]
  simp [Function.comp_def, it_zero, Nat.add_comm 1]
theorem cyc_mem {d : Int} {f g : Fm} (h : Cy d f) (hg : g ∈ cyc f) : Cy d g ∧ ∃ k, k < 2048 ∧ g = it k f := by
  obtain ⟨p, hp⟩ := per_ex h
  rw [cyc_eq hp] at hg
  obtain ⟨i, hi, rfl⟩ := List.mem_map.1 hg
  exact ⟨cy_it h i, i, by have := List.mem_range.1 hi; have := hp.2.1; omega, rfl⟩
theorem cyc_len {d : Int} {f : Fm} (h : Cy d f) : (cyc f).length ≤ 2048 := by
  obtain ⟨p, hp⟩ := per_ex h
  rw [cyc_eq hp, itL_len]; exact hp.2.1

/-! matrices -/
def mulM (m n : Mx) : Mx := ⟨m1 m.p m.q m.r m.s n.p n.q n.r n.s, m2 m.p m.q m.r m.s n.p n.q n.r n.s, m3 m.p m.q m.r m.s n.p n.q n.r n.s, m4 m.p m.q m.r m.s n.p n.q n.r n.s⟩
def goodM (m : Mx) : Bool := good4 m.p m.q m.r m.s
def stp (f : Fm) : Mx := ⟨0, -1, 1, nS f.a f.b f.c⟩
def oneM : Mx := ⟨1, 0, 0, 1⟩
def detM (m : Mx) : Int := m.p * m.s - m.q * m.r
theorem detM_mul (m n : Mx) : detM (mulM m n) = detM m * detM n := by
  unfold detM mulM m1 m2 m3 m4
  simp only [Int.add_mul, Int.mul_add, Int.sub_mul, Int.mul_sub]
  have e1 : m.p * n.p * (m.r * n.q) = m.p * n.q * (m.r * n.p) := by simp only [Int.mul_left_comm, Int.mul_comm]
  have e2 : m.q * n.r * (m.s * n.s) = m.q * n.s * (m.s * n.r) := by simp only [Int.mul_left_comm, Int.mul_comm]
  have e3 : m.p * n.p * (m.s * n.s) = m.p * m.s * (n.p * n.s) := by simp only [Int.mul_assoc, Int.mul_left_comm]
  have e4 : m.q * n.r * (m.r * n.q) = m.q * m.r * (n.q * n.r) := by simp only [Int.mul_left_comm, Int.mul_comm]
  have e5 : m.p * n.q * (m.s * n.r) = m.p * m.s * (n.q * n.r) := by simp only [Int.mul_assoc, Int.mul_left_comm]
  have e6 : m.q * n.s * (m.r * n.p) = m.q * m.r * (n.p * n.s) := by simp only [Int.mul_left_comm, Int.mul_comm]
  omega
theorem detM_stp (f : Fm) : detM (stp f) = 1 := by simp [detM, stp]
theorem detM_one : detM oneM = 1 := by simp [detM, oneM]

/-! reduction -/
inductive Red : Fm → Mx → Option (Fm × Mx) → Prop
  | stop {f : Fm} {m : Mx} : cycB f.a f.b f.c = true → Red f m (some (f, m))
  | bad {f : Fm} {m : Mx} : cycB f.a f.b f.c = false → goodM (mulM m (stp f)) = false → Red f m none
  | next {f : Fm} {m : Mx} {o : Option (Fm × Mx)} : cycB f.a f.b f.c = false → goodM (mulM m (stp f)) = true → Red (nx f) (mulM m (stp f)) o → Red f m o
theorem red_total : ∀ (n : Nat) (f : Fm) (m : Mx), muF f ≤ n → indefB f.a f.b f.c = true → ∃ o, Red f m o := by
  intro n
  induction n with
  | zero =>
    intro f m h hi
    refine ⟨_, .stop ?_⟩
    cases hc : cycB f.a f.b f.c with
    | true => rfl
    | false => have := mu_less hi hc; omega
  | succ n ih =>
    intro f m h hi
    cases hc : cycB f.a f.b f.c with
    | true => exact ⟨_, .stop hc⟩
    | false =>
      cases hg : goodM (mulM m (stp f)) with
      | false => exact ⟨_, .bad hc hg⟩
      | true =>
        have := mu_less hi hc
        obtain ⟨o, ho⟩ := ih (nx f) (mulM m (stp f)) (by omega) (nx_indef hi)
        exact ⟨o, .next hc hg ho⟩
theorem red_ex (f : Fm) (m : Mx) (hi : indefB f.a f.b f.c = true) : ∃ o, Red f m o := red_total _ f m (Nat.le_refl _) hi
theorem red_yes {f : Fm} {m : Mx} {o : Option (Fm × Mx)} (h : Red f m o) (hc : cycB f.a f.b f.c = true) : o = some (f, m) := by
  cases h with
  | stop _ => rfl
  | bad h1 _ => rw [hc] at h1; cases h1
  | next h1 _ _ => rw [hc] at h1; cases h1
theorem red_no {f : Fm} {m : Mx} {o : Option (Fm × Mx)} (h : Red f m o) (hc : cycB f.a f.b f.c = false) :
    (goodM (mulM m (stp f)) = false ∧ o = none) ∨ (goodM (mulM m (stp f)) = true ∧ Red (nx f) (mulM m (stp f)) o) := by
  cases h with
  | stop h1 => rw [hc] at h1; cases h1
  | bad _ h2 => exact .inl ⟨h2, rfl⟩
  | next _ h2 h3 => exact .inr ⟨h2, h3⟩
theorem red_spec {d : Int} {f : Fm} {m : Mx} {o : Option (Fm × Mx)} (h : Red f m o) : InF d f → goodM m = true → detM m = 1 → ∀ g n, o = some (g, n) → Cy d g ∧ goodM n = true ∧ detM n = 1 := by
  induction h with
  | @stop f m h1 =>
    intro hi hg hd g n e
    injection e with e
    injection e with e1 e2
    subst e1 e2
    exact ⟨⟨hi, h1⟩, hg, hd⟩
  | bad => intro _ _ _ g n e; cases e
  | @next f m o h1 h2 h3 ih =>
    intro hi hg hd g n e
    exact ih (inF_nx hi) h2 (by rw [detM_mul, hd, detM_stp]; rfl) g n e
theorem red_det {f : Fm} {m : Mx} {o o' : Option (Fm × Mx)} (h : Red f m o) : Red f m o' → o = o' := by
  induction h with
  | stop h1 => intro h; exact (red_yes h h1).symm
  | bad h1 h2 =>
    intro h
    rcases red_no h h1 with ⟨_, e⟩ | ⟨e, _⟩
    · exact e.symm
    · rw [h2] at e; cases e
  | next h1 h2 _ ih =>
    intro h
    rcases red_no h h1 with ⟨e, _⟩ | ⟨_, e⟩
    · rw [h2] at e; cases e
    · exact ih e

/-! the matrix from one cyclic form to another one of its cycle -/
inductive Lead : Fm → Mx → Fm → Option Mx → Prop
  | stop {y : Fm} {m : Mx} : Lead y m y (some m)
  | bad {x y : Fm} {m : Mx} : x ≠ y → goodM (mulM m (stp x)) = false → Lead x m y none
  | next {x y : Fm} {m : Mx} {o : Option Mx} : x ≠ y → goodM (mulM m (stp x)) = true → Lead (nx x) (mulM m (stp x)) y o → Lead x m y o
theorem lead_total (y : Fm) : ∀ (k : Nat) (x : Fm) (m : Mx), it k x = y → ∃ o, Lead x m y o := by
  intro k
  induction k with
  | zero => intro x m h; subst h; exact ⟨_, .stop⟩
  | succ k ih =>
    intro x m h
    by_cases he : x = y
    · subst he; exact ⟨_, .stop⟩
    · cases hg : goodM (mulM m (stp x)) with
      | false => exact ⟨_, .bad he hg⟩
      | true =>
        obtain ⟨o, ho⟩ := ih (nx x) (mulM m (stp x)) (by rw [← h, it_add 1 x k]; rfl)
        exact ⟨o, .next he hg ho⟩
theorem lead_same {y : Fm} {m : Mx} {o : Option Mx} (h : Lead y m y o) : o = some m := by
  cases h with
  | stop => rfl
  | bad h1 _ => exact absurd rfl h1
  | next h1 _ _ => exact absurd rfl h1
theorem lead_more {x y : Fm} {m : Mx} {o : Option Mx} (h : Lead x m y o) (hne : x ≠ y) :
    (goodM (mulM m (stp x)) = false ∧ o = none) ∨ (goodM (mulM m (stp x)) = true ∧ Lead (nx x) (mulM m (stp x)) y o) := by
  cases h with
  | stop => exact absurd rfl hne
  | bad _ h2 => exact .inl ⟨h2, rfl⟩
  | next _ h2 h3 => exact .inr ⟨h2, h3⟩
theorem lead_det1 {x y : Fm} {m : Mx} {o : Option Mx} (h : Lead x m y o) : goodM m = true → detM m = 1 → ∀ n, o = some n → goodM n = true ∧ detM n = 1 := by
  induction h with
  | stop => intro hg hd n e; injection e with e; subst e; exact ⟨hg, hd⟩
  | bad => intro _ _ n e; cases e
  | next h1 h2 h3 ih => intro hg hd n e; exact ih h2 (by rw [detM_mul, hd, detM_stp]; rfl) n e

/-! the product round a cycle -/
inductive Round : Fm → Fm → Mx → Option Mx → Prop
  | bad {f g : Fm} {m : Mx} : goodM (mulM m (stp g)) = false → Round f g m none
  | stop {f g : Fm} {m : Mx} : goodM (mulM m (stp g)) = true → nx g = f → Round f g m (some (mulM m (stp g)))
  | next {f g : Fm} {m : Mx} {o : Option Mx} : goodM (mulM m (stp g)) = true → nx g ≠ f → Round f (nx g) (mulM m (stp g)) o → Round f g m o
theorem round_total (f : Fm) : ∀ (k : Nat) (g : Fm) (m : Mx), it (k + 1) g = f → ∃ o, Round f g m o := by
  intro k
  induction k with
  | zero =>
    intro g m h
    cases hg : goodM (mulM m (stp g)) with
    | false => exact ⟨_, .bad hg⟩
    | true => exact ⟨_, .stop hg h⟩
  | succ k ih =>
    intro g m h
    cases hg : goodM (mulM m (stp g)) with
    | false => exact ⟨_, .bad hg⟩
    | true =>
      by_cases he : nx g = f
      · exact ⟨_, .stop hg he⟩
      · obtain ⟨o, ho⟩ := ih (nx g) (mulM m (stp g)) (by rw [← h, it_add 1 g (k + 1)]; rfl)
        exact ⟨o, .next hg he ho⟩
theorem round_cases {f g : Fm} {m : Mx} {o : Option Mx} (h : Round f g m o) :
    (goodM (mulM m (stp g)) = false ∧ o = none) ∨ (goodM (mulM m (stp g)) = true ∧ nx g = f ∧ o = some (mulM m (stp g))) ∨ (goodM (mulM m (stp g)) = true ∧ nx g ≠ f ∧ Round f (nx g) (mulM m (stp g)) o) := by
  cases h with
  | bad h1 => exact .inl ⟨h1, rfl⟩
  | stop h1 h2 => exact .inr (.inl ⟨h1, h2, rfl⟩)
  | next h1 h2 h3 => exact .inr (.inr ⟨h1, h2, h3⟩)
end Go.Proofs.Ytdonpiihjoihcaa
