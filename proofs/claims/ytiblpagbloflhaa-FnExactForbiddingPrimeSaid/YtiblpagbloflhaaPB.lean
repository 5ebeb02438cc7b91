/- Plain: points at which a definite form has a value, listed by abscissas (the program) and by ordinates (the reference). No program in sight. -/
import Derived.Test.YtiblpagbloflhaaM
namespace Go.Proofs.Ytiblpagbloflhaa
set_option linter.unusedVariables false

structure Pt where
  x : Int
  y : Int
deriving DecidableEq
/-- the order of the lists -/
def PLt (p q : Pt) : Prop := p.x < q.x ∨ (p.x = q.x ∧ p.y < q.y)
theorem PLt.trans {p q r : Pt} (h : PLt p q) (k : PLt q r) : PLt p r := by unfold PLt at *; omega
theorem PLt.irrefl {p : Pt} : ¬ PLt p p := by unfold PLt; omega
theorem PLt.asymm {p q : Pt} (h : PLt p q) (k : PLt q p) : False := PLt.irrefl (h.trans k)
theorem pt_tri (p q : Pt) : PLt p q ∨ p = q ∨ PLt q p := by
  obtain ⟨a, b⟩ := p
  obtain ⟨c, d⟩ := q
  unfold PLt
  simp only [Pt.mk.injEq]
  omega
/-- an ordered list is known by its elements -/
theorem plt_unique : ∀ (l m : List Pt), l.Pairwise PLt → m.Pairwise PLt → (∀ p, p ∈ l ↔ p ∈ m) → l = m
  | [], [], _, _, _ => rfl
  | [], q :: m, _, _, h => by have := (h q).2 (List.mem_cons_self ..); simp at this
  | p :: l, [], _, _, h => by have := (h p).1 (List.mem_cons_self ..); simp at this
  | p :: l, q :: m, h1, h2, h => by
    have h1' := List.pairwise_cons.1 h1
    have h2' := List.pairwise_cons.1 h2
    have e : p = q := by
      have a := (h p).1 (List.mem_cons_self ..)
      have b := (h q).2 (List.mem_cons_self ..)
      rcases List.mem_cons.1 a with a | a
      · exact a
      · rcases List.mem_cons.1 b with b | b
        · exact b.symm
        · exact (PLt.asymm (h1'.1 q b) (h2'.1 p a)).elim
    subst e
    congr 1
    refine plt_unique l m h1'.2 h2'.2 fun r => ⟨fun hr => ?_, fun hr => ?_⟩
    · rcases List.mem_cons.1 ((h r).1 (List.mem_cons_of_mem _ hr)) with e | e
      · subst e; exact (PLt.irrefl (h1'.1 r hr)).elim
      · exact e
    · rcases List.mem_cons.1 ((h r).2 (List.mem_cons_of_mem _ hr)) with e | e
      · subst e; exact (PLt.irrefl (h2'.1 r hr)).elim
      · exact e
/-- the value of a form at a point -/
def vAt (a b c : Int) (p : Pt) : Int := a * p.x * p.x + b * p.x * p.y + c * p.y * p.y
/-! by abscissas -/
def sqX (a b c n x : Int) : Int := disc a b c * x * x + 4 * c * n
def lowI (a b c n x : Int) : List Pt := if ((-b * x - isq (sqX a b c n x)).tmod (2 * c) == 0) = true then [⟨x, (-b * x - isq (sqX a b c n x)).tdiv (2 * c)⟩] else []
def highI (a b c n x : Int) : List Pt := if (decide (0 < isq (sqX a b c n x)) && ((-b * x + isq (sqX a b c n x)).tmod (2 * c) == 0)) = true then [⟨x, (-b * x + isq (sqX a b c n x)).tdiv (2 * c)⟩] else []
def pieceI (a b c n x : Int) : List Pt := if sqB (sqX a b c n x) = true then lowI a b c n x ++ highI a b c n x else []
theorem sqX_eq (a b c : Int) (p : Pt) : (2 * c * p.y + b * p.x) * (2 * c * p.y + b * p.x) = sqX a b c (vAt a b c p) p.x := by
  unfold sqX disc vAt; grind
theorem sqX_inj {a b c n : Int} (hc : 0 < c) {p : Pt} (h : (2 * c * p.y + b * p.x) * (2 * c * p.y + b * p.x) = sqX a b c n p.x) : vAt a b c p = n := by
  rw [sqX_eq a b c p] at h
  unfold sqX at h
  have h2 : 4 * c * (vAt a b c p) = 4 * c * n := by omega
  exact Int.eq_of_mul_eq_mul_left (show 4 * c ≠ 0 by omega) h2
theorem sqB_iff {n : Int} : sqB n = true ↔ 0 ≤ n ∧ isq n * isq n = n := by simp [sqB]
theorem tmod_mul {m k : Int} (h : (m.tmod k == 0) = true) : k * m.tdiv k = m := by
  have h1 : m.tmod k = 0 := by simpa using h
  have h2 := Int.mul_tdiv_add_tmod m k
  omega
theorem tdiv_of {m k q : Int} (hk : k ≠ 0) (h : m = k * q) : (m.tmod k == 0) = true ∧ m.tdiv k = q := by
  subst h
  exact ⟨by simp, Int.mul_tdiv_cancel_left q hk⟩
theorem root_of {m n : Int} (h : m * m = n) (hn : n ≤ 10000000000000000000) : sqB n = true ∧ (isq n = m ∨ isq n = -m) := by
  have h0 : 0 ≤ n := by rw [← h]; rcases Int.le_total 0 m with h | h
                        · exact Int.mul_nonneg h h
                        · have := Int.mul_nonneg (show 0 ≤ -m by omega) (show 0 ≤ -m by omega); rw [Int.neg_mul_neg] at this; exact this
  rcases Int.le_total 0 m with hm | hm
  · have e : isq n = m := isq_eq hm (by omega) (by have : (m + 1) * (m + 1) = m * m + 2 * m + 1 := by grind
                                                   omega) hn
    exact ⟨sqB_iff.2 ⟨h0, by rw [e, h]⟩, .inl e⟩
  · have h' : (-m) * (-m) = n := by rw [Int.neg_mul_neg]; exact h
    have e : isq n = -m := isq_eq (by omega) (by omega) (by have : (-m + 1) * (-m + 1) = (-m) * (-m) + 2 * (-m) + 1 := by grind
                                                            omega) hn
    exact ⟨sqB_iff.2 ⟨h0, by rw [e, h']⟩, .inr e⟩
theorem lowI_mem {a b c n x : Int} (hc : 0 < c) (hs : sqB (sqX a b c n x) = true) {p : Pt} (h : p ∈ lowI a b c n x) : p.x = x ∧ 2 * c * p.y + b * p.x = -isq (sqX a b c n x) ∧ vAt a b c p = n := by
  unfold lowI at h
  split at h
  · rename_i hm
    simp at h; subst h
    have h1 := tmod_mul hm
    have h2 : 2 * c * (-b * x - isq (sqX a b c n x)).tdiv (2 * c) + b * x = -isq (sqX a b c n x) := by
      have : -b * x = -(b * x) := Int.neg_mul ..
      omega
    refine ⟨rfl, h2, sqX_inj hc ?_⟩
    simp only
    rw [h2, Int.neg_mul_neg]
    exact (sqB_iff.1 hs).2
  · simp at h
theorem highI_mem {a b c n x : Int} (hc : 0 < c) (hs : sqB (sqX a b c n x) = true) {p : Pt} (h : p ∈ highI a b c n x) : p.x = x ∧ 2 * c * p.y + b * p.x = isq (sqX a b c n x) ∧ 0 < isq (sqX a b c n x) ∧ vAt a b c p = n := by
  unfold highI at h
  split at h
  · rename_i hm
    simp only [Bool.and_eq_true, decide_eq_true_eq] at hm
    simp at h; subst h
    have h1 := tmod_mul hm.2
    have h2 : 2 * c * (-b * x + isq (sqX a b c n x)).tdiv (2 * c) + b * x = isq (sqX a b c n x) := by
      have : -b * x = -(b * x) := Int.neg_mul ..
      omega
    refine ⟨rfl, h2, hm.1, sqX_inj hc ?_⟩
    simp only
    rw [h2]
    exact (sqB_iff.1 hs).2
  · simp at h
theorem pieceI_mem {a b c n x : Int} (hc : 0 < c) (hn : sqX a b c n x ≤ 10000000000000000000) (p : Pt) : p ∈ pieceI a b c n x ↔ p.x = x ∧ vAt a b c p = n := by
  constructor
  · intro h
    unfold pieceI at h
    split at h
    · rename_i hs
      rcases List.mem_append.1 h with h | h
      · have := lowI_mem hc hs h; exact ⟨this.1, this.2.2⟩
      · have := highI_mem hc hs h; exact ⟨this.1, this.2.2.2⟩
    · simp at h
  · rintro ⟨rfl, hv⟩
    have he := sqX_eq a b c p
    rw [hv] at he
    obtain ⟨hs, hr⟩ := root_of he hn
    unfold pieceI
    rw [if_pos hs]
    have hneg : -b * p.x = -(b * p.x) := Int.neg_mul ..
    have hr0 := isq_nonneg (sqX a b c n p.x)
    refine List.mem_append.2 ?_
    by_cases hlow : 2 * c * p.y + b * p.x = -isq (sqX a b c n p.x)
    · left
      obtain ⟨t1, t2⟩ := tdiv_of (m := -b * p.x - isq (sqX a b c n p.x)) (k := 2 * c) (q := p.y) (by omega) (by omega)
      unfold lowI
      rw [if_pos t1, t2]
      simp
    · right
      have hhi : 2 * c * p.y + b * p.x = isq (sqX a b c n p.x) := by omega
      obtain ⟨t1, t2⟩ := tdiv_of (m := -b * p.x + isq (sqX a b c n p.x)) (k := 2 * c) (q := p.y) (by omega) (by omega)
      unfold highI
      rw [if_pos (by rw [t1, Bool.and_true]; simp; omega), t2]
      simp
theorem pieceI_sorted {a b c n x : Int} (hc : 0 < c) : (pieceI a b c n x).Pairwise PLt := by
  unfold pieceI
  split
  · rename_i hs
    refine List.pairwise_append.2 ⟨?_, ?_, fun p hp q hq => ?_⟩
    · unfold lowI; split <;> simp
    · unfold highI; split <;> simp
    · obtain ⟨h1, h2, _⟩ := lowI_mem hc hs hp
      obtain ⟨h3, h4, h5, _⟩ := highI_mem hc hs hq
      right
      refine ⟨by omega, ?_⟩
      have h6 : 2 * c * p.y < 2 * c * q.y := by rw [h1] at h2; rw [h3] at h4; omega
      exact Int.lt_of_mul_lt_mul_left h6 (by omega)
  · simp
/-- the first k abscissas from -B on -/
def listI (a b c n B : Int) : Nat → List Pt
  | 0 => []
  | k + 1 => listI a b c n B k ++ pieceI a b c n (-B + k)
theorem listI_mem {a b c n B : Int} (hc : 0 < c) (hn : ∀ x, sqX a b c n x ≤ 10000000000000000000) : ∀ (k : Nat) (p : Pt), p ∈ listI a b c n B k ↔ (-B ≤ p.x ∧ p.x < -B + k) ∧ vAt a b c p = n
  | 0, p => by unfold listI; simp; omega
  | k + 1, p => by
    unfold listI
    rw [List.mem_append, listI_mem hc hn k p, pieceI_mem hc (hn _) p]
    constructor
    · rintro (⟨h1, h2⟩ | ⟨h1, h2⟩)
      · exact ⟨by omega, h2⟩
      · exact ⟨by omega, h2⟩
    · rintro ⟨h1, h2⟩
      by_cases h : p.x < -B + k
      · exact .inl ⟨by omega, h2⟩
      · exact .inr ⟨by omega, h2⟩
theorem listI_sorted {a b c n B : Int} (hc : 0 < c) (hn : ∀ x, sqX a b c n x ≤ 10000000000000000000) : ∀ k : Nat, (listI a b c n B k).Pairwise PLt
  | 0 => by unfold listI; simp
  | k + 1 => by
    unfold listI
    refine List.pairwise_append.2 ⟨listI_sorted hc hn k, pieceI_sorted hc, fun p hp q hq => ?_⟩
    have h1 := ((listI_mem hc hn k p).1 hp).1
    have h2 := ((pieceI_mem hc (hn _) q).1 hq).1
    left; omega
theorem pieceI_len (a b c n x : Int) : (pieceI a b c n x).length ≤ 2 := by
  unfold pieceI lowI highI
  split
  · rw [List.length_append]
    split <;> split <;> simp
  · simp
theorem listI_len (a b c n B : Int) : ∀ k : Nat, (listI a b c n B k).length ≤ 2 * k
  | 0 => by unfold listI; simp
  | k + 1 => by
    unfold listI
    have h1 := listI_len a b c n B k
    have h2 := pieceI_len a b c n (-B + k)
    rw [List.length_append]; omega
/-! by ordinates -/
def sqY (a b c n y : Int) : Int := disc a b c * y * y + 4 * a * n
theorem sqY_eq (a b c : Int) (p : Pt) : (2 * a * p.x + b * p.y) * (2 * a * p.x + b * p.y) = sqY a b c (vAt a b c p) p.y := by
  unfold sqY disc vAt; grind
theorem sqY_inj {a b c n : Int} (ha : 0 < a) {p : Pt} (h : (2 * a * p.x + b * p.y) * (2 * a * p.x + b * p.y) = sqY a b c n p.y) : vAt a b c p = n := by
  rw [sqY_eq a b c p] at h
  unfold sqY at h
  have h2 : 4 * a * (vAt a b c p) = 4 * a * n := by omega
  exact Int.eq_of_mul_eq_mul_left (show 4 * a ≠ 0 by omega) h2
/-- a point in its place of an ordered list -/
def putP : List Pt → Pt → List Pt
  | [], p => [p]
  | q :: l, p => if q.x < p.x ∨ (q.x = p.x ∧ q.y < p.y) then q :: putP l p else p :: q :: l
def insP (l : List Pt) (p : Pt) : List Pt := if p ∈ l then l else putP l p
theorem putP_mem (p r : Pt) : ∀ l : List Pt, r ∈ putP l p ↔ r = p ∨ r ∈ l
  | [] => by simp [putP]
  | q :: l => by
    unfold putP
    split
    · rw [List.mem_cons, putP_mem p r l, List.mem_cons]; constructor <;> (rintro (h | h | h) <;> simp [h])
    · simp
theorem putP_sorted {p : Pt} : ∀ {l : List Pt}, l.Pairwise PLt → p ∉ l → (putP l p).Pairwise PLt
  | [], _, _ => by simp [putP]
  | q :: l, h, hn => by
    have h' := List.pairwise_cons.1 h
    unfold putP
    split
    · rename_i hlt
      refine List.pairwise_cons.2 ⟨fun r hr => ?_, putP_sorted h'.2 fun hm => hn (List.mem_cons_of_mem _ hm)⟩
      rcases (putP_mem p r l).1 hr with rfl | hr
      · exact hlt
      · exact h'.1 r hr
    · rename_i hlt
      have hpq : PLt p q := by
        rcases pt_tri p q with h | h | h
        · exact h
        · exact absurd (h ▸ List.mem_cons_self ..) hn
        · exact absurd h hlt
      refine List.pairwise_cons.2 ⟨fun r hr => ?_, h⟩
      rcases List.mem_cons.1 hr with rfl | hr
      · exact hpq
      · exact hpq.trans (h'.1 r hr)
theorem putP_len (p : Pt) : ∀ l : List Pt, (putP l p).length = l.length + 1
  | [] => rfl
  | q :: l => by
    unfold putP
    split
    · simp [putP_len p l]
    · simp
theorem insP_mem (l : List Pt) (p r : Pt) : r ∈ insP l p ↔ r = p ∨ r ∈ l := by
  unfold insP
  split
  · rename_i h
    constructor
    · exact .inr
    · rintro (rfl | h')
      · exact h
      · exact h'
  · exact putP_mem p r l
theorem insP_sorted {l : List Pt} {p : Pt} (h : l.Pairwise PLt) : (insP l p).Pairwise PLt := by
  unfold insP
  split
  · exact h
  · rename_i hn; exact putP_sorted h hn
theorem insP_len (l : List Pt) (p : Pt) : (insP l p).length ≤ l.length + 1 := by
  unfold insP
  split
  · omega
  · rw [putP_len]; omega
/-- one candidate: ordinate v, root r -/
def stepS (a b : Int) (l : List Pt) (v r : Int) : List Pt := if ((r - b * v).tmod (2 * a) == 0) = true then insP l ⟨(r - b * v).tdiv (2 * a), v⟩ else l
def pieceS (a b c n : Int) (l : List Pt) (y : Int) : List Pt :=
  if (isq (sqY a b c n y) * isq (sqY a b c n y) == sqY a b c n y) = true then
    stepS a b (stepS a b (stepS a b (stepS a b l y (isq (sqY a b c n y))) y (-isq (sqY a b c n y))) (-y) (isq (sqY a b c n y))) (-y) (-isq (sqY a b c n y))
  else l
def listS (a b c n : Int) : Nat → List Pt
  | 0 => []
  | k + 1 => pieceS a b c n (listS a b c n k) k
theorem stepS_mem {a b v r : Int} (l : List Pt) (p : Pt) (ha : 0 < a) : p ∈ stepS a b l v r ↔ p ∈ l ∨ (p.y = v ∧ 2 * a * p.x + b * p.y = r) := by
  unfold stepS
  split
  · rename_i h
    have h1 := tmod_mul h
    rw [insP_mem]
    constructor
    · rintro (rfl | h)
      · right; refine ⟨rfl, ?_⟩; simp only; omega
      · exact .inl h
    · rintro (h | ⟨h2, h3⟩)
      · exact .inr h
      · left
        obtain ⟨_, t2⟩ := tdiv_of (m := r - b * v) (k := 2 * a) (q := p.x) (by omega) (by rw [h2] at h3; omega)
        rw [t2, ← h2]
  · rename_i h
    constructor
    · exact .inl
    · rintro (h | ⟨h2, h3⟩)
      · exact h
      · obtain ⟨t1, _⟩ := tdiv_of (m := r - b * v) (k := 2 * a) (q := p.x) (by omega) (by rw [h2] at h3; omega)
        exact absurd t1 h
theorem stepS_sorted {a b v r : Int} {l : List Pt} (h : l.Pairwise PLt) : (stepS a b l v r).Pairwise PLt := by
  unfold stepS
  split
  · exact insP_sorted h
  · exact h
theorem stepS_len (a b v r : Int) (l : List Pt) : (stepS a b l v r).length ≤ l.length + 1 := by
  unfold stepS
  split
  · exact insP_len _ _
  · omega
theorem sqY_neg (a b c n y : Int) : sqY a b c n (-y) = sqY a b c n y := by unfold sqY; grind
theorem pieceS_mem {a b c n y : Int} (ha : 0 < a) (hy0 : 0 ≤ sqY a b c n y) (hn : sqY a b c n y ≤ 10000000000000000000) (l : List Pt) (p : Pt) : p ∈ pieceS a b c n l y ↔ p ∈ l ∨ ((p.y = y ∨ p.y = -y) ∧ vAt a b c p = n) := by
  unfold pieceS
  by_cases hs : isq (sqY a b c n y) * isq (sqY a b c n y) = sqY a b c n y
  · rw [if_pos (by simp [hs]), stepS_mem _ _ ha, stepS_mem _ _ ha, stepS_mem _ _ ha, stepS_mem _ _ ha]
    constructor
    · have key : ∀ r : Int, r * r = sqY a b c n p.y → 2 * a * p.x + b * p.y = r → vAt a b c p = n := fun r hr he => sqY_inj ha (by rw [he]; exact hr)
      rintro ((((h | ⟨h1, h2⟩) | ⟨h1, h2⟩) | ⟨h1, h2⟩) | ⟨h1, h2⟩)
      · exact .inl h
      · exact .inr ⟨.inl h1, key _ (by rw [h1, hs]) h2⟩
      · exact .inr ⟨.inl h1, key _ (by rw [h1, Int.neg_mul_neg, hs]) h2⟩
      · exact .inr ⟨.inr h1, key _ (by rw [h1, sqY_neg, hs]) h2⟩
      · exact .inr ⟨.inr h1, key _ (by rw [h1, sqY_neg, Int.neg_mul_neg, hs]) h2⟩
    · rintro (h | ⟨h, hv⟩)
      · exact .inl (.inl (.inl (.inl h)))
      · have he := sqY_eq a b c p
        rw [hv] at he
        have hyy : sqY a b c n p.y = sqY a b c n y := by rcases h with h | h <;> rw [h]; exact sqY_neg ..
        rw [hyy] at he
        obtain ⟨_, hr⟩ := root_of he hn
        rcases h with h | h <;> rcases hr with hr | hr
        · exact .inl (.inl (.inl (.inr ⟨h, by omega⟩)))
        · exact .inl (.inl (.inr ⟨h, by omega⟩))
        · exact .inl (.inr ⟨h, by omega⟩)
        · exact .inr ⟨h, by omega⟩
  · rw [if_neg (by simpa using hs)]
    constructor
    · exact .inl
    · rintro (h | ⟨h, hv⟩)
      · exact h
      · exfalso
        have he := sqY_eq a b c p
        rw [hv] at he
        have hyy : sqY a b c n p.y = sqY a b c n y := by rcases h with h | h <;> rw [h]; exact sqY_neg ..
        rw [hyy] at he
        exact hs (sqB_iff.1 (root_of he hn).1).2
theorem pieceS_sorted {a b c n y : Int} {l : List Pt} (h : l.Pairwise PLt) : (pieceS a b c n l y).Pairwise PLt := by
  unfold pieceS
  split
  · exact stepS_sorted (stepS_sorted (stepS_sorted (stepS_sorted h)))
  · exact h
theorem pieceS_len (a b c n y : Int) (l : List Pt) : (pieceS a b c n l y).length ≤ l.length + 4 := by
  unfold pieceS
  split
  · refine Nat.le_trans (stepS_len ..) (Nat.succ_le_succ (Nat.le_trans (stepS_len ..) (Nat.succ_le_succ (Nat.le_trans (stepS_len ..) (Nat.succ_le_succ (stepS_len ..))))))
  · omega
theorem listS_sorted (a b c n : Int) : ∀ k : Nat, (listS a b c n k).Pairwise PLt
  | 0 => by unfold listS; simp
  | k + 1 => pieceS_sorted (listS_sorted a b c n k)
theorem listS_len (a b c n : Int) : ∀ k : Nat, (listS a b c n k).length ≤ 4 * k
  | 0 => by unfold listS; simp
  | k + 1 => by
    have h1 := listS_len a b c n k
    have h2 := pieceS_len a b c n (k : Int) (listS a b c n k)
    show (pieceS a b c n (listS a b c n k) k).length ≤ _
    omega
theorem listS_mem {a b c n : Int} (ha : 0 < a) (hn : ∀ y, sqY a b c n y ≤ 10000000000000000000) : ∀ (k : Nat), (∀ j : Nat, j < k → 0 ≤ sqY a b c n j) → ∀ p : Pt, p ∈ listS a b c n k ↔ (-(k : Int) < p.y ∧ p.y < k) ∧ vAt a b c p = n
  | 0, _, p => by unfold listS; simp; omega
  | k + 1, h, p => by
    show p ∈ pieceS a b c n (listS a b c n k) k ↔ _
    rw [pieceS_mem ha (h k (by omega)) (hn _), listS_mem ha hn k (fun j hj => h j (by omega)) p]
    constructor
    · rintro (⟨h1, h2⟩ | ⟨h1, h2⟩)
      · exact ⟨by omega, h2⟩
      · exact ⟨by omega, h2⟩
    · rintro ⟨h1, h2⟩
      by_cases hc : p.y = (k : Int) ∨ p.y = -(k : Int)
      · exact .inr ⟨hc, h2⟩
      · exact .inl ⟨by omega, h2⟩
/-- both lists are one -/
theorem lists_same {a b c n : Int} (ha : 0 < a) (hc : 0 < c) (hd : disc a b c < 0) (hX : ∀ x, sqX a b c n x ≤ 10000000000000000000) (hY : ∀ y, sqY a b c n y ≤ 10000000000000000000) {B : Int} {K : Nat} (hB0 : 0 ≤ B) (hB : ∀ x, 0 ≤ sqX a b c n x → -B ≤ x ∧ x ≤ B)
    (hK : ∀ j : Nat, j < K → 0 ≤ sqY a b c n j) (hK' : sqY a b c n K < 0) : listI a b c n B (2 * B + 1).toNat = listS a b c n K := by
  refine plt_unique _ _ (listI_sorted hc hX _) (listS_sorted a b c n K) fun p => ?_
  rw [listI_mem hc hX, listS_mem ha hY K hK]
  have hsq : ∀ m : Int, 0 ≤ m * m := fun m => by
    rcases Int.le_total 0 m with h | h
    · exact Int.mul_nonneg h h
    · have := Int.mul_nonneg (show 0 ≤ -m by omega) (show 0 ≤ -m by omega); rw [Int.neg_mul_neg] at this; exact this
  constructor
  · rintro ⟨_, hv⟩
    refine ⟨?_, hv⟩
    have he := sqY_eq a b c p
    rw [hv] at he
    have h0 : 0 ≤ sqY a b c n p.y := by rw [← he]; exact hsq _
    -- below K the value is not negative, at K it is; it falls
    have hmono : ∀ y : Int, (K : Int) ≤ y → sqY a b c n y < 0 := fun y hy => by
      have h1 : (K : Int) * K ≤ y * y := Int.mul_le_mul hy hy (by omega) (by omega)
      have h2 : disc a b c * (y * y) ≤ disc a b c * ((K : Int) * K) := Int.mul_le_mul_of_nonpos_left (by omega) h1
      unfold sqY at hK' ⊢
      rw [Int.mul_assoc] at hK' ⊢
      omega
    constructor
    · refine Int.not_le.1 fun hcn => ?_
      have := hmono (-p.y) (by omega)
      rw [sqY_neg] at this
      omega
    · refine Int.not_le.1 fun hcn => ?_
      have := hmono p.y hcn
      omega
  · rintro ⟨_, hv⟩
    refine ⟨?_, hv⟩
    have he := sqX_eq a b c p
    rw [hv] at he
    have h0 : 0 ≤ sqX a b c n p.x := by rw [← he]; exact hsq _
    have := hB p.x h0
    omega
end Go.Proofs.Ytiblpagbloflhaa
