/- Plain lemmas: factor lists, square-free parts, the Jacobi and Kronecker symbols. No program in sight. -/
import Derived.Test.YtafcbaganjcnlaaM
namespace Go.Proofs.Ytafcbaganjcnlaa
set_option linter.unusedVariables false

/-! factors by trial division -/
theorem div_lt {n p : Int} (hp : 2 ≤ p) (hn : 1 ≤ n) : n / p < n ∧ 0 ≤ n / p := by
  have h1 := Int.mul_ediv_add_emod n p
  have h2 := Int.emod_nonneg n (show p ≠ 0 by omega)
  have h3 : 0 ≤ n / p := Int.ediv_nonneg (by omega) (by omega)
  have h4 := Int.mul_le_mul_of_nonneg_right hp h3
  omega
theorem div_exact {n p : Int} (hp : 2 ≤ p) (hn : 1 ≤ n) (hm : n % p = 0) : 1 ≤ n / p ∧ n = p * (n / p) := by
  have h1 := Int.mul_ediv_add_emod n p
  have h3 : 0 ≤ n / p := Int.ediv_nonneg (by omega) (by omega)
  refine ⟨?_, by omega⟩
  rcases Int.lt_or_eq_of_le h3 with h | h
  · omega
  · rw [← h] at h1; simp at h1; omega
def stripL (p n : Int) : List Int :=
  if h : 2 ≤ p ∧ 1 ≤ n ∧ n % p = 0 then p :: stripL p (n / p) else []
termination_by n.toNat
decreasing_by have := div_lt h.1 h.2.1; omega
def stripN (p n : Int) : Int :=
  if h : 2 ≤ p ∧ 1 ≤ n ∧ n % p = 0 then stripN p (n / p) else n
termination_by n.toNat
decreasing_by have := div_lt h.1 h.2.1; omega
theorem stripL_yes {p n : Int} (hp : 2 ≤ p) (hn : 1 ≤ n) (h : n % p = 0) : stripL p n = p :: stripL p (n / p) := by rw [stripL, dif_pos ⟨hp, hn, h⟩]
theorem stripL_no {p n : Int} (h : ¬ n % p = 0) : stripL p n = [] := by rw [stripL, dif_neg (by simp [h])]
theorem stripN_yes {p n : Int} (hp : 2 ≤ p) (hn : 1 ≤ n) (h : n % p = 0) : stripN p n = stripN p (n / p) := by rw [stripN, dif_pos ⟨hp, hn, h⟩]
theorem stripN_no {p n : Int} (h : ¬ n % p = 0) : stripN p n = n := by rw [stripN, dif_neg (by simp [h])]
theorem stripN_le (p : Int) (hp : 2 ≤ p) : ∀ (k : Nat) (n : Int), n.toNat ≤ k → 1 ≤ n → 1 ≤ stripN p n ∧ stripN p n ≤ n ∧ stripN p n % p ≠ 0 ∧ (∀ d : Int, stripN p n % d = 0 → n % d = 0) := by
  intro k
  induction k with
  | zero => intro n h1 h2; omega
  | succ k ih =>
    intro n h1 h2
    by_cases h : n % p = 0
    · obtain ⟨h3, h4⟩ := div_exact hp h2 h
      have h5 := div_lt hp h2
      obtain ⟨a, b, c, d⟩ := ih (n / p) (by omega) h3
      rw [stripN_yes hp h2 h]
      refine ⟨a, by omega, c, fun e he => ?_⟩
      have hd := d e he
      rw [h4]
      exact Int.emod_eq_zero_of_dvd (Int.dvd_mul_of_dvd_right (Int.dvd_of_emod_eq_zero hd))
    · rw [stripN_no h]; exact ⟨h2, Int.le_refl _, h, fun _ h => h⟩
theorem stripN_bd {p n : Int} (hp : 2 ≤ p) (hn : 1 ≤ n) : 1 ≤ stripN p n ∧ stripN p n ≤ n ∧ stripN p n % p ≠ 0 ∧ (∀ d : Int, stripN p n % d = 0 → n % d = 0) := stripN_le p hp n.toNat n (Nat.le_refl _) hn
def facGo (p n : Int) : List Int :=
  if h : 2 ≤ p ∧ p * p ≤ n then stripL p n ++ facGo (p + 1) (stripN p n) else if 1 < n then [n] else []
termination_by (n - p + 1).toNat
decreasing_by
  have h1 := Int.mul_le_mul_of_nonneg_right h.1 (show 0 ≤ p by omega)
  have := (stripN_bd (p := p) (n := n) h.1 (by omega)).2.1
  omega
def facs (n : Int) : List Int := facGo 2 n
theorem facGo_step {p n : Int} (hp : 2 ≤ p) (h : p * p ≤ n) : facGo p n = stripL p n ++ facGo (p + 1) (stripN p n) := by rw [facGo, dif_pos ⟨hp, h⟩]
theorem facGo_end {p n : Int} (h : n < p * p) : facGo p n = if 1 < n then [n] else [] := by rw [facGo, dif_neg (by simp; omega)]

/-- no number from 2 on below p divides n -/
def NoDiv (p n : Int) : Prop := ∀ d : Int, 2 ≤ d → d < p → n % d ≠ 0
theorem noDiv_next {p n : Int} (hp : 2 ≤ p) (hn : 1 ≤ n) (h : NoDiv p n) : NoDiv (p + 1) (stripN p n) := by
  obtain ⟨_, _, c, d⟩ := stripN_bd hp hn
  intro e h1 h2 he
  by_cases hep : e = p
  · subst hep; exact c he
  · exact h e h1 (by omega) (d e he)
theorem stripL_all (p : Int) : ∀ (k : Nat) (n : Int), n.toNat ≤ k → ∀ x, x ∈ stripL p n → x = p := by
  intro k
  induction k with
  | zero =>
    intro n h x hx
    rw [stripL] at hx
    split at hx
    · omega
    · simp at hx
  | succ k ih =>
    intro n h x hx
    rw [stripL] at hx
    split at hx
    · rename_i hh
      have := div_lt hh.1 hh.2.1
      rcases List.mem_cons.1 hx with h1 | h1
      · exact h1
      · exact ih (n / p) (by omega) x h1
    · simp at hx
theorem facGo_sorted : ∀ (k : Nat) (p n : Int), (n - p + 1).toNat ≤ k → 2 ≤ p → 1 ≤ n → NoDiv p n → (∀ x, x ∈ facGo p n → p ≤ x) ∧ (facGo p n).Pairwise (· ≤ ·) := by
  intro k
  induction k with
  | zero =>
    intro p n hk hp hn hd
    have h : ¬ p * p ≤ n := fun h => by
      have h1 := Int.mul_le_mul_of_nonneg_right hp (show 0 ≤ p by omega)
      omega
    rw [facGo_end (by omega)]
    split
    · rename_i h1
      refine ⟨fun x hx => ?_, by simp⟩
      simp at hx
      subst hx
      exact Int.not_lt.1 fun hlt => hd x (by omega) hlt (by simp)
    · simp
  | succ k ih =>
    intro p n hk hp hn hd
    by_cases h : p * p ≤ n
    · have h1 := Int.mul_le_mul_of_nonneg_right hp (show 0 ≤ p by omega)
      obtain ⟨a, b, _, _⟩ := stripN_bd hp hn
      obtain ⟨ih1, ih2⟩ := ih (p + 1) (stripN p n) (by omega) (by omega) a (noDiv_next hp hn hd)
      rw [facGo_step hp h]
      refine ⟨fun x hx => ?_, ?_⟩
      · rcases List.mem_append.1 hx with h2 | h2
        · rw [stripL_all p _ n (Nat.le_refl _) x h2]; exact Int.le_refl _
        · have := ih1 x h2; omega
      · rw [List.pairwise_append]
        refine ⟨?_, ih2, fun x hx y hy => ?_⟩
        · refine List.Pairwise.imp_of_mem (R := fun _ _ => True) (fun {x y} hx hy _ => ?_) (List.pairwise_of_forall fun _ _ => trivial)
          rw [stripL_all p _ n (Nat.le_refl _) x hx, stripL_all p _ n (Nat.le_refl _) y hy]; exact Int.le_refl _
        · rw [stripL_all p _ n (Nat.le_refl _) x hx]
          have := ih1 y hy; omega
    · rw [facGo_end (by omega)]
      split
      · rename_i h1
        refine ⟨fun x hx => ?_, by simp⟩
        simp at hx
        subst hx
        exact Int.not_lt.1 fun hlt => hd x (by omega) hlt (by simp)
      · simp
theorem facs_sorted {n : Int} (hn : 1 ≤ n) : (∀ x, x ∈ facs n → 2 ≤ x) ∧ (facs n).Pairwise (· ≤ ·) :=
  facGo_sorted _ 2 n (Nat.le_refl _) (by omega) hn fun d h1 h2 => by omega
theorem strip_len (p : Int) (hp : 2 ≤ p) : ∀ (k : Nat) (n : Int), n.toNat ≤ k → 1 ≤ n → ((stripL p n).length : Int) + stripN p n ≤ n := by
  intro k
  induction k with
  | zero => intro n h1 h2; omega
  | succ k ih =>
    intro n h1 h2
    by_cases h : n % p = 0
    · obtain ⟨h3, h4⟩ := div_exact hp h2 h
      have h5 := div_lt hp h2
      have h6 := ih (n / p) (by omega) h3
      rw [stripN_yes hp h2 h, stripL_yes hp h2 h]
      simp
      omega
    · rw [stripN_no h, stripL_no h]; simp
theorem facGo_len : ∀ (k : Nat) (p n : Int), (n - p + 1).toNat ≤ k → 2 ≤ p → 1 ≤ n → ((facGo p n).length : Int) ≤ n := by
  intro k
  induction k with
  | zero =>
    intro p n hk hp hn
    rw [facGo_end (by have h1 := Int.mul_le_mul_of_nonneg_right hp (show 0 ≤ p by omega); omega)]
    split <;> simp <;> omega
  | succ k ih =>
    intro p n hk hp hn
    by_cases h : p * p ≤ n
    · have h1 := Int.mul_le_mul_of_nonneg_right hp (show 0 ≤ p by omega)
      obtain ⟨a, b, _, _⟩ := stripN_bd hp hn
      have h2 := ih (p + 1) (stripN p n) (by omega) (by omega) a
      have h3 := strip_len p hp n.toNat n (Nat.le_refl _) hn
      rw [facGo_step hp h, List.length_append]
      omega
    · rw [facGo_end (by omega)]
      split <;> simp <;> omega
theorem facs_len {n : Int} (hn : 1 ≤ n) : ((facs n).length : Int) ≤ n := facGo_len _ 2 n (Nat.le_refl _) (by omega) hn

/-! the different ones -/
def addP (l : List Int) (x : Int) : List Int := if l.getLast? = some x then l else l ++ [x]
def prs (n : Int) : List Int := (facs n).foldl addP []
theorem addP_same {l : List Int} {x : Int} (h : l.getLast? = some x) : addP l x = l := by unfold addP; rw [if_pos h]
theorem addP_new {l : List Int} {x : Int} (h : ¬ l.getLast? = some x) : addP l x = l ++ [x] := by unfold addP; rw [if_neg h]
theorem addP_len (l : List Int) (x : Int) : (addP l x).length ≤ l.length + 1 := by unfold addP; split <;> simp
theorem fold_len (l : List Int) : ∀ m : List Int, (l.foldl addP m).length ≤ m.length + l.length := by
  induction l with
  | nil => intro m; simp
  | cons x l ih => intro m; have := ih (addP m x); have := addP_len m x; simp only [List.foldl_cons, List.length_cons]; omega
theorem fold_take {l : List Int} {k : Nat} (h : k < l.length) : (l.take (k + 1)).foldl addP [] = addP ((l.take k).foldl addP []) l[k] := by
  rw [List.take_succ_eq_append_getElem h, List.foldl_append]; rfl
theorem fold_take_len (l : List Int) (k : Nat) : ((l.take k).foldl addP []).length ≤ k := by
  have := fold_len (l.take k) []
  have := List.length_take_le k l
  simp at *
  omega
theorem prs_len {n : Int} (hn : 1 ≤ n) : ((prs n).length : Int) ≤ n := by
  have := fold_len (facs n) []
  have := facs_len hn
  unfold prs
  simp at *
  omega
theorem last_of {l : List Int} (h : 0 < l.length) : l.getLast? = some (l[l.length - 1]'(by omega)) := by
  rw [List.getLast?_eq_getElem?]; simp
theorem inc_last {l : List Int} (h : l.Pairwise (· < ·)) {y z : Int} (hy : y ∈ l) (hz : l.getLast? = some z) : y ≤ z := by
  obtain ⟨i, hi, rfl⟩ := List.getElem_of_mem hy
  rw [last_of (by omega)] at hz
  injection hz with hz
  by_cases he : i = l.length - 1
  · subst he; omega
  · have := List.pairwise_iff_getElem.1 h i (l.length - 1) hi (by omega) (by omega)
    omega
theorem addP_inc {l : List Int} {x : Int} (h : l.Pairwise (· < ·)) (hx : ∀ y, y ∈ l → y ≤ x) : (addP l x).Pairwise (· < ·) ∧ (¬ l.getLast? = some x → ∀ y, y ∈ l → y < x) := by
  have h2 : ¬ l.getLast? = some x → ∀ y, y ∈ l → y < x := fun hn y hy => by
    rcases Int.lt_or_eq_of_le (hx y hy) with h1 | h1
    · exact h1
    · exfalso
      subst h1
      have hpos : 0 < l.length := List.length_pos_of_mem hy
      have hl := last_of hpos
      have h3 := inc_last h hy hl
      have h4 := hx _ (List.getElem_mem (show l.length - 1 < l.length by omega))
      exact hn (by rw [hl]; congr 1; omega)
  refine ⟨?_, h2⟩
  unfold addP
  split
  · exact h
  · rename_i hn
    rw [List.pairwise_append]
    exact ⟨h, by simp, fun a ha b hb => by simp at hb; subst hb; exact h2 hn a ha⟩
theorem fold_inc {L : List Int} (hs : L.Pairwise (· ≤ ·)) : ∀ k, k ≤ L.length → ((L.take k).foldl addP []).Pairwise (· < ·) ∧ ∀ y, y ∈ (L.take k).foldl addP [] → y ∈ L.take k := by
  intro k
  induction k with
  | zero => intro _; simp
  | succ k ih =>
    intro hk
    obtain ⟨h1, h2⟩ := ih (by omega)
    have hlt : k < L.length := by omega
    rw [fold_take hlt]
    have hle : ∀ y, y ∈ (L.take k).foldl addP [] → y ≤ L[k] := fun y hy => by
      obtain ⟨i, hi, rfl⟩ := List.getElem_of_mem (h2 y hy)
      simp at hi
      rw [List.getElem_take]
      exact List.pairwise_iff_getElem.1 hs i k (by omega) hlt (by omega)
    refine ⟨(addP_inc h1 hle).1, fun y hy => ?_⟩
    rw [List.take_succ_eq_append_getElem hlt, List.mem_append]
    unfold addP at hy
    split at hy
    · exact .inl (h2 y hy)
    · rcases List.mem_append.1 hy with h | h
      · exact .inl (h2 y h)
      · exact .inr h
theorem fold_next {L : List Int} (hs : L.Pairwise (· ≤ ·)) {k : Nat} (hk : k < L.length) : ((L.take k).foldl addP []).Pairwise (· < ·) ∧ (¬ ((L.take k).foldl addP []).getLast? = some L[k] → ∀ y, y ∈ (L.take k).foldl addP [] → y < L[k]) := by
  obtain ⟨h1, h2⟩ := fold_inc hs k (by omega)
  refine ⟨h1, (addP_inc h1 fun y hy => ?_).2⟩
  obtain ⟨i, hi, rfl⟩ := List.getElem_of_mem (h2 y hy)
  simp at hi
  rw [List.getElem_take]
  exact List.pairwise_iff_getElem.1 hs i k (by omega) hk (by omega)
theorem mem_prs {n x : Int} (hn : 1 ≤ n) (h : x ∈ prs n) : x ∈ facs n := by
  have := (fold_inc (facs_sorted hn).2 (facs n).length (Nat.le_refl _)).2 x
  rw [List.take_length] at this
  exact this h

/-! square-free parts: what is taken out of n at p, and how often -/
theorem sq_pos {p : Int} (hp : 2 ≤ p) : 4 ≤ p * p := by have := Int.mul_le_mul hp hp (by omega) (by omega); omega
theorem abs_tdiv {n q : Int} (hq : 4 ≤ q) (hn : n ≠ 0) (hm : n % q = 0) : (n.tdiv q).natAbs < n.natAbs ∧ n.tdiv q ≠ 0 ∧ n = q * n.tdiv q := by
  have h1 : n = q * n.tdiv q := by
    have := Int.mul_tdiv_add_tmod n q
    rw [(tmod_zero_iff n q).2 hm] at this; omega
  have h2 : n.tdiv q ≠ 0 := fun h => by rw [h] at h1; simp at h1; exact hn h1
  refine ⟨?_, h2, h1⟩
  have h3 : n.natAbs = q.natAbs * (n.tdiv q).natAbs := by rw [← Int.natAbs_mul, ← h1]
  have h4 : 4 * (n.tdiv q).natAbs ≤ q.natAbs * (n.tdiv q).natAbs := Nat.mul_le_mul_right _ (by omega)
  omega
def sfIn (p n k : Int) : Int × Int :=
  if h : 2 ≤ p ∧ n ≠ 0 ∧ n % (p * p) = 0 then sfIn p (n.tdiv (p * p)) (k * p) else (n, k)
termination_by n.natAbs
decreasing_by exact (abs_tdiv (sq_pos h.1) h.2.1 h.2.2).1
theorem sfIn_yes {p n k : Int} (hp : 2 ≤ p) (hn : n ≠ 0) (h : n % (p * p) = 0) : sfIn p n k = sfIn p (n.tdiv (p * p)) (k * p) := by rw [sfIn, dif_pos ⟨hp, hn, h⟩]
theorem sfIn_no {p n k : Int} (h : ¬ n % (p * p) = 0) : sfIn p n k = (n, k) := by rw [sfIn, dif_neg (by simp [h])]
theorem sfIn_bd (p : Int) (hp : 2 ≤ p) : ∀ (m : Nat) (n k : Int), n.natAbs ≤ m → n ≠ 0 → (sfIn p n k).1 ≠ 0 ∧ (sfIn p n k).1.natAbs ≤ n.natAbs ∧ n * (k * k) = (sfIn p n k).1 * ((sfIn p n k).2 * (sfIn p n k).2) ∧ (1 ≤ k → 1 ≤ (sfIn p n k).2) := by
  intro m
  induction m with
  | zero => intro n k h1 h2; omega
  | succ m ih =>
    intro n k h1 h2
    by_cases h : n % (p * p) = 0
    · obtain ⟨a, b, c⟩ := abs_tdiv (sq_pos hp) h2 h
      obtain ⟨i1, i2, i3, i4⟩ := ih (n.tdiv (p * p)) (k * p) (by omega) b
      rw [sfIn_yes hp h2 h]
      refine ⟨i1, by omega, ?_, fun hk => i4 ?_⟩
      · rw [← i3]
        conv => lhs; rw [c]
        simp only [Int.mul_assoc, Int.mul_left_comm, Int.mul_comm]
      · have := Int.mul_le_mul hk (show 1 ≤ p by omega) (by omega) (by omega)
        omega
    · rw [sfIn_no h]; exact ⟨h2, Nat.le_refl _, rfl, id⟩
def sfGo (p n k : Int) : Int × Int :=
  if h : 2 ≤ p ∧ n ≠ 0 ∧ p * p ≤ (n.natAbs : Int) then sfGo (p + 1) (sfIn p n k).1 (sfIn p n k).2 else (n, k)
termination_by ((n.natAbs : Int) - p + 1).toNat
decreasing_by
  have h1 := Int.mul_le_mul_of_nonneg_right h.1 (show 0 ≤ p by omega)
  have := (sfIn_bd p h.1 n.natAbs n k (Nat.le_refl _) h.2.1).2.1
  omega
def sqf (n : Int) : Int × Int := sfGo 2 n 1
theorem sfGo_step {p n k : Int} (hp : 2 ≤ p) (hn : n ≠ 0) (h : p * p ≤ (n.natAbs : Int)) : sfGo p n k = sfGo (p + 1) (sfIn p n k).1 (sfIn p n k).2 := by rw [sfGo, dif_pos ⟨hp, hn, h⟩]
theorem sfGo_end {p n k : Int} (h : (n.natAbs : Int) < p * p) : sfGo p n k = (n, k) := by rw [sfGo, dif_neg (by omega)]
/-- what the loop keeps: n k k is the given number, so that k stays small -/
def SfInv (N n k : Int) : Prop := n ≠ 0 ∧ 1 ≤ k ∧ n * (k * k) = N
theorem sfInv_bd {N n k : Int} (h : SfInv N n k) (hN : -1000000 ≤ N ∧ N ≤ 1000000) : -1000000 ≤ n ∧ n ≤ 1000000 ∧ k ≤ 1000 := by
  obtain ⟨h1, h2, h3⟩ := h
  have e : N.natAbs = n.natAbs * (k.natAbs * k.natAbs) := by rw [← h3, Int.natAbs_mul, Int.natAbs_mul]
  have hk1 : 1 ≤ k.natAbs * k.natAbs := Nat.mul_le_mul (show 1 ≤ k.natAbs by omega) (show 1 ≤ k.natAbs by omega)
  have e1 : n.natAbs * 1 ≤ n.natAbs * (k.natAbs * k.natAbs) := Nat.mul_le_mul_left _ hk1
  have e2 : 1 * (k.natAbs * k.natAbs) ≤ n.natAbs * (k.natAbs * k.natAbs) := Nat.mul_le_mul_right _ (by omega)
  refine ⟨by omega, by omega, Int.not_lt.1 fun hlt => ?_⟩
  have : 1001 * 1001 ≤ k.natAbs * k.natAbs := Nat.mul_le_mul (by omega) (by omega)
  omega
theorem sfInv_in {N n k p : Int} (hp : 2 ≤ p) (h : SfInv N n k) (hm : n % (p * p) = 0) : SfInv N (n.tdiv (p * p)) (k * p) := by
  obtain ⟨h1, h2, h3⟩ := h
  obtain ⟨a, b, c⟩ := abs_tdiv (sq_pos hp) h1 hm
  refine ⟨b, ?_, ?_⟩
  · have := Int.mul_le_mul h2 (show 1 ≤ p by omega) (by omega) (by omega)
    omega
  · rw [← h3]
    conv => rhs; rw [c]
    simp only [Int.mul_assoc, Int.mul_left_comm, Int.mul_comm]
theorem sfGo_inv : ∀ (m : Nat) (N p n k : Int), ((n.natAbs : Int) - p + 1).toNat ≤ m → 2 ≤ p → SfInv N n k → SfInv N (sfGo p n k).1 (sfGo p n k).2 := by
  intro m
  induction m with
  | zero =>
    intro N p n k hm hp hi
    rw [sfGo_end]
    · exact hi
    · have h1 := Int.mul_le_mul_of_nonneg_right hp (show 0 ≤ p by omega)
      omega
  | succ m ih =>
    intro N p n k hm hp hi
    by_cases h : p * p ≤ (n.natAbs : Int)
    · have h1 := Int.mul_le_mul_of_nonneg_right hp (show 0 ≤ p by omega)
      obtain ⟨a, b, c, d⟩ := sfIn_bd p hp n.natAbs n k (Nat.le_refl _) hi.1
      rw [sfGo_step hp hi.1 h]
      exact ih N (p + 1) _ _ (by omega) (by omega) ⟨a, d hi.2.1, by rw [← c]; exact hi.2.2⟩
    · rw [sfGo_end (by omega)]; exact hi
theorem sqf_inv {n : Int} (hn : n ≠ 0) : SfInv n (sqf n).1 (sqf n).2 := sfGo_inv _ n 2 n 1 (Nat.le_refl _) (by omega) ⟨hn, by omega, by omega⟩
theorem sqf_bd {n : Int} (hn : n ≠ 0) (h : -1000000 ≤ n ∧ n ≤ 1000000) : (-1000000 ≤ (sqf n).1 ∧ (sqf n).1 ≤ 1000000) ∧ 1 ≤ (sqf n).2 ∧ (sqf n).2 ≤ 1000 := by
  have hi := sqf_inv hn
  obtain ⟨a, b, c⟩ := sfInv_bd hi h
  exact ⟨⟨a, b⟩, hi.2.1, c⟩
def fnd (d : Int) : Int × Int := if (sqf d).1 % 4 = 1 then sqf d else (4 * (sqf d).1, (sqf d).2 / 2)
theorem fnd_one {d : Int} (h : (sqf d).1 % 4 = 1) : fnd d = ((sqf d).1, (sqf d).2) := by unfold fnd; rw [if_pos h]
theorem fnd_four {d : Int} (h : ¬ (sqf d).1 % 4 = 1) : fnd d = (4 * (sqf d).1, (sqf d).2 / 2) := by unfold fnd; rw [if_neg h]
theorem disc_ne {d : Int} (h : discB d = true) : d ≠ 0 := by
  intro h0; subst h0
  have := (discB_iff.1 h).2.2
  have h1 : isq 0 = 0 := isq_eq (by omega) (by omega) (by omega) (by omega)
  simp [sqB, h1] at this
end Go.Proofs.Ytafcbaganjcnlaa
