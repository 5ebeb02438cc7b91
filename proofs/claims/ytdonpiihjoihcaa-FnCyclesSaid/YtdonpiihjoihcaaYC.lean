/- Plain: the cycles of all forms of a discriminant, one after the other; which are counted in the wide sense. -/
import Derived.Test.YtdonpiihjoihcaaCM
namespace Go.Proofs.Ytdonpiihjoihcaa
set_option linter.unusedVariables false

/-! orbits -/
theorem it_mod {d : Int} {f : Fm} {p : Nat} (h : Per f p) : ∀ k, ∃ i, i < p ∧ it i f = it k f
  | 0 => ⟨0, by have := h.1; omega, rfl⟩
  | k + 1 => by
    obtain ⟨i, h1, h2⟩ := it_mod (d := d) h k
    by_cases hc : i + 1 < p
    · exact ⟨i + 1, hc, by rw [it_succ, it_succ, h2]⟩
    · refine ⟨0, by have := h.1; omega, ?_⟩
      have hp : it (i + 1) f = f := by rw [show i + 1 = p by omega]; exact h.2.2.1
      rw [it_succ, ← h2, ← it_succ, hp]; rfl
theorem cyc_iff {d : Int} {f g : Fm} (h : Cy d f) : g ∈ cyc f ↔ ∃ k, it k f = g := by
  obtain ⟨p, hp⟩ := per_ex h
  rw [cyc_eq hp]
  constructor
  · intro hg
    obtain ⟨i, _, rfl⟩ := List.mem_map.1 hg
    exact ⟨i, rfl⟩
  · rintro ⟨k, rfl⟩
    obtain ⟨i, h1, h2⟩ := it_mod (d := d) hp k
    exact List.mem_map.2 ⟨i, List.mem_range.2 h1, h2⟩
theorem cyc_self {d : Int} {f : Fm} (h : Cy d f) : f ∈ cyc f := (cyc_iff h).2 ⟨0, rfl⟩
theorem cyc_sym {d : Int} {f g : Fm} (h : Cy d f) (hg : g ∈ cyc f) : f ∈ cyc g := by
  obtain ⟨k, rfl⟩ := (cyc_iff h).1 hg
  obtain ⟨p, hp⟩ := per_ex h
  refine (cyc_iff (cy_it h k)).2 ?_
  obtain ⟨i, h1, h2⟩ := it_mod (d := d) hp k
  refine ⟨p - i, ?_⟩
  rw [← h2, ← it_add, show p - i + i = p by omega]
  exact hp.2.2.1
theorem cyc_trans {d : Int} {f g e : Fm} (h : Cy d f) (hg : g ∈ cyc f) (he : e ∈ cyc g) : e ∈ cyc f := by
  obtain ⟨k, rfl⟩ := (cyc_iff h).1 hg
  obtain ⟨l, rfl⟩ := (cyc_iff (cy_it h k)).1 he
  exact (cyc_iff h).2 ⟨l + k, it_add k f l⟩
theorem cyc_ne (f : Fm) : cyc f ≠ [] := by unfold cyc; simp
theorem cyc_head (f : Fm) : (cyc f).head? = some f := by unfold cyc; rfl

/-! all forms -/
theorem pickF_mem {d a b : Int} {f : Fm} (h : f ∈ pickF d a b) : pickB d a b = true ∧ f = ⟨a, b, quoF d a b⟩ := by
  unfold pickF at h
  split at h
  · rename_i hc; exact ⟨hc, by simpa using h⟩
  · simp at h
theorem allF_mem {d : Int} {f : Fm} : f ∈ allF d ↔ ∃ i j : Nat, i < 2 * (isq d).toNat + 1 ∧ j < (isq d).toNat ∧ f ∈ pickF d ((i : Int) - (isq d).toNat) ((j : Int) + 1) := by
  unfold allF preF rowF
  simp only [List.mem_flatMap, List.mem_range]
  constructor
  · rintro ⟨i, h1, j, h2, h3⟩; exact ⟨i, j, h1, h2, h3⟩
  · rintro ⟨i, j, h1, h2, h3⟩; exact ⟨i, h1, j, h2, h3⟩
theorem allF_cy {d : Int} {f : Fm} (hd : posD d = true) (h : f ∈ allF d) : Cy d f ∧ content f.a f.b f.c = 1 := by
  obtain ⟨i, j, h1, h2, h3⟩ := allF_mem.1 h
  obtain ⟨R, hR, _, hR2⟩ := isq31 hd
  obtain ⟨hp, rfl⟩ := pickF_mem h3
  simp only [pickB, Bool.and_eq_true, Bool.not_eq_true'] at hp
  obtain ⟨⟨⟨p1, p2⟩, p3⟩, p4⟩ := hp
  obtain ⟨g1, _⟩ := pick_good hd (by omega) (by omega) (by omega) (by omega) p1 p2
  have hm : (((j : Int) + 1) * ((j : Int) + 1) - d).tmod (4 * ((i : Int) - (isq d).toNat)) = 0 := by simpa using p2
  have hq : 4 * ((i : Int) - (isq d).toNat) * quoF d ((i : Int) - (isq d).toNat) ((j : Int) + 1) = ((j : Int) + 1) * ((j : Int) + 1) - d := by
    have := Int.mul_tdiv_add_tmod (((j : Int) + 1) * ((j : Int) + 1) - d) (4 * ((i : Int) - (isq d).toNat))
    unfold quoF
    omega
  refine ⟨⟨⟨g1, ?_⟩, p3⟩, by simpa using p4⟩
  show disc ((i : Int) - (isq d).toNat) ((j : Int) + 1) (quoF d ((i : Int) - (isq d).toNat) ((j : Int) + 1)) = d
  unfold disc
  omega
theorem allF_of {d : Int} {f : Fm} (h : Cy d f) (hc : content f.a f.b f.c = 1) : f ∈ allF d := by
  rcases f with ⟨a, b, c⟩
  obtain ⟨⟨h1, h2⟩, h3⟩ := h
  have h1' : indefB a b c = true := h1
  have h2' : disc a b c = d := h2
  have h3' : cycB a b c = true := h3
  have hd : posD d = true := by rw [← h2']; exact (indefB_iff.1 h1').2
  obtain ⟨R, hR, _, hR2⟩ := isq31 hd
  obtain ⟨ha, _⟩ := indef_ne h1'
  have hcy := cycB_iff.1 h3'
  rw [h2'] at hcy
  obtain ⟨c1, c2, c3, c4⟩ := hcy
  unfold ab at c3 c4
  have hq : quoF d a b = c := by
    unfold quoF
    rw [← h2']
    unfold disc
    rw [show b * b - (b * b - 4 * a * c) = 4 * a * c by omega, Int.mul_tdiv_cancel_left _ (by omega)]
  have hm : (b * b - d).tmod (4 * a) = 0 := by
    rw [← h2']; unfold disc
    rw [show b * b - (b * b - 4 * a * c) = 4 * a * c by omega, Int.mul_tmod_right]
  have hp : pickB d a b = true := by
    simp only [pickB, Bool.and_eq_true, Bool.not_eq_true']
    rw [hq]
    exact ⟨⟨⟨by simpa using ha, by simpa using hm⟩, h3'⟩, by simpa using hc⟩
  refine allF_mem.2 ⟨(a + (isq d).toNat).toNat, (b - 1).toNat, by omega, by omega, ?_⟩
  have e1 : (((a + (isq d).toNat).toNat : Nat) : Int) - (isq d).toNat = a := by omega
  have e2 : (((b - 1).toNat : Nat) : Int) + 1 = b := by omega
  rw [e1, e2]
  unfold pickF
  rw [if_pos hp, hq]
  simp
def turnF (f : Fm) : Fm := ⟨-f.a, f.b, -f.c⟩
theorem turn_disc (a b c : Int) : disc (-a) b (-c) = disc a b c := by
  unfold disc
  have : 4 * -a * -c = 4 * a * c := by rw [Int.mul_neg, Int.mul_neg, Int.neg_mul, Int.neg_neg]
  omega
theorem turn_all {d : Int} {f : Fm} (hd : posD d = true) (h : f ∈ allF d) : turnF f ∈ allF d := by
  obtain ⟨⟨⟨h1, h2⟩, h3⟩, h4⟩ := allF_cy hd h
  rcases f with ⟨a, b, c⟩
  have h1' : indefB a b c = true := h1
  have h2' : disc a b c = d := h2
  have h3' : cycB a b c = true := h3
  have h4' : content a b c = 1 := h4
  refine allF_of ⟨⟨?_, ?_⟩, ?_⟩ ?_
  · show indefB (-a) b (-c) = true
    obtain ⟨g1, g2⟩ := indefB_iff.1 h1'
    obtain ⟨k1, k2, k3⟩ := good3_iff.1 g1
    refine indefB_iff.2 ⟨good3_iff.2 ⟨by omega, k2, by omega⟩, ?_⟩
    rw [turn_disc]; exact g2
  · show disc (-a) b (-c) = d
    rw [turn_disc]; exact h2'
  · show cycB (-a) b (-c) = true
    rw [cycB_iff] at h3' ⊢
    rw [turn_disc]
    have : ab (-a) = ab a := by unfold ab; omega
    rw [this]; exact h3'
  · show content (-a) b (-c) = 1
    rw [← h4']
    unfold content
    rw [Int.neg_gcd, Int.gcd_neg]

/-! the cycles, one after the other -/
def cysStep (L : List (List Fm)) (f : Fm) : List (List Fm) := if f ∈ L.flatten then L else L ++ [cyc f]
def cysN (l : List Fm) (k : Nat) : List (List Fm) := (l.take k).foldl cysStep []
def cysD (d : Int) : List (List Fm) := cysN (allF d) (allF d).length
theorem cysN_succ {l : List Fm} {k : Nat} (hk : k < l.length) : cysN l (k + 1) = cysStep (cysN l k) l[k] := by
  unfold cysN
  rw [List.take_add_one, List.foldl_append]
  simp [hk]
theorem cysN_yes {l : List Fm} {k : Nat} {f : Fm} (hk : k < l.length) (hf : l[k] = f) (h : decide (f ∈ (cysN l k).flatten) = true) : cysN l (k + 1) = cysN l k := by
  rw [cysN_succ hk, hf]; unfold cysStep; rw [if_pos (by simpa using h)]
theorem cysN_no {l : List Fm} {k : Nat} {f : Fm} (hk : k < l.length) (hf : l[k] = f) (h : decide (f ∈ (cysN l k).flatten) = false) : cysN l (k + 1) = cysN l k ++ [cyc f] := by
  rw [cysN_succ hk, hf]; unfold cysStep; rw [if_neg (by simpa using h)]
structure CysI (d : Int) (l : List Fm) (k : Nat) (L : List (List Fm)) : Prop where
  each : ∀ m ∈ L, ∃ f, f ∈ l ∧ m = cyc f
  cover : ∀ f ∈ l.take k, f ∈ L.flatten
  apart : L.Pairwise (fun m m' => ∀ g, g ∈ m → g ∉ m')
  len : L.length ≤ k
theorem cysI {d : Int} {l : List Fm} (hl : ∀ f ∈ l, Cy d f) : ∀ k, k ≤ l.length → CysI d l k (cysN l k)
  | 0, _ => ⟨by simp [cysN], by simp, by simp [cysN], by simp [cysN]⟩
  | k + 1, hk => by
    have ih := cysI hl k (by omega)
    have hmem : l[k] ∈ l := List.getElem_mem _
    have htake : l.take (k + 1) = l.take k ++ [l[k]] := by
      rw [List.take_add_one]; simp [show k < l.length by omega]
    rw [cysN_succ (by omega)]
    unfold cysStep
    by_cases h : l[k] ∈ (cysN l k).flatten
    · rw [if_pos h]
      refine ⟨ih.each, fun f hf => ?_, ih.apart, by have := ih.len; omega⟩
      rw [htake, List.mem_append] at hf
      rcases hf with hf | hf
      · exact ih.cover f hf
      · simp at hf; subst hf; exact h
    · rw [if_neg h]
      refine ⟨fun m hm => ?_, fun f hf => ?_, ?_, by have := ih.len; simp; omega⟩
      · rw [List.mem_append] at hm
        rcases hm with hm | hm
        · exact ih.each m hm
        · simp at hm; exact ⟨l[k], hmem, hm⟩
      · rw [List.flatten_append, List.mem_append]
        rw [htake, List.mem_append] at hf
        rcases hf with hf | hf
        · exact .inl (ih.cover f hf)
        · right
          simp at hf
          subst hf
          simpa using cyc_self (hl _ hmem)
      · refine List.pairwise_append.2 ⟨ih.apart, by simp, fun m hm m' hm' g hg hg' => ?_⟩
        simp at hm'
        subst hm'
        obtain ⟨f0, hf0, rfl⟩ := ih.each m hm
        have h1 := cyc_sym (hl _ hmem) hg'
        have h2 := cyc_trans (hl _ hf0) hg h1
        exact h (List.mem_flatten.2 ⟨_, hm, h2⟩)
theorem cysI_all {d : Int} (hd : posD d = true) : CysI d (allF d) (allF d).length (cysD d) := cysI (fun f hf => (allF_cy hd hf).1) _ (Nat.le_refl _)

/-! numbers of cycles -/
def numK (L : List (List Fm)) : Nat → Fm → Int
  | 0, _ => 0
  | k + 1, g => if g ∈ L.getD k [] then (k : Int) else numK L k g
theorem numK_in {L : List (List Fm)} (hp : L.Pairwise (fun m m' => ∀ g, g ∈ m → g ∉ m')) {g : Fm} {i : Nat} (hi : i < L.length) (hg : g ∈ L[i]) : ∀ k, k ≤ L.length → i < k → numK L k g = i
  | 0, _, h => by omega
  | k + 1, hk, h => by
    unfold numK
    by_cases hik : i = k
    · subst hik
      rw [if_pos (by rw [List.getD_eq_getElem?_getD, List.getElem?_eq_getElem hi]; exact hg)]
    · rw [if_neg, numK_in hp hi hg k (by omega) (by omega)]
      rw [List.getD_eq_getElem?_getD, List.getElem?_eq_getElem (by omega)]
      intro hc
      exact List.pairwise_iff_getElem.1 hp i k hi (by omega) (by omega) g hg hc
/-- no earlier cycle holds the turned form -/
def wideB (L : List (List Fm)) (i : Nat) (t : Fm) : Bool := (L.take i).all (fun m => !decide (t ∈ m))
def headF (L : List (List Fm)) (i : Nat) : Fm := ((L.getD i []).head?).getD ⟨0, 0, 0⟩
def wideN (L : List (List Fm)) : Nat → Nat
  | 0 => 0
  | k + 1 => wideN L k + if wideB L k (turnF (headF L k)) = true then 1 else 0
theorem wideN_le (L : List (List Fm)) : ∀ k, wideN L k ≤ k
  | 0 => Nat.le_refl _
  | k + 1 => by unfold wideN; have := wideN_le L k; split <;> omega
theorem wideB_step {L : List (List Fm)} {i : Nat} (hi : i < L.length) (t : Fm) : wideB L (i + 1) t = (wideB L i t && !decide (t ∈ L[i])) := by
  unfold wideB
  rw [List.take_add_one, List.all_append]
  simp [hi]
theorem wide_num {L : List (List Fm)} (hp : L.Pairwise (fun m m' => ∀ g, g ∈ m → g ∉ m')) {t : Fm} (ht : t ∈ L.flatten) {i : Nat} (hi : i < L.length) : wideB L i t = decide ((i : Int) ≤ numK L L.length t) := by
  obtain ⟨m, hm, htm⟩ := List.mem_flatten.1 ht
  obtain ⟨j, hj, rfl⟩ := List.getElem_of_mem hm
  rw [numK_in hp hj htm _ (Nat.le_refl _) hj, Bool.eq_iff_iff]
  unfold wideB
  simp only [List.all_eq_true, Bool.not_eq_true', decide_eq_false_iff_not, decide_eq_true_iff]
  constructor
  · intro h
    refine Int.ofNat_le.2 (Nat.not_lt.1 fun hc => ?_)
    exact h L[j] (by rw [List.mem_take_iff_getElem]; exact ⟨j, by omega, rfl⟩) htm
  · intro h m hm htm'
    rw [List.mem_take_iff_getElem] at hm
    obtain ⟨k, hk, rfl⟩ := hm
    have hkj : k < j := by omega
    exact List.pairwise_iff_getElem.1 hp k j (by omega) hj hkj t htm' htm
theorem headF_eq {d : Int} {l : List Fm} {k : Nat} {L : List (List Fm)} (h : CysI d l k L) {i : Nat} (hi : i < L.length) : headF L i ∈ l ∧ L[i] = cyc (headF L i) := by
  obtain ⟨f, hf, e⟩ := h.each L[i] (List.getElem_mem _)
  have : headF L i = f := by
    unfold headF
    rw [List.getD_eq_getElem?_getD, List.getElem?_eq_getElem hi]
    simp only [Option.getD_some]
    rw [e, cyc_head]; rfl
  rw [this]
  exact ⟨hf, e⟩
theorem turn_in {d : Int} (hd : posD d = true) {i : Nat} (hi : i < (cysD d).length) : turnF (headF (cysD d) i) ∈ (cysD d).flatten := by
  have h := cysI_all hd
  refine h.cover _ ?_
  rw [List.take_length]
  exact turn_all hd (headF_eq h hi).1
end Go.Proofs.Ytdonpiihjoihcaa
