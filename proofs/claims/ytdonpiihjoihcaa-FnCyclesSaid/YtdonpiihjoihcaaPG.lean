/- Plain: the least solution of t t - d u u = 4 from the cycle of the principal form; certificates for all discriminants up to 1000. -/
import Derived.Test.YtdonpiihjoihcaaPF
import Derived.Test.YtdonpiihjoihcaaCZ
namespace Go.Proofs.Ytdonpiihjoihcaa
set_option linter.unusedVariables false

def nBK (r b c : Int) : Int := topR r c - (topR r c + b) % (2 * ab c)
def nxK (r d : Int) (f : Fm) : Fm := ⟨f.c, nBK r f.b f.c, (nBK r f.b f.c * nBK r f.b f.c - d).tdiv (4 * f.c)⟩
def stpK (r : Int) (f : Fm) : Mx := ⟨0, -1, 1, (f.b + nBK r f.b f.c).tdiv (2 * f.c)⟩
def cycK (r : Int) (f : Fm) : Bool := decide (0 < f.b) && decide (f.b ≤ r) && decide (r - f.b < 2 * ab f.a) && decide (2 * ab f.a ≤ r + f.b)
theorem nxK_eq {d : Int} {f : Fm} (h : disc f.a f.b f.c = d) : nxK (isq d) d f = nx f := by subst h; rfl
theorem stpK_eq {d : Int} {f : Fm} (h : disc f.a f.b f.c = d) : stpK (isq d) f = stp f := by subst h; rfl
theorem cycK_eq {d : Int} {f : Fm} (h : disc f.a f.b f.c = d) : cycK (isq d) f = cycB f.a f.b f.c := by subst h; rfl
def bigM (m : Mx) : Bool := decide (1000000000 < ab m.p) || decide (1000000000 < ab m.q) || decide (1000000000 < ab m.r) || decide (1000000000 < ab m.s)
/-- the product round the cycle as long as its entries are not too large -/
inductive Four : Fm → Fm → Mx → Option Mx → Prop
  | bad {f g : Fm} {m : Mx} : bigM (mulM m (stp g)) = true → Four f g m none
  | stop {f g : Fm} {m : Mx} : bigM (mulM m (stp g)) = false → nx g = f → Four f g m (some (mulM m (stp g)))
  | next {f g : Fm} {m : Mx} {o : Option Mx} : bigM (mulM m (stp g)) = false → nx g ≠ f → Four f (nx g) (mulM m (stp g)) o → Four f g m o
def redK (r d : Int) : Nat → Fm → Mx → Option (Fm × Mx)
  | 0, _, _ => none
  | n + 1, f, m => if cycK r f = true then some (f, m) else if goodM (mulM m (stpK r f)) = true then redK r d n (nxK r d f) (mulM m (stpK r f)) else none
theorem redK_red {d : Int} : ∀ (n : Nat) (f : Fm) (m : Mx) (g : Fm) (k : Mx), InF d f → redK (isq d) d n f m = some (g, k) → Red f m (some (g, k))
  | 0, f, m, g, k, _, h => by cases h
  | n + 1, f, m, g, k, hf, h => by
    unfold redK at h
    rw [cycK_eq hf.2, nxK_eq hf.2, stpK_eq hf.2] at h
    split at h
    · rename_i hc
      cases h; exact .stop hc
    · rename_i hc
      split at h
      · rename_i hg
        exact .next (by simpa using hc) hg (redK_red n (nx f) _ g k (inF_nx hf) h)
      · cases h
def fourK (r d : Int) (f : Fm) : Nat → Fm → Mx → Bool → Option (Mx × Bool)
  | 0, _, _, _ => none
  | n + 1, g, m, b => if nxK r d g = f then some (mulM m (stpK r g), b || bigM (mulM m (stpK r g))) else fourK r d f n (nxK r d g) (mulM m (stpK r g)) (b || bigM (mulM m (stpK r g)))
theorem fourK_true {r d : Int} {f : Fm} : ∀ (n : Nat) (g : Fm) (m : Mx) (k : Mx) (b : Bool), fourK r d f n g m true = some (k, b) → b = true
  | 0, g, m, k, b, h => by cases h
  | n + 1, g, m, k, b, h => by
    unfold fourK at h
    rw [Bool.true_or] at h
    split at h
    · cases h; rfl
    · exact fourK_true n _ _ _ _ h
theorem fourK_four {d : Int} {f : Fm} : ∀ (n : Nat) (g : Fm) (m : Mx) (k : Mx) (b : Bool), InF d g → fourK (isq d) d f n g m false = some (k, b) → Four f g m (if b = true then none else some k)
  | 0, g, m, k, b, _, h => by cases h
  | n + 1, g, m, k, b, hg, h => by
    unfold fourK at h
    rw [nxK_eq hg.2, stpK_eq hg.2, Bool.false_or] at h
    cases hb : bigM (mulM m (stp g)) with
    | true =>
      rw [hb] at h
      have : b = true := by
        split at h
        · cases h; rfl
        · exact fourK_true n _ _ _ _ h
      rw [if_pos this]; exact .bad hb
    | false =>
      rw [hb] at h
      split at h
      · rename_i he
        cases h; exact .stop hb he
      · rename_i he
        exact .next hb he (fourK_four n (nx g) _ k b (inF_nx hg) h)
def certB (d : Nat) : Bool :=
  match redK (isq d) d 4 ⟨1, (d : Int) % 2, ((d : Int) % 2 - d) / 4⟩ oneM with
  | none => false
  | some (f, _) =>
    match fourK (isq d) d f 200 f oneM false with
    | none => false
    | some (m, b) =>
      let T := (m.p + m.s).natAbs
      let U := (m.r.tdiv f.a).natAbs
      decide (T * T = d * U * U + 4) && decide (0 < T) && decide (0 < U) && noHigh d T (Nat.log2 T) && (!b || decide (1000000 < U))
theorem cert_all : ((List.range 1001).all fun (d : Nat) => !posD d || certB d) = true := by decide +kernel
theorem cert_of {d : Int} (h : posD d = true) : ∃ n : Nat, d = n ∧ certB n = true := by
  obtain ⟨h1, h2, _⟩ := posD_iff.1 h
  obtain ⟨n, rfl⟩ : ∃ n : Nat, d = n := ⟨d.toNat, by omega⟩
  have := List.all_eq_true.1 cert_all n (List.mem_range.2 (by omega))
  rw [h] at this
  exact ⟨n, rfl, by simpa using this⟩
/-- the principal form -/
def pfF (d : Int) : Fm := ⟨1, d % 2, (d % 2 - d) / 4⟩
theorem pfF_in {d : Int} (h : posD d = true) : InF d (pfF d) := by
  obtain ⟨h1, h2, h3, h4⟩ := posD_iff.1 h
  have h5 : disc 1 (d % 2) ((d % 2 - d) / 4) = d := by
    unfold disc
    have : d % 2 * (d % 2) = d % 2 := by rcases Int.emod_two_eq d with e | e <;> rw [e] <;> rfl
    rw [this]; omega
  refine ⟨indefB_iff.2 ⟨good3_iff.2 ⟨?_, ?_, ?_⟩, ?_⟩, h5⟩
  · show -1000000 ≤ (1 : Int) ∧ (1 : Int) ≤ 1000000; omega
  · show -1000000 ≤ d % 2 ∧ d % 2 ≤ 1000000; omega
  · show -1000000 ≤ (d % 2 - d) / 4 ∧ (d % 2 - d) / 4 ≤ 1000000; omega
  · show posD (disc 1 (d % 2) ((d % 2 - d) / 4)) = true
    rw [h5]; exact h
/-- what the cycle of the principal form tells of the least solution -/
theorem pell_cycle {d : Int} (h : posD d = true) : ∃ (f : Fm) (k m : Mx) (b : Bool), Red (pfF d) oneM (some (f, k)) ∧ Four f f oneM (if b = true then none else some m) ∧
    Sol d (ab (m.p + m.s)) (ab (m.r.tdiv f.a)) ∧ (∀ t' u', Sol d t' u' → ab (m.r.tdiv f.a) ≤ u') ∧ (b = true → 1000000 < ab (m.r.tdiv f.a)) := by
  have hin := pfF_in h
  obtain ⟨n, rfl, hc⟩ := cert_of h
  unfold certB at hc
  split at hc
  · cases hc
  · rename_i f k hr
    have hred := redK_red 4 _ _ _ _ hin hr
    have hcy := (red_spec hred hin (by decide) detM_one f k rfl).1
    split at hc
    · cases hc
    · rename_i m b hf
      have hfour := fourK_four 200 _ _ _ _ hcy.1 hf
      simp only [Bool.and_eq_true, decide_eq_true_eq, Bool.or_eq_true, Bool.not_eq_true'] at hc
      obtain ⟨⟨⟨⟨c1, c2⟩, c3⟩, c4⟩, c5⟩ := hc
      have hsol : Sol (n : Int) (ab (m.p + m.s)) (ab (m.r.tdiv f.a)) := by
        unfold ab
        refine ⟨by omega, by omega, ?_⟩
        have e : (((m.p + m.s).natAbs * (m.p + m.s).natAbs : Nat) : Int) = ((n * (m.r.tdiv f.a).natAbs * (m.r.tdiv f.a).natAbs + 4 : Nat) : Int) := by rw [c1]
        simp only [Int.natCast_mul, Int.natCast_add] at e
        omega
      refine ⟨f, k, m, b, hred, hfour, hsol, ?_, ?_⟩
      · obtain ⟨h1, _⟩ := posD_iff.1 h
        exact sol_is_least (by omega) hsol fun k t ht he => noHigh_spec c4 k t ht he
      · intro hb
        rcases c5 with c5 | c5
        · rw [hb] at c5; cases c5
        · unfold ab; omega
/-- what PellFour hands back -/
def PellOut (d t u : Int) (v : Bool) : Prop :=
  (v = true ∧ Sol d t u ∧ (∀ t' u', Sol d t' u' → u ≤ u') ∧ u ≤ 1000000) ∨ (v = false ∧ t = 0 ∧ u = 0 ∧ ∀ t' u', Sol d t' u' → 1000000 < u')
theorem sol_t {d t u t' : Int} (h : Sol d t u) (h' : Sol d t' u) : t = t' := by
  have h1 : t * t = t' * t' := by have := h.2.2; have := h'.2.2; omega
  have a := h.1
  have b := h'.1
  rcases Int.lt_trichotomy t t' with c | c | c
  · have := Int.mul_lt_mul c (Int.le_of_lt c) a (Int.le_of_lt b); omega
  · exact c
  · have := Int.mul_lt_mul c (Int.le_of_lt c) b (Int.le_of_lt a); omega
theorem pellOut_same {d t u t' u' : Int} {v v' : Bool} (h : PellOut d t u v) (h' : PellOut d t' u' v') : t = t' ∧ u = u' ∧ v = v' := by
  rcases h with ⟨rfl, h1, h2, h3⟩ | ⟨rfl, rfl, rfl, h4⟩ <;> rcases h' with ⟨rfl, g1, g2, g3⟩ | ⟨rfl, rfl, rfl, g4⟩
  · have e : u = u' := by have := h2 _ _ g1; have := g2 _ _ h1; omega
    subst e
    exact ⟨sol_t h1 g1, rfl, rfl⟩
  · have := g4 _ _ h1; omega
  · have := h4 _ _ g1; omega
  · exact ⟨rfl, rfl, rfl⟩
theorem pellOut_ex {d : Int} (h : posD d = true) : ∃ t u v, PellOut d t u v := by
  obtain ⟨f, k, m, b, _, _, h1, h2, _⟩ := pell_cycle h
  by_cases hu : ab (m.r.tdiv f.a) ≤ 1000000
  · exact ⟨_, _, _, .inl ⟨rfl, h1, h2, hu⟩⟩
  · exact ⟨_, _, _, .inr ⟨rfl, rfl, rfl, fun t' u' h' => by have := h2 t' u' h'; omega⟩⟩
/-- where u is small t is too -/
theorem sol_small {d t u : Int} (h : posD d = true) (hs : Sol d t u) (hu : u ≤ 1000000) : t ≤ 100000000 := by
  obtain ⟨h1, h2, _⟩ := posD_iff.1 h
  have a : u * u ≤ 1000000 * 1000000 := sq_le (Int.le_of_lt hs.2.1) hu
  have b : d * (u * u) ≤ 1000 * (1000000 * 1000000) := Int.mul_le_mul h2 a (Int.mul_nonneg (Int.le_of_lt hs.2.1) (Int.le_of_lt hs.2.1)) (by omega)
  have c : d * u * u = d * (u * u) := Int.mul_assoc _ _ _
  have e := hs.2.2
  refine Int.not_lt.1 fun hc => ?_
  have := sq_le (a := 100000000) (b := t) (by omega) (Int.le_of_lt hc)
  omega
end Go.Proofs.Ytdonpiihjoihcaa
