/- Plain: automorphs of primitive indefinite forms and their powers. -/
import Derived.Test.YtdonpiihjoihcaaPW
namespace Go.Proofs.Ytdonpiihjoihcaa
set_option linter.unusedVariables false

def Nrm (d t u : Int) : Prop := t * t - d * u * u = 4
theorem half_of {a b x y d : Int} (h : Nrm d a b) (h' : Nrm d x y) : (a * x + d * b * y) % 2 = 0 ∧ (a * y + b * x) % 2 = 0 := by
  have e1 := even_of_sq (a := a) (b := b) (d := d) (c := 1) (by unfold Nrm at h; omega)
  have e2 := even_of_sq (a := x) (b := y) (d := d) (c := 1) (by unfold Nrm at h'; omega)
  obtain ⟨p, hp⟩ : ∃ p, a = d * b + 2 * p := ⟨(a - d * b) / 2, by omega⟩
  obtain ⟨q, hq⟩ : ∃ q, x = d * y + 2 * q := ⟨(x - d * y) / 2, by omega⟩
  have hdd : ∃ z, d * d + d = 2 * z := by
    rcases Int.emod_two_eq d with h | h
    · exact ⟨(d / 2) * (d + 1), by have : d = 2 * (d / 2) := by omega
                                   generalize d / 2 = k at *; subst this; grind⟩
    · exact ⟨d * (d / 2 + 1), by have : d = 2 * (d / 2) + 1 := by omega
                                 generalize d / 2 = k at *; subst this; grind⟩
  obtain ⟨z, hz⟩ := hdd
  constructor
  · have : a * x + d * b * y = 2 * (z * b * y + d * b * q + p * d * y + 2 * p * q) := by grind
    omega
  · have : a * y + b * x = 2 * (d * b * y + p * y + b * q) := by grind
    omega
theorem nrm_pr {d a b x y : Int} (h : Nrm d a b) (h' : Nrm d x y) : Nrm d (prT d a b x y) (prU a b x y) := by
  obtain ⟨e1, e2⟩ := half_of h h'
  obtain ⟨p, hp⟩ : ∃ p, a * x + d * b * y = 2 * p := ⟨(a * x + d * b * y) / 2, by omega⟩
  obtain ⟨q, hq⟩ : ∃ q, a * y + b * x = 2 * q := ⟨(a * y + b * x) / 2, by omega⟩
  have h1 : prT d a b x y = p := by unfold prT; rw [hp, Int.mul_tdiv_cancel_left _ (by omega)]
  have h2 : prU a b x y = q := by unfold prU; rw [hq, Int.mul_tdiv_cancel_left _ (by omega)]
  rw [h1, h2]
  unfold Nrm at *
  have : (2 * p) * (2 * p) - d * (2 * q) * (2 * q) = 16 := by rw [← hp, ← hq]; grind
  have h4 : (2 * p) * (2 * p) - d * (2 * q) * (2 * q) = 4 * (p * p - d * q * q) := by grind
  omega
theorem nrm_pow {d x y : Int} (h' : Nrm d x y) : ∀ (k : Nat) (a b t u : Int), Nrm d a b → powF d x y k a b = (t, u, true) → Nrm d t u
  | 0, a, b, t, u, h, e => by unfold powF at e; simp at e; obtain ⟨rfl, rfl⟩ := e; exact h
  | k + 1, a, b, t, u, h, e => by
    unfold powF at e
    split at e
    · exact nrm_pow h' k _ _ t u (nrm_pr h h') e
    · simp at e
theorem pwOut_nrm {d t u : Int} {k : Nat} (h : PwOut d k t u true) : Nrm d t u := by
  obtain ⟨x, y, b, hp, ⟨_, _, _, h⟩ | ⟨rfl, _, h⟩⟩ := h
  · cases h
  · rcases hp with ⟨_, hs, _⟩ | ⟨h, _⟩
    · exact nrm_pow hs.2.2 k 2 0 t u (by unfold Nrm; omega) h
    · cases h
/-- the automorph of a solution -/
def autM (a b c t u : Int) : Mx := ⟨(t - b * u).tdiv 2, -c * u, a * u, (t + b * u).tdiv 2⟩
def negM (m : Mx) : Mx := ⟨-m.p, -m.q, -m.r, -m.s⟩
/-- it is one: of determinant 1, and it leaves the form -/
def Auto (a b c : Int) (m : Mx) : Prop := detM m = 1 ∧ valF a b c m.p m.r = a ∧ polF a b c m.p m.r m.q m.s = b ∧ valF a b c m.q m.s = c
theorem autM_auto {a b c t u : Int} (h : Nrm (disc a b c) t u) : Auto a b c (autM a b c t u) := by
  unfold Nrm disc at h
  have hpar : (t - b * u) % 2 = 0 := by
    have h1 : (t * t) % 2 = (b * u * (b * u)) % 2 := by
      have : t * t = b * u * (b * u) + 2 * (2 - 2 * (a * c * u * u)) := by grind
      omega
    rcases Int.emod_two_eq t with ht | ht <;> rcases Int.emod_two_eq (b * u) with hb | hb <;>
      (rw [Int.mul_emod, Int.mul_emod (b * u), ht, hb] at h1; first | omega | (exfalso; revert h1; decide))
  obtain ⟨p, hp⟩ : ∃ p, t - b * u = 2 * p := ⟨(t - b * u) / 2, by omega⟩
  obtain ⟨s, hs⟩ : ∃ s, t + b * u = 2 * s := ⟨(t + b * u) / 2, by omega⟩
  have e1 : (t - b * u).tdiv 2 = p := by rw [hp, Int.mul_tdiv_cancel_left _ (by omega)]
  have e2 : (t + b * u).tdiv 2 = s := by rw [hs, Int.mul_tdiv_cancel_left _ (by omega)]
  unfold Auto autM detM valF polF
  simp only [e1, e2]
  have ht : t = b * u + 2 * p := by omega
  have hs' : s = b * u + p := by omega
  subst ht hs'
  have key : p * p + b * p * u + a * c * u * u = 1 := by grind
  clear h hpar hp hs e1 e2
  refine ⟨?_, ?_, ?_, ?_⟩
  · grind
  · have : a * p * p + b * p * (a * u) + c * (a * u) * (a * u) = a * (p * p + b * p * u + a * c * u * u) := by grind
    rw [this, key, Int.mul_one]
  · have : 2 * a * p * (-c * u) + b * (p * (b * u + p) + a * u * (-c * u)) + 2 * c * (a * u) * (b * u + p) = b * (p * p + b * p * u + a * c * u * u) := by grind
    rw [this, key, Int.mul_one]
  · have : a * (-c * u) * (-c * u) + b * (-c * u) * (b * u + p) + c * (b * u + p) * (b * u + p) = c * (p * p + b * p * u + a * c * u * u) := by grind
    rw [this, key, Int.mul_one]
theorem auto_neg {a b c : Int} {m : Mx} (h : Auto a b c m) : Auto a b c (negM m) := by
  obtain ⟨h1, h2, h3, h4⟩ := h
  unfold Auto negM detM valF polF at *
  simp only
  refine ⟨by rw [← h1]; grind, ?_, ?_, ?_⟩
  · rw [← h2]; grind
  · rw [← h3]; grind
  · rw [← h4]; grind
/-- the automorph with an exponent -/
def expU (k u : Int) : Int := if k < 0 then -u else u
def AutOut (a b c k : Int) (m : Mx) (v : Bool) : Prop := ∃ t u w, PwOut (disc a b c) k.natAbs t u w ∧
  ((w = false ∧ v = false ∧ m = zM) ∨ (w = true ∧ smB t u = true ∧ ((goodM (autM a b c t (expU k u)) = true ∧ v = true ∧ m = autM a b c t (expU k u)) ∨ (goodM (autM a b c t (expU k u)) = false ∧ v = false ∧ m = zM))))
theorem autOut_ex {a b c : Int} (h : posD (disc a b c) = true) (k : Int) : ∃ m v, AutOut a b c k m v := by
  obtain ⟨t, u, w, hp⟩ := pwOut_ex h k.natAbs
  cases w with
  | false => exact ⟨zM, false, t, u, false, hp, .inl ⟨rfl, rfl, rfl⟩⟩
  | true =>
    cases hg : goodM (autM a b c t (expU k u)) with
    | true => exact ⟨_, true, t, u, true, hp, .inr ⟨rfl, pwOut_sm hp, .inl ⟨hg, rfl, rfl⟩⟩⟩
    | false => exact ⟨zM, false, t, u, true, hp, .inr ⟨rfl, pwOut_sm hp, .inr ⟨hg, rfl, rfl⟩⟩⟩
theorem nrm_exp {d t u k : Int} (h : Nrm d t u) : Nrm d t (expU k u) := by
  unfold expU
  split
  · unfold Nrm at *; rw [← h]; grind
  · exact h
theorem autOut_auto {a b c k : Int} {m : Mx} (h : AutOut a b c k m true) : Auto a b c m ∧ goodM m = true := by
  obtain ⟨t, u, w, hp, ⟨_, h, _⟩ | ⟨rfl, _, ⟨h1, _, rfl⟩ | ⟨_, h, _⟩⟩⟩ := h
  · cases h
  · exact ⟨autM_auto (nrm_exp (pwOut_nrm hp)), h1⟩
  · cases h
/-- the search for an exponent from k on -/
inductive AE (a b c : Int) (m : Mx) : Int → Int → Int → Bool → Prop
  | done {k : Int} : 20 < k → AE a b c m k 0 0 false
  | plus {k : Int} {n : Mx} : k ≤ 20 → AutOut a b c k n true → n = m → AE a b c m k 1 k true
  | minus {k : Int} {n : Mx} : k ≤ 20 → AutOut a b c k n true → n ≠ m → negM n = m → AE a b c m k (-1) k true
  | next {k s e : Int} {n : Mx} {v w : Bool} : k ≤ 20 → AutOut a b c k n v → (v = true → n ≠ m ∧ negM n ≠ m) → AE a b c m (k + 1) s e w → AE a b c m k s e w
theorem ae_ex {a b c : Int} (h : posD (disc a b c) = true) (m : Mx) : ∀ (j : Nat) (k : Int), (21 - k).toNat ≤ j → ∃ s e w, AE a b c m k s e w
  | 0, k, hj => ⟨0, 0, false, .done (by omega)⟩
  | j + 1, k, hj => by
    by_cases hk : 20 < k
    · exact ⟨0, 0, false, .done hk⟩
    · obtain ⟨n, v, hn⟩ := autOut_ex h k
      obtain ⟨s, e, w, hr⟩ := ae_ex h m j (k + 1) (by omega)
      cases v with
      | false => exact ⟨s, e, w, .next (by omega) hn (fun h => by cases h) hr⟩
      | true =>
        by_cases h1 : n = m
        · exact ⟨1, k, true, .plus (by omega) hn h1⟩
        · by_cases h2 : negM n = m
          · exact ⟨-1, k, true, .minus (by omega) hn h1 h2⟩
          · exact ⟨s, e, w, .next (by omega) hn (fun _ => ⟨h1, h2⟩) hr⟩
/-- what is no automorph is not found -/
theorem ae_no {a b c : Int} {m : Mx} {k s e : Int} {w : Bool} (h : AE a b c m k s e w) (hm : ¬ Auto a b c m) : s = 0 ∧ e = 0 ∧ w = false := by
  induction h with
  | done h => exact ⟨rfl, rfl, rfl⟩
  | plus h1 h2 h3 => subst h3; exact absurd (autOut_auto h2).1 hm
  | minus h1 h2 h3 h4 => subst h4; exact absurd (auto_neg (autOut_auto h2).1) hm
  | next h1 h2 h3 h4 ih => exact ih
theorem ae_cases {a b c : Int} {m : Mx} {k s e : Int} {w : Bool} (h : AE a b c m k s e w) :
    (20 < k ∧ s = 0 ∧ e = 0 ∧ w = false) ∨ (k ≤ 20 ∧ ∃ n v, AutOut a b c k n v ∧ ((v = true ∧ n = m ∧ s = 1 ∧ e = k ∧ w = true) ∨ (v = true ∧ n ≠ m ∧ negM n = m ∧ s = -1 ∧ e = k ∧ w = true) ∨ ((v = true → n ≠ m ∧ negM n ≠ m) ∧ AE a b c m (k + 1) s e w))) := by
  cases h with
  | done h => exact .inl ⟨h, rfl, rfl, rfl⟩
  | plus h1 h2 h3 => exact .inr ⟨h1, _, _, h2, .inl ⟨rfl, h3, rfl, rfl, rfl⟩⟩
  | minus h1 h2 h3 h4 => exact .inr ⟨h1, _, _, h2, .inr (.inl ⟨rfl, h3, h4, rfl, rfl, rfl⟩)⟩
  | next h1 h2 h3 h4 => exact .inr ⟨h1, _, _, h2, .inr (.inr ⟨h3, h4⟩)⟩
end Go.Proofs.Ytdonpiihjoihcaa
