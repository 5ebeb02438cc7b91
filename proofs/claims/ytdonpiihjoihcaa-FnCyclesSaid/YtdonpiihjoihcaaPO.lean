/- Plain: what the product round the cycle of the principal form tells of small solutions. -/
import Derived.Test.YtdonpiihjoihcaaPM
namespace Go.Proofs.Ytdonpiihjoihcaa
set_option linter.unusedVariables false

/-- a small solution -/
def smB (t u : Int) : Bool := decide (-100000000 ≤ t) && decide (t ≤ 100000000) && good u
theorem smB_iff {t u : Int} : smB t u = true ↔ (-100000000 ≤ t ∧ t ≤ 100000000) ∧ good u = true := by simp [smB]
theorem smB_no {t u : Int} (h : smB t u = false) : ¬ (-100000000 ≤ t ∧ t ≤ 100000000) ∨ ((-100000000 ≤ t ∧ t ≤ 100000000) ∧ good u = false) := by
  by_cases hc : -100000000 ≤ t ∧ t ≤ 100000000
  · right; refine ⟨hc, ?_⟩
    cases hg : good u with
    | false => rfl
    | true => rw [smB_iff.2 ⟨hc, hg⟩] at h; cases h
  · exact .inl hc
theorem bigM_iff {m : Mx} : bigM m = false ↔ (-1000000000 ≤ m.p ∧ m.p ≤ 1000000000) ∧ (-1000000000 ≤ m.q ∧ m.q ≤ 1000000000) ∧ (-1000000000 ≤ m.r ∧ m.r ≤ 1000000000) ∧ (-1000000000 ≤ m.s ∧ m.s ≤ 1000000000) := by
  unfold bigM
  simp only [Bool.or_eq_false_iff, decide_eq_false_iff_not]
  unfold ab
  omega
theorem bigM_yes {m : Mx} (h : bigM m = true) : (1000000000 < (m.p.natAbs : Int)) ∨ ((m.p.natAbs : Int) ≤ 1000000000 ∧ 1000000000 < (m.q.natAbs : Int)) ∨ ((m.p.natAbs : Int) ≤ 1000000000 ∧ (m.q.natAbs : Int) ≤ 1000000000 ∧ 1000000000 < (m.r.natAbs : Int)) ∨
    ((m.p.natAbs : Int) ≤ 1000000000 ∧ (m.q.natAbs : Int) ≤ 1000000000 ∧ (m.r.natAbs : Int) ≤ 1000000000 ∧ 1000000000 < (m.s.natAbs : Int)) := by
  unfold bigM at h
  simp only [Bool.or_eq_true, decide_eq_true_eq] at h
  unfold ab at h
  omega
theorem four_cases {f g : Fm} {m : Mx} {o : Option Mx} (h : Four f g m o) :
    (bigM (mulM m (stp g)) = true ∧ o = none) ∨ (bigM (mulM m (stp g)) = false ∧ nx g = f ∧ o = some (mulM m (stp g))) ∨ (bigM (mulM m (stp g)) = false ∧ nx g ≠ f ∧ Four f (nx g) (mulM m (stp g)) o) := by
  cases h with
  | bad h => exact .inl ⟨h, rfl⟩
  | stop h1 h2 => exact .inr (.inl ⟨h1, h2, rfl⟩)
  | next h1 h2 h3 => exact .inr (.inr ⟨h1, h2, h3⟩)
/-- what the product round the cycle tells -/
def FourO (fa t u : Int) (v : Bool) (o : Option Mx) : Prop :=
  (o = none → v = false) ∧ ∀ m, o = some m → smB (ab (m.p + m.s)) (ab (m.r.tdiv fa)) = v ∧ (v = true → ab (m.p + m.s) = t ∧ ab (m.r.tdiv fa) = u)
theorem uf_out {d t u T U : Int} {v : Bool} (hd : posD d = true) (hp : PellOut d t u v) (hs : Sol d T U) (hmin : ∀ t' u', Sol d t' u' → U ≤ u') :
    (1000000 < U → v = false) ∧ smB T U = v ∧ (v = true → T = t ∧ U = u) := by
  rcases hp with ⟨rfl, h1, h2, h3⟩ | ⟨rfl, rfl, rfl, h4⟩
  · have e : U = u := by have := hmin _ _ h1; have := h2 _ _ hs; omega
    subst e
    have e2 := sol_t hs h1
    subst e2
    have := sol_small hd hs h3
    have := hs.1
    have := hs.2.1
    refine ⟨fun h => by omega, smB_iff.2 ⟨⟨by omega, by omega⟩, good_yes (by omega) (by omega)⟩, fun _ => ⟨rfl, rfl⟩⟩
  · have := h4 _ _ hs
    refine ⟨fun _ => rfl, ?_, fun h => by cases h⟩
    cases hh : smB T U with
    | false => rfl
    | true =>
      have hg := (smB_iff.1 hh).2
      rw [good_no (by omega)] at hg
      cases hg
theorem fourO_of {d t u : Int} {v b : Bool} {fa : Int} {m : Mx} (hd : posD d = true) (hp : PellOut d t u v) (hs : Sol d (ab (m.p + m.s)) (ab (m.r.tdiv fa))) (hmin : ∀ t' u', Sol d t' u' → ab (m.r.tdiv fa) ≤ u')
    (hb : b = true → 1000000 < ab (m.r.tdiv fa)) : FourO fa t u v (if b = true then none else some m) := by
  obtain ⟨h1, h2, h3⟩ := uf_out hd hp hs hmin
  refine ⟨fun h => ?_, fun m' h => ?_⟩
  · cases b with
    | true => exact h1 (hb rfl)
    | false => simp at h
  · cases b with
    | true => simp at h
    | false =>
      simp at h; subst h
      exact ⟨h2, h3⟩
theorem bigM_yes' {mp mq mr ms a b c : Int} (h : bigM (mulM ⟨mp, mq, mr, ms⟩ (stp ⟨a, b, c⟩)) = true) : (1000000000 < ((m1 mp mq mr ms 0 (-1) 1 (nS a b c)).natAbs : Int)) ∨ (((m1 mp mq mr ms 0 (-1) 1 (nS a b c)).natAbs : Int) ≤ 1000000000 ∧ 1000000000 < ((m2 mp mq mr ms 0 (-1) 1 (nS a b c)).natAbs : Int)) ∨
    (((m1 mp mq mr ms 0 (-1) 1 (nS a b c)).natAbs : Int) ≤ 1000000000 ∧ ((m2 mp mq mr ms 0 (-1) 1 (nS a b c)).natAbs : Int) ≤ 1000000000 ∧ 1000000000 < ((m3 mp mq mr ms 0 (-1) 1 (nS a b c)).natAbs : Int)) ∨
    (((m1 mp mq mr ms 0 (-1) 1 (nS a b c)).natAbs : Int) ≤ 1000000000 ∧ ((m2 mp mq mr ms 0 (-1) 1 (nS a b c)).natAbs : Int) ≤ 1000000000 ∧ ((m3 mp mq mr ms 0 (-1) 1 (nS a b c)).natAbs : Int) ≤ 1000000000 ∧ 1000000000 < ((m4 mp mq mr ms 0 (-1) 1 (nS a b c)).natAbs : Int)) := bigM_yes h
theorem bigM_no' {mp mq mr ms a b c : Int} (h : bigM (mulM ⟨mp, mq, mr, ms⟩ (stp ⟨a, b, c⟩)) = false) : ((m1 mp mq mr ms 0 (-1) 1 (nS a b c)).natAbs : Int) ≤ 1000000000 ∧ ((m2 mp mq mr ms 0 (-1) 1 (nS a b c)).natAbs : Int) ≤ 1000000000 ∧ ((m3 mp mq mr ms 0 (-1) 1 (nS a b c)).natAbs : Int) ≤ 1000000000 ∧ ((m4 mp mq mr ms 0 (-1) 1 (nS a b c)).natAbs : Int) ≤ 1000000000 := by
  obtain ⟨h1, h2, h3, h4⟩ := bigM_iff.1 h
  have e1 : (mulM ⟨mp, mq, mr, ms⟩ (stp ⟨a, b, c⟩)).p = m1 mp mq mr ms 0 (-1) 1 (nS a b c) := rfl
  have e2 : (mulM ⟨mp, mq, mr, ms⟩ (stp ⟨a, b, c⟩)).q = m2 mp mq mr ms 0 (-1) 1 (nS a b c) := rfl
  have e3 : (mulM ⟨mp, mq, mr, ms⟩ (stp ⟨a, b, c⟩)).r = m3 mp mq mr ms 0 (-1) 1 (nS a b c) := rfl
  have e4 : (mulM ⟨mp, mq, mr, ms⟩ (stp ⟨a, b, c⟩)).s = m4 mp mq mr ms 0 (-1) 1 (nS a b c) := rfl
  rw [e1] at h1; rw [e2] at h2; rw [e3] at h3; rw [e4] at h4
  omega
theorem m9_bd {p q r s x y z u : Int} (hp : -1000000000 ≤ p ∧ p ≤ 1000000000) (hq : -1000000000 ≤ q ∧ q ≤ 1000000000) (hr : -1000000000 ≤ r ∧ r ≤ 1000000000) (hs : -1000000000 ≤ s ∧ s ≤ 1000000000) (h' : good4 x y z u = true) :
    (-2000000000000000 ≤ m1 p q r s x y z u ∧ m1 p q r s x y z u ≤ 2000000000000000) ∧ (-2000000000000000 ≤ m2 p q r s x y z u ∧ m2 p q r s x y z u ≤ 2000000000000000) ∧ (-2000000000000000 ≤ m3 p q r s x y z u ∧ m3 p q r s x y z u ≤ 2000000000000000) ∧ (-2000000000000000 ≤ m4 p q r s x y z u ∧ m4 p q r s x y z u ≤ 2000000000000000) := by
  obtain ⟨hx, hy, hz, hu⟩ := good4_iff.1 h'
  have bd : ∀ {a b : Int}, (-1000000000 ≤ a ∧ a ≤ 1000000000) → (-1000000 ≤ b ∧ b ≤ 1000000) → -1000000000000000 ≤ a * b ∧ a * b ≤ 1000000000000000 := fun ha hb => mulb ha.1 ha.2 hb.1 hb.2
  have a1 := bd hp hx; have a2 := bd hq hz; have a3 := bd hp hy; have a4 := bd hq hu
  have a5 := bd hr hx; have a6 := bd hs hz; have a7 := bd hr hy; have a8 := bd hs hu
  unfold m1 m2 m3 m4
  omega
theorem tdiv_bd {x a B : Int} (h : (x.natAbs : Int) ≤ B) : ((x.tdiv a).natAbs : Int) ≤ B := by
  have := Int.natAbs_tdiv_le_natAbs x a
  omega
end Go.Proofs.Ytdonpiihjoihcaa
