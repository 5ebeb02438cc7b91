/- Plain: what holds of the cycles of a discriminant: they close, hold each cyclic form once, and are as many as classes or twice as many as wide ones, by the units of norm -1. -/
import Derived.Test.YtdonpiihjoihcaaPM
import Derived.Test.YtdonpiihjoihcaaYC
import Derived.Test.YtdonpiihjoihcaaPN
namespace Go.Proofs.Ytdonpiihjoihcaa
set_option linter.unusedVariables false

/-- the form, turned -/
def trF (f : Fm) : Fm := ⟨-f.a, f.b, -f.c⟩
/-- the form under a matrix -/
def actF (f : Fm) (m : Mx) : Fm := ⟨f.a * m.p * m.p + f.b * m.p * m.r + f.c * m.r * m.r, 2 * f.a * m.p * m.q + f.b * (m.p * m.s + m.q * m.r) + 2 * f.c * m.r * m.s, f.a * m.q * m.q + f.b * m.q * m.s + f.c * m.s * m.s⟩
theorem actF_one (f : Fm) : actF f oneM = f := by
  rcases f with ⟨a, b, c⟩
  unfold actF oneM
  simp
theorem actF_mul (f : Fm) (m n : Mx) : actF (actF f m) n = actF f (mulM m n) := by
  rcases f with ⟨a, b, c⟩
  rcases m with ⟨p, q, r, s⟩
  rcases n with ⟨x, y, z, t⟩
  unfold actF mulM m1 m2 m3 m4
  simp only [Fm.mk.injEq]
  refine ⟨?_, ?_, ?_⟩ <;> grind
theorem nx_act {f : Fm} (hc : f.c ≠ 0) : nx f = actF f (stp f) := by
  rcases f with ⟨a, b, c⟩
  obtain ⟨s, h1, h2, h3, _⟩ := nxt (a := a) (b := b) hc
  unfold nx actF stp
  simp only [Fm.mk.injEq]
  rw [h2, h3]
  refine ⟨by grind, ?_, by grind⟩
  have : nB a b c = 2 * c * s - b := by
    have h1 : b + nB a b c = 2 * c * s := h1
    omega
  rw [this]
  grind
theorem it_act {d : Int} {f : Fm} (h : InF d f) : ∀ k, InF d (it k f) ∧ ∃ m, detM m = 1 ∧ it k f = actF f m
  | 0 => ⟨h, oneM, detM_one, (actF_one f).symm⟩
  | k + 1 => by
    obtain ⟨h1, m, h2, h3⟩ := it_act h k
    refine ⟨inF_nx h1, mulM m (stp (it k f)), by rw [detM_mul, h2, detM_stp]; rfl, ?_⟩
    rw [it_succ, nx_act (indef_ne h1.1).2, ← actF_mul, ← h3]
/-- what divides the multiples of a primitive form's numbers by r divides r -/
theorem prim_dvd {a b c r : Int} (hc : content a b c = 1) (h1 : a ∣ b * r) (h2 : a ∣ c * r) : a ∣ r := by
  have h3 : a ∣ a * r := ⟨r, rfl⟩
  have e1 : a ∣ ((Int.gcd (a * r) (b * r) : Nat) : Int) := Int.dvd_coe_gcd h3 h1
  rw [Int.gcd_mul_right] at e1
  have e2 : a ∣ ((Int.gcd (Int.gcd a b * r) (c * r) : Nat) : Int) := by
    refine Int.dvd_coe_gcd ?_ h2
    have : ((Int.gcd a b * r.natAbs : Nat) : Int) ∣ (Int.gcd a b : Int) * r := by
      rw [Int.natCast_mul]
      exact Int.mul_dvd_mul (Int.dvd_refl _) Int.natAbs_dvd_self
    exact Int.dvd_trans e1 this
  rw [Int.gcd_mul_right] at e2
  have e3 : Int.gcd (Int.gcd a b) c = 1 := by unfold content at hc; omega
  rw [e3, Nat.one_mul] at e2
  exact Int.dvd_natAbs.1 e2
/-- a form that is led to its turned form has a unit of norm -1 -/
theorem neg_of_turn {a b c : Int} {m : Mx} (ha : a ≠ 0) (hc : content a b c = 1) (hd : 5 ≤ disc a b c) (hm : detM m = 1) (h : actF ⟨a, b, c⟩ m = trF ⟨a, b, c⟩) : ∃ t u, Neg (disc a b c) t u := by
  rcases m with ⟨p, q, r, s⟩
  unfold actF trF at h
  simp only [Fm.mk.injEq] at h
  obtain ⟨x1, x2, x3⟩ := h
  have hm' : p * s - q * r = 1 := hm
  have k1 : 2 * s * (a * p * p + b * p * r + c * r * r) - r * (2 * a * p * q + b * (p * s + q * r) + 2 * c * r * s) = (2 * a * p + b * r) * (p * s - q * r) := by grind
  have k2 : 2 * q * (a * p * p + b * p * r + c * r * r) - p * (2 * a * p * q + b * (p * s + q * r) + 2 * c * r * s) = -(b * p + 2 * c * r) * (p * s - q * r) := by grind
  rw [x1, x2, hm'] at k1 k2
  have j1 : a * (p + s) + b * r = 0 := by grind
  have j2 : a * q = c * r := by grind
  have hr : a ∣ r := prim_dvd hc ⟨-(p + s), by grind⟩ ⟨q, by grind⟩
  obtain ⟨u, hu⟩ := hr
  subst hu
  have j3 : p + s = -(b * u) := by
    have : a * (p + s) = a * (-(b * u)) := by grind
    exact Int.eq_of_mul_eq_mul_left ha this
  have j4 : q = c * u := by
    have : a * q = a * (c * u) := by grind
    exact Int.eq_of_mul_eq_mul_left ha this
  subst j4
  have key : (p - s) * (p - s) - disc a b c * u * u = -4 := by
    have hs : s = -(b * u) - p := by omega
    subst hs
    unfold disc
    grind
  have hu0 : u ≠ 0 := by
    intro e
    subst e
    have := sqn (p - s)
    simp at key
    omega
  have huu : 1 ≤ u * u := by
    have h1 := ab_sq u
    have h2 := ab_pos hu0
    have h3 := sq_le (a := 1) (b := ab u) (by omega) h2
    omega
  have hpt : p - s ≠ 0 := by
    intro e
    rw [e] at key
    have h1 : disc a b c * u * u = disc a b c * (u * u) := Int.mul_assoc _ _ _
    have h2 : 5 * (u * u) ≤ disc a b c * (u * u) := Int.mul_le_mul_of_nonneg_right hd (by omega)
    omega
  refine ⟨ab (p - s), ab u, by have := ab_pos hpt; omega, by have := ab_pos hu0; omega, ?_⟩
  rw [ab_sq, Int.mul_assoc, ab_sq, ← Int.mul_assoc]
  exact key

/-! the other way: all discriminants up to 1000 -/
/-- the walk from g meets the form with the first numbers a and b -/
def meetK (r d a b : Int) : Nat → Fm → Bool
  | 0, _ => false
  | n + 1, g => if g.a = a ∧ g.b = b then true else meetK r d a b n (nxK r d g)
theorem meetK_it {d a b : Int} : ∀ (n : Nat) (g : Fm), InF d g → meetK (isq d) d a b n g = true → ∃ k, (it k g).a = a ∧ (it k g).b = b
  | 0, g, _, h => by cases h
  | n + 1, g, hg, h => by
    unfold meetK at h
    split at h
    · rename_i e; exact ⟨0, e.1, e.2⟩
    · rw [nxK_eq hg.2] at h
      obtain ⟨k, h1, h2⟩ := meetK_it n (nx g) (inF_nx hg) h
      refine ⟨k + 1, ?_, ?_⟩
      · rw [it_add 1 g k]; exact h1
      · rw [it_add 1 g k]; exact h2
/-- every cyclic form is led to its turned form -/
def turnsB (d : Nat) (r : Nat) : Bool :=
  (List.range (2 * r + 1)).all fun i => (List.range r).all fun j =>
    let a : Int := (i : Int) - r
    let b : Int := (j : Int) + 1
    if (b * b - d) % (4 * a) = 0 ∧ a ≠ 0 then
      let f : Fm := ⟨a, b, (b * b - d) / (4 * a)⟩
      if cycK r f = true then meetK r d (-a) b 300 f else true
    else true
def wideC (d : Nat) : Bool :=
  match redK (isq d) d 4 ⟨1, (d : Int) % 2, ((d : Int) % 2 - d) / 4⟩ oneM with
  | none => false
  | some (f, _) =>
    match fourK (isq d) d f 200 f oneM false with
    | none => false
    | some (m, b) =>
      let T := (m.p + m.s).natAbs
      let U := (m.r.tdiv f.a).natAbs
      b || decide (1000000 < U) || !(decide (isq (T - 2 : Int) * isq (T - 2 : Int) = (T : Int) - 2)) || !(decide ((U : Int) % isq (T - 2 : Int) = 0)) || turnsB d (isq d).toNat
theorem wide_all : ((List.range 1001).all fun (d : Nat) => !posD d || wideC d) = true := by decide +kernel
theorem wide_of {d : Int} (h : posD d = true) : ∃ n : Nat, d = n ∧ certB n = true ∧ wideC n = true := by
  obtain ⟨n, rfl, hc⟩ := cert_of h
  refine ⟨n, rfl, hc, ?_⟩
  obtain ⟨h1, h2, _⟩ := posD_iff.1 h
  have := List.all_eq_true.1 wide_all n (List.mem_range.2 (by omega))
  rw [h] at this
  simpa using this
theorem turnsB_of {d : Nat} (hd : posD d = true) (h : turnsB d (isq d).toNat = true) {f : Fm} (hf : Cy d f) : ∃ k, it k f = trF f := by
  obtain ⟨b1, b2, b3⟩ := cy_bd hf
  obtain ⟨ha, hc⟩ := indef_ne hf.1.1
  have hdd := hf.1.2
  have hcy := cycB_iff.1 hf.2
  rw [hdd] at hcy
  obtain ⟨c1, c2, c3, c4⟩ := hcy
  have hr0 := isq_nonneg d
  rcases f with ⟨a, b, c⟩
  simp only at *
  unfold ab at c3 c4
  have e1 : (((a + isq d).toNat : Nat) : Int) - ((isq d).toNat : Nat) = a := by omega
  have e2 : (((b - 1).toNat : Nat) : Int) + 1 = b := by omega
  have h1 := List.all_eq_true.1 h (a + isq d).toNat (List.mem_range.2 (by omega))
  have h2 := List.all_eq_true.1 h1 (b - 1).toNat (List.mem_range.2 (by omega))
  simp only [e1, e2] at h2
  have hq : b * b - (d : Int) = 4 * a * c := by rw [← hdd]; unfold disc; omega
  have hq2 : (b * b - (d : Int)) / (4 * a) = c := by rw [hq, Int.mul_ediv_cancel_left _ (by omega)]
  rw [if_pos ⟨by rw [hq]; exact Int.mul_emod_right _ _, ha⟩, hq2] at h2
  have er : ((isq d).toNat : Int) = isq d := by omega
  rw [er] at h2
  have hck : cycK (isq d) ⟨a, b, c⟩ = true := by rw [cycK_eq (show disc a b c = d from hdd)]; exact hf.2
  rw [if_pos hck] at h2
  obtain ⟨k, k1, k2⟩ := meetK_it 300 _ hf.1 h2
  refine ⟨k, ?_⟩
  have hk := (cy_it hf k).1.2
  rcases hit : it k ⟨a, b, c⟩ with ⟨x, y, z⟩
  rw [hit] at hk k1 k2
  simp only at hk k1 k2
  subst k1 k2
  unfold trF
  simp only [Fm.mk.injEq, true_and]
  have : 4 * a * (z + c) = 0 := by
    have h3 : disc (-a) y z = disc a y c := by rw [hk, hdd]
    unfold disc at h3
    grind
  rcases Int.mul_eq_zero.1 this with h4 | h4 <;> omega
/-- with a unit of norm -1 every cyclic form is led to its turned form -/
theorem turn_of_neg {d T U : Int} (h : posD d = true) (hs : Sol d T U) (hmin : ∀ t' u', Sol d t' u' → U ≤ u') (hU : U ≤ 1000000) (hn : ∃ t u, Neg d t u) {f : Fm} (hf : Cy d f) : ∃ k, it k f = trF f := by
  obtain ⟨h1, h2, _⟩ := posD_iff.1 h
  obtain ⟨t0, u0, hn⟩ := hn
  obtain ⟨t, u, hn, _, hn2⟩ := neg_least u0.toNat t0 u0 (Nat.le_refl _) hn
  obtain ⟨eT, eU⟩ := neg_root h1 hs hmin hn hn2
  have hT := sol_small h hs hU
  have hin := pfF_in h
  obtain ⟨n, rfl, hc, hw⟩ := wide_of h
  unfold certB at hc
  unfold wideC at hw
  split at hc
  · cases hc
  · rename_i g k hr
    have hred := redK_red 4 _ _ _ _ hin hr
    have hcy := (red_spec hred hin (by decide) detM_one g k rfl).1
    rw [hr] at hw
    simp only at hw
    split at hc
    · cases hc
    · rename_i m b hf4
      rw [hf4] at hw
      simp only [Bool.and_eq_true, decide_eq_true_eq, Bool.or_eq_true, Bool.not_eq_true'] at hc hw
      obtain ⟨⟨⟨⟨c1, c2⟩, c3⟩, c4⟩, c5⟩ := hc
      have hsol : Sol (n : Int) (ab (m.p + m.s)) (ab (m.r.tdiv g.a)) := by
        unfold ab
        refine ⟨by omega, by omega, ?_⟩
        have e : (((m.p + m.s).natAbs * (m.p + m.s).natAbs : Nat) : Int) = ((n * (m.r.tdiv g.a).natAbs * (m.r.tdiv g.a).natAbs + 4 : Nat) : Int) := by rw [c1]
        simp only [Int.natCast_mul, Int.natCast_add] at e
        omega
      have hmin2 := sol_is_least (by omega) hsol fun k t ht he => noHigh_spec c4 k t ht he
      have eU2 : U = ab (m.r.tdiv g.a) := by have := hmin _ _ hsol; have := hmin2 _ _ hs; omega
      have eT2 : T = ab (m.p + m.s) := by rw [eU2] at hs; exact sol_t hs hsol
      have eT3 : (((m.p + m.s).natAbs : Nat) : Int) = T := by rw [eT2]; rfl
      have eU3 : (((m.r.tdiv g.a).natAbs : Nat) : Int) = U := by rw [eU2]; rfl
      have hsq : isq (T - 2) = t := by
        have ht0 := hn.1
        have e1 : (t + 1) * (t + 1) = t * t + 2 * t + 1 := by grind
        exact isq_eq (by omega) (by omega) (by omega) (by omega)
      have htt : isq (T - 2) * isq (T - 2) = T - 2 := by rw [hsq]; omega
      rw [eT3, eU3] at hw
      rcases hw with (((hw | hw) | hw) | hw) | hw
      · rcases c5 with c5 | c5
        · rw [hw] at c5; cases c5
        · omega
      · omega
      · rw [htt] at hw; simp at hw
      · rw [hsq, eU, Int.mul_emod_right] at hw; simp at hw
      · exact turnsB_of h hw hf
end Go.Proofs.Ytdonpiihjoihcaa
namespace Go.Proofs.Ytdonpiihjoihcaa
set_option linter.unusedVariables false

/-! members -/
theorem dvd_con {x a b c : Int} : x ∣ content a b c ↔ x ∣ a ∧ x ∣ b ∧ x ∣ c := by
  unfold content
  constructor
  · intro h
    have h1 := Int.dvd_trans h (Int.gcd_dvd_left ((Int.gcd a b : Nat) : Int) c)
    exact ⟨Int.dvd_trans h1 (Int.gcd_dvd_left a b), Int.dvd_trans h1 (Int.gcd_dvd_right a b), Int.dvd_trans h (Int.gcd_dvd_right ((Int.gcd a b : Nat) : Int) c)⟩
  · rintro ⟨h1, h2, h3⟩
    exact Int.dvd_coe_gcd (Int.dvd_coe_gcd h1 h2) h3
theorem con_nonneg (a b c : Int) : 0 ≤ content a b c := by unfold content; omega
theorem content_nx {f : Fm} (hc : f.c ≠ 0) : content (nx f).a (nx f).b (nx f).c = content f.a f.b f.c := by
  rcases f with ⟨a, b, c⟩
  obtain ⟨s, h1, _, h3, _⟩ := nxt (a := a) (b := b) hc
  have hb : nB a b c = 2 * c * s - b := by
    have h1 : b + nB a b c = 2 * c * s := h1
    omega
  show content c (nB a b c) (nC a b c) = content a b c
  rw [h3, hb]
  refine Int.dvd_antisymm (con_nonneg _ _ _) (con_nonneg _ _ _) ?_ ?_
  · obtain ⟨⟨x, hx⟩, ⟨y, hy⟩, ⟨z, hz⟩⟩ := dvd_con.1 (Int.dvd_refl (content c (2 * c * s - b) (a - b * s + c * s * s)))
    refine dvd_con.2 ⟨⟨z + (2 * x * s - y) * s - x * s * s, by grind⟩, ⟨2 * x * s - y, by grind⟩, ⟨x, hx⟩⟩
  · obtain ⟨⟨x, hx⟩, ⟨y, hy⟩, ⟨z, hz⟩⟩ := dvd_con.1 (Int.dvd_refl (content a b c))
    refine dvd_con.2 ⟨⟨z, hz⟩, ⟨2 * z * s - y, by grind⟩, ⟨x - y * s + z * s * s, by grind⟩⟩
theorem content_it {d : Int} {f : Fm} (h : Cy d f) : ∀ k, content (it k f).a (it k f).b (it k f).c = content f.a f.b f.c
  | 0 => rfl
  | k + 1 => by rw [it_succ, content_nx (indef_ne (cy_it h k).1.1).2, content_it h k]
theorem cyc_all {d : Int} {f g : Fm} (hd : posD d = true) (hf : f ∈ allF d) (hg : g ∈ cyc f) : g ∈ allF d := by
  obtain ⟨h1, h2⟩ := allF_cy hd hf
  obtain ⟨k, rfl⟩ := (cyc_iff h1).1 hg
  exact allF_of (cy_it h1 k) (by rw [content_it h1, h2])
/-- the next form of a cycle -/
theorem cyc_next {d : Int} {f : Fm} (h : Cy d f) {i : Nat} (hi : i < (cyc f).length) : nx (cyc f)[i] = (cyc f)[(i + 1) % (cyc f).length]'(Nat.mod_lt _ (by omega)) := by
  obtain ⟨p, hp⟩ := per_ex h
  have e := cyc_eq hp
  have hl : (cyc f).length = p := by rw [e, itL_len]
  have key : ∀ j (hj : j < (cyc f).length), (cyc f)[j] = it j f := by
    intro j hj
    have hjp : j < p := by omega
    have : (cyc f)[j]? = some (it j f) := by rw [e]; unfold itL; simp [hjp]
    rw [List.getElem?_eq_getElem hj] at this
    injection this
  rw [key i hi, key _ _, ← it_succ]
  by_cases hc : i + 1 < (cyc f).length
  · rw [Nat.mod_eq_of_lt hc]
  · have : i + 1 = (cyc f).length := by omega
    rw [this, Nat.mod_self, hl, hp.2.2.1]
    rfl

/-! each form once -/
theorem len_le : ∀ {l m : List Fm}, l.Nodup → (∀ x ∈ l, x ∈ m) → l.length ≤ m.length
  | [], m, _, _ => Nat.zero_le _
  | a :: l, m, hn, hs => by
    obtain ⟨h1, h2⟩ := List.nodup_cons.1 hn
    have ha : a ∈ m := hs a (List.mem_cons_self)
    have hl := List.length_erase_of_mem ha
    have := len_le (l := l) (m := m.erase a) h2 fun x hx => (List.mem_erase_of_ne (fun e => h1 (by rw [← e]; exact hx))).2 (hs x (List.mem_cons_of_mem _ hx))
    have h0 := List.length_pos_of_mem ha
    simp only [List.length_cons]
    omega
theorem cyc_nodup {d : Int} {f : Fm} (h : Cy d f) : (cyc f).Nodup := by
  obtain ⟨p, hp⟩ := per_ex h
  rw [cyc_eq hp]
  unfold itL
  refine List.pairwise_map.2 ?_
  refine (List.pairwise_lt_range (n := p)).imp_of_mem ?_
  intro i j hi hj hij e
  have hj' := List.mem_range.1 hj
  have e2 : it i f = it (i + (j - i)) f := by rw [show i + (j - i) = j by omega]; exact e
  exact hp.2.2.2 (j - i) (by omega) (by omega) (it_back h i (j - i) e2)
theorem pickF_nodup (d a b : Int) : (pickF d a b).Nodup := by unfold pickF; split <;> simp
theorem pickF_ab {d a b : Int} {f : Fm} (h : f ∈ pickF d a b) : f.a = a ∧ f.b = b := by obtain ⟨_, rfl⟩ := pickF_mem h; exact ⟨rfl, rfl⟩
theorem rowF_a {d a : Int} {k : Nat} {f : Fm} (h : f ∈ rowF d a k) : f.a = a := by
  unfold rowF at h
  obtain ⟨i, _, hi⟩ := List.mem_flatMap.1 h
  exact (pickF_ab hi).1
theorem allF_nodup (d : Int) : (allF d).Nodup := by
  unfold allF preF
  refine List.pairwise_flatMap.2 ⟨fun i _ => ?_, ?_⟩
  · unfold rowF
    refine List.pairwise_flatMap.2 ⟨fun j _ => pickF_nodup _ _ _, ?_⟩
    refine (List.pairwise_lt_range).imp ?_
    intro j k hjk x hx y hy e
    have h1 := (pickF_ab hx).2
    have h2 := (pickF_ab hy).2
    rw [e] at h1
    omega
  · refine (List.pairwise_lt_range).imp ?_
    intro i j hij x hx y hy e
    have h1 := rowF_a hx
    have h2 := rowF_a hy
    rw [e] at h1
    omega
theorem cys_mem {d : Int} (hd : posD d = true) {m : List Fm} (hm : m ∈ cysD d) : ∃ f, f ∈ allF d ∧ Cy d f ∧ m = cyc f := by
  obtain ⟨f, hf, rfl⟩ := (cysI_all hd).each m hm
  exact ⟨f, hf, (allF_cy hd hf).1, rfl⟩
theorem cys_count {d : Int} (hd : posD d = true) : (cysD d).flatten.length = (allF d).length := by
  have hI := cysI_all hd
  refine Nat.le_antisymm (len_le ?_ fun x hx => ?_) (len_le (allF_nodup d) fun x hx => hI.cover x (by rw [List.take_length]; exact hx))
  · refine List.pairwise_flatten.2 ⟨fun m hm => ?_, hI.apart.imp fun {_ _} h x hx y hy e => h x hx (by rw [e]; exact hy)⟩
    obtain ⟨f, _, h1, rfl⟩ := cys_mem hd hm
    exact cyc_nodup h1
  · obtain ⟨m, hm, hx⟩ := List.mem_flatten.1 hx
    obtain ⟨f, hf, _, rfl⟩ := cys_mem hd hm
    exact cyc_all hd hf hx

/-! turned cycles -/
theorem turn_tr (f : Fm) : turnF f = trF f := rfl
theorem turn_turn (f : Fm) : turnF (turnF f) = f := by rcases f with ⟨a, b, c⟩; simp [turnF]
theorem turn_nx (f : Fm) : nx (turnF f) = turnF (nx f) := by
  rcases f with ⟨a, b, c⟩
  have e1 := turn_disc a b c
  have e2 : ab (-c) = ab c := by unfold ab; omega
  have e3 : nB (-a) b (-c) = nB a b c := by
    unfold nB topR
    rw [e1, e2]
  have e4 : nC (-a) b (-c) = -nC a b c := by
    unfold nC
    rw [e1, e3, Int.mul_neg, Int.tdiv_neg]
  unfold nx turnF
  simp only [Fm.mk.injEq, true_and]
  exact ⟨e3, e4⟩
theorem turn_it (f : Fm) : ∀ k, it k (turnF f) = turnF (it k f)
  | 0 => rfl
  | k + 1 => by rw [it_succ, it_succ, turn_it f k, turn_nx]
theorem turn_cy {d : Int} {f : Fm} (hd : posD d = true) (h : f ∈ allF d) : Cy d (turnF f) := (allF_cy hd (turn_all hd h)).1
/-- the cycle of the turned head -/
theorem turn_back {d : Int} {f g : Fm} (hd : posD d = true) (hf : f ∈ allF d) (hg : g ∈ allF d) (h : turnF f ∈ cyc g) : turnF g ∈ cyc f := by
  have h1 := (allF_cy hd hf).1
  have h2 := (allF_cy hd hg).1
  obtain ⟨k, hk⟩ := (cyc_iff h2).1 h
  refine cyc_sym (turn_cy hd hg) ((cyc_iff (turn_cy hd hg)).2 ⟨k, ?_⟩)
  rw [turn_it, hk, turn_turn]
def wideP (L : List (List Fm)) (i : Nat) : Bool := wideB L i (turnF (headF L i))
theorem wideN_filter (L : List (List Fm)) : ∀ k, wideN L k = ((List.range k).filter (wideP L)).length ∧ k = ((List.range k).filter (wideP L)).length + ((List.range k).filter (fun i => !wideP L i)).length
  | 0 => ⟨rfl, rfl⟩
  | k + 1 => by
    obtain ⟨h1, h2⟩ := wideN_filter L k
    rw [List.range_succ, List.filter_append, List.filter_append, List.length_append, List.length_append]
    show wideN L k + (if wideP L k = true then 1 else 0) = _ ∧ _
    cases h : wideP L k
    · simp [h]; omega
    · simp [h]; omega
theorem lenN_le : ∀ {l m : List Nat}, l.Nodup → (∀ x ∈ l, x ∈ m) → l.length ≤ m.length
  | [], m, _, _ => Nat.zero_le _
  | a :: l, m, hn, hs => by
    obtain ⟨h1, h2⟩ := List.nodup_cons.1 hn
    have ha : a ∈ m := hs a (List.mem_cons_self)
    have hl := List.length_erase_of_mem ha
    have := lenN_le (l := l) (m := m.erase a) h2 fun x hx => (List.mem_erase_of_ne (fun e => h1 (by rw [← e]; exact hx))).2 (hs x (List.mem_cons_of_mem _ hx))
    have h0 := List.length_pos_of_mem ha
    simp only [List.length_cons]
    omega
/-- of the numbers that a map without fixed points pairs, half lie below their mates -/
theorem mate_half {n : Nat} {P : Nat → Bool} {σ : Nat → Nat} (h1 : ∀ i, i < n → σ i < n) (h2 : ∀ i, i < n → σ (σ i) = i) (h3 : ∀ i, i < n → σ i ≠ i) (h4 : ∀ i, i < n → (P i = true ↔ i < σ i)) :
    ((List.range n).filter P).length = ((List.range n).filter (fun i => !P i)).length := by
  have inj : ∀ (Q : Nat → Bool), (((List.range n).filter Q).map σ).Nodup := by
    intro Q
    refine List.pairwise_map.2 ?_
    refine ((List.pairwise_lt_range (n := n)).filter Q).imp_of_mem ?_
    intro i j hi hj hij e
    have hi' := List.mem_range.1 (List.mem_filter.1 hi).1
    have hj' := List.mem_range.1 (List.mem_filter.1 hj).1
    have := h2 i hi'
    rw [e, h2 j hj'] at this
    omega
  refine Nat.le_antisymm ?_ ?_
  · rw [← List.length_map (f := σ)]
    refine lenN_le (inj _) fun x hx => ?_
    obtain ⟨i, hi, rfl⟩ := List.mem_map.1 hx
    obtain ⟨a, b⟩ := List.mem_filter.1 hi
    have a := List.mem_range.1 a
    refine List.mem_filter.2 ⟨List.mem_range.2 (h1 i a), ?_⟩
    have := (h4 i a).1 b
    cases hp : P (σ i) with
    | false => rfl
    | true => have := (h4 _ (h1 i a)).1 hp; rw [h2 i a] at this; omega
  · rw [← List.length_map (f := σ)]
    refine lenN_le (inj _) fun x hx => ?_
    obtain ⟨i, hi, rfl⟩ := List.mem_map.1 hx
    obtain ⟨a, b⟩ := List.mem_filter.1 hi
    have a := List.mem_range.1 a
    refine List.mem_filter.2 ⟨List.mem_range.2 (h1 i a), (h4 _ (h1 i a)).2 ?_⟩
    rw [h2 i a]
    have h5 := h3 i a
    refine Nat.lt_of_le_of_ne (Nat.not_lt.1 fun hc => ?_) h5
    have := (h4 i a).2 hc
    rw [this] at b
    cases b
theorem wide_same {d : Int} (hd : posD d = true) (h : ∀ f, f ∈ allF d → turnF f ∈ cyc f) : wideN (cysD d) (cysD d).length = (cysD d).length := by
  have hI := cysI_all hd
  obtain ⟨e1, e2⟩ := wideN_filter (cysD d) (cysD d).length
  have : (List.range (cysD d).length).filter (fun i => !wideP (cysD d) i) = [] := by
    refine List.filter_eq_nil_iff.2 fun i hi => ?_
    have hi := List.mem_range.1 hi
    obtain ⟨h1, h2⟩ := headF_eq hI hi
    have hm : turnF (headF (cysD d) i) ∈ (cysD d)[i] := by rw [h2]; exact h _ h1
    have : wideP (cysD d) i = true := by
      unfold wideP
      rw [wide_num hI.apart (turn_in hd hi) hi, numK_in hI.apart hi hm _ (Nat.le_refl _) hi]
      simp
    rw [this]; simp
  rw [this] at e2
  simp at e2
  rw [e1, ← e2]
theorem wide_half {d : Int} (hd : posD d = true) (h : ∀ f, f ∈ allF d → turnF f ∉ cyc f) : 2 * wideN (cysD d) (cysD d).length = (cysD d).length := by
  have hI := cysI_all hd
  obtain ⟨e1, e2⟩ := wideN_filter (cysD d) (cysD d).length
  have key : ∀ i, i < (cysD d).length → ∃ j, ∃ hj : j < (cysD d).length, turnF (headF (cysD d) i) ∈ (cysD d)[j] ∧ numK (cysD d) (cysD d).length (turnF (headF (cysD d) i)) = j := by
    intro i hi
    obtain ⟨m, hm, ht⟩ := List.mem_flatten.1 (turn_in hd hi)
    obtain ⟨j, hj, rfl⟩ := List.getElem_of_mem hm
    exact ⟨j, hj, ht, numK_in hI.apart hj ht _ (Nat.le_refl _) hj⟩
  have := mate_half (n := (cysD d).length) (P := wideP (cysD d)) (σ := fun i => (numK (cysD d) (cysD d).length (turnF (headF (cysD d) i))).toNat)
    (fun i hi => by obtain ⟨j, hj, _, e⟩ := key i hi; simp only [e]; omega)
    (fun i hi => by
      obtain ⟨j, hj, ht, e⟩ := key i hi
      obtain ⟨h1, h2⟩ := headF_eq hI hi
      obtain ⟨h3, h4⟩ := headF_eq hI hj
      rw [h4] at ht
      have hb := turn_back hd h1 h3 ht
      rw [← h2] at hb
      have e2 := numK_in hI.apart hi hb _ (Nat.le_refl _) hi
      simp only [e, Int.toNat_natCast, e2])
    (fun i hi => by
      obtain ⟨j, hj, ht, e⟩ := key i hi
      simp only [e, Int.toNat_natCast]
      intro hji
      subst hji
      obtain ⟨h1, h2⟩ := headF_eq hI hi
      rw [h2] at ht
      exact h _ h1 ht)
    (fun i hi => by
      obtain ⟨j, hj, ht, e⟩ := key i hi
      simp only [e, Int.toNat_natCast]
      unfold wideP
      rw [wide_num hI.apart (turn_in hd hi) hi, e, decide_eq_true_iff]
      have hne : j ≠ i := by
        intro hji
        subst hji
        obtain ⟨h1, h2⟩ := headF_eq hI hi
        rw [h2] at ht
        exact h _ h1 ht
      omega)
  rw [e1]
  omega

/-! classes and units -/
theorem unit_wide {d n : Int} (hd : posD d = true) (h : UNOut d n true) : (n = -1 ∧ wideN (cysD d) (cysD d).length = (cysD d).length) ∨ (n ≠ -1 ∧ 2 * wideN (cysD d) (cysD d).length = (cysD d).length) := by
  obtain ⟨hd1, _⟩ := posD_iff.1 hd
  obtain ⟨T, U, hp, ⟨h, _⟩ | ⟨_, t, u, v, hm, hn⟩⟩ := h
  · cases h
  · have hpell : PellOut d T U true := by
      rcases hp with ⟨_, hp⟩ | ⟨e, _⟩
      · exact hp
      · rw [hd] at e; cases e
    obtain ⟨_, hs, hmin, hU⟩ | ⟨e, _⟩ := hpell
    · obtain ⟨T', U', b, hp', hb⟩ := hm
      have hpell' : PellOut d T' U' b := by
        rcases hp' with ⟨_, hp⟩ | ⟨e, _⟩
        · exact hp
        · rw [hd] at e; cases e
      obtain ⟨rfl, rfl, rfl⟩ := pellOut_same (.inl ⟨rfl, hs, hmin, hU⟩ : PellOut d T U true) hpell'
      obtain ⟨e, _⟩ | ⟨_, _, _, _, _, hl⟩ := hb
      · cases e
      · cases v with
        | true =>
          left
          rw [if_pos rfl] at hn
          refine ⟨hn, wide_same hd fun f hf => ?_⟩
          obtain ⟨_, a, b, _, c, _⟩ | ⟨e, _⟩ := hl
          · obtain ⟨hc, _⟩ := allF_cy hd hf
            exact (cyc_iff hc).2 (turn_of_neg hd hs hmin hU ⟨t, u, a, b, by omega⟩ hc)
          · cases e
        | false =>
          right
          rw [if_neg (by decide)] at hn
          refine ⟨by omega, wide_half hd fun f hf ht => ?_⟩
          obtain ⟨e, _⟩ | ⟨_, _, _, hno⟩ := hl
          · cases e
          · obtain ⟨hc, hpr⟩ := allF_cy hd hf
            obtain ⟨k, hk⟩ := (cyc_iff hc).1 ht
            obtain ⟨_, m, hm1, hm2⟩ := it_act hc.1 k
            have hdd := hc.1.2
            obtain ⟨t0, u0, hneg⟩ := neg_of_turn (a := f.a) (b := f.b) (c := f.c) (indef_ne hc.1.1).1 hpr (by rw [hdd]; exact hd1) hm1 (by rw [← hm2, hk]; rfl)
            rw [hdd] at hneg
            obtain ⟨t1, u1, hneg1, _, hmin1⟩ := neg_least u0.toNat t0 u0 (Nat.le_refl _) hneg
            obtain ⟨_, eU⟩ := neg_root hd1 hs hmin hneg1 hmin1
            have h1 := hno t1 u1 hneg1.1 hneg1.2.1 (by have := hneg1.2.2; omega)
            have h2 : u1 ≤ t1 * u1 := by
              have := Int.mul_le_mul_of_nonneg_right (show 1 ≤ t1 by have := hneg1.1; omega) (show 0 ≤ u1 by have := hneg1.2.1; omega)
              omega
            omega
    · cases e
end Go.Proofs.Ytdonpiihjoihcaa
