/- Plain lemmas on indefinite forms: the neighbour, cyclic forms, cycles, reduction. No program in sight. -/
import Derived.Test.YtdonpiihjoihcaaM
namespace Go.Proofs.Ytdonpiihjoihcaa
set_option linter.unusedVariables false

structure Fm where
  a : Int
  b : Int
  c : Int
deriving DecidableEq
structure Mx where
  p : Int
  q : Int
  r : Int
  s : Int
deriving DecidableEq

def ab (n : Int) : Int := (n.natAbs : Int)
def cycB (a b c : Int) : Bool := decide (0 < b) && decide (b ≤ isq (disc a b c)) && decide (isq (disc a b c) - b < 2 * ab a) && decide (2 * ab a ≤ isq (disc a b c) + b)
theorem cycB_iff {a b c : Int} : cycB a b c = true ↔ 0 < b ∧ b ≤ isq (disc a b c) ∧ isq (disc a b c) - b < 2 * ab a ∧ 2 * ab a ≤ isq (disc a b c) + b := by
  simp [cycB, and_assoc]
def topR (r c : Int) : Int := if r < ab c then ab c else r
def nB (a b c : Int) : Int := topR (isq (disc a b c)) c - (topR (isq (disc a b c)) c + b) % (2 * ab c)
def nS (a b c : Int) : Int := (b + nB a b c).tdiv (2 * c)
def nC (a b c : Int) : Int := (nB a b c * nB a b c - disc a b c).tdiv (4 * c)
def nx (f : Fm) : Fm := ⟨f.c, nB f.a f.b f.c, nC f.a f.b f.c⟩

theorem indefB_iff {a b c : Int} : indefB a b c = true ↔ good3 a b c = true ∧ posD (disc a b c) = true := by simp [indefB]
theorem sqB_false {n : Int} (h : sqB n = false) (h0 : 0 ≤ n) (h1 : n ≤ 1000000000000) : ∀ b : Int, b * b ≠ n := by
  intro b hb
  have e : isq n = (b.natAbs : Int) := by
    have h2 : (b.natAbs : Int) * (b.natAbs : Int) = b * b := by rw [← Int.natAbs_mul_self]; simp
    refine isq_eq (by omega) (by omega) ?_ (by omega)
    have h3 : ((b.natAbs : Int) + 1) * ((b.natAbs : Int) + 1) = (b.natAbs : Int) * (b.natAbs : Int) + 2 * (b.natAbs : Int) + 1 := by
      simp only [Int.mul_add, Int.add_mul, Int.mul_one, Int.one_mul]; omega
    omega
  have h2 : (b.natAbs : Int) * (b.natAbs : Int) = b * b := by rw [← Int.natAbs_mul_self]; simp
  have : sqB n = true := by unfold sqB; rw [e]; simp; omega
  rw [h] at this; cases this
/-- what is known of a positive discriminant's root -/
theorem root_pos {d : Int} (h : posD d = true) : 2 ≤ isq d ∧ isq d ≤ 31 ∧ isq d * isq d < d ∧ d < (isq d + 1) * (isq d + 1) ∧ 5 ≤ d ∧ d ≤ 1000 := by
  obtain ⟨h1, h2, h3, h4⟩ := posD_iff.1 h
  obtain ⟨a, b⟩ := isq_spec (n := d) (by omega) (by omega)
  have hn := isq_nonneg d
  have hq := sqB_false h4 (by omega) (by omega) (isq d)
  refine ⟨?_, ?_, by omega, b, h1, h2⟩
  · refine Int.not_lt.1 fun hc => ?_
    have : isq d = 0 ∨ isq d = 1 := by omega
    rcases this with e | e <;> rw [e] at b <;> omega
  · refine Int.not_lt.1 fun hc => ?_
    have := sq_le (a := 32) (b := isq d) (by omega) (by omega)
    omega
theorem indef_ne {a b c : Int} (h : indefB a b c = true) : a ≠ 0 ∧ c ≠ 0 := by
  obtain ⟨_, hp⟩ := indefB_iff.1 h
  obtain ⟨h1, h2, h3, h4⟩ := posD_iff.1 hp
  have hq := sqB_false h4 (by omega) (by omega) b
  constructor <;> intro e <;> subst e <;> exact hq (by unfold disc; simp)
theorem ab_nonneg (n : Int) : 0 ≤ ab n := by unfold ab; omega
theorem ab_pos {n : Int} (h : n ≠ 0) : 1 ≤ ab n := by unfold ab; omega
theorem ab_sq (n : Int) : ab n * ab n = n * n := by unfold ab; rw [← Int.natAbs_mul_self]; simp
theorem ab_mul (m n : Int) : ab (m * n) = ab m * ab n := by unfold ab; rw [Int.natAbs_mul]; simp
theorem dvd_ab {c n : Int} (h : n % (2 * ab c) = 0) : ∃ k, n = 2 * c * k := by
  obtain ⟨k, hk⟩ := Int.dvd_of_emod_eq_zero h
  unfold ab at hk
  rcases Int.natAbs_eq c with e | e
  · exact ⟨k, by rw [hk, ← e]⟩
  · refine ⟨-k, ?_⟩
    have e' : (c.natAbs : Int) = -c := by omega
    rw [hk, e']
    simp only [Int.mul_neg, Int.neg_mul]
/-- the neighbour's numbers without a division -/
theorem nxt {a b c : Int} (hc : c ≠ 0) : ∃ s, b + nB a b c = 2 * c * s ∧ nS a b c = s ∧ nC a b c = a - b * s + c * s * s ∧ nB a b c * nB a b c - disc a b c = 4 * c * nC a b c := by
  have hm : (b + nB a b c) % (2 * ab c) = 0 := by
    unfold nB
    generalize topR (isq (disc a b c)) c = t
    have := Int.emod_add_mul_ediv (t + b) (2 * ab c)
    have e : b + (t - (t + b) % (2 * ab c)) = 2 * ab c * ((t + b) / (2 * ab c)) := by omega
    rw [e, Int.mul_emod_right]
  obtain ⟨s, hs⟩ := dvd_ab hm
  have e1 : nS a b c = s := by
    unfold nS; rw [hs, Int.mul_tdiv_cancel_left _ (by omega)]
  have hb : nB a b c = 2 * c * s - b := by omega
  have e2 : nB a b c * nB a b c - disc a b c = 4 * c * (a - b * s + c * s * s) := by
    rw [hb]; unfold disc
    have f1 : (2 * c * s - b) * (2 * c * s - b) = 4 * (c * (c * s * s)) - 4 * (c * (b * s)) + b * b := by
      simp only [Int.sub_mul, Int.mul_sub]
      have g1 : 2 * c * s * (2 * c * s) = 4 * (c * (c * s * s)) := by
        rw [show (4 : Int) = 2 * 2 from rfl]; simp only [Int.mul_assoc, Int.mul_left_comm, Int.mul_comm]
      have g2 : 2 * c * s * b = 2 * (c * (b * s)) := by simp only [Int.mul_assoc, Int.mul_left_comm, Int.mul_comm]
      have g3 : b * (2 * c * s) = 2 * (c * (b * s)) := by simp only [Int.mul_assoc, Int.mul_left_comm, Int.mul_comm]
      rw [g1, g2, g3]; omega
    rw [f1]
    simp only [Int.mul_add, Int.mul_sub]
    have g4 : 4 * c * a = 4 * a * c := by rw [Int.mul_assoc, Int.mul_comm c a, ← Int.mul_assoc]
    have g5 : 4 * c * (b * s) = 4 * (c * (b * s)) := by rw [Int.mul_assoc]
    have g6 : 4 * c * (c * s * s) = 4 * (c * (c * s * s)) := by rw [Int.mul_assoc]
    rw [g4, g5, g6]; omega
  have e3 : nC a b c = a - b * s + c * s * s := by
    unfold nC; rw [e2, Int.mul_tdiv_cancel_left _ (by omega)]
  exact ⟨s, hs, e1, e3, by rw [e2, e3]⟩
theorem nx_disc {a b c : Int} (hc : c ≠ 0) : disc c (nB a b c) (nC a b c) = disc a b c := by
  obtain ⟨s, _, _, _, h⟩ := nxt (a := a) (b := b) hc
  have : disc c (nB a b c) (nC a b c) = nB a b c * nB a b c - 4 * c * nC a b c := rfl
  omega
theorem nB_range {a b c : Int} (hc : c ≠ 0) : topR (isq (disc a b c)) c - 2 * ab c < nB a b c ∧ nB a b c ≤ topR (isq (disc a b c)) c := by
  have h := ab_pos hc
  unfold nB
  generalize topR (isq (disc a b c)) c = t
  have h1 := Int.emod_nonneg (t + b) (show 2 * ab c ≠ 0 by omega)
  have h2 := Int.emod_lt_of_pos (t + b) (show 0 < 2 * ab c by omega)
  omega
theorem lt_of_mul4 {x y z : Int} (hx : 1 ≤ x) (h : 4 * x * y ≤ z) (hz : z < 4 * x * x) : y < x := by
  refine Int.not_le.1 fun hc => ?_
  have := Int.mul_le_mul_of_nonneg_left hc (show 0 ≤ 4 * x by omega)
  omega
/-- how large the neighbour's numbers are -/
theorem nx_size {a b c : Int} (h : indefB a b c = true) :
    (ab c ≤ isq (disc a b c) → -31 ≤ nB a b c ∧ nB a b c ≤ isq (disc a b c) ∧ 4 * ab c * ab (nC a b c) ≤ disc a b c) ∧
    (isq (disc a b c) < ab c → -ab c ≤ nB a b c ∧ nB a b c ≤ ab c ∧ ab (nC a b c) < ab c) := by
  obtain ⟨ha, hc⟩ := indef_ne h
  obtain ⟨r2, r31, rlt, rgt, d5, d1000⟩ := root_pos (indefB_iff.1 h).2
  obtain ⟨n1, n2⟩ := nB_range (a := a) (b := b) hc
  obtain ⟨s, _, _, _, he⟩ := nxt (a := a) (b := b) hc
  have habs : 4 * ab c * ab (nC a b c) = ab (nB a b c * nB a b c - disc a b c) := by
    rw [he, show 4 * c * nC a b c = 4 * (c * nC a b c) by rw [Int.mul_assoc]]
    have := ab_mul c (nC a b c)
    rw [Int.mul_assoc, ← this]; unfold ab; omega
  have hp := ab_pos hc
  constructor
  · intro hle
    have ht : topR (isq (disc a b c)) c = isq (disc a b c) := by unfold topR; rw [if_neg (by omega)]
    rw [ht] at n1 n2
    have hsq := sqb (b := nB a b c) (B := isq (disc a b c)) (by omega) n2
    refine ⟨by omega, n2, ?_⟩
    rw [habs]; unfold ab; omega
  · intro hgt
    have ht : topR (isq (disc a b c)) c = ab c := by unfold topR; rw [if_pos hgt]
    rw [ht] at n1 n2
    have hsq := sqb (b := nB a b c) (B := ab c) (by omega) n2
    refine ⟨by omega, n2, ?_⟩
    have hd : (isq (disc a b c) + 1) * (isq (disc a b c) + 1) ≤ ab c * ab c := sq_le (by omega) (by omega)
    have hz : ab (nB a b c * nB a b c - disc a b c) ≤ ab c * ab c := by unfold ab at *; omega
    refine lt_of_mul4 hp (z := ab c * ab c) (by omega) ?_
    have : 1 ≤ ab c * ab c := by have := mul_le (a := 1) (b := 1) (A := ab c) (B := ab c) (by omega) hp (by omega) hp; omega
    rw [Int.mul_assoc]; omega
theorem nC_le {a b c : Int} (h : indefB a b c = true) (hle : ab c ≤ isq (disc a b c)) : ab (nC a b c) ≤ 250 := by
  obtain ⟨_, hc⟩ := indef_ne h
  obtain ⟨r2, r31, rlt, rgt, d5, d1000⟩ := root_pos (indefB_iff.1 h).2
  obtain ⟨_, _, h3⟩ := (nx_size h).1 hle
  have hp := ab_pos hc
  have hn := ab_nonneg (nC a b c)
  have := Int.mul_le_mul_of_nonneg_right hp hn
  rw [Int.mul_assoc] at h3
  omega
theorem nx_good {a b c : Int} (h : indefB a b c = true) : good3 c (nB a b c) (nC a b c) = true := by
  obtain ⟨hg, hp⟩ := indefB_iff.1 h
  obtain ⟨r2, r31, _⟩ := root_pos hp
  obtain ⟨_, _, hc⟩ := good3_iff.1 hg
  obtain ⟨h1, h2⟩ := nx_size h
  rw [good3_iff]
  by_cases hle : ab c ≤ isq (disc a b c)
  · obtain ⟨a1, a2, _⟩ := h1 hle
    have := nC_le h hle
    unfold ab at *; omega
  · obtain ⟨a1, a2, a3⟩ := h2 (by omega)
    unfold ab at *; omega
theorem nx_indef {a b c : Int} (h : indefB a b c = true) : indefB c (nB a b c) (nC a b c) = true := by
  rw [indefB_iff, nx_disc (indef_ne h).2]
  exact ⟨nx_good h, (indefB_iff.1 h).2⟩
theorem nS_bd {a b c : Int} (h : indefB a b c = true) : -1000000 ≤ nS a b c ∧ nS a b c ≤ 1000000 := by
  obtain ⟨_, hc⟩ := indef_ne h
  obtain ⟨⟨_, ⟨b1, b2⟩, _⟩, _⟩ := (⟨good3_iff.1 (indefB_iff.1 h).1, trivial⟩ : _ ∧ True)
  obtain ⟨_, ⟨c1, c2⟩, _⟩ := good3_iff.1 (nx_good h)
  obtain ⟨s, h1, h2, _⟩ := nxt (a := a) (b := b) hc
  rw [h2]
  have hs : 2 * (ab c * ab s) ≤ 2000000 := by
    have e : 2 * c * s = 2 * (c * s) := by rw [Int.mul_assoc]
    rw [← ab_mul]
    rw [e] at h1
    unfold ab; omega
  have hp := ab_pos hc
  have := Int.mul_le_mul_of_nonneg_right hp (ab_nonneg s)
  unfold ab at *; omega
theorem nx_mgood {a b c : Int} (h : indefB a b c = true) : good4 0 (-1) 1 (nS a b c) = true := by
  have := nS_bd h
  rw [good4_iff]; omega

/-! reduction ends: a form that is not cyclic has a cyclic neighbour, or one with a less last number -/
theorem nx_less {a b c : Int} (h : indefB a b c = true) (hn : cycB c (nB a b c) (nC a b c) = false) : ab (nC a b c) < ab c := by
  obtain ⟨_, hc⟩ := indef_ne h
  obtain ⟨r2, r31, rlt, rgt, d5, d1000⟩ := root_pos (indefB_iff.1 h).2
  obtain ⟨h1, h2⟩ := nx_size h
  by_cases hle : ab c ≤ isq (disc a b c)
  · obtain ⟨a1, a2, a3⟩ := h1 hle
    obtain ⟨n1, n2⟩ := nB_range (a := a) (b := b) hc
    have ht : topR (isq (disc a b c)) c = isq (disc a b c) := by unfold topR; rw [if_neg (by omega)]
    rw [ht] at n1
    have hk : isq (disc a b c) + 1 ≤ 2 * ab c := by
      refine Int.not_lt.1 fun hk => ?_
      have : cycB c (nB a b c) (nC a b c) = true := by
        rw [cycB_iff, nx_disc hc]; omega
      rw [hn] at this; cases this
    have hsq := sq_le (by omega) hk
    refine lt_of_mul4 (ab_pos hc) a3 ?_
    have e : 2 * ab c * (2 * ab c) = 4 * ab c * ab c := by
      rw [show (4 : Int) = 2 * 2 from rfl]; simp only [Int.mul_assoc, Int.mul_left_comm, Int.mul_comm]
    omega
  · exact (h2 (by omega)).2.2
def muF (f : Fm) : Nat := if cycB f.a f.b f.c = true then 0 else f.c.natAbs + 1
theorem mu_less {f : Fm} (h : indefB f.a f.b f.c = true) (hn : cycB f.a f.b f.c = false) : muF (nx f) < muF f := by
  have e : muF f = f.c.natAbs + 1 := by unfold muF; rw [if_neg (by rw [hn]; simp)]
  rw [e]
  by_cases hc : cycB f.c (nB f.a f.b f.c) (nC f.a f.b f.c) = true
  · have : muF (nx f) = 0 := by unfold muF nx; rw [if_pos hc]
    omega
  · have h1 := nx_less h (by simpa using hc)
    have : muF (nx f) = (nC f.a f.b f.c).natAbs + 1 := by unfold muF nx; rw [if_neg hc]
    unfold ab at h1
    omega

/-! the neighbour of a cyclic form -/
theorem cyc_mid {a b c : Int} (h : indefB a b c = true) (hc : cycB a b c = true) : isq (disc a b c) - b < 2 * ab c ∧ 2 * ab c ≤ isq (disc a b c) + b ∧ 4 * (ab a * ab c) = disc a b c - b * b := by
  obtain ⟨r2, r31, rlt, rgt, d5, d1000⟩ := root_pos (indefB_iff.1 h).2
  obtain ⟨c1, c2, c3, c4⟩ := cycB_iff.1 hc
  have hb := sq_le (a := b) (b := isq (disc a b c)) (by omega) c2
  have hd : disc a b c - b * b = -(4 * a * c) := by unfold disc; omega
  have e : 4 * (ab a * ab c) = disc a b c - b * b := by
    rw [← ab_mul]
    rw [show 4 * a * c = 4 * (a * c) by rw [Int.mul_assoc]] at hd
    unfold ab; omega
  generalize disc a b c = d at *
  generalize isq d = r at *
  have e1 : 2 * ab a * (2 * ab c) = d - b * b := by
    rw [← e, show (4 : Int) = 2 * 2 from rfl]; simp only [Int.mul_assoc, Int.mul_left_comm]
  have f0 : b * r = r * b := Int.mul_comm b r
  have f1 : (r + 1 - b) * (r + 1 + b) = (r + 1) * (r + 1) - b * b := by
    simp only [Int.sub_mul, Int.mul_add, Int.add_mul, Int.mul_one, Int.one_mul]; omega
  have f2 : (r + b) * (r - b) = r * r - b * b := by
    simp only [Int.add_mul, Int.mul_sub]; omega
  refine ⟨?_, ?_, e⟩
  · refine Int.not_le.1 fun hk => ?_
    have := Int.mul_le_mul (show 2 * ab a ≤ r + b by omega) hk (by have := ab_nonneg c; omega) (by omega)
    omega
  · refine Int.not_lt.1 fun hk => ?_
    have := Int.mul_le_mul (show r + 1 - b ≤ 2 * ab a by omega) (show r + 1 + b ≤ 2 * ab c by omega) (by omega) (by have := ab_nonneg a; omega)
    omega
theorem cyc_top {a b c : Int} (h : indefB a b c = true) (hc : cycB a b c = true) : topR (isq (disc a b c)) c = isq (disc a b c) := by
  obtain ⟨_, h2, _⟩ := cyc_mid h hc
  obtain ⟨c1, c2, c3, c4⟩ := cycB_iff.1 hc
  unfold topR; rw [if_neg (by omega)]
theorem nx_cyc {a b c : Int} (h : indefB a b c = true) (hc : cycB a b c = true) : cycB c (nB a b c) (nC a b c) = true := by
  obtain ⟨ha0, hc0⟩ := indef_ne h
  obtain ⟨r2, r31, rlt, rgt, d5, d1000⟩ := root_pos (indefB_iff.1 h).2
  obtain ⟨m1, m2, _⟩ := cyc_mid h hc
  obtain ⟨c1, c2, c3, c4⟩ := cycB_iff.1 hc
  have ht := cyc_top h hc
  obtain ⟨n1, n2⟩ := nB_range (a := a) (b := b) hc0
  rw [cycB_iff, nx_disc hc0]
  rw [ht] at n1 n2
  have hp := ab_pos hc0
  have hk : nB a b c = 2 * ab c * ((isq (disc a b c) + b) / (2 * ab c)) - b := by
    unfold nB; rw [ht]
    have := Int.emod_add_mul_ediv (isq (disc a b c) + b) (2 * ab c)
    omega
  generalize hkk : (isq (disc a b c) + b) / (2 * ab c) = k at hk
  have hk1 : 1 ≤ k := by
    rw [← hkk]; exact (Int.le_ediv_iff_mul_le (by omega)).2 (by omega)
  have hbk : 2 * ab c ≤ 2 * ab c * k := by
    have := Int.mul_le_mul_of_nonneg_left hk1 (show 0 ≤ 2 * ab c by omega)
    omega
  refine ⟨?_, n2, by omega, by omega⟩
  by_cases hk2 : k = 1
  · subst hk2; omega
  · have := Int.mul_le_mul_of_nonneg_left (show 2 ≤ k by omega) (show 0 ≤ 2 * ab c by omega)
    omega
theorem nx_inj {f g : Fm} (hf : indefB f.a f.b f.c = true) (hg : indefB g.a g.b g.c = true) (cf : cycB f.a f.b f.c = true) (cg : cycB g.a g.b g.c = true) (hd : disc f.a f.b f.c = disc g.a g.b g.c) (h : nx f = nx g) : f = g := by
  obtain ⟨fa, fb, fc⟩ := f
  obtain ⟨ga, gb, gc⟩ := g
  simp only [nx, Fm.mk.injEq] at h hf hg cf cg hd
  obtain ⟨rfl, hb, _⟩ := h
  obtain ⟨_, hc0⟩ := indef_ne hf
  obtain ⟨m1, m2, _⟩ := cyc_mid hf cf
  obtain ⟨p1, p2, _⟩ := cyc_mid hg cg
  obtain ⟨c1, c2, c3, c4⟩ := cycB_iff.1 cf
  obtain ⟨d1, d2, d3, d4⟩ := cycB_iff.1 cg
  have hp := ab_pos hc0
  obtain ⟨s, e1, _⟩ := nxt (a := fa) (b := fb) hc0
  obtain ⟨t, e2, _⟩ := nxt (a := ga) (b := gb) hc0
  rw [hd] at m1 m2 c2
  have ebb : fb - gb = 2 * fc * (s - t) := by rw [Int.mul_sub]; omega
  have hz : s - t = 0 := by
    refine Classical.byContradiction fun hz => ?_
    have h1 : ab (fb - gb) = 2 * (ab fc * ab (s - t)) := by
      rw [ebb, show 2 * fc * (s - t) = 2 * (fc * (s - t)) by rw [Int.mul_assoc], ← ab_mul]; unfold ab; omega
    have h2 := Int.mul_le_mul_of_nonneg_left (ab_pos hz) (ab_nonneg fc)
    have h3 : ab (fb - gb) < 2 * ab fc := by unfold ab at *; omega
    omega
  rw [hz] at ebb
  have hbb : fb = gb := by omega
  subst hbb
  have : 4 * fa * fc = 4 * ga * fc := by unfold disc at hd; omega
  have := Int.eq_of_mul_eq_mul_right hc0 this
  simp only [Fm.mk.injEq, and_true]; omega
end Go.Proofs.Ytdonpiihjoihcaa
