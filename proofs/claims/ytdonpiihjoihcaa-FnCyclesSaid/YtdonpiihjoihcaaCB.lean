/- Contracts: a form with a matrix substituted; the neighbour of an indefinite form and its matrix. -/
import Derived.Test.YtdonpiihjoihcaaCA
import Derived.Test.YtdonpiihjoihcaaH
import Derived.Deep.RegionHeld3
namespace Go.Proofs.Ytdonpiihjoihcaa
set_option linter.unusedVariables false
open Go.ChangeShapes Go.WideShapes Go.ChangeAt Go.RowKit

def valF (a b c x y : Int) : Int := a * x * x + b * x * y + c * y * y
def polF (a b c x y u v : Int) : Int := 2 * a * x * u + b * (x * v + y * u) + 2 * c * y * v
theorem tri_bd {a x y : Int} (ha : -1000000 ≤ a ∧ a ≤ 1000000) (hx : -1000000 ≤ x ∧ x ≤ 1000000) (hy : -1000000 ≤ y ∧ y ≤ 1000000) : (-1000000000000 ≤ a * x ∧ a * x ≤ 1000000000000) ∧ (-1000000000000000000 ≤ a * x * y ∧ a * x * y ≤ 1000000000000000000) := by
  have h1 := mulb ha.1 ha.2 hx.1 hx.2
  have h2 := mulb (a := a * x) (b := y) (A := 1000000000000) (B := 1000000) (by omega) (by omega) hy.1 hy.2
  omega
theorem spec_foValue (a b c x y : Int) (w : World) (h : good3 a b c = true) (hx : -1000000 ≤ x ∧ x ≤ 1000000) (hy : -1000000 ≤ y ∧ y ≤ 1000000) :
    Calls Try.prog 97 #[.agg #[.int .i64 a, .int .i64 b, .int .i64 c], .int .i64 x, .int .i64 y] w fun e w' => e = .returned (.int .i64 (valF a b c x y)) ∧ Below w.heap.size w w' := by
  obtain ⟨ha, hb, hc⟩ := good3_iff.1 h
  obtain ⟨⟨a1, a2⟩, ⟨a3, a4⟩⟩ := tri_bd ha hx hx
  obtain ⟨⟨b1, b2⟩, ⟨b3, b4⟩⟩ := tri_bd hb hx hy
  obtain ⟨⟨c1, c2⟩, ⟨c3, c4⟩⟩ := tri_bd hc hy hy
  clear h ha hb hc hx hy
  go_enter Try.func97, Try.ntmps97
  go_wp2_with fail
  go_ret
  exact ⟨rint rfl, by go_grown⟩
theorem spec_foPolar (a b c x y u v : Int) (w : World) (h : good3 a b c = true) (hx : -1000000 ≤ x ∧ x ≤ 1000000) (hy : -1000000 ≤ y ∧ y ≤ 1000000) (hu : -1000000 ≤ u ∧ u ≤ 1000000) (hv : -1000000 ≤ v ∧ v ≤ 1000000) :
    Calls Try.prog 98 #[.agg #[.int .i64 a, .int .i64 b, .int .i64 c], .int .i64 x, .int .i64 y, .int .i64 u, .int .i64 v] w fun e w' => e = .returned (.int .i64 (polF a b c x y u v)) ∧ Below w.heap.size w w' := by
  obtain ⟨ha, hb, hc⟩ := good3_iff.1 h
  have p1 := mulb (a := 2 * a) (b := x) (A := 2000000) (B := 1000000) (by omega) (by omega) hx.1 hx.2
  have p2 := mulb (a := 2 * a * x) (b := u) (A := 2000000000000) (B := 1000000) (by omega) (by omega) hu.1 hu.2
  have p3 := mulb hx.1 hx.2 hv.1 hv.2
  have p4 := mulb hy.1 hy.2 hu.1 hu.2
  have p5 := mulb (a := b) (b := x * v + y * u) (A := 1000000) (B := 2000000000000) hb.1 hb.2 (by omega) (by omega)
  have p6 := mulb (a := 2 * c) (b := y) (A := 2000000) (B := 1000000) (by omega) (by omega) hy.1 hy.2
  have p7 := mulb (a := 2 * c * y) (b := v) (A := 2000000000000) (B := 1000000) (by omega) (by omega) hv.1 hv.2
  obtain ⟨a1, a2⟩ := ha
  obtain ⟨b1, b2⟩ := hb
  obtain ⟨c1, c2⟩ := hc
  obtain ⟨q1, r1⟩ := p1
  obtain ⟨q2, r2⟩ := p2
  obtain ⟨q3, r3⟩ := p3
  obtain ⟨q4, r4⟩ := p4
  obtain ⟨q5, r5⟩ := p5
  obtain ⟨q6, r6⟩ := p6
  obtain ⟨q7, r7⟩ := p7
  clear h hx hy hu hv
  go_enter Try.func98, Try.ntmps98
  go_wp2_with fail
  go_ret
  exact ⟨rint rfl, by go_grown⟩
theorem spec_foAct (a b c p q r s : Int) (w : World) (h : good3 a b c = true) (hm : good4 p q r s = true) :
    Calls Try.prog 54 #[.agg #[.int .i64 a, .int .i64 b, .int .i64 c], .agg #[.int .i64 p, .int .i64 q, .int .i64 r, .int .i64 s]] w fun e w' => e = .returned (.agg #[.int .i64 (valF a b c p r), .int .i64 (polF a b c p r q s), .int .i64 (valF a b c q s)]) ∧ Below w.heap.size w w' := by
  obtain ⟨hp, hq, hr, hs⟩ := good4_iff.1 hm
  have H := Lib.hid h
  clear h
  have Hp := Lib.hid hp
  have Hq := Lib.hid hq
  have Hr := Lib.hid hr
  have Hs := Lib.hid hs
  clear hm hp hq hr hs
  go_enter Try.func54, Try.ntmps54
  go_wp2_with fail
  refine region_named (fun W hW => ?_)
  have c0 : ∀ x' : Aft W, x'.w.cell? ⟨w.heap.size, 0, none⟩ = some (.int .i64 a) := fun x' => x'.cell (by rw [hW]; simp <;> omega) (by rw [hW]; simp [go_sem])
  have c1 : ∀ x' : Aft W, x'.w.cell? ⟨w.heap.size, 1, none⟩ = some (.int .i64 b) := fun x' => x'.cell (by rw [hW]; simp <;> omega) (by rw [hW]; simp [go_sem])
  have c2 : ∀ x' : Aft W, x'.w.cell? ⟨w.heap.size, 2, none⟩ = some (.int .i64 c) := fun x' => x'.cell (by rw [hW]; simp <;> omega) (by rw [hW]; simp [go_sem])
  have c3 : ∀ x' : Aft W, x'.w.cell? ⟨w.heap.size + 1, 0, none⟩ = some (.int .i64 p) := fun x' => x'.cell (by rw [hW]; simp <;> omega) (by rw [hW]; simp [go_sem])
  have c4 : ∀ x' : Aft W, x'.w.cell? ⟨w.heap.size + 1, 1, none⟩ = some (.int .i64 q) := fun x' => x'.cell (by rw [hW]; simp <;> omega) (by rw [hW]; simp [go_sem])
  have c5 : ∀ x' : Aft W, x'.w.cell? ⟨w.heap.size + 1, 2, none⟩ = some (.int .i64 r) := fun x' => x'.cell (by rw [hW]; simp <;> omega) (by rw [hW]; simp [go_sem])
  have c6 : ∀ x' : Aft W, x'.w.cell? ⟨w.heap.size + 1, 3, none⟩ = some (.int .i64 s) := fun x' => x'.cell (by rw [hW]; simp <;> omega) (by rw [hW]; simp [go_sem])
  have Hw := Lib.hid hW
  clear hW
  refine region_aft_tail 23 (by kernel_rfl) (by kernel_rfl) ?_
  simp only [List.take_succ_cons, List.take_zero, List.drop_succ_cons, List.drop_zero]
  repeat go_big_quiet_step ((first | (go_at_call 97; exact callsAft (spec_foValue _ _ _ _ _ _ H.out (by first | exact Hp.out | exact Hq.out) (by first | exact Hr.out | exact Hs.out))) | (go_at_call 98; exact callsAft (spec_foPolar _ _ _ _ _ _ _ _ H.out Hp.out Hr.out Hq.out Hs.out))))
  refine wpQuiet_nil ?_
  clear c0 c1 c2 c3 c4 c5 c6
  intro w1 hb1
  obtain rfl := Hw.out
  clear Hw
  have hB1 : Below w.heap.size w w1 := Below.after (by go_grown) hb1
  obtain ⟨hc1, hf1⟩ := bcell hb1
  have hy1 := hb1.size
  try simp at hy1
  first | (with_reducible have hx1 := Nat.lt_of_succ_le hy1) | skip
  first | (with_reducible have hv1 := Nat.lt_of_succ_lt hx1) | skip
  first | (with_reducible have hu1 := Nat.lt_of_succ_lt hv1) | skip
  first | (have hz1 : w.heap.size < w1.heap.size := by omega) | (have hz1 := hB1.size)
  clear hb1
  have z0 : w1.cell? ⟨w.heap.size + 1 + 1, 0, none⟩ = some (.int .i64 0) := (hc1 _ _ (by first | (simp; done) | (simp; omega))).trans (by simp [go_sem])
  have z1 : w1.cell? ⟨w.heap.size + 1 + 1, 1, none⟩ = some (.int .i64 0) := (hc1 _ _ (by first | (simp; done) | (simp; omega))).trans (by simp [go_sem])
  have z2 : w1.cell? ⟨w.heap.size + 1 + 1, 2, none⟩ = some (.int .i64 0) := (hc1 _ _ (by first | (simp; done) | (simp; omega))).trans (by simp [go_sem])
  go_wp2_with fail
  refine bodyPost_ret (v := .agg #[.int .i64 (valF a b c p r), .int .i64 (polF a b c p r q s), .int .i64 (valF a b c q s)]) (by simp [results, Try.results54, go_sem, *] <;> rfl) rfl ⟨rfl, by go_grown⟩

/-! the neighbour -/
theorem spec_nuMod_of (a m r : Int) (w : World) (h0 : 0 < m) (h1 : m ≤ 4000000000000000000) (h : a % m = r) :
    Calls Try.prog 116 #[.int .i64 a, .int .i64 m] w fun e w' => e = .returned (.int .i64 r) ∧ w = w' := h ▸ spec_nuMod a m w h0 h1
theorem impl_mod_of (a m r : Int) (w : World) (h0 : 0 < m) (h1 : m ≤ 4000000000000000000) (h : a % m = r) :
    Calls Try.prog 115 #[.int .i64 a, .int .i64 m] w fun e w' => e = .returned (.int .i64 r) ∧ w = w' := h ▸ impl_mod a m w h0 h1
/-- what the walk of a neighbour wants: R the residue, T the upper end -/
theorem nB_parts {a b c : Int} (h : indefB a b c = true) : ∃ R : Int, (topR (isq (disc a b c)) c + b) % (2 * (c.natAbs : Int)) = R ∧ topR (isq (disc a b c)) c - R = nB a b c ∧ 0 ≤ R ∧ R ≤ 2000000 ∧ (-1000000 ≤ topR (isq (disc a b c)) c - R ∧ topR (isq (disc a b c)) c - R ≤ 1000000) ∧
    (0 ≤ (topR (isq (disc a b c)) c - R) * (topR (isq (disc a b c)) c - R) ∧ (topR (isq (disc a b c)) c - R) * (topR (isq (disc a b c)) c - R) ≤ 1000000000000) := by
  obtain ⟨_, hc⟩ := indef_ne h
  obtain ⟨_, _, ⟨c1, c2⟩, _, ⟨r1, r2⟩⟩ := indef_bds h
  obtain ⟨_, ⟨n1, n2⟩, _⟩ := good3_iff.1 (nx_good h)
  have h1 := Int.emod_nonneg (topR (isq (disc a b c)) c + b) (show 2 * (c.natAbs : Int) ≠ 0 by omega)
  have h2 := Int.emod_lt_of_pos (topR (isq (disc a b c)) c + b) (show 0 < 2 * (c.natAbs : Int) by omega)
  have e : topR (isq (disc a b c)) c - (topR (isq (disc a b c)) c + b) % (2 * (c.natAbs : Int)) = nB a b c := rfl
  refine ⟨_, rfl, e, h1, by omega, by rw [e]; exact ⟨n1, n2⟩, ?_⟩
  rw [e]
  have := sqb n1 n2
  omega
theorem spec_cyMove (a b c : Int) (w : World) (h : indefB a b c = true) :
    Calls Try.prog 106 #[.agg #[.int .i64 a, .int .i64 b, .int .i64 c]] w fun e w' => e = .returned (.agg #[.int .i64 0, .int .i64 (-1), .int .i64 1, .int .i64 (nS a b c)]) ∧ Below w.heap.size w w' := by
  obtain ⟨⟨a1, a2⟩, ⟨b1, b2⟩, ⟨c1, c2⟩, ⟨d1, d2⟩, ⟨r1, r2⟩⟩ := indef_bds h
  obtain ⟨_, hc⟩ := indef_ne h
  have hp := nB_parts h
  have hs := nS_bd h
  have hc2 : ¬ 2 * c = 0 := by omega
  have H := Lib.hid h
  clear h
  by_cases hg : isq (disc a b c) < (c.natAbs : Int)
  · have ht : topR (isq (disc a b c)) c = (c.natAbs : Int) := by unfold topR ab; rw [if_pos hg]
    rw [ht] at hp
    clear ht
    obtain ⟨R, hR, hB, k1, k2, ⟨k3, k4⟩, ⟨k5, k6⟩⟩ := hp
    have HR := Lib.hid hR
    have hS : (b + ((c.natAbs : Int) - R)).tdiv (2 * c) = nS a b c := by unfold nS; rw [hB]
    have hS2 := hs
    rw [← hS] at hS2
    obtain ⟨q1, q2⟩ := hS2
    have HS := Lib.hid hS
    clear hR hB hS hs
    go_enter Try.func106, Try.ntmps106
    go_wp2_with fail
    refine (spec_foDisc a b c _ (indefB_good H.out)).mono ?_
    rintro e w1 ⟨rfl, hb1⟩
    have hB1 : Below w.heap.size w w1 := Below.after (by go_grown) hb1
    obtain ⟨hc1, hf1⟩ := bcell hb1
    have hy1 := hb1.size
    try simp at hy1
    first | (with_reducible have hx1 := Nat.lt_of_succ_le hy1) | skip
    first | (with_reducible have hv1 := Nat.lt_of_succ_lt hx1) | skip
    first | (with_reducible have hu1 := Nat.lt_of_succ_lt hv1) | skip
    first | (have hz1 : w.heap.size < w1.heap.size := by omega) | (have hz1 := hB1.size)
    clear hb1
    go_wp2_with fail
    refine (spec_nuRoot _ _ (by omega) (by omega)).mono ?_
    rintro e w' ⟨rfl, rfl⟩
    go_wp2_with fail
    refine (spec_l1Abs _ _ (by omega) (by omega)).mono ?_
    rintro e w' ⟨rfl, rfl⟩
    go_wp2_with fail
    refine (spec_nuMod_of _ _ R _ (by omega) (by omega) HR.out).mono ?_
    rintro e w' ⟨rfl, rfl⟩
    go_wp2_with fail
    have e9 := HS.out
    refine bodyPost_ret (v := .agg #[.int .i64 0, .int .i64 (-1), .int .i64 1, .int .i64 (nS a b c)]) (by simp [results, Try.results106, go_sem, *] <;> rfl) rfl ⟨rfl, by go_grown⟩
  · have ht : topR (isq (disc a b c)) c = isq (disc a b c) := by unfold topR ab; rw [if_neg hg]
    rw [ht] at hp
    clear ht
    obtain ⟨R, hR, hB, k1, k2, ⟨k3, k4⟩, ⟨k5, k6⟩⟩ := hp
    have HR := Lib.hid hR
    have hS : (b + ((isq (disc a b c)) - R)).tdiv (2 * c) = nS a b c := by unfold nS; rw [hB]
    have hS2 := hs
    rw [← hS] at hS2
    obtain ⟨q1, q2⟩ := hS2
    have HS := Lib.hid hS
    clear hR hB hS hs
    go_enter Try.func106, Try.ntmps106
    go_wp2_with fail
    refine (spec_foDisc a b c _ (indefB_good H.out)).mono ?_
    rintro e w1 ⟨rfl, hb1⟩
    have hB1 : Below w.heap.size w w1 := Below.after (by go_grown) hb1
    obtain ⟨hc1, hf1⟩ := bcell hb1
    have hy1 := hb1.size
    try simp at hy1
    first | (with_reducible have hx1 := Nat.lt_of_succ_le hy1) | skip
    first | (with_reducible have hv1 := Nat.lt_of_succ_lt hx1) | skip
    first | (with_reducible have hu1 := Nat.lt_of_succ_lt hv1) | skip
    first | (have hz1 : w.heap.size < w1.heap.size := by omega) | (have hz1 := hB1.size)
    clear hb1
    go_wp2_with fail
    refine (spec_nuRoot _ _ (by omega) (by omega)).mono ?_
    rintro e w' ⟨rfl, rfl⟩
    go_wp2_with fail
    refine (spec_l1Abs _ _ (by omega) (by omega)).mono ?_
    rintro e w' ⟨rfl, rfl⟩
    go_wp2_with fail
    refine (spec_nuMod_of _ _ R _ (by omega) (by omega) HR.out).mono ?_
    rintro e w' ⟨rfl, rfl⟩
    go_wp2_with fail
    have e9 := HS.out
    refine bodyPost_ret (v := .agg #[.int .i64 0, .int .i64 (-1), .int .i64 1, .int .i64 (nS a b c)]) (by simp [results, Try.results106, go_sem, *] <;> rfl) rfl ⟨rfl, by go_grown⟩
set_option maxHeartbeats 1000000 in
theorem impl_neighbour (a b c : Int) (w : World) (h : indefB a b c = true) :
    Calls Try.prog 79 #[.agg #[.int .i64 a, .int .i64 b, .int .i64 c]] w fun e w' => e = .returned (.tuple #[.agg #[.int .i64 c, .int .i64 (nB a b c), .int .i64 (nC a b c)], .agg #[.int .i64 0, .int .i64 (-1), .int .i64 1, .int .i64 (nS a b c)]]) ∧ Below w.heap.size w w' := by
  obtain ⟨⟨a1, a2⟩, ⟨b1, b2⟩, ⟨c1, c2⟩, ⟨d1, d2⟩, ⟨r1, r2⟩⟩ := indef_bds h
  obtain ⟨_, hc⟩ := indef_ne h
  have hp := nB_parts h
  have hs := nS_bd h
  have ht := (good3_iff.1 (nx_good h)).2.2
  have hc2 : ¬ 2 * c = 0 := by omega
  have hc4 : ¬ 4 * c = 0 := by omega
  have H := Lib.hid h
  clear h
  by_cases hg : isq (disc a b c) < (c.natAbs : Int)
  · have htop : topR (isq (disc a b c)) c = (c.natAbs : Int) := by unfold topR ab; rw [if_pos hg]
    rw [htop] at hp
    clear htop
    obtain ⟨R, hR, hB, k1, k2, ⟨k3, k4⟩, ⟨k5, k6⟩⟩ := hp
    have HR := Lib.hid hR
    have hS : (b + ((c.natAbs : Int) - R)).tdiv (2 * c) = nS a b c := by unfold nS; rw [hB]
    have hT : (((c.natAbs : Int) - R) * ((c.natAbs : Int) - R) - disc a b c).tdiv (4 * c) = nC a b c := by unfold nC; rw [hB]
    rw [← hS] at hs
    rw [← hT] at ht
    obtain ⟨q1, q2⟩ := hs
    obtain ⟨q3, q4⟩ := ht
    have HB := Lib.hid hB
    clear hR hB hS hT
    go_enter Try.func79, Try.ntmps79
    go_wp2_with fail
    refine (impl_disc a b c _ (indefB_good H.out)).mono ?_
    rintro e w1 ⟨rfl, hb1⟩
    have hB1 : Below w.heap.size w w1 := Below.after (by go_grown) hb1
    obtain ⟨hc1, hf1⟩ := bcell hb1
    have hy1 := hb1.size
    try simp at hy1
    first | (with_reducible have hx1 := Nat.lt_of_succ_le hy1) | skip
    first | (with_reducible have hv1 := Nat.lt_of_succ_lt hx1) | skip
    first | (with_reducible have hu1 := Nat.lt_of_succ_lt hv1) | skip
    first | (have hz1 : w.heap.size < w1.heap.size := by omega) | (have hz1 := hB1.size)
    clear hb1
    go_wp2_with fail
    refine (impl_abs _ _ (by omega) (by omega)).mono ?_
    rintro e w' ⟨rfl, rfl⟩
    go_wp2_with fail
    refine (impl_root _ _ (by omega) (by omega)).mono ?_
    rintro e w' ⟨rfl, rfl⟩
    go_wp2_with fail
    refine (impl_mod_of _ _ R _ (by omega) (by omega) HR.out).mono ?_
    rintro e w' ⟨rfl, rfl⟩
    have y0 : w1.cell? ⟨w.heap.size, 0, none⟩ = some (.int .i64 a) := (hc1 _ _ (by first | (simp; done) | (simp; omega))).trans (by simp [go_sem])
    have y1 : w1.cell? ⟨w.heap.size, 1, none⟩ = some (.int .i64 b) := (hc1 _ _ (by first | (simp; done) | (simp; omega))).trans (by simp [go_sem])
    have y2 : w1.cell? ⟨w.heap.size, 2, none⟩ = some (.int .i64 c) := (hc1 _ _ (by first | (simp; done) | (simp; omega))).trans (by simp [go_sem])
    go_wp2_with fail
    have z0 : w1.cell? ⟨w.heap.size + 1, 0, none⟩ = some (.int .i64 0) := (hc1 _ _ (by first | (simp; done) | (simp; omega))).trans (by simp [go_sem])
    have z1 : w1.cell? ⟨w.heap.size + 1, 1, none⟩ = some (.int .i64 0) := (hc1 _ _ (by first | (simp; done) | (simp; omega))).trans (by simp [go_sem])
    have z2 : w1.cell? ⟨w.heap.size + 1, 2, none⟩ = some (.int .i64 0) := (hc1 _ _ (by first | (simp; done) | (simp; omega))).trans (by simp [go_sem])
    have z3 : w1.cell? ⟨w.heap.size + 1 + 1, 0, none⟩ = some (.int .i64 0) := (hc1 _ _ (by first | (simp; done) | (simp; omega))).trans (by simp [go_sem])
    have z4 : w1.cell? ⟨w.heap.size + 1 + 1, 1, none⟩ = some (.int .i64 0) := (hc1 _ _ (by first | (simp; done) | (simp; omega))).trans (by simp [go_sem])
    have z5 : w1.cell? ⟨w.heap.size + 1 + 1, 2, none⟩ = some (.int .i64 0) := (hc1 _ _ (by first | (simp; done) | (simp; omega))).trans (by simp [go_sem])
    have z6 : w1.cell? ⟨w.heap.size + 1 + 1, 3, none⟩ = some (.int .i64 0) := (hc1 _ _ (by first | (simp; done) | (simp; omega))).trans (by simp [go_sem])
    have l1 : IntKind.i64.wrap (((c.natAbs : Int) - R) * ((c.natAbs : Int) - R)) = ((c.natAbs : Int) - R) * ((c.natAbs : Int) - R) := IntWalk.i64_in _ (by omega)
    have l2 : IntKind.i64.wrap (((c.natAbs : Int) - R) * ((c.natAbs : Int) - R) - disc a b c) = ((c.natAbs : Int) - R) * ((c.natAbs : Int) - R) - disc a b c := IntWalk.i64_in _ (by omega)
    have l3 : IntKind.i64.wrap (4 * c) = 4 * c := IntWalk.i64_in _ (by omega)
    have l4 : IntKind.i64.wrap (b + ((c.natAbs : Int) - R)) = b + ((c.natAbs : Int) - R) := IntWalk.i64_in _ (by omega)
    have l5 : IntKind.i64.wrap (2 * c) = 2 * c := IntWalk.i64_in _ (by omega)
    have l6 : IntKind.i64.wrap ((((c.natAbs : Int) - R) * ((c.natAbs : Int) - R) - disc a b c).tdiv (4 * c)) = (((c.natAbs : Int) - R) * ((c.natAbs : Int) - R) - disc a b c).tdiv (4 * c) := IntWalk.i64_in _ (by omega)
    have l7 : IntKind.i64.wrap ((b + ((c.natAbs : Int) - R)).tdiv (2 * c)) = (b + ((c.natAbs : Int) - R)).tdiv (2 * c) := IntWalk.i64_in _ (by omega)
    have ne1 : ¬ w.heap.size + 1 + 1 = w.heap.size := by omega
    have ne2 : ¬ w.heap.size + 2 = w.heap.size := by omega
    go_region_held3 (fun w' => w'.cell? ⟨w.heap.size, 1, none⟩ = some (.int .i64 b) ∧ w'.cell? ⟨w.heap.size, 2, none⟩ = some (.int .i64 c)) (go_keep) (fail)
    clear l1 l2 l3 l4 l5 l6 l7
    have e7 : (b + nB a b c).tdiv (2 * c) = nS a b c := rfl
    have e8 : (nB a b c * nB a b c - disc a b c).tdiv (4 * c) = nC a b c := rfl
    have e9 := HB.out
    go_wp2_with fail
    refine bodyPost_ret (v := .tuple #[.agg #[.int .i64 c, .int .i64 (nB a b c), .int .i64 (nC a b c)], .agg #[.int .i64 0, .int .i64 (-1), .int .i64 1, .int .i64 (nS a b c)]]) (by simp [results, Try.results79, go_sem, *] <;> rfl) rfl ⟨rfl, by go_grown⟩
  · have htop : topR (isq (disc a b c)) c = isq (disc a b c) := by unfold topR ab; rw [if_neg hg]
    rw [htop] at hp
    clear htop
    obtain ⟨R, hR, hB, k1, k2, ⟨k3, k4⟩, ⟨k5, k6⟩⟩ := hp
    have HR := Lib.hid hR
    have hS : (b + ((isq (disc a b c)) - R)).tdiv (2 * c) = nS a b c := by unfold nS; rw [hB]
    have hT : (((isq (disc a b c)) - R) * ((isq (disc a b c)) - R) - disc a b c).tdiv (4 * c) = nC a b c := by unfold nC; rw [hB]
    rw [← hS] at hs
    rw [← hT] at ht
    obtain ⟨q1, q2⟩ := hs
    obtain ⟨q3, q4⟩ := ht
    have HB := Lib.hid hB
    clear hR hB hS hT
    go_enter Try.func79, Try.ntmps79
    go_wp2_with fail
    refine (impl_disc a b c _ (indefB_good H.out)).mono ?_
    rintro e w1 ⟨rfl, hb1⟩
    have hB1 : Below w.heap.size w w1 := Below.after (by go_grown) hb1
    obtain ⟨hc1, hf1⟩ := bcell hb1
    have hy1 := hb1.size
    try simp at hy1
    first | (with_reducible have hx1 := Nat.lt_of_succ_le hy1) | skip
    first | (with_reducible have hv1 := Nat.lt_of_succ_lt hx1) | skip
    first | (with_reducible have hu1 := Nat.lt_of_succ_lt hv1) | skip
    first | (have hz1 : w.heap.size < w1.heap.size := by omega) | (have hz1 := hB1.size)
    clear hb1
    go_wp2_with fail
    refine (impl_abs _ _ (by omega) (by omega)).mono ?_
    rintro e w' ⟨rfl, rfl⟩
    go_wp2_with fail
    refine (impl_root _ _ (by omega) (by omega)).mono ?_
    rintro e w' ⟨rfl, rfl⟩
    go_wp2_with fail
    refine (impl_mod_of _ _ R _ (by omega) (by omega) HR.out).mono ?_
    rintro e w' ⟨rfl, rfl⟩
    have y0 : w1.cell? ⟨w.heap.size, 0, none⟩ = some (.int .i64 a) := (hc1 _ _ (by first | (simp; done) | (simp; omega))).trans (by simp [go_sem])
    have y1 : w1.cell? ⟨w.heap.size, 1, none⟩ = some (.int .i64 b) := (hc1 _ _ (by first | (simp; done) | (simp; omega))).trans (by simp [go_sem])
    have y2 : w1.cell? ⟨w.heap.size, 2, none⟩ = some (.int .i64 c) := (hc1 _ _ (by first | (simp; done) | (simp; omega))).trans (by simp [go_sem])
    go_wp2_with fail
    have z0 : w1.cell? ⟨w.heap.size + 1, 0, none⟩ = some (.int .i64 0) := (hc1 _ _ (by first | (simp; done) | (simp; omega))).trans (by simp [go_sem])
    have z1 : w1.cell? ⟨w.heap.size + 1, 1, none⟩ = some (.int .i64 0) := (hc1 _ _ (by first | (simp; done) | (simp; omega))).trans (by simp [go_sem])
    have z2 : w1.cell? ⟨w.heap.size + 1, 2, none⟩ = some (.int .i64 0) := (hc1 _ _ (by first | (simp; done) | (simp; omega))).trans (by simp [go_sem])
    have z3 : w1.cell? ⟨w.heap.size + 1 + 1, 0, none⟩ = some (.int .i64 0) := (hc1 _ _ (by first | (simp; done) | (simp; omega))).trans (by simp [go_sem])
    have z4 : w1.cell? ⟨w.heap.size + 1 + 1, 1, none⟩ = some (.int .i64 0) := (hc1 _ _ (by first | (simp; done) | (simp; omega))).trans (by simp [go_sem])
    have z5 : w1.cell? ⟨w.heap.size + 1 + 1, 2, none⟩ = some (.int .i64 0) := (hc1 _ _ (by first | (simp; done) | (simp; omega))).trans (by simp [go_sem])
    have z6 : w1.cell? ⟨w.heap.size + 1 + 1, 3, none⟩ = some (.int .i64 0) := (hc1 _ _ (by first | (simp; done) | (simp; omega))).trans (by simp [go_sem])
    have l1 : IntKind.i64.wrap (((isq (disc a b c)) - R) * ((isq (disc a b c)) - R)) = ((isq (disc a b c)) - R) * ((isq (disc a b c)) - R) := IntWalk.i64_in _ (by omega)
    have l2 : IntKind.i64.wrap (((isq (disc a b c)) - R) * ((isq (disc a b c)) - R) - disc a b c) = ((isq (disc a b c)) - R) * ((isq (disc a b c)) - R) - disc a b c := IntWalk.i64_in _ (by omega)
    have l3 : IntKind.i64.wrap (4 * c) = 4 * c := IntWalk.i64_in _ (by omega)
    have l4 : IntKind.i64.wrap (b + ((isq (disc a b c)) - R)) = b + ((isq (disc a b c)) - R) := IntWalk.i64_in _ (by omega)
    have l5 : IntKind.i64.wrap (2 * c) = 2 * c := IntWalk.i64_in _ (by omega)
    have l6 : IntKind.i64.wrap ((((isq (disc a b c)) - R) * ((isq (disc a b c)) - R) - disc a b c).tdiv (4 * c)) = (((isq (disc a b c)) - R) * ((isq (disc a b c)) - R) - disc a b c).tdiv (4 * c) := IntWalk.i64_in _ (by omega)
    have l7 : IntKind.i64.wrap ((b + ((isq (disc a b c)) - R)).tdiv (2 * c)) = (b + ((isq (disc a b c)) - R)).tdiv (2 * c) := IntWalk.i64_in _ (by omega)
    have ne1 : ¬ w.heap.size + 1 + 1 = w.heap.size := by omega
    have ne2 : ¬ w.heap.size + 2 = w.heap.size := by omega
    go_region_held3 (fun w' => w'.cell? ⟨w.heap.size, 1, none⟩ = some (.int .i64 b) ∧ w'.cell? ⟨w.heap.size, 2, none⟩ = some (.int .i64 c)) (go_keep) (fail)
    clear l1 l2 l3 l4 l5 l6 l7
    have e7 : (b + nB a b c).tdiv (2 * c) = nS a b c := rfl
    have e8 : (nB a b c * nB a b c - disc a b c).tdiv (4 * c) = nC a b c := rfl
    have e9 := HB.out
    go_wp2_with fail
    refine bodyPost_ret (v := .tuple #[.agg #[.int .i64 c, .int .i64 (nB a b c), .int .i64 (nC a b c)], .agg #[.int .i64 0, .int .i64 (-1), .int .i64 1, .int .i64 (nS a b c)]]) (by simp [results, Try.results79, go_sem, *] <;> rfl) rfl ⟨rfl, by go_grown⟩
end Go.Proofs.Ytdonpiihjoihcaa
