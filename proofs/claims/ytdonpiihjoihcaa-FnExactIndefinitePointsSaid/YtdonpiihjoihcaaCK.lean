/- Contracts and the walk of the law: the matrix that leads from one form to another. -/
import Derived.Test.YtdonpiihjoihcaaCJ
namespace Go.Proofs.Ytdonpiihjoihcaa
set_option linter.unusedVariables false
open Go.ChangeShapes Go.WideShapes Go.ChangeAt Go.RowKit

def invM (m : Mx) : Mx := ⟨m.s, -m.q, -m.r, m.p⟩
theorem invM_good {m : Mx} (h : goodM m = true) : goodM (invM m) = true := by
  obtain ⟨⟨_, _⟩, ⟨_, _⟩, ⟨_, _⟩, ⟨_, _⟩⟩ := good4_iff.1 h
  exact good4_iff.2 ⟨⟨by simp only [invM]; omega, by simp only [invM]; omega⟩, ⟨by simp only [invM]; omega, by simp only [invM]; omega⟩, ⟨by simp only [invM]; omega, by simp only [invM]; omega⟩, ⟨by simp only [invM]; omega, by simp only [invM]; omega⟩⟩
/-- what is handed back at the end of the way -/
def finV (n : Mx) : Option Mx → Mx × Bool
  | none => (zM, false)
  | some m => if goodM (mulM m (invM n)) = true then (mulM m (invM n), true) else (zM, false)
theorem spec_foDet1 (p q r s : Int) (w : World) (h : good4 p q r s = true) (hd : p * s - q * r = 1) :
    Calls Try.prog 53 #[.agg #[.int .i64 p, .int .i64 q, .int .i64 r, .int .i64 s]] w fun e w' => e = .returned (.int .i64 1) ∧ Below w.heap.size w w' := by
  obtain ⟨hp, hq, hr, hs⟩ := good4_iff.1 h
  obtain ⟨a1, a2⟩ := prod_bd hp hs
  obtain ⟨a3, a4⟩ := prod_bd hq hr
  have Hd := Lib.hid hd
  clear h hp hq hr hs hd
  go_enter Try.func53, Try.ntmps53
  go_wp2_with fail
  go_ret
  exact ⟨rint Hd.out, by go_grown⟩
theorem impl_det1 (p q r s : Int) (w : World) (h : good4 p q r s = true) (hd : p * s - q * r = 1) :
    Calls Try.prog 133 #[.agg #[.int .i64 p, .int .i64 q, .int .i64 r, .int .i64 s]] w fun e w' => e = .returned (.int .i64 1) ∧ Below w.heap.size w w' := by
  obtain ⟨hp, hq, hr, hs⟩ := good4_iff.1 h
  obtain ⟨a1, a2⟩ := prod_bd hp hs
  obtain ⟨a3, a4⟩ := prod_bd hq hr
  have Hd := Lib.hid hd
  clear h hp hq hr hs hd
  go_enter Try.func133, Try.ntmps133
  go_wp2_with fail
  go_ret
  exact ⟨rint Hd.out, by go_grown⟩
theorem spec_foInverse (p q r s : Int) (w : World) (h : good4 p q r s = true) (hd : p * s - q * r = 1) :
    Calls Try.prog 108 #[.agg #[.int .i64 p, .int .i64 q, .int .i64 r, .int .i64 s]] w fun e w' => e = .returned (.agg #[.int .i64 s, .int .i64 (-q), .int .i64 (-r), .int .i64 p]) ∧ Below w.heap.size w w' := by
  obtain ⟨⟨p1, p2⟩, ⟨q1, q2⟩, ⟨r1, r2⟩, ⟨s1, s2⟩⟩ := good4_iff.1 h
  have Hd := Lib.hid (And.intro h hd)
  clear h hd
  go_enter Try.func108, Try.ntmps108
  go_wp2_with fail
  refine (spec_foDet1 p q r s _ Hd.out.1 Hd.out.2).mono ?_
  rintro e w1 ⟨rfl, hb1⟩
  have hB1 : Below w.heap.size w w1 := Below.after (by go_grown) hb1
  have a1 : Holds w1 w.heap.size (cM ⟨p, q, r, s⟩) 30 := Holds.below (by repeat (first | (refine Holds.new' _ _ _ ?_; simp; done) | refine Holds.alloc ?_ _ | refine Holds.far ?_ (by first | omega | (simp; done) | (simp; omega)))) hb1
  have a2 : Holds w1 (w.heap.size + 1) (cM zM) 30 := Holds.below (by repeat (first | (refine Holds.new' _ _ _ ?_; simp; done) | refine Holds.alloc ?_ _ | refine Holds.far ?_ (by first | omega | (simp; done) | (simp; omega)))) hb1
  clear hb1
  have y0 : w1.cell? ⟨w.heap.size, 0, none⟩ = some (.int .i64 p) := Holds.cell a1 rfl
  have y1 : w1.cell? ⟨w.heap.size, 1, none⟩ = some (.int .i64 q) := Holds.cell a1 rfl
  have y2 : w1.cell? ⟨w.heap.size, 2, none⟩ = some (.int .i64 r) := Holds.cell a1 rfl
  have y3 : w1.cell? ⟨w.heap.size, 3, none⟩ = some (.int .i64 s) := Holds.cell a1 rfl
  have yf0 : w1.frozen? ⟨w.heap.size, 0, none⟩ = false := Holds.free a1
  have yf1 : w1.frozen? ⟨w.heap.size, 1, none⟩ = false := Holds.free a1
  have yf2 : w1.frozen? ⟨w.heap.size, 2, none⟩ = false := Holds.free a1
  have yf3 : w1.frozen? ⟨w.heap.size, 3, none⟩ = false := Holds.free a1
  have u0 : w1.cell? ⟨w.heap.size + 1, 0, none⟩ = some (.int .i64 0) := Holds.cell a2 rfl
  have u1 : w1.cell? ⟨w.heap.size + 1, 1, none⟩ = some (.int .i64 0) := Holds.cell a2 rfl
  have u2 : w1.cell? ⟨w.heap.size + 1, 2, none⟩ = some (.int .i64 0) := Holds.cell a2 rfl
  have u3 : w1.cell? ⟨w.heap.size + 1, 3, none⟩ = some (.int .i64 0) := Holds.cell a2 rfl
  have uf0 : w1.frozen? ⟨w.heap.size + 1, 0, none⟩ = false := Holds.free a2
  have uf1 : w1.frozen? ⟨w.heap.size + 1, 1, none⟩ = false := Holds.free a2
  have uf2 : w1.frozen? ⟨w.heap.size + 1, 2, none⟩ = false := Holds.free a2
  have uf3 : w1.frozen? ⟨w.heap.size + 1, 3, none⟩ = false := Holds.free a2
  clear a1 a2
  have n1 : IntKind.i64.wrap (-1) = -1 := by decide
  go_wp2_with fail
  refine bodyPost_ret (v := .agg #[.int .i64 s, .int .i64 (-q), .int .i64 (-r), .int .i64 p]) (by simp [results, Try.results108, go_sem, *] <;> rfl) rfl ⟨rfl, by go_grown⟩
theorem impl_inverse (p q r s : Int) (w : World) (h : good4 p q r s = true) (hd : p * s - q * r = 1) :
    Calls Try.prog 113 #[.agg #[.int .i64 p, .int .i64 q, .int .i64 r, .int .i64 s]] w fun e w' => e = .returned (.agg #[.int .i64 s, .int .i64 (-q), .int .i64 (-r), .int .i64 p]) ∧ Below w.heap.size w w' := by
  obtain ⟨⟨p1, p2⟩, ⟨q1, q2⟩, ⟨r1, r2⟩, ⟨s1, s2⟩⟩ := good4_iff.1 h
  have Hd := Lib.hid (And.intro h hd)
  clear h hd
  go_enter Try.func113, Try.ntmps113
  go_wp2_with fail
  refine (impl_det1 p q r s _ Hd.out.1 Hd.out.2).mono ?_
  rintro e w1 ⟨rfl, hb1⟩
  have hB1 : Below w.heap.size w w1 := Below.after (by go_grown) hb1
  have a1 : Holds w1 w.heap.size (cM ⟨p, q, r, s⟩) 30 := Holds.below (by repeat (first | (refine Holds.new' _ _ _ ?_; simp; done) | refine Holds.alloc ?_ _ | refine Holds.far ?_ (by first | omega | (simp; done) | (simp; omega)))) hb1
  have a2 : Holds w1 (w.heap.size + 1) (cM zM) 30 := Holds.below (by repeat (first | (refine Holds.new' _ _ _ ?_; simp; done) | refine Holds.alloc ?_ _ | refine Holds.far ?_ (by first | omega | (simp; done) | (simp; omega)))) hb1
  clear hb1
  have y0 : w1.cell? ⟨w.heap.size, 0, none⟩ = some (.int .i64 p) := Holds.cell a1 rfl
  have y1 : w1.cell? ⟨w.heap.size, 1, none⟩ = some (.int .i64 q) := Holds.cell a1 rfl
  have y2 : w1.cell? ⟨w.heap.size, 2, none⟩ = some (.int .i64 r) := Holds.cell a1 rfl
  have y3 : w1.cell? ⟨w.heap.size, 3, none⟩ = some (.int .i64 s) := Holds.cell a1 rfl
  have yf0 : w1.frozen? ⟨w.heap.size, 0, none⟩ = false := Holds.free a1
  have yf1 : w1.frozen? ⟨w.heap.size, 1, none⟩ = false := Holds.free a1
  have yf2 : w1.frozen? ⟨w.heap.size, 2, none⟩ = false := Holds.free a1
  have yf3 : w1.frozen? ⟨w.heap.size, 3, none⟩ = false := Holds.free a1
  have u0 : w1.cell? ⟨w.heap.size + 1, 0, none⟩ = some (.int .i64 0) := Holds.cell a2 rfl
  have u1 : w1.cell? ⟨w.heap.size + 1, 1, none⟩ = some (.int .i64 0) := Holds.cell a2 rfl
  have u2 : w1.cell? ⟨w.heap.size + 1, 2, none⟩ = some (.int .i64 0) := Holds.cell a2 rfl
  have u3 : w1.cell? ⟨w.heap.size + 1, 3, none⟩ = some (.int .i64 0) := Holds.cell a2 rfl
  have uf0 : w1.frozen? ⟨w.heap.size + 1, 0, none⟩ = false := Holds.free a2
  have uf1 : w1.frozen? ⟨w.heap.size + 1, 1, none⟩ = false := Holds.free a2
  have uf2 : w1.frozen? ⟨w.heap.size + 1, 2, none⟩ = false := Holds.free a2
  have uf3 : w1.frozen? ⟨w.heap.size + 1, 3, none⟩ = false := Holds.free a2
  clear a1 a2
  have n1 : IntKind.i64.wrap (-1) = -1 := by decide
  go_wp2_with fail
  refine bodyPost_ret (v := .agg #[.int .i64 s, .int .i64 (-q), .int .i64 (-r), .int .i64 p]) (by simp [results, Try.results113, go_sem, *] <;> rfl) rfl ⟨rfl, by go_grown⟩

/-- what CycleMatrix hands back -/
def CMOut (a b c x y z p q r s : Int) (v : Bool) : Prop :=
  ∃ x1 y1 z1 p1 q1 r1 s1 v1 x2 y2 z2 p2 q2 r2 s2 v2, RedOut a b c x1 y1 z1 p1 q1 r1 s1 v1 ∧ RedOut x y z x2 y2 z2 p2 q2 r2 s2 v2 ∧
    ((v1 = true ∧ v2 = true ∧ Cy (disc a b c) ⟨x1, y1, z1⟩ ∧ goodM ⟨p1, q1, r1, s1⟩ = true ∧ goodM ⟨p2, q2, r2, s2⟩ = true ∧ detM ⟨p2, q2, r2, s2⟩ = 1 ∧ decide ((⟨x2, y2, z2⟩ : Fm) ∈ cyc ⟨x1, y1, z1⟩) = true ∧ disc a b c = disc x y z ∧
        ∃ k o, it k ⟨x1, y1, z1⟩ = ⟨x2, y2, z2⟩ ∧ Lead ⟨x1, y1, z1⟩ ⟨p1, q1, r1, s1⟩ ⟨x2, y2, z2⟩ o ∧ finV ⟨p2, q2, r2, s2⟩ o = (⟨p, q, r, s⟩, v))
      ∨ (v1 = true ∧ v2 = true ∧ Cy (disc a b c) ⟨x1, y1, z1⟩ ∧ decide ((⟨x2, y2, z2⟩ : Fm) ∈ cyc ⟨x1, y1, z1⟩) = false ∧ (⟨p, q, r, s⟩ : Mx) = zM ∧ v = false)
      ∨ ((v1 && v2) = false ∧ (⟨p, q, r, s⟩ : Mx) = zM ∧ v = false))
theorem cmOut_ex (a b c x y z : Int) : ∃ p q r s v, CMOut a b c x y z p q r s v := by
  obtain ⟨x1, y1, z1, p1, q1, r1, s1, v1, h1⟩ := redOut_ex a b c
  obtain ⟨x2, y2, z2, p2, q2, r2, s2, v2, h2⟩ := redOut_ex x y z
  cases v1 with
  | true =>
    cases v2 with
    | true =>
      obtain ⟨c1, g1, d1⟩ := redOut_cy h1
      obtain ⟨c2, g2, d2⟩ := redOut_cy h2
      cases hm : decide ((⟨x2, y2, z2⟩ : Fm) ∈ cyc ⟨x1, y1, z1⟩) with
      | true =>
        obtain ⟨c3, k, _, hk⟩ := cyc_mem c1 (by simpa using hm)
        obtain ⟨o, ho⟩ := lead_total ⟨x2, y2, z2⟩ k ⟨x1, y1, z1⟩ ⟨p1, q1, r1, s1⟩ hk.symm
        rcases hv : finV ⟨p2, q2, r2, s2⟩ o with ⟨⟨p, q, r, s⟩, v⟩
        exact ⟨p, q, r, s, v, x1, y1, z1, p1, q1, r1, s1, true, x2, y2, z2, p2, q2, r2, s2, true, h1, h2, .inl ⟨rfl, rfl, c1, g1, g2, d2, hm, c3.1.2.symm.trans c2.1.2, k, o, hk.symm, ho, hv⟩⟩
      | false => exact ⟨0, 0, 0, 0, false, x1, y1, z1, p1, q1, r1, s1, true, x2, y2, z2, p2, q2, r2, s2, true, h1, h2, .inr (.inl ⟨rfl, rfl, c1, hm, rfl, rfl⟩)⟩
    | false => exact ⟨0, 0, 0, 0, false, x1, y1, z1, p1, q1, r1, s1, true, x2, y2, z2, p2, q2, r2, s2, false, h1, h2, .inr (.inr ⟨rfl, rfl, rfl⟩)⟩
  | false => exact ⟨0, 0, 0, 0, false, x1, y1, z1, p1, q1, r1, s1, false, x2, y2, z2, p2, q2, r2, s2, v2, h1, h2, .inr (.inr ⟨rfl, rfl, rfl⟩)⟩
/-- at the head of the loop -/
def CMAt (w : World) (B6 B7 B9 B10 : Nat) (d : Int) (G : Fm) (M : Mx) (o : Option Mx) (k : Nat) (wr : World) : Prop :=
  ∃ (g : Fm) (m : Mx) (n : Nat), n < k ∧ it n g = G ∧ Cy d g ∧ goodM m = true ∧ Lead g m G o ∧ Below w.heap.size w wr ∧
    Holds wr (w.heap.size + 1 + 1) (cM zM) 30 ∧ Holds wr B6 (cF g) 28 ∧ Holds wr B7 (cM m) 30 ∧ Holds wr B9 (cF G) 28 ∧ Holds wr B10 (cM M) 30
set_option maxRecDepth 100000 in
set_option maxHeartbeats 1000000 in
theorem spec_CycleMatrix_no (a b c x y z : Int) (w : World) (h : indefB a b c = false ∨ (indefB a b c = true ∧ indefB x y z = false) ∨ (indefB a b c = true ∧ indefB x y z = true ∧ disc a b c ≠ disc x y z)) :
    Calls Try.prog 64 #[.agg #[.int .i64 a, .int .i64 b, .int .i64 c], .agg #[.int .i64 x, .int .i64 y, .int .i64 z]] w fun e w' => e = .returned (.tuple #[.agg #[.int .i64 0, .int .i64 0, .int .i64 0, .int .i64 0], .bool false]) ∧ Below w.heap.size w w' := by
  have key : ∃ (D E : Int) (u v : Bool), indefB a b c = u ∧ indefB x y z = v ∧ (u = true → good3 a b c = true ∧ disc a b c = D) ∧ (v = true → good3 x y z = true ∧ disc x y z = E) ∧ (u = false ∨ (u = true ∧ v = false) ∨ (u = true ∧ v = true ∧ (D == E) = false)) := by
    refine ⟨disc a b c, disc x y z, indefB a b c, indefB x y z, rfl, rfl, fun e => ⟨indefB_good e, rfl⟩, fun e => ⟨indefB_good e, rfl⟩, ?_⟩
    rcases h with h | h | ⟨h1, h2, h3⟩
    · exact .inl h
    · exact .inr (.inl h)
    · exact .inr (.inr ⟨h1, h2, by simpa using h3⟩)
  obtain ⟨D, E, u, v, hu, hv, hd1, hd2, hc⟩ := key
  have G1 := Lib.hid hu
  have G2 := Lib.hid hv
  have D1 := Lib.hid hd1
  have D2 := Lib.hid hd2
  clear hu hv hd1 hd2 h
  rcases hc with rfl | ⟨rfl, rfl⟩ | ⟨rfl, rfl, hdd⟩
  all_goals
    go_enter Try.func64, Try.ntmps64
    go_wp2_with fail
    refine region_named (fun W hW => ?_)
    have i2 : Holds W w.heap.size (cF ⟨a, b, c⟩) 28 := by rw [hW]; repeat (first | (refine Holds.new' _ _ _ ?_; simp; done) | refine Holds.alloc ?_ _ | refine Holds.far ?_ (by first | omega | (simp; done) | (simp; omega)))
    have i3 : Holds W (w.heap.size + 1) (cF ⟨x, y, z⟩) 28 := by rw [hW]; repeat (first | (refine Holds.new' _ _ _ ?_; simp; done) | refine Holds.alloc ?_ _ | refine Holds.far ?_ (by first | omega | (simp; done) | (simp; omega)))
    have i4 : Holds W (w.heap.size + 1 + 1) (cM zM) 30 := by rw [hW]; repeat (first | (refine Holds.new' _ _ _ ?_; simp; done) | refine Holds.alloc ?_ _ | refine Holds.far ?_ (by first | omega | (simp; done) | (simp; omega)))
    have hB : Below w.heap.size w W := by rw [hW]; go_grown
    clear hW
    have e20 : ∀ x' : Aft W, x'.w.cell? ⟨w.heap.size, 0, none⟩ = some (.int .i64 a) := fun x' => x'.cell (Holds.lt i2) (Holds.cell i2 rfl)
    have e21 : ∀ x' : Aft W, x'.w.cell? ⟨w.heap.size, 1, none⟩ = some (.int .i64 b) := fun x' => x'.cell (Holds.lt i2) (Holds.cell i2 rfl)
    have e22 : ∀ x' : Aft W, x'.w.cell? ⟨w.heap.size, 2, none⟩ = some (.int .i64 c) := fun x' => x'.cell (Holds.lt i2) (Holds.cell i2 rfl)
    have e30 : ∀ x' : Aft W, x'.w.cell? ⟨(w.heap.size + 1), 0, none⟩ = some (.int .i64 x) := fun x' => x'.cell (Holds.lt i3) (Holds.cell i3 rfl)
    have e31 : ∀ x' : Aft W, x'.w.cell? ⟨(w.heap.size + 1), 1, none⟩ = some (.int .i64 y) := fun x' => x'.cell (Holds.lt i3) (Holds.cell i3 rfl)
    have e32 : ∀ x' : Aft W, x'.w.cell? ⟨(w.heap.size + 1), 2, none⟩ = some (.int .i64 z) := fun x' => x'.cell (Holds.lt i3) (Holds.cell i3 rfl)
    clear i2 i3
    refine region_aft (by kernel_rfl) (by kernel_rfl) ?_
    repeat go_big_quiet_step ((first
      | (go_at_call 94; refine callsAft (spec_cyGood _ _ _ true _ ?_); (first | with_reducible exact G1.out | with_reducible exact G2.out))
      | (go_at_call 94; refine callsAft (spec_cyGood _ _ _ false _ ?_); (first | with_reducible exact G1.out | with_reducible exact G2.out))
      | (go_at_call 60; refine callsAft (spec_foDisc_d _ _ _ D _ ?_); exact D1.out trivial)
      | (go_at_call 60; refine callsAft (spec_foDisc_d _ _ _ E _ ?_); exact D2.out trivial)))
    refine wpQuiet_nil ?_
    intro w1 hb1
    have hB1 : Below w.heap.size w w1 := Below.after hB hb1
    have j4 := i4.below hb1
    clear e20 e21 e22 e30 e31 e32 i4 hb1 hB
    have v0 : w1.cell? ⟨w.heap.size + 1 + 1, 0, none⟩ = some (.int .i64 0) := Holds.cell j4 rfl
    have v1 : w1.cell? ⟨w.heap.size + 1 + 1, 1, none⟩ = some (.int .i64 0) := Holds.cell j4 rfl
    have v2 : w1.cell? ⟨w.heap.size + 1 + 1, 2, none⟩ = some (.int .i64 0) := Holds.cell j4 rfl
    have v3 : w1.cell? ⟨w.heap.size + 1 + 1, 3, none⟩ = some (.int .i64 0) := Holds.cell j4 rfl
    have vf0 : w1.frozen? ⟨w.heap.size + 1 + 1, 0, none⟩ = false := Holds.free j4
    have vf1 : w1.frozen? ⟨w.heap.size + 1 + 1, 1, none⟩ = false := Holds.free j4
    have vf2 : w1.frozen? ⟨w.heap.size + 1 + 1, 2, none⟩ = false := Holds.free j4
    have vf3 : w1.frozen? ⟨w.heap.size + 1 + 1, 3, none⟩ = false := Holds.free j4
    go_wp2_with fail
    refine bodyPost_ret (v := .tuple #[.agg #[.int .i64 0, .int .i64 0, .int .i64 0, .int .i64 0], .bool false]) (by simp [results, Try.results64, go_sem, *] <;> rfl) rfl ⟨rfl, by go_grown⟩
set_option maxRecDepth 100000 in
set_option maxHeartbeats 4000000 in
theorem spec_CycleMatrix (a b c x y z p q r s : Int) (v : Bool) (w : World) (h : CMOut a b c x y z p q r s v) :
    Calls Try.prog 64 #[.agg #[.int .i64 a, .int .i64 b, .int .i64 c], .agg #[.int .i64 x, .int .i64 y, .int .i64 z]] w fun e w' => e = .returned (.tuple #[.agg #[.int .i64 p, .int .i64 q, .int .i64 r, .int .i64 s], .bool v]) ∧ Below w.heap.size w w' := by
  obtain ⟨x1, y1, z1, p1, q1, r1, s1, v1, x2, y2, z2, p2, q2, r2, s2, v2, h1, h2, hc⟩ := h
  by_cases hno : indefB a b c = false ∨ (indefB a b c = true ∧ indefB x y z = false) ∨ (indefB a b c = true ∧ indefB x y z = true ∧ disc a b c ≠ disc x y z)
  · have hz : (⟨p, q, r, s⟩ : Mx) = zM ∧ v = false := by
      rcases hc with ⟨e1, e2, _, _, _, _, _, hd, _⟩ | ⟨_, _, _, _, h3, h4⟩ | ⟨_, h3, h4⟩
      · subst e1 e2
        have g1 : indefB a b c = true := by rcases h1 with ⟨g, _⟩ | ⟨_, _, _, g⟩; exact g; cases g
        have g2 : indefB x y z = true := by rcases h2 with ⟨g, _⟩ | ⟨_, _, _, g⟩; exact g; cases g
        rw [g1, g2] at hno
        rcases hno with h | ⟨_, h⟩ | ⟨_, _, h⟩
        · cases h
        · cases h
        · exact absurd hd h
      · exact ⟨h3, h4⟩
      · exact ⟨h3, h4⟩
    obtain ⟨hz, rfl⟩ := hz
    simp only [zM, Mx.mk.injEq] at hz
    obtain ⟨rfl, rfl, rfl, rfl⟩ := hz
    exact spec_CycleMatrix_no a b c x y z w hno
  · obtain ⟨g1, g2, hdd⟩ : indefB a b c = true ∧ indefB x y z = true ∧ disc a b c = disc x y z := by
      cases e1 : indefB a b c with
      | false => exact absurd (.inl e1) hno
      | true =>
        cases e2 : indefB x y z with
        | false => exact absurd (.inr (.inl ⟨e1, e2⟩)) hno
        | true => exact ⟨rfl, rfl, Classical.byContradiction fun e => hno (.inr (.inr ⟨e1, e2, e⟩))⟩
    clear hno
    obtain ⟨o1, ho1, hv1⟩ : ∃ o, Red ⟨a, b, c⟩ oneM o ∧ redV o = (⟨x1, y1, z1⟩, ⟨p1, q1, r1, s1⟩, v1) := by
      rcases h1 with ⟨_, h⟩ | ⟨h, _⟩
      · exact h
      · rw [g1] at h; cases h
    obtain ⟨o2, ho2, hv2⟩ : ∃ o, Red ⟨x, y, z⟩ oneM o ∧ redV o = (⟨x2, y2, z2⟩, ⟨p2, q2, r2, s2⟩, v2) := by
      rcases h2 with ⟨_, h⟩ | ⟨h, _⟩
      · exact h
      · rw [g2] at h; cases h
    clear h1 h2
    obtain ⟨D, hD⟩ : ∃ D, D = disc a b c := ⟨_, rfl⟩
    have D1 := Lib.hid (And.intro (indefB_good g1) hD.symm)
    have D2 := Lib.hid (And.intro (indefB_good g2) (hdd.symm.trans hD.symm))
    have G1 := Lib.hid g1
    have G2 := Lib.hid g2
    have O1 := Lib.hid ho1
    have O2 := Lib.hid ho2
    have V1 := Lib.hid hv1
    have V2 := Lib.hid hv2
    have Hc := Lib.hid hc
    clear g1 g2 hdd hD ho1 ho2 hv1 hv2 hc
    go_enter Try.func64, Try.ntmps64
    go_wp2_with fail
    refine region_named (fun W hW => ?_)
    have i2 : Holds W w.heap.size (cF ⟨a, b, c⟩) 28 := by rw [hW]; repeat (first | (refine Holds.new' _ _ _ ?_; simp; done) | refine Holds.alloc ?_ _ | refine Holds.far ?_ (by first | omega | (simp; done) | (simp; omega)))
    have i3 : Holds W (w.heap.size + 1) (cF ⟨x, y, z⟩) 28 := by rw [hW]; repeat (first | (refine Holds.new' _ _ _ ?_; simp; done) | refine Holds.alloc ?_ _ | refine Holds.far ?_ (by first | omega | (simp; done) | (simp; omega)))
    have i4 : Holds W (w.heap.size + 1 + 1) (cM zM) 30 := by rw [hW]; repeat (first | (refine Holds.new' _ _ _ ?_; simp; done) | refine Holds.alloc ?_ _ | refine Holds.far ?_ (by first | omega | (simp; done) | (simp; omega)))
    have hB : Below w.heap.size w W := by rw [hW]; go_grown
    clear hW
    have e20 : ∀ x' : Aft W, x'.w.cell? ⟨w.heap.size, 0, none⟩ = some (.int .i64 a) := fun x' => x'.cell (Holds.lt i2) (Holds.cell i2 rfl)
    have e21 : ∀ x' : Aft W, x'.w.cell? ⟨w.heap.size, 1, none⟩ = some (.int .i64 b) := fun x' => x'.cell (Holds.lt i2) (Holds.cell i2 rfl)
    have e22 : ∀ x' : Aft W, x'.w.cell? ⟨w.heap.size, 2, none⟩ = some (.int .i64 c) := fun x' => x'.cell (Holds.lt i2) (Holds.cell i2 rfl)
    have e30 : ∀ x' : Aft W, x'.w.cell? ⟨(w.heap.size + 1), 0, none⟩ = some (.int .i64 x) := fun x' => x'.cell (Holds.lt i3) (Holds.cell i3 rfl)
    have e31 : ∀ x' : Aft W, x'.w.cell? ⟨(w.heap.size + 1), 1, none⟩ = some (.int .i64 y) := fun x' => x'.cell (Holds.lt i3) (Holds.cell i3 rfl)
    have e32 : ∀ x' : Aft W, x'.w.cell? ⟨(w.heap.size + 1), 2, none⟩ = some (.int .i64 z) := fun x' => x'.cell (Holds.lt i3) (Holds.cell i3 rfl)
    refine region_aft (by kernel_rfl) (by kernel_rfl) ?_
    repeat go_big_quiet_step ((first
      | (go_at_call 94; refine callsAft (spec_cyGood _ _ _ true _ ?_); (first | with_reducible exact G1.out | with_reducible exact G2.out))
      | (go_at_call 60; refine callsAft (spec_foDisc_d _ _ _ D _ ?_); (first | exact D1.out | exact D2.out))))
    refine wpQuiet_nil ?_
    intro w1 hb1
    have hB1 : Below w.heap.size w w1 := Below.after hB hb1
    have j2 := i2.below hb1
    have j3 := i3.below hb1
    have j4 := i4.below hb1
    have hz1 := j4.lt
    clear e20 e21 e22 e30 e31 e32 i2 i3 i4 hb1 hB
    have ca0 : w1.cell? ⟨w.heap.size, 0, none⟩ = some (.int .i64 a) := Holds.cell j2 rfl
    have ca1 : w1.cell? ⟨w.heap.size, 1, none⟩ = some (.int .i64 b) := Holds.cell j2 rfl
    have ca2 : w1.cell? ⟨w.heap.size, 2, none⟩ = some (.int .i64 c) := Holds.cell j2 rfl
    have caf0 : w1.frozen? ⟨w.heap.size, 0, none⟩ = false := Holds.free j2
    have caf1 : w1.frozen? ⟨w.heap.size, 1, none⟩ = false := Holds.free j2
    have caf2 : w1.frozen? ⟨w.heap.size, 2, none⟩ = false := Holds.free j2
    go_wp2_with fail
    refine (spec_cyReduce a b c o1 x1 y1 z1 p1 q1 r1 s1 v1 _ G1.out O1.out V1.out).mono ?_
    rintro e w3 ⟨rfl, hb3⟩
    have hB3 : Below w.heap.size w w3 := Below.after (by go_grown) hb3
    clear ca0 ca1 ca2 caf0 caf1 caf2
    have i3 := Holds.below j3 hb3
    have i4 := Holds.below j4 hb3
    have hz3 := i4.lt
    have hz3a := i3.lt
    clear hb3 j2 j3 j4 hB1
    have cc0 : w3.cell? ⟨w.heap.size + 1, 0, none⟩ = some (.int .i64 x) := Holds.cell i3 rfl
    have cc1 : w3.cell? ⟨w.heap.size + 1, 1, none⟩ = some (.int .i64 y) := Holds.cell i3 rfl
    have cc2 : w3.cell? ⟨w.heap.size + 1, 2, none⟩ = some (.int .i64 z) := Holds.cell i3 rfl
    have ccf0 : w3.frozen? ⟨w.heap.size + 1, 0, none⟩ = false := Holds.free i3
    have ccf1 : w3.frozen? ⟨w.heap.size + 1, 1, none⟩ = false := Holds.free i3
    have ccf2 : w3.frozen? ⟨w.heap.size + 1, 2, none⟩ = false := Holds.free i3
    have hz3' : w.heap.size < w3.heap.size := by omega
    go_wp2_with fail
    refine (spec_cyReduce x y z o2 x2 y2 z2 p2 q2 r2 s2 v2 _ G2.out O2.out V2.out).mono ?_
    rintro e w4 ⟨rfl, hb4⟩
    have hB4 : Below w.heap.size w w4 := Below.after (by go_grown) hb4
    clear cc0 cc1 cc2 ccf0 ccf1 ccf2
    have k4 := Holds.below (Holds.alloc (Holds.alloc i4 _) _) hb4
    have k6 : Holds w4 w3.heap.size (cF ⟨x1, y1, z1⟩) 28 := by
      refine Holds.below (W := (w3.alloc (.cells (cF ⟨x1, y1, z1⟩) 28)).alloc (.cells (cM ⟨p1, q1, r1, s1⟩) 30)) ?_ hb4
      exact (Holds.new w3 _ _).alloc _
    have k7 : Holds w4 (w3.heap.size + 1) (cM ⟨p1, q1, r1, s1⟩) 30 := by
      refine Holds.below (W := (w3.alloc (.cells (cF ⟨x1, y1, z1⟩) 28)).alloc (.cells (cM ⟨p1, q1, r1, s1⟩) 30)) ?_ hb4
      repeat (first | (refine Holds.new' _ _ _ ?_; simp; done) | refine Holds.alloc ?_ _ | refine Holds.far ?_ (by first | omega | (simp; done) | (simp; omega)))
    clear hb4 i3 i4 hB3
    have hz4 := k7.lt
    have K := Lib.hid (And.intro k4 (And.intro k6 k7))
    clear k4 k6 k7
    go_wp2_with fail
    refine region_named (fun W hW => ?_)
    have hB5 : Below w.heap.size w W := by rw [hW]; go_grown
    have i4 : Holds W (w.heap.size + 1 + 1) (cM zM) 30 := by rw [hW]; exact (K.out.1.alloc _).alloc _
    have i6 : Holds W w3.heap.size (cF ⟨x1, y1, z1⟩) 28 := by rw [hW]; exact (K.out.2.1.alloc _).alloc _
    have i7 : Holds W (w3.heap.size + 1) (cM ⟨p1, q1, r1, s1⟩) 30 := by rw [hW]; exact (K.out.2.2.alloc _).alloc _
    have i9 : Holds W w4.heap.size (cF ⟨x2, y2, z2⟩) 28 := by rw [hW]; repeat (first | (refine Holds.new' _ _ _ ?_; simp; done) | refine Holds.alloc ?_ _ | refine Holds.far ?_ (by first | omega | (simp; done) | (simp; omega)))
    have i10 : Holds W (w4.heap.size + 1) (cM ⟨p2, q2, r2, s2⟩) 30 := by rw [hW]; repeat (first | (refine Holds.new' _ _ _ ?_; simp; done) | refine Holds.alloc ?_ _ | refine Holds.far ?_ (by first | omega | (simp; done) | (simp; omega)))
    clear hW K hB4
    rcases Hc.out with ⟨rfl, rfl, hcy, hg1, hg2, hd2, hm, _, k, o, hk, ho, hv⟩ | ⟨rfl, rfl, hcy, hm, hz, rfl⟩ | ⟨hb, hz, rfl⟩
    · have Hcy := Lib.hid hcy
      have Hm := Lib.hid hm
      have Hg := Lib.hid (And.intro hg1 (And.intro hg2 hd2))
      have Hk := Lib.hid hk
      have Ho := Lib.hid ho
      have Hv := Lib.hid hv
      clear hcy hm hg1 hg2 hd2 hk ho hv Hc
      replace i4 := i4.drew
      replace i6 := i6.drew
      replace i7 := i7.drew
      replace i9 := i9.drew
      replace i10 := i10.drew
      replace hB5 := hB5.drew
      go_region_held3 (fun w' => w'.cell? ⟨w3.heap.size, 0, none⟩ = some (.int .i64 x1) ∧ w'.cell? ⟨w3.heap.size, 1, none⟩ = some (.int .i64 y1) ∧ w'.cell? ⟨w3.heap.size, 2, none⟩ = some (.int .i64 z1) ∧
        w'.cell? ⟨w4.heap.size, 0, none⟩ = some (.int .i64 x2) ∧ w'.cell? ⟨w4.heap.size, 1, none⟩ = some (.int .i64 y2) ∧ w'.cell? ⟨w4.heap.size, 2, none⟩ = some (.int .i64 z2)) (exact keep2 i6 i9)
        (first
          | (go_at_call 105; refine (spec_cyCycle x1 y1 z1 (disc a b c) _ Hcy.out).mono ?_; rintro e wn ⟨u, rfl, hown, hbn⟩; replace i4 := i4.below hbn; replace i6 := i6.below hbn; replace i7 := i7.below hbn; replace i9 := i9.below hbn; replace i10 := i10.below hbn; replace hB5 := Below.after hB5 hbn; have Hown := Lib.hid hown; clear hbn hown)
          | (go_at_call 104; refine (spec_cyHas (cyc ⟨x1, y1, z1⟩) _ x2 y2 z2 _ true _ (by have := cyc_len Hcy.out; omega) Hown.out Hm.out).mono ?_; rintro e wn ⟨rfl, hbn⟩; replace i4 := i4.below hbn; replace i6 := i6.below hbn; replace i7 := i7.below hbn; replace i9 := i9.below hbn; replace i10 := i10.below hbn; replace hB5 := Below.after hB5 hbn; clear hbn))
      all_goals
        have K := Lib.hid (And.intro i4 (And.intro i6 (And.intro i7 (And.intro i9 i10))))
        clear i4 i6 i7 i9 i10 Hm
        go_wp2_with fail
        go_loopg [] (k + 1) (fun n wr => CMAt w w3.heap.size (w3.heap.size + 1) w4.heap.size (w4.heap.size + 1) (disc a b c) ⟨x2, y2, z2⟩ ⟨p2, q2, r2, s2⟩ o n wr)
        case atStart =>
          obtain ⟨i4, i6, i7, i9, i10⟩ := K.out
          exact ⟨⟨x1, y1, z1⟩, ⟨p1, q1, r1, s1⟩, k, by omega, Hk.out, Hcy.out, Hg.out.1, Ho.out, by first | exact hB5 | go_grown, i4, i6, i7, i9, i10⟩
        case round =>
          obtain ⟨g, m, n, hn, hit, hg, hgm, hl, hB0, h4, h6, h7, h9, h10⟩ := hrel
          clear K hB5 Ho Hk
          obtain ⟨ga, gb, gc⟩ := g
          obtain ⟨mp, mq, mr, ms⟩ := m
          have Hcg := Lib.hid hg
          have Hgm := Lib.hid hgm
          have Hl := Lib.hid hl
          have Hit := Lib.hid hit
          clear hg hgm hl hit
          have hzr := h10.lt
          have hzr4 := h4.lt
          have hzr6 := h6.lt
          have hzr7 := h7.lt
          have hzr9 := h9.lt
          have ya0 : wr.cell? ⟨w3.heap.size, 0, none⟩ = some (.int .i64 ga) := Holds.cell h6 rfl
          have ya1 : wr.cell? ⟨w3.heap.size, 1, none⟩ = some (.int .i64 gb) := Holds.cell h6 rfl
          have ya2 : wr.cell? ⟨w3.heap.size, 2, none⟩ = some (.int .i64 gc) := Holds.cell h6 rfl
          have yaf0 : wr.frozen? ⟨w3.heap.size, 0, none⟩ = false := Holds.free h6
          have yaf1 : wr.frozen? ⟨w3.heap.size, 1, none⟩ = false := Holds.free h6
          have yaf2 : wr.frozen? ⟨w3.heap.size, 2, none⟩ = false := Holds.free h6
          have yb0 : wr.cell? ⟨w4.heap.size, 0, none⟩ = some (.int .i64 x2) := Holds.cell h9 rfl
          have yb1 : wr.cell? ⟨w4.heap.size, 1, none⟩ = some (.int .i64 y2) := Holds.cell h9 rfl
          have yb2 : wr.cell? ⟨w4.heap.size, 2, none⟩ = some (.int .i64 z2) := Holds.cell h9 rfl
          have ybf0 : wr.frozen? ⟨w4.heap.size, 0, none⟩ = false := Holds.free h9
          have ybf1 : wr.frozen? ⟨w4.heap.size, 1, none⟩ = false := Holds.free h9
          have ybf2 : wr.frozen? ⟨w4.heap.size, 2, none⟩ = false := Holds.free h9
          by_cases he : (⟨ga, gb, gc⟩ : Fm) = ⟨x2, y2, z2⟩
          · obtain ⟨e1, e2, e3⟩ := fm_eq he
            have hl := Hl.out
            rw [he] at hl
            have hv := Hv.out
            rw [lead_same hl] at hv
            simp only [finV] at hv
            have Hv' := Lib.hid hv
            have Hgi := Lib.hid (invM_good Hg.out.2.1)
            clear he hl hv Hl Hit
            go_wp2_with fail
            clear ya0 ya1 ya2 yaf0 yaf1 yaf2
            clear yb0 yb1 yb2 ybf0 ybf1 ybf2
            have t0 : ∀ x' : Aft wr, x'.w.cell? ⟨(w3.heap.size + 1), 0, none⟩ = some (.int .i64 mp) := fun x' => x'.cell (Holds.lt h7) (Holds.cell h7 rfl)
            have t1 : ∀ x' : Aft wr, x'.w.cell? ⟨(w3.heap.size + 1), 1, none⟩ = some (.int .i64 mq) := fun x' => x'.cell (Holds.lt h7) (Holds.cell h7 rfl)
            have t2 : ∀ x' : Aft wr, x'.w.cell? ⟨(w3.heap.size + 1), 2, none⟩ = some (.int .i64 mr) := fun x' => x'.cell (Holds.lt h7) (Holds.cell h7 rfl)
            have t3 : ∀ x' : Aft wr, x'.w.cell? ⟨(w3.heap.size + 1), 3, none⟩ = some (.int .i64 ms) := fun x' => x'.cell (Holds.lt h7) (Holds.cell h7 rfl)
            have tt0 : ∀ x' : Aft wr, x'.w.cell? ⟨(w4.heap.size + 1), 0, none⟩ = some (.int .i64 p2) := fun x' => x'.cell (Holds.lt h10) (Holds.cell h10 rfl)
            have tt1 : ∀ x' : Aft wr, x'.w.cell? ⟨(w4.heap.size + 1), 1, none⟩ = some (.int .i64 q2) := fun x' => x'.cell (Holds.lt h10) (Holds.cell h10 rfl)
            have tt2 : ∀ x' : Aft wr, x'.w.cell? ⟨(w4.heap.size + 1), 2, none⟩ = some (.int .i64 r2) := fun x' => x'.cell (Holds.lt h10) (Holds.cell h10 rfl)
            have tt3 : ∀ x' : Aft wr, x'.w.cell? ⟨(w4.heap.size + 1), 3, none⟩ = some (.int .i64 s2) := fun x' => x'.cell (Holds.lt h10) (Holds.cell h10 rfl)
            refine region_aft_tail 4 (by kernel_rfl) (by kernel_rfl) ?_
            simp only [List.take_succ_cons, List.take_zero, List.drop_succ_cons, List.drop_zero]
            repeat go_big_quiet_step ((first
              | (go_at_call 108; exact callsAft (spec_foInverse p2 q2 r2 s2 _ Hg.out.2.1 Hg.out.2.2))
              | (go_at_call 107; exact callsAft (spec_foMul mp mq mr ms s2 (-q2) (-r2) p2 _ Hgm.out Hgi.out))))
            refine wpQuiet_nil ?_
            intro w6 hb6
            have hB6 : Below w.heap.size w w6 := Below.after hB0 hb6
            have j4 := h4.below hb6
            have j7 := h7.below hb6
            have hz6 := j7.lt
            clear t0 t1 t2 t3 tt0 tt1 tt2 tt3 h4 h6 h7 h9 h10 hb6 hB0
            have t0 : w6.cell? ⟨w3.heap.size + 1, 0, none⟩ = some (.int .i64 mp) := Holds.cell j7 rfl
            have t1 : w6.cell? ⟨w3.heap.size + 1, 1, none⟩ = some (.int .i64 mq) := Holds.cell j7 rfl
            have t2 : w6.cell? ⟨w3.heap.size + 1, 2, none⟩ = some (.int .i64 mr) := Holds.cell j7 rfl
            have t3 : w6.cell? ⟨w3.heap.size + 1, 3, none⟩ = some (.int .i64 ms) := Holds.cell j7 rfl
            have tf0 : w6.frozen? ⟨w3.heap.size + 1, 0, none⟩ = false := Holds.free j7
            have tf1 : w6.frozen? ⟨w3.heap.size + 1, 1, none⟩ = false := Holds.free j7
            have tf2 : w6.frozen? ⟨w3.heap.size + 1, 2, none⟩ = false := Holds.free j7
            have tf3 : w6.frozen? ⟨w3.heap.size + 1, 3, none⟩ = false := Holds.free j7
            cases hgd : goodM (mulM ⟨mp, mq, mr, ms⟩ (invM ⟨p2, q2, r2, s2⟩)) with
            | false =>
              have hv := Hv'.out
              rw [if_neg (by rw [hgd]; decide)] at hv
              simp only [zM, Prod.mk.injEq, Mx.mk.injEq] at hv
              obtain ⟨⟨rfl, rfl, rfl, rfl⟩, rfl⟩ := hv
              have Hgd := Lib.hid hgd
              clear hgd Hv Hv'
              go_wp2_with fail
              refine (spec_foMatrix _ _ _ _ false _ Hgd.out).mono ?_
              rintro e w7 ⟨rfl, hb7⟩
              have hB7 : Below w.heap.size w w7 := Below.after (by go_grown) hb7
              have k4 := Holds.below ((((Holds.far j4 (by omega)).far (by omega)).far (by omega)).far (by omega)) hb7
              clear hb7 hB6 j4 j7
              clear t0 t1 t2 t3 tf0 tf1 tf2 tf3
              have v0 : w7.cell? ⟨w.heap.size + 1 + 1, 0, none⟩ = some (.int .i64 0) := Holds.cell k4 rfl
              have v1 : w7.cell? ⟨w.heap.size + 1 + 1, 1, none⟩ = some (.int .i64 0) := Holds.cell k4 rfl
              have v2 : w7.cell? ⟨w.heap.size + 1 + 1, 2, none⟩ = some (.int .i64 0) := Holds.cell k4 rfl
              have v3 : w7.cell? ⟨w.heap.size + 1 + 1, 3, none⟩ = some (.int .i64 0) := Holds.cell k4 rfl
              have vf0 : w7.frozen? ⟨w.heap.size + 1 + 1, 0, none⟩ = false := Holds.free k4
              have vf1 : w7.frozen? ⟨w.heap.size + 1 + 1, 1, none⟩ = false := Holds.free k4
              have vf2 : w7.frozen? ⟨w.heap.size + 1 + 1, 2, none⟩ = false := Holds.free k4
              have vf3 : w7.frozen? ⟨w.heap.size + 1 + 1, 3, none⟩ = false := Holds.free k4
              go_wp2_with fail
              refine bodyPost_ret (v := .tuple #[.agg #[.int .i64 0, .int .i64 0, .int .i64 0, .int .i64 0], .bool false]) (by simp [results, Try.results64, go_sem, *] <;> rfl) rfl ⟨rfl, by go_grown⟩
            | true =>
              have hv := Hv'.out
              rw [if_pos hgd] at hv
              simp only [mulM, invM, Prod.mk.injEq, Mx.mk.injEq] at hv
              obtain ⟨⟨rfl, rfl, rfl, rfl⟩, rfl⟩ := hv
              have Hgd := Lib.hid hgd
              clear hgd Hv Hv'
              go_wp2_with fail
              refine (spec_foMatrix _ _ _ _ true _ Hgd.out).mono ?_
              rintro e w7 ⟨rfl, hb7⟩
              have hB7 : Below w.heap.size w w7 := Below.after (by go_grown) hb7
              have k4 := Holds.below ((((Holds.far j4 (by omega)).far (by omega)).far (by omega)).far (by omega)) hb7
              have k7 := Holds.below (Holds.set4 j7) hb7
              clear hb7 hB6 j4 j7
              clear t0 t1 t2 t3 tf0 tf1 tf2 tf3
              have hz7 := k7.lt
              have hn1 : ¬ w3.heap.size + 1 = w.heap.size + 1 + 1 := by omega
              have hn2 : ¬ w3.heap.size = w.heap.size + 1 := by omega
              have v0 : w7.cell? ⟨w.heap.size + 1 + 1, 0, none⟩ = some (.int .i64 0) := Holds.cell k4 rfl
              have v1 : w7.cell? ⟨w.heap.size + 1 + 1, 1, none⟩ = some (.int .i64 0) := Holds.cell k4 rfl
              have v2 : w7.cell? ⟨w.heap.size + 1 + 1, 2, none⟩ = some (.int .i64 0) := Holds.cell k4 rfl
              have v3 : w7.cell? ⟨w.heap.size + 1 + 1, 3, none⟩ = some (.int .i64 0) := Holds.cell k4 rfl
              have vf0 : w7.frozen? ⟨w.heap.size + 1 + 1, 0, none⟩ = false := Holds.free k4
              have vf1 : w7.frozen? ⟨w.heap.size + 1 + 1, 1, none⟩ = false := Holds.free k4
              have vf2 : w7.frozen? ⟨w.heap.size + 1 + 1, 2, none⟩ = false := Holds.free k4
              have vf3 : w7.frozen? ⟨w.heap.size + 1 + 1, 3, none⟩ = false := Holds.free k4
              have t0 : w7.cell? ⟨w3.heap.size + 1, 0, none⟩ = some (.int .i64 (m1 mp mq mr ms s2 (-q2) (-r2) p2)) := Holds.cell k7 rfl
              have t1 : w7.cell? ⟨w3.heap.size + 1, 1, none⟩ = some (.int .i64 (m2 mp mq mr ms s2 (-q2) (-r2) p2)) := Holds.cell k7 rfl
              have t2 : w7.cell? ⟨w3.heap.size + 1, 2, none⟩ = some (.int .i64 (m3 mp mq mr ms s2 (-q2) (-r2) p2)) := Holds.cell k7 rfl
              have t3 : w7.cell? ⟨w3.heap.size + 1, 3, none⟩ = some (.int .i64 (m4 mp mq mr ms s2 (-q2) (-r2) p2)) := Holds.cell k7 rfl
              have tf0 : w7.frozen? ⟨w3.heap.size + 1, 0, none⟩ = false := Holds.free k7
              have tf1 : w7.frozen? ⟨w3.heap.size + 1, 1, none⟩ = false := Holds.free k7
              have tf2 : w7.frozen? ⟨w3.heap.size + 1, 2, none⟩ = false := Holds.free k7
              have tf3 : w7.frozen? ⟨w3.heap.size + 1, 3, none⟩ = false := Holds.free k7
              go_wp2_with fail
              refine bodyPost_ret (v := .tuple #[.agg #[.int .i64 (m1 mp mq mr ms s2 (-q2) (-r2) p2), .int .i64 (m2 mp mq mr ms s2 (-q2) (-r2) p2), .int .i64 (m3 mp mq mr ms s2 (-q2) (-r2) p2), .int .i64 (m4 mp mq mr ms s2 (-q2) (-r2) p2)], .bool true]) (by simp [results, Try.results64, go_sem, *] <;> rfl) rfl ⟨rfl, by go_grown⟩
          · rcases fm_ne he with e1 | ⟨e1, e2⟩ | ⟨e1, e2, e3⟩
            all_goals
              have He := Lib.hid he
              clear he
              go_wp2_with fail
              refine (spec_cyMove ga gb gc _ Hcg.out.1.1).mono ?_
              rintro e w5 ⟨rfl, hb5⟩
              have hB5 : Below w.heap.size w w5 := Below.after (by go_grown) hb5
              clear ya0 ya1 ya2 yaf0 yaf1 yaf2
              clear yb0 yb1 yb2 ybf0 ybf1 ybf2
              have g4 := Holds.below h4 hb5
              have g6 := Holds.below h6 hb5
              have g7 := Holds.below h7 hb5
              have g9 := Holds.below h9 hb5
              have g10 := Holds.below h10 hb5
              clear hb5 hB0 h4 h6 h7 h9 h10
              have hz5 := g10.lt
              have hz5a := g4.lt
              have hz5b := g9.lt
              have hz5c := g7.lt
              go_wp2_with fail
              refine region_named (fun W hW => ?_)
              have hBW : Below w.heap.size w W := by rw [hW]; go_grown
              have i4 : Holds W (w.heap.size + 1 + 1) (cM zM) 30 := by rw [hW]; exact g4.alloc _
              have i6 : Holds W w3.heap.size (cF ⟨ga, gb, gc⟩) 28 := by rw [hW]; exact g6.alloc _
              have i7 : Holds W (w3.heap.size + 1) (cM ⟨mp, mq, mr, ms⟩) 30 := by rw [hW]; exact g7.alloc _
              have i9 : Holds W w4.heap.size (cF ⟨x2, y2, z2⟩) 28 := by rw [hW]; exact g9.alloc _
              have i10 : Holds W (w4.heap.size + 1) (cM ⟨p2, q2, r2, s2⟩) 30 := by rw [hW]; exact g10.alloc _
              have i12 : Holds W w5.heap.size (cM (stp ⟨ga, gb, gc⟩)) 30 := by rw [hW]; repeat (first | (refine Holds.new' _ _ _ ?_; simp; done) | refine Holds.alloc ?_ _ | refine Holds.far ?_ (by first | omega | (simp; done) | (simp; omega)))
              clear hW g4 g6 g7 g9 g10
              have ya0 := AftX.cell (j := 0) (v := .int .i64 ga) i6 rfl
              have ya1 := AftX.cell (j := 1) (v := .int .i64 gb) i6 rfl
              have ya2 := AftX.cell (j := 2) (v := .int .i64 gc) i6 rfl
              have yf0 := AftX.free (j := 0) i6
              have yf1 := AftX.free (j := 1) i6
              have yf2 := AftX.free (j := 2) i6
              have t0 := AftX.cell (j := 0) (v := .int .i64 mp) i7 rfl
              have t1 := AftX.cell (j := 1) (v := .int .i64 mq) i7 rfl
              have t2 := AftX.cell (j := 2) (v := .int .i64 mr) i7 rfl
              have t3 := AftX.cell (j := 3) (v := .int .i64 ms) i7 rfl
              have tf0 := AftX.free (j := 0) i7
              have tf1 := AftX.free (j := 1) i7
              have tf2 := AftX.free (j := 2) i7
              have tf3 := AftX.free (j := 3) i7
              have tv0 := AftX.cell (j := 0) (v := .int .i64 0) i12 rfl
              have tv1 := AftX.cell (j := 1) (v := .int .i64 (-1)) i12 rfl
              have tv2 := AftX.cell (j := 2) (v := .int .i64 1) i12 rfl
              have tv3 := AftX.cell (j := 3) (v := .int .i64 (nS ga gb gc)) i12 rfl
              have hs6 := i6.lt
              have hs7 := i7.lt
              have hs12 := i12.lt
              have hn1 : ¬ w3.heap.size + 1 = w3.heap.size := by omega
              have hn2 : ¬ w5.heap.size = w3.heap.size := by omega
              refine region_flow2 6 w3.heap.size 28 (cF (nx ⟨ga, gb, gc⟩)) 7 (w3.heap.size + 1) 30 (cM (mulM ⟨mp, mq, mr, ms⟩ (stp ⟨ga, gb, gc⟩))) (by kernel_rfl) (by kernel_rfl) hs6 hs7 (by omega) (by decide) ?_
              refine wpFlow_step (([] : List Nat)) (by kernel_rfl) (by kernel_rfl) (fun K hK => ?_)
              go_simp
              (refine hK _ ?_; clear hK K)
              refine wpFlow_step (([] : List Nat)) (by kernel_rfl) (by kernel_rfl) (fun K hK => ?_)
              go_simp
              (refine hK _ ?_; clear hK K)
              refine wpFlow_step (([] : List Nat)) (by kernel_rfl) (by kernel_rfl) (fun K hK => ?_)
              go_simp
              apply Exists.intro
              refine ⟨fun _ => ?_, hK _ ?_⟩
              · exact spec_foAct_nx ga gb gc _ Hcg.out.1.1
              clear hK K
              refine wpFlow_step ([w3.heap.size]) (by kernel_rfl) (by kernel_rfl) (fun K hK => ?_)
              go_simp
              (refine hK _ ?_; clear hK K)
              refine wpFlow_step ([w3.heap.size]) (by kernel_rfl) (by kernel_rfl) (fun K hK => ?_)
              go_simp
              (refine hK _ ?_; clear hK K)
              refine wpFlow_step (([] : List Nat)) (by kernel_rfl) (by kernel_rfl) (fun K hK => ?_)
              go_simp
              apply Exists.intro
              refine ⟨fun _ => ?_, hK _ ?_⟩
              · exact spec_foMul _ _ _ _ _ _ _ _ _ Hgm.out (nx_mgood Hcg.out.1.1)
              clear hK K
              refine wpFlow_store (([] : List Nat)) (6, w3.heap.size, 28, cF (nx ⟨ga, gb, gc⟩)) (by kernel_rfl) (by kernel_rfl) rfl (fun x => ?_) ?_
              · refine ⟨_, ?_, Holds.set3 (x.holds i6 (by simp <;> omega)), BelowX.run3⟩
                go_simp
                try rfl
              refine wpFlow_store ([w3.heap.size]) (7, w3.heap.size + 1, 30, cM (mulM ⟨mp, mq, mr, ms⟩ (stp ⟨ga, gb, gc⟩))) (by kernel_rfl) (by kernel_rfl) rfl (fun x => ?_) ?_
              · refine ⟨_, ?_, Holds.set4 (x.holds i7 (by simp <;> omega)), BelowX.run4⟩
                go_simp
                try rfl
              refine wpFlow_nil ?_
              intro w6 hb6 j6 j7
              have j4 := i4.belowX hb6 (by simp <;> omega)
              have j9 := i9.belowX hb6 (by simp <;> omega)
              have j10 := i10.belowX hb6 (by simp <;> omega)
              have hB6 : Below w.heap.size w w6 := hb6.below hBW (by omega) (by simp <;> omega)
              clear hb6 hBW i4 i6 i7 i9 i10 i12 ya0 ya1 ya2 yf0 yf1 yf2 t0 t1 t2 t3 tf0 tf1 tf2 tf3 tv0 tv1 tv2 tv3 hs6 hs7 hs12 hn1 hn2
              have t0 : w6.cell? ⟨w3.heap.size + 1, 0, none⟩ = some (.int .i64 (m1 mp mq mr ms 0 (-1) 1 (nS ga gb gc))) := Holds.cell j7 rfl
              have t1 : w6.cell? ⟨w3.heap.size + 1, 1, none⟩ = some (.int .i64 (m2 mp mq mr ms 0 (-1) 1 (nS ga gb gc))) := Holds.cell j7 rfl
              have t2 : w6.cell? ⟨w3.heap.size + 1, 2, none⟩ = some (.int .i64 (m3 mp mq mr ms 0 (-1) 1 (nS ga gb gc))) := Holds.cell j7 rfl
              have t3 : w6.cell? ⟨w3.heap.size + 1, 3, none⟩ = some (.int .i64 (m4 mp mq mr ms 0 (-1) 1 (nS ga gb gc))) := Holds.cell j7 rfl
              have tf0 : w6.frozen? ⟨w3.heap.size + 1, 0, none⟩ = false := Holds.free j7
              have tf1 : w6.frozen? ⟨w3.heap.size + 1, 1, none⟩ = false := Holds.free j7
              have tf2 : w6.frozen? ⟨w3.heap.size + 1, 2, none⟩ = false := Holds.free j7
              have tf3 : w6.frozen? ⟨w3.heap.size + 1, 3, none⟩ = false := Holds.free j7
              rcases lead_more Hl.out He.out with ⟨hgd, hno⟩ | ⟨hgd, hno⟩
              · have hv := Hv.out
                rw [hno] at hv
                simp only [finV, zM, Prod.mk.injEq, Mx.mk.injEq] at hv
                obtain ⟨⟨rfl, rfl, rfl, rfl⟩, rfl⟩ := hv
                have Hgd := Lib.hid hgd
                clear hgd hno
                go_wp2_with fail
                refine (spec_foMatrix _ _ _ _ false _ Hgd.out).mono ?_
                rintro e w7 ⟨rfl, hb7⟩
                have hB7 : Below w.heap.size w w7 := Below.after (by go_grown) hb7
                have k4 := Holds.below j4 hb7
                clear hb7 hB6 j4 j6 j7 j9 j10
                clear t0 t1 t2 t3 tf0 tf1 tf2 tf3
                have v0 : w7.cell? ⟨w.heap.size + 1 + 1, 0, none⟩ = some (.int .i64 0) := Holds.cell k4 rfl
                have v1 : w7.cell? ⟨w.heap.size + 1 + 1, 1, none⟩ = some (.int .i64 0) := Holds.cell k4 rfl
                have v2 : w7.cell? ⟨w.heap.size + 1 + 1, 2, none⟩ = some (.int .i64 0) := Holds.cell k4 rfl
                have v3 : w7.cell? ⟨w.heap.size + 1 + 1, 3, none⟩ = some (.int .i64 0) := Holds.cell k4 rfl
                have vf0 : w7.frozen? ⟨w.heap.size + 1 + 1, 0, none⟩ = false := Holds.free k4
                have vf1 : w7.frozen? ⟨w.heap.size + 1 + 1, 1, none⟩ = false := Holds.free k4
                have vf2 : w7.frozen? ⟨w.heap.size + 1 + 1, 2, none⟩ = false := Holds.free k4
                have vf3 : w7.frozen? ⟨w.heap.size + 1 + 1, 3, none⟩ = false := Holds.free k4
                go_wp2_with fail
                refine bodyPost_ret (v := .tuple #[.agg #[.int .i64 0, .int .i64 0, .int .i64 0, .int .i64 0], .bool false]) (by simp [results, Try.results64, go_sem, *] <;> rfl) rfl ⟨rfl, by go_grown⟩
              · have Hgd := Lib.hid hgd
                have Hno := Lib.hid hno
                obtain ⟨n', rfl⟩ : ∃ n', n = n' + 1 := by
                  cases n with
                  | zero => exact absurd Hit.out He.out
                  | succ n' => exact ⟨n', rfl⟩
                clear hgd hno
                go_wp2_with fail
                refine (spec_foMatrix _ _ _ _ true _ Hgd.out).mono ?_
                rintro e w7 ⟨rfl, hb7⟩
                have hB7 : Below w.heap.size w w7 := Below.after (by go_grown) hb7
                have k4 := Holds.below j4 hb7
                have k6 := Holds.below j6 hb7
                have k7 := Holds.below j7 hb7
                have k9 := Holds.below j9 hb7
                have k10 := Holds.below j10 hb7
                clear hb7 hB6 j4 j6 j7 j9 j10
                clear t0 t1 t2 t3 tf0 tf1 tf2 tf3
                go_wp2_with fail
                go_roundg (n' + 1)
                case measure => omega
                case rel =>
                  exact ⟨nx ⟨ga, gb, gc⟩, mulM ⟨mp, mq, mr, ms⟩ (stp ⟨ga, gb, gc⟩), n', by omega, by rw [← Hit.out, it_add 1 ⟨ga, gb, gc⟩ n']; rfl, cy_nx Hcg.out, Hgd.out, Hno.out, by first | exact hB7 | go_grown, k4, k6, k7, k9, k10⟩
    · simp only [zM, Mx.mk.injEq] at hz
      obtain ⟨rfl, rfl, rfl, rfl⟩ := hz
      have Hcy := Lib.hid hcy
      have Hm := Lib.hid hm
      clear hcy hm Hc
      replace i4 := i4.drew
      replace i6 := i6.drew
      replace i9 := i9.drew
      replace hB5 := hB5.drew
      clear i7 i10
      go_region_held3 (fun w' => w'.cell? ⟨w3.heap.size, 0, none⟩ = some (.int .i64 x1) ∧ w'.cell? ⟨w3.heap.size, 1, none⟩ = some (.int .i64 y1) ∧ w'.cell? ⟨w3.heap.size, 2, none⟩ = some (.int .i64 z1) ∧
        w'.cell? ⟨w4.heap.size, 0, none⟩ = some (.int .i64 x2) ∧ w'.cell? ⟨w4.heap.size, 1, none⟩ = some (.int .i64 y2) ∧ w'.cell? ⟨w4.heap.size, 2, none⟩ = some (.int .i64 z2)) (exact keep2 i6 i9)
        (first
          | (go_at_call 105; refine (spec_cyCycle x1 y1 z1 (disc a b c) _ Hcy.out).mono ?_; rintro e wn ⟨u, rfl, hown, hbn⟩; replace i4 := i4.below hbn; replace i6 := i6.below hbn; replace i9 := i9.below hbn; replace hB5 := Below.after hB5 hbn; have Hown := Lib.hid hown; clear hbn hown)
          | (go_at_call 104; refine (spec_cyHas (cyc ⟨x1, y1, z1⟩) _ x2 y2 z2 _ false _ (by have := cyc_len Hcy.out; omega) Hown.out Hm.out).mono ?_; rintro e wn ⟨rfl, hbn⟩; replace i4 := i4.below hbn; replace i6 := i6.below hbn; replace i9 := i9.below hbn; replace hB5 := Below.after hB5 hbn; clear hbn))
      all_goals
        clear i6 i9 Hcy Hm
        have v0 : wn.cell? ⟨w.heap.size + 1 + 1, 0, none⟩ = some (.int .i64 0) := Holds.cell i4 rfl
        have v1 : wn.cell? ⟨w.heap.size + 1 + 1, 1, none⟩ = some (.int .i64 0) := Holds.cell i4 rfl
        have v2 : wn.cell? ⟨w.heap.size + 1 + 1, 2, none⟩ = some (.int .i64 0) := Holds.cell i4 rfl
        have v3 : wn.cell? ⟨w.heap.size + 1 + 1, 3, none⟩ = some (.int .i64 0) := Holds.cell i4 rfl
        have vf0 : wn.frozen? ⟨w.heap.size + 1 + 1, 0, none⟩ = false := Holds.free i4
        have vf1 : wn.frozen? ⟨w.heap.size + 1 + 1, 1, none⟩ = false := Holds.free i4
        have vf2 : wn.frozen? ⟨w.heap.size + 1 + 1, 2, none⟩ = false := Holds.free i4
        have vf3 : wn.frozen? ⟨w.heap.size + 1 + 1, 3, none⟩ = false := Holds.free i4
        go_wp2_with fail
        refine bodyPost_ret (v := .tuple #[.agg #[.int .i64 0, .int .i64 0, .int .i64 0, .int .i64 0], .bool false]) (by simp [results, Try.results64, go_sem, *] <;> rfl) rfl ⟨rfl, by go_grown⟩
    · simp only [zM, Mx.mk.injEq] at hz
      obtain ⟨rfl, rfl, rfl, rfl⟩ := hz
      have hb' : v1 = false ∨ (v1 = true ∧ v2 = false) := by cases v1 <;> simp_all
      clear hb i6 i7 i9 i10 Hc
      rcases hb' with rfl | ⟨rfl, rfl⟩
      all_goals
        refine region_aft (by kernel_rfl) (by kernel_rfl) ?_
        repeat go_big_quiet_step (fail)
        refine wpQuiet_nil ?_
        intro w5 hb5
        have hB6 : Below w.heap.size w w5 := Below.after hB5 hb5
        have j4 := i4.below hb5
        clear i4 hb5 hB5
        have v0 : w5.cell? ⟨w.heap.size + 1 + 1, 0, none⟩ = some (.int .i64 0) := Holds.cell j4 rfl
        have v1 : w5.cell? ⟨w.heap.size + 1 + 1, 1, none⟩ = some (.int .i64 0) := Holds.cell j4 rfl
        have v2 : w5.cell? ⟨w.heap.size + 1 + 1, 2, none⟩ = some (.int .i64 0) := Holds.cell j4 rfl
        have v3 : w5.cell? ⟨w.heap.size + 1 + 1, 3, none⟩ = some (.int .i64 0) := Holds.cell j4 rfl
        have vf0 : w5.frozen? ⟨w.heap.size + 1 + 1, 0, none⟩ = false := Holds.free j4
        have vf1 : w5.frozen? ⟨w.heap.size + 1 + 1, 1, none⟩ = false := Holds.free j4
        have vf2 : w5.frozen? ⟨w.heap.size + 1 + 1, 2, none⟩ = false := Holds.free j4
        have vf3 : w5.frozen? ⟨w.heap.size + 1 + 1, 3, none⟩ = false := Holds.free j4
        go_wp2_with fail
        refine bodyPost_ret (v := .tuple #[.agg #[.int .i64 0, .int .i64 0, .int .i64 0, .int .i64 0], .bool false]) (by simp [results, Try.results64, go_sem, *] <;> rfl) rfl ⟨rfl, by go_grown⟩
end Go.Proofs.Ytdonpiihjoihcaa
