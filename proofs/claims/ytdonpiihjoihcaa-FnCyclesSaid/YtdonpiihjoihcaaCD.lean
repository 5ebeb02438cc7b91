/- Contracts and the walk of the law: reduction of indefinite forms with its matrix. -/
import Derived.Test.YtdonpiihjoihcaaCC
import Derived.Test.YtdonpiihjoihcaaRF
import Derived.Deep.LoopGhost
namespace Go.Proofs.Ytdonpiihjoihcaa
set_option linter.unusedVariables false
open Go.ChangeShapes Go.WideShapes Go.ChangeAt Go.RowKit

def aF (f : Fm) : Value := .agg #[.int .i64 f.a, .int .i64 f.b, .int .i64 f.c]
def cF (f : Fm) : Array Value := #[.int .i64 f.a, .int .i64 f.b, .int .i64 f.c]
def cM (m : Mx) : Array Value := #[.int .i64 m.p, .int .i64 m.q, .int .i64 m.r, .int .i64 m.s]
def zF : Fm := ⟨0, 0, 0⟩
def zM : Mx := ⟨0, 0, 0, 0⟩
/-- what a reduction hands back -/
def redV : Option (Fm × Mx) → Fm × Mx × Bool
  | none => (zF, zM, false)
  | some (f, m) => (f, m, true)
/-- at the head of the loop -/
def RedAt (w : World) (d : Int) (o : Option (Fm × Mx)) (k : Nat) (wr : World) : Prop :=
  ∃ (f : Fm) (m : Mx), muF f < k ∧ InF d f ∧ goodM m = true ∧ detM m = 1 ∧ Red f m o ∧ Below w.heap.size w wr ∧
    Holds wr w.heap.size (cF f) 28 ∧ Holds wr (w.heap.size + 1) (cF zF) 28 ∧ Holds wr (w.heap.size + 1 + 1) (cM zM) 30 ∧ Holds wr (w.heap.size + 1 + 1 + 1) (cM m) 30
set_option maxHeartbeats 1000000 in
theorem spec_cyReduce (a b c : Int) (o : Option (Fm × Mx)) (x y z p q r s : Int) (v : Bool) (w : World) (h : indefB a b c = true) (ho : Red ⟨a, b, c⟩ oneM o) (hv : redV o = (⟨x, y, z⟩, ⟨p, q, r, s⟩, v)) :
    Calls Try.prog 103 #[.agg #[.int .i64 a, .int .i64 b, .int .i64 c]] w fun e w' => e = .returned (.tuple #[.agg #[.int .i64 x, .int .i64 y, .int .i64 z], .agg #[.int .i64 p, .int .i64 q, .int .i64 r, .int .i64 s], .bool v]) ∧ Below w.heap.size w w' := by
  have H := Lib.hid h
  clear h
  have Ho := Lib.hid ho
  clear ho
  have Hv := Lib.hid hv
  clear hv
  go_enter Try.func103, Try.ntmps103
  go_wp2_with fail
  go_loopg [] (muF ⟨a, b, c⟩ + 1) (fun k wr => RedAt w (disc a b c) o k wr)
  case atStart =>
    refine ⟨⟨a, b, c⟩, oneM, by omega, ⟨H.out, rfl⟩, by decide, detM_one, Ho.out, by go_grown, ?_, ?_, ?_, ?_⟩
    · repeat (first | (refine Holds.new' _ _ _ ?_; simp; done) | refine Holds.alloc ?_ _ | refine Holds.far ?_ (by first | omega | (simp; done) | (simp; omega)))
    · repeat (first | (refine Holds.new' _ _ _ ?_; simp; done) | refine Holds.alloc ?_ _ | refine Holds.far ?_ (by first | omega | (simp; done) | (simp; omega)))
    · repeat (first | (refine Holds.new' _ _ _ ?_; simp; done) | refine Holds.alloc ?_ _ | refine Holds.far ?_ (by first | omega | (simp; done) | (simp; omega)))
    · repeat (first | (refine Holds.new' _ _ _ ?_; simp; done) | refine Holds.alloc ?_ _ | refine Holds.far ?_ (by first | omega | (simp; done) | (simp; omega)))
  case round =>
    obtain ⟨f, m, hk, hf, hgm, hdm, hr, hB0, h1, h2, h3, h5⟩ := hrel
    obtain ⟨fa, fb, fc⟩ := f
    have Hf := Lib.hid hf
    have Hgm := Lib.hid hgm
    have Hr := Lib.hid hr
    have Hdm := Lib.hid hdm
    clear hf hgm hr hdm
    have hz0 := h5.lt
    by_cases hcy : cycB fa fb fc = true
    · have Hc := Lib.hid hcy
      clear hcy
      have y0 : wr.cell? ⟨w.heap.size, 0, none⟩ = some (.int .i64 fa) := Holds.cell h1 rfl
      have y1 : wr.cell? ⟨w.heap.size, 1, none⟩ = some (.int .i64 fb) := Holds.cell h1 rfl
      have y2 : wr.cell? ⟨w.heap.size, 2, none⟩ = some (.int .i64 fc) := Holds.cell h1 rfl
      have yf0 : wr.frozen? ⟨w.heap.size, 0, none⟩ = false := Holds.free h1
      have yf1 : wr.frozen? ⟨w.heap.size, 1, none⟩ = false := Holds.free h1
      have yf2 : wr.frozen? ⟨w.heap.size, 2, none⟩ = false := Holds.free h1
      go_wp2_with fail
      refine (spec_cyIs fa fb fc true _ Hf.out.1 Hc.out).mono ?_
      rintro e w1 ⟨rfl, hb1⟩
      have hB1 : Below w.heap.size w w1 := Below.after (by go_grown) hb1
      clear y0 y1 y2 yf0 yf1 yf2
      have g1 := Holds.below h1 hb1
      have g2 := Holds.below h2 hb1
      have g3 := Holds.below h3 hb1
      have g5 := Holds.below h5 hb1
      obtain rfl : o = some (⟨fa, fb, fc⟩, m) := red_yes Hr.out Hc.out
      have hv := Hv.out
      simp only [redV, Prod.mk.injEq, Fm.mk.injEq] at hv
      obtain ⟨⟨rfl, rfl, rfl⟩, rfl, rfl⟩ := hv
      have hz1 := g5.lt
      have y0 : w1.cell? ⟨w.heap.size, 0, none⟩ = some (.int .i64 fa) := Holds.cell g1 rfl
      have y1 : w1.cell? ⟨w.heap.size, 1, none⟩ = some (.int .i64 fb) := Holds.cell g1 rfl
      have y2 : w1.cell? ⟨w.heap.size, 2, none⟩ = some (.int .i64 fc) := Holds.cell g1 rfl
      have yf0 : w1.frozen? ⟨w.heap.size, 0, none⟩ = false := Holds.free g1
      have yf1 : w1.frozen? ⟨w.heap.size, 1, none⟩ = false := Holds.free g1
      have yf2 : w1.frozen? ⟨w.heap.size, 2, none⟩ = false := Holds.free g1
      have u0 : w1.cell? ⟨w.heap.size + 1, 0, none⟩ = some (.int .i64 0) := Holds.cell g2 rfl
      have u1 : w1.cell? ⟨w.heap.size + 1, 1, none⟩ = some (.int .i64 0) := Holds.cell g2 rfl
      have u2 : w1.cell? ⟨w.heap.size + 1, 2, none⟩ = some (.int .i64 0) := Holds.cell g2 rfl
      have uf0 : w1.frozen? ⟨w.heap.size + 1, 0, none⟩ = false := Holds.free g2
      have uf1 : w1.frozen? ⟨w.heap.size + 1, 1, none⟩ = false := Holds.free g2
      have uf2 : w1.frozen? ⟨w.heap.size + 1, 2, none⟩ = false := Holds.free g2
      have v0 : w1.cell? ⟨w.heap.size + 1 + 1, 0, none⟩ = some (.int .i64 0) := Holds.cell g3 rfl
      have v1 : w1.cell? ⟨w.heap.size + 1 + 1, 1, none⟩ = some (.int .i64 0) := Holds.cell g3 rfl
      have v2 : w1.cell? ⟨w.heap.size + 1 + 1, 2, none⟩ = some (.int .i64 0) := Holds.cell g3 rfl
      have v3 : w1.cell? ⟨w.heap.size + 1 + 1, 3, none⟩ = some (.int .i64 0) := Holds.cell g3 rfl
      have vf0 : w1.frozen? ⟨w.heap.size + 1 + 1, 0, none⟩ = false := Holds.free g3
      have vf1 : w1.frozen? ⟨w.heap.size + 1 + 1, 1, none⟩ = false := Holds.free g3
      have vf2 : w1.frozen? ⟨w.heap.size + 1 + 1, 2, none⟩ = false := Holds.free g3
      have vf3 : w1.frozen? ⟨w.heap.size + 1 + 1, 3, none⟩ = false := Holds.free g3
      have t0 : w1.cell? ⟨w.heap.size + 1 + 1 + 1, 0, none⟩ = some (.int .i64 p) := Holds.cell g5 rfl
      have t1 : w1.cell? ⟨w.heap.size + 1 + 1 + 1, 1, none⟩ = some (.int .i64 q) := Holds.cell g5 rfl
      have t2 : w1.cell? ⟨w.heap.size + 1 + 1 + 1, 2, none⟩ = some (.int .i64 r) := Holds.cell g5 rfl
      have t3 : w1.cell? ⟨w.heap.size + 1 + 1 + 1, 3, none⟩ = some (.int .i64 s) := Holds.cell g5 rfl
      have tf0 : w1.frozen? ⟨w.heap.size + 1 + 1 + 1, 0, none⟩ = false := Holds.free g5
      have tf1 : w1.frozen? ⟨w.heap.size + 1 + 1 + 1, 1, none⟩ = false := Holds.free g5
      have tf2 : w1.frozen? ⟨w.heap.size + 1 + 1 + 1, 2, none⟩ = false := Holds.free g5
      have tf3 : w1.frozen? ⟨w.heap.size + 1 + 1 + 1, 3, none⟩ = false := Holds.free g5
      have hn1 : ¬ w.heap.size + 1 + 1 = w.heap.size := by omega
      have hn2 : ¬ w.heap.size + 1 + 1 + 1 = w.heap.size := by omega
      clear hb1 hB0 h1 h2 h3 h5 g1 g2 g3 g5 hz0 hk Hr
      go_wp2_with fail
      go_region
      all_goals (go_wp2_with fail)
      all_goals
        refine bodyPost_ret (v := .tuple #[.agg #[.int .i64 fa, .int .i64 fb, .int .i64 fc], .agg #[.int .i64 p, .int .i64 q, .int .i64 r, .int .i64 s], .bool true]) (by simp [results, Try.results103, go_sem, *] <;> rfl) rfl ⟨rfl, by go_grown⟩
    · have hcy' : cycB fa fb fc = false := by simpa using hcy
      have Hc := Lib.hid hcy'
      clear hcy hcy'
      have y0 : wr.cell? ⟨w.heap.size, 0, none⟩ = some (.int .i64 fa) := Holds.cell h1 rfl
      have y1 : wr.cell? ⟨w.heap.size, 1, none⟩ = some (.int .i64 fb) := Holds.cell h1 rfl
      have y2 : wr.cell? ⟨w.heap.size, 2, none⟩ = some (.int .i64 fc) := Holds.cell h1 rfl
      have yf0 : wr.frozen? ⟨w.heap.size, 0, none⟩ = false := Holds.free h1
      have yf1 : wr.frozen? ⟨w.heap.size, 1, none⟩ = false := Holds.free h1
      have yf2 : wr.frozen? ⟨w.heap.size, 2, none⟩ = false := Holds.free h1
      go_wp2_with fail
      refine (spec_cyIs fa fb fc false _ Hf.out.1 Hc.out).mono ?_
      rintro e w1 ⟨rfl, hb1⟩
      have hB1 : Below w.heap.size w w1 := Below.after (by go_grown) hb1
      clear y0 y1 y2 yf0 yf1 yf2
      have g1 := Holds.below h1 hb1
      have g2 := Holds.below h2 hb1
      have g3 := Holds.below h3 hb1
      have g5 := Holds.below h5 hb1
      clear hb1 hB0 h1 h2 h3 h5
      have y0 : w1.cell? ⟨w.heap.size, 0, none⟩ = some (.int .i64 fa) := Holds.cell g1 rfl
      have y1 : w1.cell? ⟨w.heap.size, 1, none⟩ = some (.int .i64 fb) := Holds.cell g1 rfl
      have y2 : w1.cell? ⟨w.heap.size, 2, none⟩ = some (.int .i64 fc) := Holds.cell g1 rfl
      have yf0 : w1.frozen? ⟨w.heap.size, 0, none⟩ = false := Holds.free g1
      have yf1 : w1.frozen? ⟨w.heap.size, 1, none⟩ = false := Holds.free g1
      have yf2 : w1.frozen? ⟨w.heap.size, 2, none⟩ = false := Holds.free g1
      go_wp2_with fail
      refine (spec_NextForm_yes fa fb fc _ Hf.out.1).mono ?_
      rintro e w2 ⟨rfl, hb2⟩
      have hB2 : Below w.heap.size w w2 := Below.after (by go_grown) hb2
      clear y0 y1 y2 yf0 yf1 yf2
      have k1 := Holds.below g1 hb2
      have k2 := Holds.below g2 hb2
      have k3 := Holds.below g3 hb2
      have k5 := Holds.below g5 hb2
      clear hb2 hB1 g1 g2 g3 g5 hz0
      have hz2 := k5.lt
      go_wp2_with fail
      refine region_named (fun W hW => ?_)
      have hB3 : Below w.heap.size w W := by rw [hW]; go_grown
      have i1 : Holds W w.heap.size (cF ⟨fa, fb, fc⟩) 28 := by rw [hW]; exact (k1.alloc _).alloc _
      have i2 : Holds W (w.heap.size + 1) (cF zF) 28 := by rw [hW]; exact (k2.alloc _).alloc _
      have i3 : Holds W (w.heap.size + 1 + 1) (cM zM) 30 := by rw [hW]; exact (k3.alloc _).alloc _
      have i5 : Holds W (w.heap.size + 1 + 1 + 1) (cM m) 30 := by rw [hW]; exact (k5.alloc _).alloc _
      have i6 : Holds W w2.heap.size (cF (nx ⟨fa, fb, fc⟩)) 28 := by rw [hW]; repeat (first | (refine Holds.new' _ _ _ ?_; simp; done) | refine Holds.alloc ?_ _ | refine Holds.far ?_ (by first | omega | (simp; done) | (simp; omega)))
      have i7 : Holds W (w2.heap.size + 1) (cM (stp ⟨fa, fb, fc⟩)) 30 := by rw [hW]; repeat (first | (refine Holds.new' _ _ _ ?_; simp; done) | refine Holds.alloc ?_ _ | refine Holds.far ?_ (by first | omega | (simp; done) | (simp; omega)))
      clear hW k1 k2 k3 k5
      obtain ⟨mp, mq, mr, ms⟩ := m
      have y0 := AftX.cell (j := 0) (v := .int .i64 fc) i6 rfl
      have y1 := AftX.cell (j := 1) (v := .int .i64 (nB fa fb fc)) i6 rfl
      have y2 := AftX.cell (j := 2) (v := .int .i64 (nC fa fb fc)) i6 rfl
      have t0 := AftX.cell (j := 0) (v := .int .i64 mp) i5 rfl
      have t1 := AftX.cell (j := 1) (v := .int .i64 mq) i5 rfl
      have t2 := AftX.cell (j := 2) (v := .int .i64 mr) i5 rfl
      have t3 := AftX.cell (j := 3) (v := .int .i64 ms) i5 rfl
      have tf0 := AftX.free (j := 0) i5
      have tf1 := AftX.free (j := 1) i5
      have tf2 := AftX.free (j := 2) i5
      have tf3 := AftX.free (j := 3) i5
      have v0 := AftX.cell (j := 0) (v := .int .i64 0) i7 rfl
      have v1 := AftX.cell (j := 1) (v := .int .i64 (-1)) i7 rfl
      have v2 := AftX.cell (j := 2) (v := .int .i64 1) i7 rfl
      have v3 := AftX.cell (j := 3) (v := .int .i64 (nS fa fb fc)) i7 rfl
      have z0 := AftX.cell (j := 0) (v := .int .i64 fa) i1 rfl
      have z1 := AftX.cell (j := 1) (v := .int .i64 fb) i1 rfl
      have z2 := AftX.cell (j := 2) (v := .int .i64 fc) i1 rfl
      have zf0 := AftX.free (j := 0) i1
      have zf1 := AftX.free (j := 1) i1
      have zf2 := AftX.free (j := 2) i1
      have hs1 := i1.lt
      have hs5 := i5.lt
      have hs6 := i6.lt
      have hs7 := i7.lt
      have hn1 : ¬ w2.heap.size = w.heap.size := by omega
      have hn2 : ¬ w2.heap.size + 1 = w.heap.size := by omega
      have hn3 : ¬ w.heap.size + 1 + 1 + 1 = w.heap.size := by omega
      refine region_flow2 4 w.heap.size 28 (cF (nx ⟨fa, fb, fc⟩)) 5 (w.heap.size + 1 + 1 + 1) 30 (cM (mulM ⟨mp, mq, mr, ms⟩ (stp ⟨fa, fb, fc⟩))) (by kernel_rfl) (by kernel_rfl) hs1 hs5 (by omega) (by decide) ?_
      refine wpFlow_step (([] : List Nat)) (by kernel_rfl) (by kernel_rfl) (fun K hK => ?_)
      go_simp
      (refine hK _ ?_; clear hK K)
      refine wpFlow_step ([w.heap.size]) (by kernel_rfl) (by kernel_rfl) (fun K hK => ?_)
      go_simp
      (refine hK _ ?_; clear hK K)
      refine wpFlow_step ([w.heap.size]) (by kernel_rfl) (by kernel_rfl) (fun K hK => ?_)
      go_simp
      (refine hK _ ?_; clear hK K)
      refine wpFlow_step (([] : List Nat)) (by kernel_rfl) (by kernel_rfl) (fun K hK => ?_)
      go_simp
      apply Exists.intro
      refine ⟨fun _ => ?_, hK _ ?_⟩
      · exact spec_foMul _ _ _ _ _ _ _ _ _ Hgm.out (nx_mgood Hf.out.1)
      clear hK K
      refine wpFlow_store (([] : List Nat)) (4, w.heap.size, 28, cF (nx ⟨fa, fb, fc⟩)) (by kernel_rfl) (by kernel_rfl) rfl (fun x => ?_) ?_
      · refine ⟨_, ?_, Holds.set3 (x.holds i1 (by simp <;> omega)), BelowX.run3⟩
        go_simp
        try rfl
      refine wpFlow_store ([w.heap.size]) (5, w.heap.size + 1 + 1 + 1, 30, cM (mulM ⟨mp, mq, mr, ms⟩ (stp ⟨fa, fb, fc⟩))) (by kernel_rfl) (by kernel_rfl) rfl (fun x => ?_) ?_
      · refine ⟨_, ?_, Holds.set4 (x.holds i5 (by simp <;> omega)), BelowX.run4⟩
        go_simp
        try rfl
      refine wpFlow_nil ?_
      intro w3 hb3 j1 j5
      have j2 := i2.belowX hb3 (by simp <;> omega)
      have j3 := i3.belowX hb3 (by simp <;> omega)
      have hB3' : Below w.heap.size w w3 := hb3.below hB3 (by omega) (by simp <;> omega)
      have hz3 := j5.lt
      clear hb3 hB3 i1 i2 i3 i5 i6 i7 y0 y1 y2 t0 t1 t2 t3 tf0 tf1 tf2 tf3 v0 v1 v2 v3 z0 z1 z2 zf0 zf1 zf2 hs1 hs5 hs6 hs7 hn1 hn2 hn3
      have t0 : w3.cell? ⟨w.heap.size + 1 + 1 + 1, 0, none⟩ = some (.int .i64 (m1 mp mq mr ms 0 (-1) 1 (nS fa fb fc))) := Holds.cell j5 rfl
      have t1 : w3.cell? ⟨w.heap.size + 1 + 1 + 1, 1, none⟩ = some (.int .i64 (m2 mp mq mr ms 0 (-1) 1 (nS fa fb fc))) := Holds.cell j5 rfl
      have t2 : w3.cell? ⟨w.heap.size + 1 + 1 + 1, 2, none⟩ = some (.int .i64 (m3 mp mq mr ms 0 (-1) 1 (nS fa fb fc))) := Holds.cell j5 rfl
      have t3 : w3.cell? ⟨w.heap.size + 1 + 1 + 1, 3, none⟩ = some (.int .i64 (m4 mp mq mr ms 0 (-1) 1 (nS fa fb fc))) := Holds.cell j5 rfl
      have tf0 : w3.frozen? ⟨w.heap.size + 1 + 1 + 1, 0, none⟩ = false := Holds.free j5
      have tf1 : w3.frozen? ⟨w.heap.size + 1 + 1 + 1, 1, none⟩ = false := Holds.free j5
      have tf2 : w3.frozen? ⟨w.heap.size + 1 + 1 + 1, 2, none⟩ = false := Holds.free j5
      have tf3 : w3.frozen? ⟨w.heap.size + 1 + 1 + 1, 3, none⟩ = false := Holds.free j5
      rcases red_no Hr.out Hc.out with ⟨hg, hn⟩ | ⟨hg, hn⟩
      · have Hg := Lib.hid hg
        have hv := Hv.out
        rw [hn] at hv
        simp only [redV, zF, zM, Prod.mk.injEq, Fm.mk.injEq, Mx.mk.injEq] at hv
        obtain ⟨⟨rfl, rfl, rfl⟩, ⟨rfl, rfl, rfl, rfl⟩, rfl⟩ := hv
        clear hg hn
        go_wp2_with fail
        refine (spec_foMatrix _ _ _ _ false _ Hg.out).mono ?_
        rintro e w4 ⟨rfl, hb4⟩
        have hB4 : Below w.heap.size w w4 := Below.after (by go_grown) hb4
        clear t0 t1 t2 t3 tf0 tf1 tf2 tf3
        have k2 := Holds.below j2 hb4
        have k3 := Holds.below j3 hb4
        clear hb4 j1 j2 j3 j5
        have u0 : w4.cell? ⟨w.heap.size + 1, 0, none⟩ = some (.int .i64 0) := Holds.cell k2 rfl
        have u1 : w4.cell? ⟨w.heap.size + 1, 1, none⟩ = some (.int .i64 0) := Holds.cell k2 rfl
        have u2 : w4.cell? ⟨w.heap.size + 1, 2, none⟩ = some (.int .i64 0) := Holds.cell k2 rfl
        have uf0 : w4.frozen? ⟨w.heap.size + 1, 0, none⟩ = false := Holds.free k2
        have uf1 : w4.frozen? ⟨w.heap.size + 1, 1, none⟩ = false := Holds.free k2
        have uf2 : w4.frozen? ⟨w.heap.size + 1, 2, none⟩ = false := Holds.free k2
        have v0 : w4.cell? ⟨w.heap.size + 1 + 1, 0, none⟩ = some (.int .i64 0) := Holds.cell k3 rfl
        have v1 : w4.cell? ⟨w.heap.size + 1 + 1, 1, none⟩ = some (.int .i64 0) := Holds.cell k3 rfl
        have v2 : w4.cell? ⟨w.heap.size + 1 + 1, 2, none⟩ = some (.int .i64 0) := Holds.cell k3 rfl
        have v3 : w4.cell? ⟨w.heap.size + 1 + 1, 3, none⟩ = some (.int .i64 0) := Holds.cell k3 rfl
        have vf0 : w4.frozen? ⟨w.heap.size + 1 + 1, 0, none⟩ = false := Holds.free k3
        have vf1 : w4.frozen? ⟨w.heap.size + 1 + 1, 1, none⟩ = false := Holds.free k3
        have vf2 : w4.frozen? ⟨w.heap.size + 1 + 1, 2, none⟩ = false := Holds.free k3
        have vf3 : w4.frozen? ⟨w.heap.size + 1 + 1, 3, none⟩ = false := Holds.free k3
        go_wp2_with fail
        refine bodyPost_ret (v := .tuple #[.agg #[.int .i64 0, .int .i64 0, .int .i64 0], .agg #[.int .i64 0, .int .i64 0, .int .i64 0, .int .i64 0], .bool false]) (by simp [results, Try.results103, go_sem, *] <;> rfl) rfl ⟨rfl, by go_grown⟩
      · have Hg := Lib.hid hg
        have Hn := Lib.hid hn
        clear hg hn
        go_wp2_with fail
        refine (spec_foMatrix _ _ _ _ true _ Hg.out).mono ?_
        rintro e w4 ⟨rfl, hb4⟩
        have hB4 : Below w.heap.size w w4 := Below.after (by go_grown) hb4
        clear t0 t1 t2 t3 tf0 tf1 tf2 tf3
        have k1 := Holds.below j1 hb4
        have k2 := Holds.below j2 hb4
        have k3 := Holds.below j3 hb4
        have k5 := Holds.below j5 hb4
        clear hb4 j1 j2 j3 j5
        go_wp2_with fail
        go_roundg (muF ⟨fa, fb, fc⟩)
        case measure => exact hk
        case rel => exact ⟨nx ⟨fa, fb, fc⟩, mulM ⟨mp, mq, mr, ms⟩ (stp ⟨fa, fb, fc⟩), mu_less Hf.out.1 Hc.out, inF_nx Hf.out, Hg.out, by rw [detM_mul, Hdm.out, detM_stp]; rfl, Hn.out, hB4, k1, k2, k3, k5⟩
theorem impl_one (w : World) :
    Calls Try.prog 138 #[] w fun e w' => e = .returned (.agg #[.int .i64 1, .int .i64 0, .int .i64 0, .int .i64 1]) ∧ Below w.heap.size w w' := by
  go_enter Try.func138, Try.ntmps138
  go_wp2_with fail
  go_returns
  exact ⟨rfl, by go_grown⟩
/-- at the head of the program's loop: its matrix lies in block B -/
def RedAtI (w : World) (B : Nat) (d : Int) (o : Option (Fm × Mx)) (k : Nat) (wr : World) : Prop :=
  ∃ (f : Fm) (m : Mx), muF f < k ∧ InF d f ∧ goodM m = true ∧ detM m = 1 ∧ Red f m o ∧ Below w.heap.size w wr ∧
    Holds wr w.heap.size (cF f) 28 ∧ Holds wr (w.heap.size + 1) (cF zF) 28 ∧ Holds wr (w.heap.size + 1 + 1) (cM zM) 30 ∧ Holds wr B (cM m) 30
set_option maxHeartbeats 1000000 in
theorem impl_toCycle (a b c : Int) (o : Option (Fm × Mx)) (x y z p q r s : Int) (v : Bool) (w : World) (h : indefB a b c = true) (ho : Red ⟨a, b, c⟩ oneM o) (hv : redV o = (⟨x, y, z⟩, ⟨p, q, r, s⟩, v)) :
    Calls Try.prog 132 #[.agg #[.int .i64 a, .int .i64 b, .int .i64 c]] w fun e w' => e = .returned (.tuple #[.agg #[.int .i64 x, .int .i64 y, .int .i64 z], .agg #[.int .i64 p, .int .i64 q, .int .i64 r, .int .i64 s], .bool v]) ∧ Below w.heap.size w w' := by
  have H := Lib.hid h
  clear h
  have Ho := Lib.hid ho
  clear ho
  have Hv := Lib.hid hv
  clear hv
  go_enter Try.func132, Try.ntmps132
  go_wp2_with fail
  refine (impl_one _).mono ?_
  rintro e w0 ⟨rfl, hb0⟩
  have hB0 : Below w.heap.size w w0 := Below.after (by go_grown) hb0
  have a1 : Holds w0 w.heap.size (cF ⟨a, b, c⟩) 28 := Holds.below (by repeat (first | (refine Holds.new' _ _ _ ?_; simp; done) | refine Holds.alloc ?_ _ | refine Holds.far ?_ (by first | omega | (simp; done) | (simp; omega)))) hb0
  have a2 : Holds w0 (w.heap.size + 1) (cF zF) 28 := Holds.below (by repeat (first | (refine Holds.new' _ _ _ ?_; simp; done) | refine Holds.alloc ?_ _ | refine Holds.far ?_ (by first | omega | (simp; done) | (simp; omega)))) hb0
  have a3 : Holds w0 (w.heap.size + 1 + 1) (cM zM) 30 := Holds.below (by repeat (first | (refine Holds.new' _ _ _ ?_; simp; done) | refine Holds.alloc ?_ _ | refine Holds.far ?_ (by first | omega | (simp; done) | (simp; omega)))) hb0
  have hz0 := a3.lt
  have Ha1 := Lib.hid a1
  have Ha2 := Lib.hid a2
  have Ha3 := Lib.hid a3
  clear hb0 a1 a2 a3
  go_wp2_with fail
  go_loopg [] (muF ⟨a, b, c⟩ + 1) (fun k wr => RedAtI w w0.heap.size (disc a b c) o k wr)
  case atStart =>
    refine ⟨⟨a, b, c⟩, oneM, by omega, ⟨H.out, rfl⟩, by decide, detM_one, Ho.out, by go_grown, Ha1.out.alloc _, Ha2.out.alloc _, Ha3.out.alloc _, ?_⟩
    repeat (first | (refine Holds.new' _ _ _ ?_; simp; done) | refine Holds.alloc ?_ _ | refine Holds.far ?_ (by first | omega | (simp; done) | (simp; omega)))
  case round =>
    obtain ⟨f, m, hk, hf, hgm, hdm, hr, hB0', h1, h2, h3, h5⟩ := hrel
    obtain ⟨fa, fb, fc⟩ := f
    obtain ⟨mp, mq, mr, ms⟩ := m
    have Hf := Lib.hid hf
    have Hgm := Lib.hid hgm
    have Hr := Lib.hid hr
    have Hdm := Lib.hid hdm
    clear hf hgm hr hdm hB0 Ha1 Ha2 Ha3
    have hzr := h5.lt
    by_cases hcy : cycB fa fb fc = true
    · have Hc := Lib.hid hcy
      clear hcy
      have y0 : wr.cell? ⟨w.heap.size, 0, none⟩ = some (.int .i64 fa) := Holds.cell h1 rfl
      have y1 : wr.cell? ⟨w.heap.size, 1, none⟩ = some (.int .i64 fb) := Holds.cell h1 rfl
      have y2 : wr.cell? ⟨w.heap.size, 2, none⟩ = some (.int .i64 fc) := Holds.cell h1 rfl
      have yf0 : wr.frozen? ⟨w.heap.size, 0, none⟩ = false := Holds.free h1
      have yf1 : wr.frozen? ⟨w.heap.size, 1, none⟩ = false := Holds.free h1
      have yf2 : wr.frozen? ⟨w.heap.size, 2, none⟩ = false := Holds.free h1
      go_wp2_with fail
      refine (impl_isCyclic fa fb fc true _ Hf.out.1 Hc.out).mono ?_
      rintro e w1 ⟨rfl, hb1⟩
      have hB1 : Below w.heap.size w w1 := Below.after (by go_grown) hb1
      clear y0 y1 y2 yf0 yf1 yf2
      have g1 := Holds.below h1 hb1
      have g2 := Holds.below h2 hb1
      have g3 := Holds.below h3 hb1
      have g5 := Holds.below h5 hb1
      have hv := Hv.out
      rw [red_yes Hr.out Hc.out] at hv
      simp only [redV, Prod.mk.injEq, Fm.mk.injEq, Mx.mk.injEq] at hv
      obtain ⟨⟨rfl, rfl, rfl⟩, ⟨rfl, rfl, rfl, rfl⟩, rfl⟩ := hv
      have hz1 := g5.lt
      have y0 : w1.cell? ⟨w.heap.size, 0, none⟩ = some (.int .i64 fa) := Holds.cell g1 rfl
      have y1 : w1.cell? ⟨w.heap.size, 1, none⟩ = some (.int .i64 fb) := Holds.cell g1 rfl
      have y2 : w1.cell? ⟨w.heap.size, 2, none⟩ = some (.int .i64 fc) := Holds.cell g1 rfl
      have yf0 : w1.frozen? ⟨w.heap.size, 0, none⟩ = false := Holds.free g1
      have yf1 : w1.frozen? ⟨w.heap.size, 1, none⟩ = false := Holds.free g1
      have yf2 : w1.frozen? ⟨w.heap.size, 2, none⟩ = false := Holds.free g1
      have u0 : w1.cell? ⟨w.heap.size + 1, 0, none⟩ = some (.int .i64 0) := Holds.cell g2 rfl
      have u1 : w1.cell? ⟨w.heap.size + 1, 1, none⟩ = some (.int .i64 0) := Holds.cell g2 rfl
      have u2 : w1.cell? ⟨w.heap.size + 1, 2, none⟩ = some (.int .i64 0) := Holds.cell g2 rfl
      have uf0 : w1.frozen? ⟨w.heap.size + 1, 0, none⟩ = false := Holds.free g2
      have uf1 : w1.frozen? ⟨w.heap.size + 1, 1, none⟩ = false := Holds.free g2
      have uf2 : w1.frozen? ⟨w.heap.size + 1, 2, none⟩ = false := Holds.free g2
      have v0 : w1.cell? ⟨w.heap.size + 1 + 1, 0, none⟩ = some (.int .i64 0) := Holds.cell g3 rfl
      have v1 : w1.cell? ⟨w.heap.size + 1 + 1, 1, none⟩ = some (.int .i64 0) := Holds.cell g3 rfl
      have v2 : w1.cell? ⟨w.heap.size + 1 + 1, 2, none⟩ = some (.int .i64 0) := Holds.cell g3 rfl
      have v3 : w1.cell? ⟨w.heap.size + 1 + 1, 3, none⟩ = some (.int .i64 0) := Holds.cell g3 rfl
      have vf0 : w1.frozen? ⟨w.heap.size + 1 + 1, 0, none⟩ = false := Holds.free g3
      have vf1 : w1.frozen? ⟨w.heap.size + 1 + 1, 1, none⟩ = false := Holds.free g3
      have vf2 : w1.frozen? ⟨w.heap.size + 1 + 1, 2, none⟩ = false := Holds.free g3
      have vf3 : w1.frozen? ⟨w.heap.size + 1 + 1, 3, none⟩ = false := Holds.free g3
      have t0 : w1.cell? ⟨w0.heap.size, 0, none⟩ = some (.int .i64 mp) := Holds.cell g5 rfl
      have t1 : w1.cell? ⟨w0.heap.size, 1, none⟩ = some (.int .i64 mq) := Holds.cell g5 rfl
      have t2 : w1.cell? ⟨w0.heap.size, 2, none⟩ = some (.int .i64 mr) := Holds.cell g5 rfl
      have t3 : w1.cell? ⟨w0.heap.size, 3, none⟩ = some (.int .i64 ms) := Holds.cell g5 rfl
      have tf0 : w1.frozen? ⟨w0.heap.size, 0, none⟩ = false := Holds.free g5
      have tf1 : w1.frozen? ⟨w0.heap.size, 1, none⟩ = false := Holds.free g5
      have tf2 : w1.frozen? ⟨w0.heap.size, 2, none⟩ = false := Holds.free g5
      have tf3 : w1.frozen? ⟨w0.heap.size, 3, none⟩ = false := Holds.free g5
      have hn1 : ¬ w.heap.size + 1 = w0.heap.size := by omega
      have hn2 : ¬ w.heap.size + 1 + 1 = w0.heap.size := by omega
      have hn3 : ¬ w.heap.size + 1 + 1 = w.heap.size := by omega
      clear hb1 hB0' h1 h2 h3 h5 g1 g2 g3 g5 hk Hr
      go_wp2_with fail
      go_region
      all_goals (go_wp2_with fail)
      all_goals
        refine bodyPost_ret (v := .tuple #[.agg #[.int .i64 fa, .int .i64 fb, .int .i64 fc], .agg #[.int .i64 mp, .int .i64 mq, .int .i64 mr, .int .i64 ms], .bool true]) (by simp [results, Try.results132, go_sem, *] <;> rfl) rfl ⟨rfl, by go_grown⟩
    · have hcy' : cycB fa fb fc = false := by simpa using hcy
      have Hc := Lib.hid hcy'
      clear hcy hcy'
      have y0 : wr.cell? ⟨w.heap.size, 0, none⟩ = some (.int .i64 fa) := Holds.cell h1 rfl
      have y1 : wr.cell? ⟨w.heap.size, 1, none⟩ = some (.int .i64 fb) := Holds.cell h1 rfl
      have y2 : wr.cell? ⟨w.heap.size, 2, none⟩ = some (.int .i64 fc) := Holds.cell h1 rfl
      have yf0 : wr.frozen? ⟨w.heap.size, 0, none⟩ = false := Holds.free h1
      have yf1 : wr.frozen? ⟨w.heap.size, 1, none⟩ = false := Holds.free h1
      have yf2 : wr.frozen? ⟨w.heap.size, 2, none⟩ = false := Holds.free h1
      go_wp2_with fail
      refine (impl_isCyclic fa fb fc false _ Hf.out.1 Hc.out).mono ?_
      rintro e w1 ⟨rfl, hb1⟩
      have hB1 : Below w.heap.size w w1 := Below.after (by go_grown) hb1
      clear y0 y1 y2 yf0 yf1 yf2
      have g1 := Holds.below h1 hb1
      have g2 := Holds.below h2 hb1
      have g3 := Holds.below h3 hb1
      have g5 := Holds.below h5 hb1
      clear hb1 hB0' h1 h2 h3 h5
      have y0 : w1.cell? ⟨w.heap.size, 0, none⟩ = some (.int .i64 fa) := Holds.cell g1 rfl
      have y1 : w1.cell? ⟨w.heap.size, 1, none⟩ = some (.int .i64 fb) := Holds.cell g1 rfl
      have y2 : w1.cell? ⟨w.heap.size, 2, none⟩ = some (.int .i64 fc) := Holds.cell g1 rfl
      have yf0 : w1.frozen? ⟨w.heap.size, 0, none⟩ = false := Holds.free g1
      have yf1 : w1.frozen? ⟨w.heap.size, 1, none⟩ = false := Holds.free g1
      have yf2 : w1.frozen? ⟨w.heap.size, 2, none⟩ = false := Holds.free g1
      go_wp2_with fail
      refine (impl_NextForm_yes fa fb fc _ Hf.out.1).mono ?_
      rintro e w2 ⟨rfl, hb2⟩
      have hB2 : Below w.heap.size w w2 := Below.after (by go_grown) hb2
      clear y0 y1 y2 yf0 yf1 yf2
      have k1 := Holds.below g1 hb2
      have k2 := Holds.below g2 hb2
      have k3 := Holds.below g3 hb2
      have k5 := Holds.below g5 hb2
      clear hb2 hB1 g1 g2 g3 g5
      have hz2 := k5.lt
      have t0 : w2.cell? ⟨w0.heap.size, 0, none⟩ = some (.int .i64 mp) := Holds.cell k5 rfl
      have t1 : w2.cell? ⟨w0.heap.size, 1, none⟩ = some (.int .i64 mq) := Holds.cell k5 rfl
      have t2 : w2.cell? ⟨w0.heap.size, 2, none⟩ = some (.int .i64 mr) := Holds.cell k5 rfl
      have t3 : w2.cell? ⟨w0.heap.size, 3, none⟩ = some (.int .i64 ms) := Holds.cell k5 rfl
      have tf0 : w2.frozen? ⟨w0.heap.size, 0, none⟩ = false := Holds.free k5
      have tf1 : w2.frozen? ⟨w0.heap.size, 1, none⟩ = false := Holds.free k5
      have tf2 : w2.frozen? ⟨w0.heap.size, 2, none⟩ = false := Holds.free k5
      have tf3 : w2.frozen? ⟨w0.heap.size, 3, none⟩ = false := Holds.free k5
      go_wp2_with fail
      refine (impl_times mp mq mr ms 0 (-1) 1 (nS fa fb fc) _ Hgm.out (nx_mgood Hf.out.1)).mono ?_
      rintro e w3 ⟨rfl, hb3⟩
      have hB3 : Below w.heap.size w w3 := Below.after (by go_grown) hb3
      clear t0 t1 t2 t3 tf0 tf1 tf2 tf3
      have i1 := Holds.below (Holds.alloc (Holds.alloc k1 _) _) hb3
      have i2 := Holds.below (Holds.alloc (Holds.alloc k2 _) _) hb3
      have i3 := Holds.below (Holds.alloc (Holds.alloc k3 _) _) hb3
      have i5 := Holds.below (Holds.alloc (Holds.alloc k5 _) _) hb3
      have i6 : Holds w3 w2.heap.size (cF (nx ⟨fa, fb, fc⟩)) 28 := by
        refine Holds.below (W := (w2.alloc (.cells (cF (nx ⟨fa, fb, fc⟩)) 28)).alloc (.cells (cM (stp ⟨fa, fb, fc⟩)) 30)) ?_ hb3
        exact (Holds.new w2 _ _).alloc _
      clear hb3 hB2 k1 k2 k3 k5
      have hz3 := i6.lt
      rcases red_no Hr.out Hc.out with ⟨hg, hn⟩ | ⟨hg, hn⟩
      · have Hg := Lib.hid hg
        have hv := Hv.out
        rw [hn] at hv
        simp only [redV, zF, zM, Prod.mk.injEq, Fm.mk.injEq, Mx.mk.injEq] at hv
        obtain ⟨⟨rfl, rfl, rfl⟩, ⟨rfl, rfl, rfl, rfl⟩, rfl⟩ := hv
        clear hg hn
        go_wp2_with fail
        refine (impl_checked_no _ _ _ _ _ Hg.out).mono ?_
        rintro e w4 ⟨rfl, hb4⟩
        have hB4 : Below w.heap.size w w4 := Below.after (by go_grown) hb4
        have k2 := Holds.below i2 hb4
        have k3 := Holds.below i3 hb4
        have k5 := Holds.below i5 hb4
        clear hb4 hB3 i1 i2 i3 i5 i6
        have u0 : w4.cell? ⟨w.heap.size + 1, 0, none⟩ = some (.int .i64 0) := Holds.cell k2 rfl
        have u1 : w4.cell? ⟨w.heap.size + 1, 1, none⟩ = some (.int .i64 0) := Holds.cell k2 rfl
        have u2 : w4.cell? ⟨w.heap.size + 1, 2, none⟩ = some (.int .i64 0) := Holds.cell k2 rfl
        have uf0 : w4.frozen? ⟨w.heap.size + 1, 0, none⟩ = false := Holds.free k2
        have uf1 : w4.frozen? ⟨w.heap.size + 1, 1, none⟩ = false := Holds.free k2
        have uf2 : w4.frozen? ⟨w.heap.size + 1, 2, none⟩ = false := Holds.free k2
        have v0 : w4.cell? ⟨w.heap.size + 1 + 1, 0, none⟩ = some (.int .i64 0) := Holds.cell k3 rfl
        have v1 : w4.cell? ⟨w.heap.size + 1 + 1, 1, none⟩ = some (.int .i64 0) := Holds.cell k3 rfl
        have v2 : w4.cell? ⟨w.heap.size + 1 + 1, 2, none⟩ = some (.int .i64 0) := Holds.cell k3 rfl
        have v3 : w4.cell? ⟨w.heap.size + 1 + 1, 3, none⟩ = some (.int .i64 0) := Holds.cell k3 rfl
        have vf0 : w4.frozen? ⟨w.heap.size + 1 + 1, 0, none⟩ = false := Holds.free k3
        have vf1 : w4.frozen? ⟨w.heap.size + 1 + 1, 1, none⟩ = false := Holds.free k3
        have vf2 : w4.frozen? ⟨w.heap.size + 1 + 1, 2, none⟩ = false := Holds.free k3
        have vf3 : w4.frozen? ⟨w.heap.size + 1 + 1, 3, none⟩ = false := Holds.free k3
        have t0 : w4.cell? ⟨w0.heap.size, 0, none⟩ = some (.int .i64 mp) := Holds.cell k5 rfl
        have t1 : w4.cell? ⟨w0.heap.size, 1, none⟩ = some (.int .i64 mq) := Holds.cell k5 rfl
        have t2 : w4.cell? ⟨w0.heap.size, 2, none⟩ = some (.int .i64 mr) := Holds.cell k5 rfl
        have t3 : w4.cell? ⟨w0.heap.size, 3, none⟩ = some (.int .i64 ms) := Holds.cell k5 rfl
        have tf0 : w4.frozen? ⟨w0.heap.size, 0, none⟩ = false := Holds.free k5
        have tf1 : w4.frozen? ⟨w0.heap.size, 1, none⟩ = false := Holds.free k5
        have tf2 : w4.frozen? ⟨w0.heap.size, 2, none⟩ = false := Holds.free k5
        have tf3 : w4.frozen? ⟨w0.heap.size, 3, none⟩ = false := Holds.free k5
        have hn1 : ¬ w0.heap.size = w.heap.size + 1 := by omega
        have hn2 : ¬ w0.heap.size = w.heap.size + 1 + 1 := by omega
        go_wp2_with fail
        refine bodyPost_ret (v := .tuple #[.agg #[.int .i64 0, .int .i64 0, .int .i64 0], .agg #[.int .i64 0, .int .i64 0, .int .i64 0, .int .i64 0], .bool false]) (by simp [results, Try.results132, go_sem, *] <;> rfl) rfl ⟨rfl, by go_grown⟩
      · have Hg := Lib.hid hg
        have Hn := Lib.hid hn
        clear hg hn
        go_wp2_with fail
        refine (impl_checked_yes _ _ _ _ _ Hg.out).mono ?_
        rintro e w4 ⟨rfl, hb4⟩
        have hB4 : Below w.heap.size w w4 := Below.after (by go_grown) hb4
        have k1 := Holds.below i1 hb4
        have k2 := Holds.below i2 hb4
        have k3 := Holds.below i3 hb4
        have k5 := Holds.below i5 hb4
        have k6 := Holds.below i6 hb4
        clear hb4 hB3 i1 i2 i3 i5 i6
        have y0 : w4.cell? ⟨w.heap.size, 0, none⟩ = some (.int .i64 fa) := Holds.cell k1 rfl
        have y1 : w4.cell? ⟨w.heap.size, 1, none⟩ = some (.int .i64 fb) := Holds.cell k1 rfl
        have y2 : w4.cell? ⟨w.heap.size, 2, none⟩ = some (.int .i64 fc) := Holds.cell k1 rfl
        have yf0 : w4.frozen? ⟨w.heap.size, 0, none⟩ = false := Holds.free k1
        have yf1 : w4.frozen? ⟨w.heap.size, 1, none⟩ = false := Holds.free k1
        have yf2 : w4.frozen? ⟨w.heap.size, 2, none⟩ = false := Holds.free k1
        have t0 : w4.cell? ⟨w0.heap.size, 0, none⟩ = some (.int .i64 mp) := Holds.cell k5 rfl
        have t1 : w4.cell? ⟨w0.heap.size, 1, none⟩ = some (.int .i64 mq) := Holds.cell k5 rfl
        have t2 : w4.cell? ⟨w0.heap.size, 2, none⟩ = some (.int .i64 mr) := Holds.cell k5 rfl
        have t3 : w4.cell? ⟨w0.heap.size, 3, none⟩ = some (.int .i64 ms) := Holds.cell k5 rfl
        have tf0 : w4.frozen? ⟨w0.heap.size, 0, none⟩ = false := Holds.free k5
        have tf1 : w4.frozen? ⟨w0.heap.size, 1, none⟩ = false := Holds.free k5
        have tf2 : w4.frozen? ⟨w0.heap.size, 2, none⟩ = false := Holds.free k5
        have tf3 : w4.frozen? ⟨w0.heap.size, 3, none⟩ = false := Holds.free k5
        have u0 : w4.cell? ⟨w2.heap.size, 0, none⟩ = some (.int .i64 fc) := Holds.cell k6 rfl
        have u1 : w4.cell? ⟨w2.heap.size, 1, none⟩ = some (.int .i64 (nB fa fb fc)) := Holds.cell k6 rfl
        have u2 : w4.cell? ⟨w2.heap.size, 2, none⟩ = some (.int .i64 (nC fa fb fc)) := Holds.cell k6 rfl
        have uf0 : w4.frozen? ⟨w2.heap.size, 0, none⟩ = false := Holds.free k6
        have uf1 : w4.frozen? ⟨w2.heap.size, 1, none⟩ = false := Holds.free k6
        have uf2 : w4.frozen? ⟨w2.heap.size, 2, none⟩ = false := Holds.free k6
        have hn1 : ¬ w0.heap.size = w2.heap.size := by omega
        have hn2 : ¬ w0.heap.size = w.heap.size := by omega
        go_wp2_with fail
        go_roundg (muF ⟨fa, fb, fc⟩)
        case measure => exact hk
        case rel =>
          refine ⟨nx ⟨fa, fb, fc⟩, mulM ⟨mp, mq, mr, ms⟩ (stp ⟨fa, fb, fc⟩), mu_less Hf.out.1 Hc.out, inF_nx Hf.out, Hg.out, by rw [detM_mul, Hdm.out, detM_stp]; rfl, Hn.out, by go_grown, ?_, ?_, ?_, ?_⟩
          · exact Holds.set3 ((((k1.far (by omega)).far (by omega)).far (by omega)).far (by omega))
          · exact (((((((k2.far (by omega)).far (by omega)).far (by omega)).far (by omega)).far (by omega)).far (by omega)).far (by omega))
          · exact (((((((k3.far (by omega)).far (by omega)).far (by omega)).far (by omega)).far (by omega)).far (by omega)).far (by omega))
          · exact (((Holds.set4 k5).far (by omega)).far (by omega)).far (by omega)
end Go.Proofs.Ytdonpiihjoihcaa
