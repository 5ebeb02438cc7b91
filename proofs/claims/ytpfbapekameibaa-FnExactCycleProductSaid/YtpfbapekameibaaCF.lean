/- Contracts and the walk of the law: the product round a cycle. -/
import Derived.Test.YtpfbapekameibaaCE
namespace Go.Proofs.Ytpfbapekameibaa
set_option linter.unusedVariables false
open Go.ChangeShapes Go.WideShapes Go.ChangeAt Go.RowKit

def rndV : Option Mx → Mx × Bool
  | none => (zM, false)
  | some m => (m, true)
/-- at the head of the loop: the product lies in block B, the form in block C -/
def RndAt (w : World) (B : Nat) (d : Int) (f : Fm) (o : Option Mx) (k : Nat) (s5 : Value) (wr : World) : Prop :=
  ∃ (g : Fm) (m : Mx) (C n : Nat), s5 = .pointer (some ⟨C, 0, none⟩) ∧ n < k ∧ it (n + 1) g = f ∧ Cy d g ∧ goodM m = true ∧ Round f g m o ∧ Below w.heap.size w wr ∧ w.heap.size + 1 < B ∧ w.heap.size + 1 < C ∧ B ≠ C ∧
    Holds wr w.heap.size (cF f) 26 ∧ Holds wr (w.heap.size + 1) (cM zM) 30 ∧ Holds wr B (cM m) 30 ∧ Holds wr C (cF g) 26
/-- two forms, field by field -/
theorem fm_eq {x y z a b c : Int} (h : (⟨x, y, z⟩ : Fm) = ⟨a, b, c⟩) : (x == a) = true ∧ (y == b) = true ∧ (z == c) = true := by
  simp only [Fm.mk.injEq] at h
  obtain ⟨rfl, rfl, rfl⟩ := h
  simp
theorem fm_ne {x y z a b c : Int} (h : (⟨x, y, z⟩ : Fm) ≠ ⟨a, b, c⟩) : (x == a) = false ∨ ((x == a) = true ∧ (y == b) = false) ∨ ((x == a) = true ∧ (y == b) = true ∧ (z == c) = false) := by
  by_cases h1 : x = a
  · by_cases h2 : y = b
    · by_cases h3 : z = c
      · subst h1 h2 h3; exact absurd rfl h
      · right; right; simp [h1, h2, h3]
    · right; left; simp [h1, h2]
  · left; simp [h1]
set_option maxHeartbeats 1000000 in
set_option maxRecDepth 100000 in
theorem spec_CycleProduct_yes (a b c : Int) (o : Option Mx) (p q r s : Int) (v : Bool) (w : World) (h : indefB a b c = true) (hc : cycB a b c = true) (ho : Round ⟨a, b, c⟩ ⟨a, b, c⟩ oneM o) (hv : rndV o = (⟨p, q, r, s⟩, v)) (np : Nat) (hp : it (np + 1) ⟨a, b, c⟩ = ⟨a, b, c⟩) :
    Calls Try.prog 22 #[.agg #[.int .i64 a, .int .i64 b, .int .i64 c]] w fun e w' => e = .returned (.tuple #[.agg #[.int .i64 p, .int .i64 q, .int .i64 r, .int .i64 s], .bool v]) ∧ Below w.heap.size w w' := by
  have H := Lib.hid h
  clear h
  have Hc := Lib.hid hc
  clear hc
  have Ho := Lib.hid ho
  clear ho
  have Hv := Lib.hid hv
  clear hv
  have Hp := Lib.hid hp
  clear hp
  go_enter Try.func22, Try.ntmps22
  go_wp2_with fail
  refine (spec_cyGood a b c true _ H.out).mono ?_
  rintro e w0 ⟨rfl, hb0⟩
  have hB0 : Below w.heap.size w w0 := Below.after (by go_grown) hb0
  have a1 : Holds w0 w.heap.size (cF ⟨a, b, c⟩) 26 := Holds.below (by repeat (first | (refine Holds.new' _ _ _ ?_; simp; done) | refine Holds.alloc ?_ _ | refine Holds.far ?_ (by first | omega | (simp; done) | (simp; omega)))) hb0
  have a2 : Holds w0 (w.heap.size + 1) (cM zM) 30 := Holds.below (by repeat (first | (refine Holds.new' _ _ _ ?_; simp; done) | refine Holds.alloc ?_ _ | refine Holds.far ?_ (by first | omega | (simp; done) | (simp; omega)))) hb0
  clear hb0
  have y0 : w0.cell? ⟨w.heap.size, 0, none⟩ = some (.int .i64 a) := Holds.cell a1 rfl
  have y1 : w0.cell? ⟨w.heap.size, 1, none⟩ = some (.int .i64 b) := Holds.cell a1 rfl
  have y2 : w0.cell? ⟨w.heap.size, 2, none⟩ = some (.int .i64 c) := Holds.cell a1 rfl
  have yf0 : w0.frozen? ⟨w.heap.size, 0, none⟩ = false := Holds.free a1
  have yf1 : w0.frozen? ⟨w.heap.size, 1, none⟩ = false := Holds.free a1
  have yf2 : w0.frozen? ⟨w.heap.size, 2, none⟩ = false := Holds.free a1
  go_wp2_with fail
  refine (spec_cyIs a b c true _ H.out Hc.out).mono ?_
  rintro e w1 ⟨rfl, hb1⟩
  have hB1 : Below w.heap.size w w1 := Below.after (by go_grown) hb1
  clear y0 y1 y2 yf0 yf1 yf2
  have b1 := Holds.below a1 hb1
  have b2 := Holds.below a2 hb1
  have hz1 := b2.lt
  have hz0 := b1.lt
  clear hb1 hB0 a1 a2
  have y0 : w1.cell? ⟨w.heap.size, 0, none⟩ = some (.int .i64 a) := Holds.cell b1 rfl
  have y1 : w1.cell? ⟨w.heap.size, 1, none⟩ = some (.int .i64 b) := Holds.cell b1 rfl
  have y2 : w1.cell? ⟨w.heap.size, 2, none⟩ = some (.int .i64 c) := Holds.cell b1 rfl
  have yf0 : w1.frozen? ⟨w.heap.size, 0, none⟩ = false := Holds.free b1
  have yf1 : w1.frozen? ⟨w.heap.size, 1, none⟩ = false := Holds.free b1
  have yf2 : w1.frozen? ⟨w.heap.size, 2, none⟩ = false := Holds.free b1
  have Hb1 := Lib.hid b1
  have Hb2 := Lib.hid b2
  clear b1 b2
  go_wp2_with fail
  go_loopg [5] (np + 1) (fun k s5 wr => RndAt w w1.heap.size (disc a b c) ⟨a, b, c⟩ o k s5 wr)
  case atStart =>
    refine ⟨⟨a, b, c⟩, oneM, _, np, rfl, by omega, Hp.out, ⟨⟨H.out, rfl⟩, Hc.out⟩, by decide, Ho.out, by go_grown, by omega, by simp; omega, by simp, (Hb1.out.alloc _).alloc _, (Hb2.out.alloc _).alloc _, ?_, ?_⟩
    · repeat (first | (refine Holds.new' _ _ _ ?_; simp; done) | refine Holds.alloc ?_ _ | refine Holds.far ?_ (by first | omega | (simp; done) | (simp; omega)))
    · repeat (first | (refine Holds.new' _ _ _ ?_; simp; done) | refine Holds.alloc ?_ _ | refine Holds.far ?_ (by first | omega | (simp; done) | (simp; omega)))
  case round =>
    obtain ⟨g, m, C, n, rfl, hk, hit, hg, hgm, hr, hB0, hBC1, hBC2, hBC, h1, h2, h4, h5⟩ := hrel
    clear y0 y1 y2 yf0 yf1 yf2 Hb1 Hb2 hB1
    obtain ⟨ga, gb, gc⟩ := g
    obtain ⟨mp, mq, mr, ms⟩ := m
    have Hg := Lib.hid hg
    have Hgm := Lib.hid hgm
    have Hr := Lib.hid hr
    have Hit := Lib.hid hit
    clear hg hgm hr hit
    have hzB := h4.lt
    have hzC := h5.lt
    have y0 : wr.cell? ⟨C, 0, none⟩ = some (.int .i64 ga) := Holds.cell h5 rfl
    have y1 : wr.cell? ⟨C, 1, none⟩ = some (.int .i64 gb) := Holds.cell h5 rfl
    have y2 : wr.cell? ⟨C, 2, none⟩ = some (.int .i64 gc) := Holds.cell h5 rfl
    have yf0 : wr.frozen? ⟨C, 0, none⟩ = false := Holds.free h5
    have yf1 : wr.frozen? ⟨C, 1, none⟩ = false := Holds.free h5
    have yf2 : wr.frozen? ⟨C, 2, none⟩ = false := Holds.free h5
    go_wp2_with fail
    refine (spec_cyMove ga gb gc _ Hg.out.1.1).mono ?_
    rintro e w2 ⟨rfl, hb2⟩
    have hB2 : Below w.heap.size w w2 := Below.after (by go_grown) hb2
    clear y0 y1 y2 yf0 yf1 yf2
    have g1 := Holds.below h1 hb2
    have g2 := Holds.below h2 hb2
    have g4 := Holds.below h4 hb2
    have g5 := Holds.below h5 hb2
    clear hb2 hB0 h1 h2 h4 h5
    have hz2 : C < w2.heap.size := g5.lt
    have hz2' : w1.heap.size < w2.heap.size := g4.lt
    go_wp2_with fail
    refine region_named (fun W hW => ?_)
    have hB3 : Below w.heap.size w W := by rw [hW]; go_grown
    have i1 : Holds W w.heap.size (cF ⟨a, b, c⟩) 26 := by rw [hW]; exact g1.alloc _
    have i2 : Holds W (w.heap.size + 1) (cM zM) 30 := by rw [hW]; exact g2.alloc _
    have i4 : Holds W w1.heap.size (cM ⟨mp, mq, mr, ms⟩) 30 := by rw [hW]; exact g4.alloc _
    have i5 : Holds W C (cF ⟨ga, gb, gc⟩) 26 := by rw [hW]; exact g5.alloc _
    have i6 : Holds W w2.heap.size (cM (stp ⟨ga, gb, gc⟩)) 30 := by rw [hW]; repeat (first | (refine Holds.new' _ _ _ ?_; simp; done) | refine Holds.alloc ?_ _ | refine Holds.far ?_ (by first | omega | (simp; done) | (simp; omega)))
    clear hW g1 g2 g4 g5
    have y0 := AftX.cell (j := 0) (v := .int .i64 ga) i5 rfl
    have y1 := AftX.cell (j := 1) (v := .int .i64 gb) i5 rfl
    have y2 := AftX.cell (j := 2) (v := .int .i64 gc) i5 rfl
    have yf0 := AftX.free (j := 0) i5
    have yf1 := AftX.free (j := 1) i5
    have yf2 := AftX.free (j := 2) i5
    have t0 := AftX.cell (j := 0) (v := .int .i64 mp) i4 rfl
    have t1 := AftX.cell (j := 1) (v := .int .i64 mq) i4 rfl
    have t2 := AftX.cell (j := 2) (v := .int .i64 mr) i4 rfl
    have t3 := AftX.cell (j := 3) (v := .int .i64 ms) i4 rfl
    have tf0 := AftX.free (j := 0) i4
    have tf1 := AftX.free (j := 1) i4
    have tf2 := AftX.free (j := 2) i4
    have tf3 := AftX.free (j := 3) i4
    have v0 := AftX.cell (j := 0) (v := .int .i64 0) i6 rfl
    have v1 := AftX.cell (j := 1) (v := .int .i64 (-1)) i6 rfl
    have v2 := AftX.cell (j := 2) (v := .int .i64 1) i6 rfl
    have v3 := AftX.cell (j := 3) (v := .int .i64 (nS ga gb gc)) i6 rfl
    have hs4 := i4.lt
    have hs5 := i5.lt
    have hs6 := i6.lt
    have hn1 : ¬ w1.heap.size = C := hBC
    have hn2 : ¬ w2.heap.size = C := by omega
    refine region_flow2 6 C 26 (cF (nx ⟨ga, gb, gc⟩)) 7 w1.heap.size 30 (cM (mulM ⟨mp, mq, mr, ms⟩ (stp ⟨ga, gb, gc⟩))) (by kernel_rfl) (by kernel_rfl) hs5 hs4 (by omega) (by decide) ?_
    refine wpFlow_step (([] : List Nat)) (by kernel_rfl) (by kernel_rfl) (fun K hK => ?_)
    go_simp
    (refine hK _ ?_; clear hK K)
    refine wpFlow_step (([] : List Nat)) (by kernel_rfl) (by kernel_rfl) (fun K hK => ?_)
    go_simp
    (refine hK _ ?_; clear hK K)
    refine wpFlow_step (([] : List Nat)) (by kernel_rfl) (by kernel_rfl) (fun K hK => ?_)
    go_simp
    apply Exists.intro
    refine ⟨fun _ => ?_, hK _ ?_⟩
    · exact spec_foAct_nx ga gb gc _ Hg.out.1.1
    clear hK K
    refine wpFlow_step ([C]) (by kernel_rfl) (by kernel_rfl) (fun K hK => ?_)
    go_simp
    (refine hK _ ?_; clear hK K)
    refine wpFlow_step ([C]) (by kernel_rfl) (by kernel_rfl) (fun K hK => ?_)
    go_simp
    (refine hK _ ?_; clear hK K)
    refine wpFlow_step (([] : List Nat)) (by kernel_rfl) (by kernel_rfl) (fun K hK => ?_)
    go_simp
    apply Exists.intro
    refine ⟨fun _ => ?_, hK _ ?_⟩
    · exact spec_foMul _ _ _ _ _ _ _ _ _ Hgm.out (nx_mgood Hg.out.1.1)
    clear hK K
    refine wpFlow_store (([] : List Nat)) (6, C, 26, cF (nx ⟨ga, gb, gc⟩)) (by kernel_rfl) (by kernel_rfl) rfl (fun x => ?_) ?_
    · refine ⟨_, ?_, Holds.set3 (x.holds i5 (by simp <;> omega)), BelowX.run3⟩
      go_simp
      try rfl
    refine wpFlow_store ([C]) (7, w1.heap.size, 30, cM (mulM ⟨mp, mq, mr, ms⟩ (stp ⟨ga, gb, gc⟩))) (by kernel_rfl) (by kernel_rfl) rfl (fun x => ?_) ?_
    · refine ⟨_, ?_, Holds.set4 (x.holds i4 (by simp <;> omega)), BelowX.run4⟩
      go_simp
      try rfl
    refine wpFlow_nil ?_
    intro w3 hb3 j5 j4
    have j1 := i1.belowX hb3 (by simp <;> omega)
    have j2 := i2.belowX hb3 (by simp <;> omega)
    have hB3' : Below w.heap.size w w3 := hb3.below hB3 (by omega) (by simp <;> omega)
    clear hb3 hB3 i1 i2 i4 i5 i6 y0 y1 y2 yf0 yf1 yf2 t0 t1 t2 t3 tf0 tf1 tf2 tf3 v0 v1 v2 v3 hs4 hs5 hs6 hn1 hn2
    have t0 : w3.cell? ⟨w1.heap.size, 0, none⟩ = some (.int .i64 (m1 mp mq mr ms 0 (-1) 1 (nS ga gb gc))) := Holds.cell j4 rfl
    have t1 : w3.cell? ⟨w1.heap.size, 1, none⟩ = some (.int .i64 (m2 mp mq mr ms 0 (-1) 1 (nS ga gb gc))) := Holds.cell j4 rfl
    have t2 : w3.cell? ⟨w1.heap.size, 2, none⟩ = some (.int .i64 (m3 mp mq mr ms 0 (-1) 1 (nS ga gb gc))) := Holds.cell j4 rfl
    have t3 : w3.cell? ⟨w1.heap.size, 3, none⟩ = some (.int .i64 (m4 mp mq mr ms 0 (-1) 1 (nS ga gb gc))) := Holds.cell j4 rfl
    have tf0 : w3.frozen? ⟨w1.heap.size, 0, none⟩ = false := Holds.free j4
    have tf1 : w3.frozen? ⟨w1.heap.size, 1, none⟩ = false := Holds.free j4
    have tf2 : w3.frozen? ⟨w1.heap.size, 2, none⟩ = false := Holds.free j4
    have tf3 : w3.frozen? ⟨w1.heap.size, 3, none⟩ = false := Holds.free j4
    rcases round_cases Hr.out with ⟨hg, hn⟩ | ⟨hg, he, hn⟩ | ⟨hg, he, hn⟩
    · have Hgd := Lib.hid hg
      have hv := Hv.out
      rw [hn] at hv
      simp only [rndV, zM, Prod.mk.injEq, Mx.mk.injEq] at hv
      obtain ⟨⟨rfl, rfl, rfl, rfl⟩, rfl⟩ := hv
      clear hg hn
      go_wp2_with fail
      refine (spec_foMatrix _ _ _ _ false _ Hgd.out).mono ?_
      rintro e w4 ⟨rfl, hb4⟩
      have hB4 : Below w.heap.size w w4 := Below.after (by go_grown) hb4
      clear t0 t1 t2 t3 tf0 tf1 tf2 tf3
      have k2 := Holds.below j2 hb4
      clear hb4 j1 j2 j4 j5
      have v0 : w4.cell? ⟨w.heap.size + 1, 0, none⟩ = some (.int .i64 0) := Holds.cell k2 rfl
      have v1 : w4.cell? ⟨w.heap.size + 1, 1, none⟩ = some (.int .i64 0) := Holds.cell k2 rfl
      have v2 : w4.cell? ⟨w.heap.size + 1, 2, none⟩ = some (.int .i64 0) := Holds.cell k2 rfl
      have v3 : w4.cell? ⟨w.heap.size + 1, 3, none⟩ = some (.int .i64 0) := Holds.cell k2 rfl
      have vf0 : w4.frozen? ⟨w.heap.size + 1, 0, none⟩ = false := Holds.free k2
      have vf1 : w4.frozen? ⟨w.heap.size + 1, 1, none⟩ = false := Holds.free k2
      have vf2 : w4.frozen? ⟨w.heap.size + 1, 2, none⟩ = false := Holds.free k2
      have vf3 : w4.frozen? ⟨w.heap.size + 1, 3, none⟩ = false := Holds.free k2
      go_wp2_with fail
      refine bodyPost_ret (v := .tuple #[.agg #[.int .i64 0, .int .i64 0, .int .i64 0, .int .i64 0], .bool false]) (by simp [results, Try.results22, go_sem, *] <;> rfl) rfl ⟨rfl, by go_grown⟩
    · have Hgd := Lib.hid hg
      have hv := Hv.out
      rw [hn] at hv
      simp only [rndV, mulM, stp, Prod.mk.injEq, Mx.mk.injEq] at hv
      obtain ⟨⟨rfl, rfl, rfl, rfl⟩, rfl⟩ := hv
      have He := Lib.hid he
      clear hg hn he
      go_wp2_with fail
      refine (spec_foMatrix _ _ _ _ true _ Hgd.out).mono ?_
      rintro e w4 ⟨rfl, hb4⟩
      have hB4 : Below w.heap.size w w4 := Below.after (by go_grown) hb4
      clear t0 t1 t2 t3 tf0 tf1 tf2 tf3
      have k1 := Holds.below j1 hb4
      have k2 := Holds.below j2 hb4
      have k4 := Holds.below j4 hb4
      have k5 := Holds.below j5 hb4
      clear hb4 j1 j2 j4 j5
      have y0 : w4.cell? ⟨C, 0, none⟩ = some (.int .i64 gc) := Holds.cell k5 rfl
      have y1 : w4.cell? ⟨C, 1, none⟩ = some (.int .i64 (nB ga gb gc)) := Holds.cell k5 rfl
      have y2 : w4.cell? ⟨C, 2, none⟩ = some (.int .i64 (nC ga gb gc)) := Holds.cell k5 rfl
      have yf0 : w4.frozen? ⟨C, 0, none⟩ = false := Holds.free k5
      have yf1 : w4.frozen? ⟨C, 1, none⟩ = false := Holds.free k5
      have yf2 : w4.frozen? ⟨C, 2, none⟩ = false := Holds.free k5
      have u0 : w4.cell? ⟨w.heap.size, 0, none⟩ = some (.int .i64 a) := Holds.cell k1 rfl
      have u1 : w4.cell? ⟨w.heap.size, 1, none⟩ = some (.int .i64 b) := Holds.cell k1 rfl
      have u2 : w4.cell? ⟨w.heap.size, 2, none⟩ = some (.int .i64 c) := Holds.cell k1 rfl
      have uf0 : w4.frozen? ⟨w.heap.size, 0, none⟩ = false := Holds.free k1
      have uf1 : w4.frozen? ⟨w.heap.size, 1, none⟩ = false := Holds.free k1
      have uf2 : w4.frozen? ⟨w.heap.size, 2, none⟩ = false := Holds.free k1
      have t0 : w4.cell? ⟨w1.heap.size, 0, none⟩ = some (.int .i64 (m1 mp mq mr ms 0 (-1) 1 (nS ga gb gc))) := Holds.cell k4 rfl
      have t1 : w4.cell? ⟨w1.heap.size, 1, none⟩ = some (.int .i64 (m2 mp mq mr ms 0 (-1) 1 (nS ga gb gc))) := Holds.cell k4 rfl
      have t2 : w4.cell? ⟨w1.heap.size, 2, none⟩ = some (.int .i64 (m3 mp mq mr ms 0 (-1) 1 (nS ga gb gc))) := Holds.cell k4 rfl
      have t3 : w4.cell? ⟨w1.heap.size, 3, none⟩ = some (.int .i64 (m4 mp mq mr ms 0 (-1) 1 (nS ga gb gc))) := Holds.cell k4 rfl
      have tf0 : w4.frozen? ⟨w1.heap.size, 0, none⟩ = false := Holds.free k4
      have tf1 : w4.frozen? ⟨w1.heap.size, 1, none⟩ = false := Holds.free k4
      have tf2 : w4.frozen? ⟨w1.heap.size, 2, none⟩ = false := Holds.free k4
      have tf3 : w4.frozen? ⟨w1.heap.size, 3, none⟩ = false := Holds.free k4
      have v0 : w4.cell? ⟨w.heap.size + 1, 0, none⟩ = some (.int .i64 0) := Holds.cell k2 rfl
      have v1 : w4.cell? ⟨w.heap.size + 1, 1, none⟩ = some (.int .i64 0) := Holds.cell k2 rfl
      have v2 : w4.cell? ⟨w.heap.size + 1, 2, none⟩ = some (.int .i64 0) := Holds.cell k2 rfl
      have v3 : w4.cell? ⟨w.heap.size + 1, 3, none⟩ = some (.int .i64 0) := Holds.cell k2 rfl
      have vf0 : w4.frozen? ⟨w.heap.size + 1, 0, none⟩ = false := Holds.free k2
      have vf1 : w4.frozen? ⟨w.heap.size + 1, 1, none⟩ = false := Holds.free k2
      have vf2 : w4.frozen? ⟨w.heap.size + 1, 2, none⟩ = false := Holds.free k2
      have vf3 : w4.frozen? ⟨w.heap.size + 1, 3, none⟩ = false := Holds.free k2
      obtain ⟨e1, e2, e3⟩ := fm_eq He.out
      go_wp2_with fail
      refine bodyPost_ret (v := .tuple #[.agg #[.int .i64 (m1 mp mq mr ms 0 (-1) 1 (nS ga gb gc)), .int .i64 (m2 mp mq mr ms 0 (-1) 1 (nS ga gb gc)), .int .i64 (m3 mp mq mr ms 0 (-1) 1 (nS ga gb gc)), .int .i64 (m4 mp mq mr ms 0 (-1) 1 (nS ga gb gc))], .bool true]) (by simp [results, Try.results22, go_sem, *] <;> rfl) rfl ⟨rfl, by go_grown⟩
    · have Hgd := Lib.hid hg
      have Hn := Lib.hid hn
      have He := Lib.hid he
      obtain ⟨n', rfl⟩ : ∃ n', n = n' + 1 := by
        cases n with
        | zero => exact absurd Hit.out he
        | succ n' => exact ⟨n', rfl⟩
      clear hg hn he
      go_wp2_with fail
      refine (spec_foMatrix _ _ _ _ true _ Hgd.out).mono ?_
      rintro e w4 ⟨rfl, hb4⟩
      have hB4 : Below w.heap.size w w4 := Below.after (by go_grown) hb4
      clear t0 t1 t2 t3 tf0 tf1 tf2 tf3
      have k1 := Holds.below j1 hb4
      have k2 := Holds.below j2 hb4
      have k4 := Holds.below j4 hb4
      have k5 := Holds.below j5 hb4
      have hz4 := k5.lt
      have hz4' := k4.lt
      have hz4b := k1.lt
      clear hb4 j1 j2 j4 j5
      have y0 : w4.cell? ⟨C, 0, none⟩ = some (.int .i64 gc) := Holds.cell k5 rfl
      have y1 : w4.cell? ⟨C, 1, none⟩ = some (.int .i64 (nB ga gb gc)) := Holds.cell k5 rfl
      have y2 : w4.cell? ⟨C, 2, none⟩ = some (.int .i64 (nC ga gb gc)) := Holds.cell k5 rfl
      have yf0 : w4.frozen? ⟨C, 0, none⟩ = false := Holds.free k5
      have yf1 : w4.frozen? ⟨C, 1, none⟩ = false := Holds.free k5
      have yf2 : w4.frozen? ⟨C, 2, none⟩ = false := Holds.free k5
      have u0 : w4.cell? ⟨w.heap.size, 0, none⟩ = some (.int .i64 a) := Holds.cell k1 rfl
      have u1 : w4.cell? ⟨w.heap.size, 1, none⟩ = some (.int .i64 b) := Holds.cell k1 rfl
      have u2 : w4.cell? ⟨w.heap.size, 2, none⟩ = some (.int .i64 c) := Holds.cell k1 rfl
      have uf0 : w4.frozen? ⟨w.heap.size, 0, none⟩ = false := Holds.free k1
      have uf1 : w4.frozen? ⟨w.heap.size, 1, none⟩ = false := Holds.free k1
      have uf2 : w4.frozen? ⟨w.heap.size, 2, none⟩ = false := Holds.free k1
      have Hk := Lib.hid (And.intro k1 (And.intro k2 (And.intro k4 k5)))
      clear k1 k2 k4 k5
      rcases fm_ne He.out with e1 | ⟨e1, e2⟩ | ⟨e1, e2, e3⟩
      all_goals
        go_wp2_with fail
        go_roundg (n' + 1)
        case measure => omega
        case rel =>
          obtain ⟨k1, k2, k4, k5⟩ := Hk.out
          refine ⟨nx ⟨ga, gb, gc⟩, mulM ⟨mp, mq, mr, ms⟩ (stp ⟨ga, gb, gc⟩), _, n', rfl, by omega, by rw [← Hit.out, it_add 1 ⟨ga, gb, gc⟩ (n' + 1)]; rfl, cy_nx Hg.out, Hgd.out, Hn.out, by go_grown, by omega, by omega, by omega, k1.alloc _, k2.alloc _, k4.alloc _, ?_⟩
          repeat (first | (refine Holds.new' _ _ _ ?_; simp; done) | refine Holds.alloc ?_ _ | refine Holds.far ?_ (by first | omega | (simp; done) | (simp; omega)))
/-- at the head of the program's loop -/
def RndAtI (w : World) (B : Nat) (d : Int) (f : Fm) (o : Option Mx) (k : Nat) (s5 s6 : Value) (wr : World) : Prop :=
  ∃ (g : Fm) (m : Mx) (C : Nat) (fst : Bool), s5 = .pointer (some ⟨C, 0, none⟩) ∧ s6 = .bool fst ∧ ((fst = false ∧ g = f ∧ o = some m) ∨ ((fst = true ∨ (fst = false ∧ g ≠ f)) ∧ Round f g m o ∧ ∃ n, n + 1 < k ∧ it (n + 1) g = f)) ∧ 0 < k ∧
    Cy d g ∧ goodM m = true ∧ Below w.heap.size w wr ∧ w.heap.size + 1 < B ∧ w.heap.size + 1 < C ∧ B ≠ C ∧
    Holds wr w.heap.size (cF f) 26 ∧ Holds wr (w.heap.size + 1) (cM zM) 30 ∧ Holds wr B (cM m) 30 ∧ Holds wr C (cF g) 26
set_option maxHeartbeats 2000000 in
set_option maxRecDepth 100000 in
theorem impl_CycleProduct_yes (a b c : Int) (o : Option Mx) (p q r s : Int) (v : Bool) (w : World) (h : indefB a b c = true) (hc : cycB a b c = true) (ho : Round ⟨a, b, c⟩ ⟨a, b, c⟩ oneM o) (hv : rndV o = (⟨p, q, r, s⟩, v)) (np : Nat) (hp : it (np + 1) ⟨a, b, c⟩ = ⟨a, b, c⟩) :
    Calls Try.prog 23 #[.agg #[.int .i64 a, .int .i64 b, .int .i64 c]] w fun e w' => e = .returned (.tuple #[.agg #[.int .i64 p, .int .i64 q, .int .i64 r, .int .i64 s], .bool v]) ∧ Below w.heap.size w w' := by
  have H := Lib.hid h
  clear h
  have Hc := Lib.hid hc
  clear hc
  have Ho := Lib.hid ho
  clear ho
  have Hv := Lib.hid hv
  clear hv
  have Hp := Lib.hid hp
  clear hp
  go_enter Try.func23, Try.ntmps23
  go_wp2_with fail
  refine (impl_isIndefinite a b c true _ H.out).mono ?_
  rintro e w0 ⟨rfl, hb0⟩
  have hB0 : Below w.heap.size w w0 := Below.after (by go_grown) hb0
  have a1 : Holds w0 w.heap.size (cF ⟨a, b, c⟩) 26 := Holds.below (by repeat (first | (refine Holds.new' _ _ _ ?_; simp; done) | refine Holds.alloc ?_ _ | refine Holds.far ?_ (by first | omega | (simp; done) | (simp; omega)))) hb0
  have a2 : Holds w0 (w.heap.size + 1) (cM zM) 30 := Holds.below (by repeat (first | (refine Holds.new' _ _ _ ?_; simp; done) | refine Holds.alloc ?_ _ | refine Holds.far ?_ (by first | omega | (simp; done) | (simp; omega)))) hb0
  clear hb0
  have y0 : w0.cell? ⟨w.heap.size, 0, none⟩ = some (.int .i64 a) := Holds.cell a1 rfl
  have y1 : w0.cell? ⟨w.heap.size, 1, none⟩ = some (.int .i64 b) := Holds.cell a1 rfl
  have y2 : w0.cell? ⟨w.heap.size, 2, none⟩ = some (.int .i64 c) := Holds.cell a1 rfl
  have yf0 : w0.frozen? ⟨w.heap.size, 0, none⟩ = false := Holds.free a1
  have yf1 : w0.frozen? ⟨w.heap.size, 1, none⟩ = false := Holds.free a1
  have yf2 : w0.frozen? ⟨w.heap.size, 2, none⟩ = false := Holds.free a1
  go_wp2_with fail
  refine (impl_isCyclic a b c true _ H.out Hc.out).mono ?_
  rintro e w1 ⟨rfl, hb1⟩
  have hB1 : Below w.heap.size w w1 := Below.after (by go_grown) hb1
  clear y0 y1 y2 yf0 yf1 yf2
  have b1 := Holds.below a1 hb1
  have b2 := Holds.below a2 hb1
  clear hb1 hB0 a1 a2
  go_wp2_with fail
  refine (impl_one _).mono ?_
  rintro e w2 ⟨rfl, hb2⟩
  have hB2 : Below w.heap.size w w2 := Below.after (by go_grown) hb2
  have a1 := Holds.below b1 hb2
  have a2 := Holds.below b2 hb2
  clear hb2 hB1 b1 b2
  have hz1 := a2.lt
  have hz0 := a1.lt
  have y0 : w2.cell? ⟨w.heap.size, 0, none⟩ = some (.int .i64 a) := Holds.cell a1 rfl
  have y1 : w2.cell? ⟨w.heap.size, 1, none⟩ = some (.int .i64 b) := Holds.cell a1 rfl
  have y2 : w2.cell? ⟨w.heap.size, 2, none⟩ = some (.int .i64 c) := Holds.cell a1 rfl
  have yf0 : w2.frozen? ⟨w.heap.size, 0, none⟩ = false := Holds.free a1
  have yf1 : w2.frozen? ⟨w.heap.size, 1, none⟩ = false := Holds.free a1
  have yf2 : w2.frozen? ⟨w.heap.size, 2, none⟩ = false := Holds.free a1
  have Hb1 := Lib.hid a1
  have Hb2 := Lib.hid a2
  clear a1 a2
  go_wp2_with fail
  go_loopg [5, 6] (np + 2) (fun k s5 s6 wr => RndAtI w w2.heap.size (disc a b c) ⟨a, b, c⟩ o k s5 s6 wr)
  case atStart =>
    refine ⟨⟨a, b, c⟩, oneM, _, true, rfl, rfl, .inr ⟨.inl rfl, Ho.out, np, by omega, Hp.out⟩, by omega, ⟨⟨H.out, rfl⟩, Hc.out⟩, by decide, by go_grown, by omega, by simp; omega, by simp, (Hb1.out.alloc _).alloc _, (Hb2.out.alloc _).alloc _, ?_, ?_⟩
    · repeat (first | (refine Holds.new' _ _ _ ?_; simp; done) | refine Holds.alloc ?_ _ | refine Holds.far ?_ (by first | omega | (simp; done) | (simp; omega)))
    · repeat (first | (refine Holds.new' _ _ _ ?_; simp; done) | refine Holds.alloc ?_ _ | refine Holds.far ?_ (by first | omega | (simp; done) | (simp; omega)))
  case round =>
    obtain ⟨g, m, C, fst, rfl, rfl, hcase, hk0, hg, hgm, hB0, hBC1, hBC2, hBC, h1, h2, h4, h5⟩ := hrel
    clear y0 y1 y2 yf0 yf1 yf2 Hb1 Hb2 hB2
    obtain ⟨ga, gb, gc⟩ := g
    obtain ⟨mp, mq, mr, ms⟩ := m
    have Hg := Lib.hid hg
    have Hgm := Lib.hid hgm
    clear hg hgm
    have hzB := h4.lt
    have hzC := h5.lt
    have hzA := h1.lt
    have y0 : wr.cell? ⟨C, 0, none⟩ = some (.int .i64 ga) := Holds.cell h5 rfl
    have y1 : wr.cell? ⟨C, 1, none⟩ = some (.int .i64 gb) := Holds.cell h5 rfl
    have y2 : wr.cell? ⟨C, 2, none⟩ = some (.int .i64 gc) := Holds.cell h5 rfl
    have yf0 : wr.frozen? ⟨C, 0, none⟩ = false := Holds.free h5
    have yf1 : wr.frozen? ⟨C, 1, none⟩ = false := Holds.free h5
    have yf2 : wr.frozen? ⟨C, 2, none⟩ = false := Holds.free h5
    have u0 : wr.cell? ⟨w.heap.size, 0, none⟩ = some (.int .i64 a) := Holds.cell h1 rfl
    have u1 : wr.cell? ⟨w.heap.size, 1, none⟩ = some (.int .i64 b) := Holds.cell h1 rfl
    have u2 : wr.cell? ⟨w.heap.size, 2, none⟩ = some (.int .i64 c) := Holds.cell h1 rfl
    have uf0 : wr.frozen? ⟨w.heap.size, 0, none⟩ = false := Holds.free h1
    have uf1 : wr.frozen? ⟨w.heap.size, 1, none⟩ = false := Holds.free h1
    have uf2 : wr.frozen? ⟨w.heap.size, 2, none⟩ = false := Holds.free h1
    rcases hcase with ⟨rfl, he, hn⟩ | ⟨hf, hr, n, hk, hit⟩
    · have hv := Hv.out
      rw [hn] at hv
      simp only [rndV, Prod.mk.injEq, Mx.mk.injEq] at hv
      obtain ⟨⟨rfl, rfl, rfl, rfl⟩, rfl⟩ := hv
      have He := Lib.hid he
      clear hn he
      obtain ⟨e1, e2, e3⟩ := fm_eq He.out
      have t0 : wr.cell? ⟨w2.heap.size, 0, none⟩ = some (.int .i64 mp) := Holds.cell h4 rfl
      have t1 : wr.cell? ⟨w2.heap.size, 1, none⟩ = some (.int .i64 mq) := Holds.cell h4 rfl
      have t2 : wr.cell? ⟨w2.heap.size, 2, none⟩ = some (.int .i64 mr) := Holds.cell h4 rfl
      have t3 : wr.cell? ⟨w2.heap.size, 3, none⟩ = some (.int .i64 ms) := Holds.cell h4 rfl
      have tf0 : wr.frozen? ⟨w2.heap.size, 0, none⟩ = false := Holds.free h4
      have tf1 : wr.frozen? ⟨w2.heap.size, 1, none⟩ = false := Holds.free h4
      have tf2 : wr.frozen? ⟨w2.heap.size, 2, none⟩ = false := Holds.free h4
      have tf3 : wr.frozen? ⟨w2.heap.size, 3, none⟩ = false := Holds.free h4
      have v0 : wr.cell? ⟨w.heap.size + 1, 0, none⟩ = some (.int .i64 0) := Holds.cell h2 rfl
      have v1 : wr.cell? ⟨w.heap.size + 1, 1, none⟩ = some (.int .i64 0) := Holds.cell h2 rfl
      have v2 : wr.cell? ⟨w.heap.size + 1, 2, none⟩ = some (.int .i64 0) := Holds.cell h2 rfl
      have v3 : wr.cell? ⟨w.heap.size + 1, 3, none⟩ = some (.int .i64 0) := Holds.cell h2 rfl
      have vf0 : wr.frozen? ⟨w.heap.size + 1, 0, none⟩ = false := Holds.free h2
      have vf1 : wr.frozen? ⟨w.heap.size + 1, 1, none⟩ = false := Holds.free h2
      have vf2 : wr.frozen? ⟨w.heap.size + 1, 2, none⟩ = false := Holds.free h2
      have vf3 : wr.frozen? ⟨w.heap.size + 1, 3, none⟩ = false := Holds.free h2
      clear h1 h2 h4 h5
      go_wp2_with fail
      refine bodyPost_ret (v := .tuple #[.agg #[.int .i64 mp, .int .i64 mq, .int .i64 mr, .int .i64 ms], .bool true]) (by simp [results, Try.results23, go_sem, *] <;> rfl) rfl ⟨rfl, by go_grown⟩
    · have Hr := Lib.hid hr
      have Hit := Lib.hid hit
      clear hr hit
      have hf' : fst = true ∨ (fst = false ∧ (ga == a) = false) ∨ (fst = false ∧ (ga == a) = true ∧ (gb == b) = false) ∨ (fst = false ∧ (ga == a) = true ∧ (gb == b) = true ∧ (gc == c) = false) := by
        rcases hf with hf | ⟨hf, hne⟩
        · exact .inl hf
        · rcases fm_ne hne with e1 | ⟨e1, e2⟩ | ⟨e1, e2, e3⟩
          · exact .inr (.inl ⟨hf, e1⟩)
          · exact .inr (.inr (.inl ⟨hf, e1, e2⟩))
          · exact .inr (.inr (.inr ⟨hf, e1, e2, e3⟩))
      clear hf
      rcases hf' with rfl | ⟨rfl, e1⟩ | ⟨rfl, e1, e2⟩ | ⟨rfl, e1, e2, e3⟩
      all_goals
        go_wp2_with fail
        refine (impl_neighbour ga gb gc _ Hg.out.1.1).mono ?_
        rintro e w3 ⟨rfl, hb3⟩
        have hB3 : Below w.heap.size w w3 := Below.after (by go_grown) hb3
        clear y0 y1 y2 yf0 yf1 yf2
        clear u0 u1 u2 uf0 uf1 uf2
        have g1 := Holds.below h1 hb3
        have g2 := Holds.below h2 hb3
        have g4 := Holds.below h4 hb3
        have g5 := Holds.below h5 hb3
        clear hb3 hB0 h1 h2 h4 h5
        have hz3 := g5.lt
        have hz3' := g4.lt
        have hz3a := g2.lt
        have t0 : w3.cell? ⟨w2.heap.size, 0, none⟩ = some (.int .i64 mp) := Holds.cell g4 rfl
        have t1 : w3.cell? ⟨w2.heap.size, 1, none⟩ = some (.int .i64 mq) := Holds.cell g4 rfl
        have t2 : w3.cell? ⟨w2.heap.size, 2, none⟩ = some (.int .i64 mr) := Holds.cell g4 rfl
        have t3 : w3.cell? ⟨w2.heap.size, 3, none⟩ = some (.int .i64 ms) := Holds.cell g4 rfl
        have tf0 : w3.frozen? ⟨w2.heap.size, 0, none⟩ = false := Holds.free g4
        have tf1 : w3.frozen? ⟨w2.heap.size, 1, none⟩ = false := Holds.free g4
        have tf2 : w3.frozen? ⟨w2.heap.size, 2, none⟩ = false := Holds.free g4
        have tf3 : w3.frozen? ⟨w2.heap.size, 3, none⟩ = false := Holds.free g4
        go_wp2_with fail
        refine (impl_times mp mq mr ms 0 (-1) 1 (nS ga gb gc) _ Hgm.out (nx_mgood Hg.out.1.1)).mono ?_
        rintro e w4 ⟨rfl, hb4⟩
        have hB4 : Below w.heap.size w w4 := Below.after (by go_grown) hb4
        clear t0 t1 t2 t3 tf0 tf1 tf2 tf3
        have k1 := Holds.below (Holds.alloc (Holds.alloc g1 _) _) hb4
        have k2 := Holds.below (Holds.alloc (Holds.alloc g2 _) _) hb4
        have k4 := Holds.below (Holds.alloc (Holds.alloc g4 _) _) hb4
        have k5 := Holds.below (Holds.alloc (Holds.alloc g5 _) _) hb4
        have k7 : Holds w4 w3.heap.size (cF (nx ⟨ga, gb, gc⟩)) 26 := by
          refine Holds.below (W := (w3.alloc (.cells (cF (nx ⟨ga, gb, gc⟩)) 26)).alloc (.cells (cM (stp ⟨ga, gb, gc⟩)) 30)) ?_ hb4
          exact (Holds.new w3 _ _).alloc _
        clear hb4 hB3 g1 g2 g4 g5
        have t0 : w4.cell? ⟨w2.heap.size, 0, none⟩ = some (.int .i64 mp) := Holds.cell k4 rfl
        have t1 : w4.cell? ⟨w2.heap.size, 1, none⟩ = some (.int .i64 mq) := Holds.cell k4 rfl
        have t2 : w4.cell? ⟨w2.heap.size, 2, none⟩ = some (.int .i64 mr) := Holds.cell k4 rfl
        have t3 : w4.cell? ⟨w2.heap.size, 3, none⟩ = some (.int .i64 ms) := Holds.cell k4 rfl
        have tf0 : w4.frozen? ⟨w2.heap.size, 0, none⟩ = false := Holds.free k4
        have tf1 : w4.frozen? ⟨w2.heap.size, 1, none⟩ = false := Holds.free k4
        have tf2 : w4.frozen? ⟨w2.heap.size, 2, none⟩ = false := Holds.free k4
        have tf3 : w4.frozen? ⟨w2.heap.size, 3, none⟩ = false := Holds.free k4
        have hz4 := k7.lt
        have hz4a := k4.lt
        have hz4b := k2.lt
        have hz4c := k5.lt
        rcases round_cases Hr.out with ⟨hgd, hn⟩ | ⟨hgd, he, hn⟩ | ⟨hgd, he, hn⟩
        · have Hgd := Lib.hid hgd
          have hv := Hv.out
          rw [hn] at hv
          simp only [rndV, zM, Prod.mk.injEq, Mx.mk.injEq] at hv
          obtain ⟨⟨rfl, rfl, rfl, rfl⟩, rfl⟩ := hv
          clear hgd hn
          go_wp2_with fail
          refine (impl_IsMatrix _ _ _ _ false _ Hgd.out).mono ?_
          rintro e w5 ⟨rfl, hb5⟩
          have hB5 : Below w.heap.size w w5 := Below.after (by go_grown) hb5
          clear t0 t1 t2 t3 tf0 tf1 tf2 tf3
          have j2 := Holds.below ((((Holds.far k2 (by omega)).far (by omega)).far (by omega)).far (by omega)) hb5
          clear hb5 hB4 k1 k2 k4 k5 k7
          have v0 : w5.cell? ⟨w.heap.size + 1, 0, none⟩ = some (.int .i64 0) := Holds.cell j2 rfl
          have v1 : w5.cell? ⟨w.heap.size + 1, 1, none⟩ = some (.int .i64 0) := Holds.cell j2 rfl
          have v2 : w5.cell? ⟨w.heap.size + 1, 2, none⟩ = some (.int .i64 0) := Holds.cell j2 rfl
          have v3 : w5.cell? ⟨w.heap.size + 1, 3, none⟩ = some (.int .i64 0) := Holds.cell j2 rfl
          have vf0 : w5.frozen? ⟨w.heap.size + 1, 0, none⟩ = false := Holds.free j2
          have vf1 : w5.frozen? ⟨w.heap.size + 1, 1, none⟩ = false := Holds.free j2
          have vf2 : w5.frozen? ⟨w.heap.size + 1, 2, none⟩ = false := Holds.free j2
          have vf3 : w5.frozen? ⟨w.heap.size + 1, 3, none⟩ = false := Holds.free j2
          go_wp2_with fail
          refine bodyPost_ret (v := .tuple #[.agg #[.int .i64 0, .int .i64 0, .int .i64 0, .int .i64 0], .bool false]) (by simp [results, Try.results23, go_sem, *] <;> rfl) rfl ⟨rfl, by go_grown⟩
        all_goals
          have Hgd := Lib.hid hgd
          have Hn := Lib.hid hn
          have He := Lib.hid he
          clear hgd hn he
          go_wp2_with fail
          refine (impl_IsMatrix _ _ _ _ true _ Hgd.out).mono ?_
          rintro e w5 ⟨rfl, hb5⟩
          have hB5 : Below w.heap.size w w5 := Below.after (by go_grown) hb5
          clear t0 t1 t2 t3 tf0 tf1 tf2 tf3
          have j1 := Holds.below ((((Holds.far k1 (by omega)).far (by omega)).far (by omega)).far (by omega)) hb5
          have j2 := Holds.below ((((Holds.far k2 (by omega)).far (by omega)).far (by omega)).far (by omega)) hb5
          have j4 := Holds.below (Holds.set4 k4) hb5
          have j5 := Holds.below ((((Holds.far k5 (by omega)).far (by omega)).far (by omega)).far (by omega)) hb5
          have j7 := Holds.below ((((Holds.far k7 (by omega)).far (by omega)).far (by omega)).far (by omega)) hb5
          clear hb5 hB4 k1 k2 k4 k5 k7
          have hz5 := j7.lt
          have hz5a := j4.lt
          have hz5b := j1.lt
          have hz5c := j5.lt
          have u0 : w5.cell? ⟨w3.heap.size, 0, none⟩ = some (.int .i64 gc) := Holds.cell j7 rfl
          have u1 : w5.cell? ⟨w3.heap.size, 1, none⟩ = some (.int .i64 (nB ga gb gc)) := Holds.cell j7 rfl
          have u2 : w5.cell? ⟨w3.heap.size, 2, none⟩ = some (.int .i64 (nC ga gb gc)) := Holds.cell j7 rfl
          have uf0 : w5.frozen? ⟨w3.heap.size, 0, none⟩ = false := Holds.free j7
          have uf1 : w5.frozen? ⟨w3.heap.size, 1, none⟩ = false := Holds.free j7
          have uf2 : w5.frozen? ⟨w3.heap.size, 2, none⟩ = false := Holds.free j7
          have y0 : w5.cell? ⟨C, 0, none⟩ = some (.int .i64 ga) := Holds.cell j5 rfl
          have y1 : w5.cell? ⟨C, 1, none⟩ = some (.int .i64 gb) := Holds.cell j5 rfl
          have y2 : w5.cell? ⟨C, 2, none⟩ = some (.int .i64 gc) := Holds.cell j5 rfl
          have yf0 : w5.frozen? ⟨C, 0, none⟩ = false := Holds.free j5
          have yf1 : w5.frozen? ⟨C, 1, none⟩ = false := Holds.free j5
          have yf2 : w5.frozen? ⟨C, 2, none⟩ = false := Holds.free j5
          have Hj := Lib.hid (And.intro j1 (And.intro j2 j4))
          clear j1 j2 j4 j5 j7
          go_wp2_with fail
          go_roundg (n + 1)
          case measure => omega
          case rel =>
            obtain ⟨j1, j2, j4⟩ := Hj.out
            first
              | exact ⟨nx ⟨ga, gb, gc⟩, mulM ⟨mp, mq, mr, ms⟩ (stp ⟨ga, gb, gc⟩), _, false, rfl, rfl, .inl ⟨rfl, He.out, Hn.out⟩, by omega, cy_nx Hg.out, Hgd.out, by go_grown, by omega, by (first | omega | (simp; omega)), by (first | omega | (simp; omega)), (((j1.far (by omega)).far (by omega)).far (by omega)).alloc _, (((j2.far (by omega)).far (by omega)).far (by omega)).alloc _, (((j4.far (by omega)).far (by omega)).far (by omega)).alloc _, Holds.new' _ _ _ (by simp)⟩
              | (obtain ⟨n', rfl⟩ : ∃ n', n = n' + 1 := by
                   cases n with
                   | zero => exact absurd Hit.out He.out
                   | succ n' => exact ⟨n', rfl⟩
                 exact ⟨nx ⟨ga, gb, gc⟩, mulM ⟨mp, mq, mr, ms⟩ (stp ⟨ga, gb, gc⟩), _, false, rfl, rfl, .inr ⟨.inr ⟨rfl, He.out⟩, Hn.out, n', by omega, by rw [← Hit.out, it_add 1 ⟨ga, gb, gc⟩ (n' + 1)]; rfl⟩, by omega, cy_nx Hg.out, Hgd.out, by go_grown, by omega, by (first | omega | (simp; omega)), by (first | omega | (simp; omega)), (((j1.far (by omega)).far (by omega)).far (by omega)).alloc _, (((j2.far (by omega)).far (by omega)).far (by omega)).alloc _, (((j4.far (by omega)).far (by omega)).far (by omega)).alloc _, Holds.new' _ _ _ (by simp)⟩)
theorem spec_CycleProduct_no (a b c : Int) (w : World) (h : (indefB a b c && cycB a b c) = false) :
    Calls Try.prog 22 #[.agg #[.int .i64 a, .int .i64 b, .int .i64 c]] w fun e w' => e = .returned (.tuple #[.agg #[.int .i64 0, .int .i64 0, .int .i64 0, .int .i64 0], .bool false]) ∧ Below w.heap.size w w' := by
  cases hi : indefB a b c with
  | true =>
    rw [hi, Bool.true_and] at h
    have H := Lib.hid hi
    clear hi
    have Hc := Lib.hid h
    clear h
    go_enter Try.func22, Try.ntmps22
    go_wp2_with fail
    refine (spec_cyGood a b c true _ H.out).mono ?_
    rintro e w1 ⟨rfl, hb1⟩
    have hB1 : Below w.heap.size w w1 := Below.after (by go_grown) hb1
    obtain ⟨hc1, hf1⟩ := bcell hb1
    have hy1 := hb1.size
    try simp at hy1
    first | (with_reducible have hx1 := Nat.lt_of_succ_le hy1) | skip
    first | (with_reducible have hv1 := Nat.lt_of_succ_lt hx1) | skip
    first | (with_reducible have hu1 := Nat.lt_of_succ_lt hv1) | skip
    first | (have hz1 : w.heap.size < w1.heap.size := by omega) | (have hz1 := hB1.size)
    clear hb1
    go_wp2_with fail
    refine (spec_cyIs a b c false _ H.out Hc.out).mono ?_
    rintro e w2 ⟨rfl, hb2⟩
    have hB2 : Below w.heap.size w w2 := Below.after (by go_grown) hb2
    obtain ⟨hc2, hf2⟩ := bcell hb2
    have hy2 := hb2.size
    try simp at hy2
    first | (with_reducible have hx2 := Nat.lt_of_succ_le hy2) | skip
    first | (with_reducible have hv2 := Nat.lt_of_succ_lt hx2) | skip
    first | (with_reducible have hu2 := Nat.lt_of_succ_lt hv2) | skip
    first | (have hz2 : w.heap.size < w2.heap.size := by omega) | (have hz2 := hB2.size)
    first | (have hq2 : w1.heap.size ≤ w2.heap.size := by omega) | skip
    first | (have hx1_2 := Nat.lt_of_lt_of_le hx1 hq2) | skip
    first | (have hv1_2 := Nat.lt_of_lt_of_le hv1 hq2) | skip
    first | (have hu1_2 := Nat.lt_of_lt_of_le hu1 hq2) | skip
    clear hb2
    go_wp2_with fail
    refine bodyPost_ret (v := .tuple #[.agg #[.int .i64 0, .int .i64 0, .int .i64 0, .int .i64 0], .bool false]) (by simp [results, Try.results22, go_sem, *] <;> rfl) rfl ⟨rfl, by go_grown⟩
  | false =>
    have H := Lib.hid hi
    clear hi
    clear h
    go_enter Try.func22, Try.ntmps22
    go_wp2_with fail
    refine (spec_cyGood a b c false _ H.out).mono ?_
    rintro e w1 ⟨rfl, hb1⟩
    have hB1 : Below w.heap.size w w1 := Below.after (by go_grown) hb1
    obtain ⟨hc1, hf1⟩ := bcell hb1
    have hy1 := hb1.size
    try simp at hy1
    first | (with_reducible have hx1 := Nat.lt_of_succ_le hy1) | skip
    first | (with_reducible have hv1 := Nat.lt_of_succ_lt hx1) | skip
    first | (with_reducible have hu1 := Nat.lt_of_succ_lt hv1) | skip
    first | (have hz1 : w.heap.size < w1.heap.size := by omega) | (have hz1 := hB1.size)
    clear hb1
    go_wp2_with fail
    refine bodyPost_ret (v := .tuple #[.agg #[.int .i64 0, .int .i64 0, .int .i64 0, .int .i64 0], .bool false]) (by simp [results, Try.results22, go_sem, *] <;> rfl) rfl ⟨rfl, by go_grown⟩
theorem impl_CycleProduct_no (a b c : Int) (w : World) (h : (indefB a b c && cycB a b c) = false) :
    Calls Try.prog 23 #[.agg #[.int .i64 a, .int .i64 b, .int .i64 c]] w fun e w' => e = .returned (.tuple #[.agg #[.int .i64 0, .int .i64 0, .int .i64 0, .int .i64 0], .bool false]) ∧ Below w.heap.size w w' := by
  cases hi : indefB a b c with
  | true =>
    rw [hi, Bool.true_and] at h
    have H := Lib.hid hi
    clear hi
    have Hc := Lib.hid h
    clear h
    go_enter Try.func23, Try.ntmps23
    go_wp2_with fail
    refine (impl_isIndefinite a b c true _ H.out).mono ?_
    rintro e w1 ⟨rfl, hb1⟩
    have hB1 : Below w.heap.size w w1 := Below.after (by go_grown) hb1
    obtain ⟨hc1, hf1⟩ := bcell hb1
    have hy1 := hb1.size
    try simp at hy1
    first | (with_reducible have hx1 := Nat.lt_of_succ_le hy1) | skip
    first | (with_reducible have hv1 := Nat.lt_of_succ_lt hx1) | skip
    first | (with_reducible have hu1 := Nat.lt_of_succ_lt hv1) | skip
    first | (have hz1 : w.heap.size < w1.heap.size := by omega) | (have hz1 := hB1.size)
    clear hb1
    go_wp2_with fail
    refine (impl_isCyclic a b c false _ H.out Hc.out).mono ?_
    rintro e w2 ⟨rfl, hb2⟩
    have hB2 : Below w.heap.size w w2 := Below.after (by go_grown) hb2
    obtain ⟨hc2, hf2⟩ := bcell hb2
    have hy2 := hb2.size
    try simp at hy2
    first | (with_reducible have hx2 := Nat.lt_of_succ_le hy2) | skip
    first | (with_reducible have hv2 := Nat.lt_of_succ_lt hx2) | skip
    first | (with_reducible have hu2 := Nat.lt_of_succ_lt hv2) | skip
    first | (have hz2 : w.heap.size < w2.heap.size := by omega) | (have hz2 := hB2.size)
    first | (have hq2 : w1.heap.size ≤ w2.heap.size := by omega) | skip
    first | (have hx1_2 := Nat.lt_of_lt_of_le hx1 hq2) | skip
    first | (have hv1_2 := Nat.lt_of_lt_of_le hv1 hq2) | skip
    first | (have hu1_2 := Nat.lt_of_lt_of_le hu1 hq2) | skip
    clear hb2
    go_wp2_with fail
    refine bodyPost_ret (v := .tuple #[.agg #[.int .i64 0, .int .i64 0, .int .i64 0, .int .i64 0], .bool false]) (by simp [results, Try.results23, go_sem, *] <;> rfl) rfl ⟨rfl, by go_grown⟩
  | false =>
    have H := Lib.hid hi
    clear hi
    clear h
    go_enter Try.func23, Try.ntmps23
    go_wp2_with fail
    refine (impl_isIndefinite a b c false _ H.out).mono ?_
    rintro e w1 ⟨rfl, hb1⟩
    have hB1 : Below w.heap.size w w1 := Below.after (by go_grown) hb1
    obtain ⟨hc1, hf1⟩ := bcell hb1
    have hy1 := hb1.size
    try simp at hy1
    first | (with_reducible have hx1 := Nat.lt_of_succ_le hy1) | skip
    first | (with_reducible have hv1 := Nat.lt_of_succ_lt hx1) | skip
    first | (with_reducible have hu1 := Nat.lt_of_succ_lt hv1) | skip
    first | (have hz1 : w.heap.size < w1.heap.size := by omega) | (have hz1 := hB1.size)
    clear hb1
    go_wp2_with fail
    refine bodyPost_ret (v := .tuple #[.agg #[.int .i64 0, .int .i64 0, .int .i64 0, .int .i64 0], .bool false]) (by simp [results, Try.results23, go_sem, *] <;> rfl) rfl ⟨rfl, by go_grown⟩
theorem walkCP (a b c p q r s : Int) (v : Bool) (w : World)
    (hs : ∀ w, Calls Try.prog 22 #[.agg #[.int .i64 a, .int .i64 b, .int .i64 c]] w fun e w' => e = .returned (.tuple #[.agg #[.int .i64 p, .int .i64 q, .int .i64 r, .int .i64 s], .bool v]) ∧ Below w.heap.size w w')
    (hi : ∀ w, Calls Try.prog 23 #[.agg #[.int .i64 a, .int .i64 b, .int .i64 c]] w fun e w' => e = .returned (.tuple #[.agg #[.int .i64 p, .int .i64 q, .int .i64 r, .int .i64 s], .bool v]) ∧ Below w.heap.size w w') :
    Calls Try.prog 5 #[.agg #[.int .i64 a, .int .i64 b, .int .i64 c]] w fun e w' => e = .returned (.bool true) ∧ Below w.heap.size w w' := by
  have Hs := Lib.hid hs
  clear hs
  have Hi := Lib.hid hi
  clear hi
  go_enter Try.func5, Try.ntmps5
  go_wp2_with fail
  refine (laws_toForm a b c _).mono ?_
  rintro e w1 ⟨rfl, hb1⟩
  have hB1 : Below w.heap.size w w1 := Below.after (by go_grown) hb1
  obtain ⟨hc1, hf1⟩ := bcell hb1
  have hy1 := hb1.size
  try simp at hy1
  first | (with_reducible have hx1 := Nat.lt_of_succ_le hy1) | skip
  first | (with_reducible have hv1 := Nat.lt_of_succ_lt hx1) | skip
  first | (with_reducible have hu1 := Nat.lt_of_succ_lt hv1) | skip
  first | (have hz1 : w.heap.size < w1.heap.size := by omega) | (have hz1 := hB1.size)
  clear hb1
  go_wp2_with fail
  refine (Hs.out _).mono ?_
  rintro e w2 ⟨rfl, hb2⟩
  have hB2 : Below w.heap.size w w2 := Below.after (by go_grown) hb2
  obtain ⟨hc2, hf2⟩ := bcell hb2
  have hy2 := hb2.size
  try simp at hy2
  first | (with_reducible have hx2 := Nat.lt_of_succ_le hy2) | skip
  first | (with_reducible have hv2 := Nat.lt_of_succ_lt hx2) | skip
  first | (with_reducible have hu2 := Nat.lt_of_succ_lt hv2) | skip
  first | (have hz2 : w.heap.size < w2.heap.size := by omega) | (have hz2 := hB2.size)
  first | (have hq2 : w1.heap.size ≤ w2.heap.size := by omega) | skip
  first | (have hx1_2 := Nat.lt_of_lt_of_le hx1 hq2) | skip
  first | (have hv1_2 := Nat.lt_of_lt_of_le hv1 hq2) | skip
  first | (have hu1_2 := Nat.lt_of_lt_of_le hu1 hq2) | skip
  clear hb2
  go_wp2_with fail
  refine (laws_toForm a b c _).mono ?_
  rintro e w3 ⟨rfl, hb3⟩
  have hB3 : Below w.heap.size w w3 := Below.after (by go_grown) hb3
  obtain ⟨hc3, hf3⟩ := bcell hb3
  have hy3 := hb3.size
  try simp at hy3
  first | (with_reducible have hx3 := Nat.lt_of_succ_le hy3) | skip
  first | (with_reducible have hv3 := Nat.lt_of_succ_lt hx3) | skip
  first | (with_reducible have hu3 := Nat.lt_of_succ_lt hv3) | skip
  first | (have hz3 : w.heap.size < w3.heap.size := by omega) | (have hz3 := hB3.size)
  first | (have hq3 : w2.heap.size ≤ w3.heap.size := by omega) | skip
  first | (have hx1_3 := Nat.lt_of_lt_of_le hx1_2 hq3) | skip
  first | (have hv1_3 := Nat.lt_of_lt_of_le hv1_2 hq3) | skip
  first | (have hu1_3 := Nat.lt_of_lt_of_le hu1_2 hq3) | skip
  first | (have hx2_3 := Nat.lt_of_lt_of_le hx2 hq3) | skip
  first | (have hv2_3 := Nat.lt_of_lt_of_le hv2 hq3) | skip
  first | (have hu2_3 := Nat.lt_of_lt_of_le hu2 hq3) | skip
  clear hb3
  go_wp2_with fail
  refine (Hi.out _).mono ?_
  rintro e w4 ⟨rfl, hb4⟩
  have hB4 : Below w.heap.size w w4 := Below.after (by go_grown) hb4
  obtain ⟨hc4, hf4⟩ := bcell hb4
  have hy4 := hb4.size
  try simp at hy4
  first | (with_reducible have hx4 := Nat.lt_of_succ_le hy4) | skip
  first | (with_reducible have hv4 := Nat.lt_of_succ_lt hx4) | skip
  first | (with_reducible have hu4 := Nat.lt_of_succ_lt hv4) | skip
  first | (have hz4 : w.heap.size < w4.heap.size := by omega) | (have hz4 := hB4.size)
  first | (have hq4 : w3.heap.size ≤ w4.heap.size := by omega) | skip
  first | (have hx1_4 := Nat.lt_of_lt_of_le hx1_3 hq4) | skip
  first | (have hv1_4 := Nat.lt_of_lt_of_le hv1_3 hq4) | skip
  first | (have hu1_4 := Nat.lt_of_lt_of_le hu1_3 hq4) | skip
  first | (have hx2_4 := Nat.lt_of_lt_of_le hx2_3 hq4) | skip
  first | (have hv2_4 := Nat.lt_of_lt_of_le hv2_3 hq4) | skip
  first | (have hu2_4 := Nat.lt_of_lt_of_le hu2_3 hq4) | skip
  first | (have hx3_4 := Nat.lt_of_lt_of_le hx3 hq4) | skip
  first | (have hv3_4 := Nat.lt_of_lt_of_le hv3 hq4) | skip
  first | (have hu3_4 := Nat.lt_of_lt_of_le hu3 hq4) | skip
  clear hb4
  go_wp2_with fail
  refine (laws_eqMatrix p q r s _).mono ?_
  rintro e w5 ⟨rfl, hb5⟩
  have hB5 : Below w.heap.size w w5 := Below.after (by go_grown) hb5
  obtain ⟨hc5, hf5⟩ := bcell hb5
  have hy5 := hb5.size
  try simp at hy5
  first | (with_reducible have hx5 := Nat.lt_of_succ_le hy5) | skip
  first | (with_reducible have hv5 := Nat.lt_of_succ_lt hx5) | skip
  first | (with_reducible have hu5 := Nat.lt_of_succ_lt hv5) | skip
  first | (have hz5 : w.heap.size < w5.heap.size := by omega) | (have hz5 := hB5.size)
  first | (have hq5 : w4.heap.size ≤ w5.heap.size := by omega) | skip
  first | (have hx1_5 := Nat.lt_of_lt_of_le hx1_4 hq5) | skip
  first | (have hv1_5 := Nat.lt_of_lt_of_le hv1_4 hq5) | skip
  first | (have hu1_5 := Nat.lt_of_lt_of_le hu1_4 hq5) | skip
  first | (have hx2_5 := Nat.lt_of_lt_of_le hx2_4 hq5) | skip
  first | (have hv2_5 := Nat.lt_of_lt_of_le hv2_4 hq5) | skip
  first | (have hu2_5 := Nat.lt_of_lt_of_le hu2_4 hq5) | skip
  first | (have hx3_5 := Nat.lt_of_lt_of_le hx3_4 hq5) | skip
  first | (have hv3_5 := Nat.lt_of_lt_of_le hv3_4 hq5) | skip
  first | (have hu3_5 := Nat.lt_of_lt_of_le hu3_4 hq5) | skip
  first | (have hx4_5 := Nat.lt_of_lt_of_le hx4 hq5) | skip
  first | (have hv4_5 := Nat.lt_of_lt_of_le hv4 hq5) | skip
  first | (have hu4_5 := Nat.lt_of_lt_of_le hu4 hq5) | skip
  clear hb5
  go_wp2_with fail
  all_goals (try go_ret)
  all_goals exact ⟨rfl, by go_grown⟩
theorem walkCycleProduct (a b c : Int) (w : World) (wa : (Lit.int .i64 a).wf = true) (wb : (Lit.int .i64 b).wf = true) (wc : (Lit.int .i64 c).wf = true) :
    Calls Try.prog 5 #[.agg #[.int .i64 a, .int .i64 b, .int .i64 c]] w fun e w' => e = .returned (.bool true) ∧ Below w.heap.size w w' := by
  cases h : (indefB a b c && cycB a b c) with
  | true =>
    have h1 : indefB a b c = true ∧ cycB a b c = true := by simpa using h
    have hcy : Cy (disc a b c) ⟨a, b, c⟩ := ⟨⟨h1.1, rfl⟩, h1.2⟩
    obtain ⟨p, hp⟩ := per_ex hcy
    obtain ⟨n, rfl⟩ : ∃ n, p = n + 1 := ⟨p - 1, by have := hp.1; omega⟩
    obtain ⟨o, ho⟩ := round_total ⟨a, b, c⟩ n ⟨a, b, c⟩ oneM hp.2.2.1
    rcases hv : rndV o with ⟨⟨p, q, r, s⟩, v⟩
    exact walkCP a b c p q r s v w (fun w => spec_CycleProduct_yes a b c o p q r s v w h1.1 h1.2 ho hv n hp.2.2.1) (fun w => impl_CycleProduct_yes a b c o p q r s v w h1.1 h1.2 ho hv n hp.2.2.1)
  | false => exact walkCP a b c 0 0 0 0 false w (fun w => spec_CycleProduct_no a b c w h) (fun w => impl_CycleProduct_no a b c w h)
end Go.Proofs.Ytpfbapekameibaa
