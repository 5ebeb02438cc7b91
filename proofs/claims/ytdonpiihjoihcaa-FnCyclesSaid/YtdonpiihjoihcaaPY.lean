/- Contracts: the fundamental solution out of the cycle of the principal form. -/
import Derived.Test.YtdonpiihjoihcaaPX
import Derived.Test.YtdonpiihjoihcaaPO
import Derived.Test.YtdonpiihjoihcaaCN
namespace Go.Proofs.Ytdonpiihjoihcaa
set_option linter.unusedVariables false
open Go.ChangeShapes Go.WideShapes Go.ChangeAt Go.RowKit

theorem spec_small (t u : Int) (v : Bool) (w : World) (hv : smB t u = v) :
    Calls Try.prog 120 #[.agg #[.int .i64 t, .int .i64 u]] w fun e w' => e = .returned (.bool v) ∧ Below w.heap.size w w' := by
  cases v with
  | true => exact spec_unSmall t u true w (smB_iff.1 hv).1 (smB_iff.1 hv).2
  | false =>
    rcases smB_no hv with h | ⟨h, h'⟩
    · exact spec_unSmall_no t u w h
    · exact spec_unSmall t u false w h h'
theorem impl_small (t u : Int) (v : Bool) (w : World) (ht : -1000000000000000000 ≤ t ∧ t ≤ 1000000000000000000) (hv : smB t u = v) :
    Calls Try.prog 125 #[.agg #[.int .i64 t, .int .i64 u]] w fun e w' => e = .returned (.bool v) ∧ Below w.heap.size w w' := by
  by_cases h : -100000000 ≤ t ∧ t ≤ 100000000
  · refine impl_isSmall t u v w h ?_
    rw [← hv]
    cases hg : good u with
    | true => exact (smB_iff.2 ⟨h, hg⟩).symm
    | false =>
      cases hs : smB t u with
      | false => rfl
      | true => rw [(smB_iff.1 hs).2] at hg; cases hg
  · obtain rfl : v = false := by
      rw [← hv]
      cases hs : smB t u with
      | false => rfl
      | true => exact absurd (smB_iff.1 hs).1 h
    clear hv
    have hta : (100000000 : Int) < t.natAbs := by omega
    obtain ⟨ht1, ht2⟩ := ht
    clear h
    go_enter Try.func125, Try.ntmps125
    go_wp2_with fail
    refine (impl_abs t _ (by omega) (by omega)).mono ?_
    rintro e w' ⟨rfl, rfl⟩
    go_wp2_with fail
    go_ret
    exact ⟨rfl, by go_grown⟩
theorem pfC_eq {d : Int} (h : posD d = true) : pfC d = (d % 2 - d) / 4 := by
  obtain ⟨h1, h2, h3, h4⟩ := posD_iff.1 h
  unfold pfC
  obtain ⟨k, hk⟩ : ∃ k, d % 2 - d = 4 * k := ⟨(d % 2 - d) / 4, by omega⟩
  rw [hk, Int.mul_tdiv_cancel_left _ (by omega), Int.mul_ediv_cancel_left _ (by omega)]
/-- what the function hands back: the least solution, or false beside whatever -/
def FourE (t u : Int) (v : Bool) (e : Ending) : Prop := ∃ x y, e = .returned (.tuple #[.agg #[.int .i64 x, .int .i64 y], .bool v]) ∧ (v = true → x = t ∧ y = u)
/-- at the head of the loop -/
def UfAt (w : World) (A B : Nat) (d : Int) (f : Fm) (o : Option Mx) (k : Nat) (s7 : Value) (wr : World) : Prop :=
  ∃ (g : Fm) (m : Mx) (C n : Nat), s7 = .pointer (some ⟨C, 0, none⟩) ∧ n < k ∧ it (n + 1) g = f ∧ Cy d g ∧ bigM m = false ∧ Four f g m o ∧ Below w.heap.size w wr ∧ w.heap.size < A ∧ A < B ∧ w.heap.size < C ∧ B ≠ C ∧ A ≠ C ∧
    Holds wr w.heap.size #[.int .i64 0, .int .i64 0] 55 ∧ Holds wr A (cF f) 28 ∧ Holds wr B (cM m) 30 ∧ Holds wr C (cF g) 28
set_option maxHeartbeats 2000000 in
set_option maxRecDepth 100000 in
theorem spec_unFour (d t u : Int) (v : Bool) (w : World) (h : posD d = true) (hp : PellOut d t u v) :
    Calls Try.prog 81 #[.int .i64 d] w fun e w' => FourE t u v e ∧ Below w.heap.size w w' := by
  obtain ⟨⟨fa, fb, fc⟩, ⟨kp, kq, kr, ks⟩, mm, bb, hred, hfour, hsol, hmin, hbig⟩ := pell_cycle h
  have hO := fourO_of h hp hsol hmin hbig
  generalize (if bb = true then none else some mm) = o at hfour hO
  have hcy : Cy d ⟨fa, fb, fc⟩ := (red_spec hred (pfF_in h) (by decide) detM_one _ _ rfl).1
  obtain ⟨p, hper⟩ := per_ex hcy
  obtain ⟨np, rfl⟩ : ∃ n, p = n + 1 := ⟨p - 1, by have := hper.1; omega⟩
  have hpin : indefB 1 (d % 2) (pfC d) = true := by have := (pfF_in h).1; unfold pfF at this; rw [pfC_eq h]; exact this
  have hred' : Red ⟨1, d % 2, pfC d⟩ oneM (some (⟨fa, fb, fc⟩, ⟨kp, kq, kr, ks⟩)) := by rw [pfC_eq h]; exact hred
  have HO := Lib.hid hO
  have Hfour := Lib.hid hfour
  have Hcy := Lib.hid hcy
  have Hit := Lib.hid hper.2.2.1
  have Hpin := Lib.hid hpin
  have Hred := Lib.hid hred'
  have Hd := Lib.hid (posD_discB h)
  have Hdp := Lib.hid h
  clear hO hfour hsol hmin hbig hcy hper hpin hred hred' hp h
  go_enter Try.func81, Try.ntmps81
  go_wp2_with fail
  refine (spec_PrincipalForm_yes d _ Hd.out).mono ?_
  rintro e w0 ⟨rfl, hb0⟩
  have hB0 : Below w.heap.size w w0 := Below.after (by go_grown) hb0
  have a1 : Holds w0 w.heap.size #[.int .i64 0, .int .i64 0] 55 := Holds.below (by repeat (first | (refine Holds.new' _ _ _ ?_; simp; done) | refine Holds.alloc ?_ _ | refine Holds.far ?_ (by first | omega | (simp; done) | (simp; omega)))) hb0
  have hz0 := a1.lt
  clear hb0
  go_wp2_with fail
  refine (spec_cyReduce 1 (d % 2) (pfC d) _ fa fb fc kp kq kr ks true _ Hpin.out Hred.out rfl).mono ?_
  rintro e w1 ⟨rfl, hb1⟩
  have hB1 : Below w.heap.size w w1 := Below.after (by go_grown) hb1
  have b1 : Holds w1 w.heap.size #[.int .i64 0, .int .i64 0] 55 := Holds.below (Holds.alloc a1 _) hb1
  have b4 : Holds w1 w0.heap.size (cF ⟨1, d % 2, pfC d⟩) 28 := Holds.below (Holds.new w0 _ _) hb1
  have hz1 := b4.lt
  clear hb1 hB0 a1
  have y0 : w1.cell? ⟨w0.heap.size, 0, none⟩ = some (.int .i64 1) := Holds.cell b4 rfl
  have y1 : w1.cell? ⟨w0.heap.size, 1, none⟩ = some (.int .i64 (d % 2)) := Holds.cell b4 rfl
  have y2 : w1.cell? ⟨w0.heap.size, 2, none⟩ = some (.int .i64 (pfC d)) := Holds.cell b4 rfl
  have yf0 : w1.frozen? ⟨w0.heap.size, 0, none⟩ = false := Holds.free b4
  have yf1 : w1.frozen? ⟨w0.heap.size, 1, none⟩ = false := Holds.free b4
  have yf2 : w1.frozen? ⟨w0.heap.size, 2, none⟩ = false := Holds.free b4
  have Hb1 := Lib.hid b1
  have Hb4 := Lib.hid b4
  clear b1 b4
  go_wp2_with fail
  go_loopg [7] (np + 1) (fun k s7 wr => UfAt w w0.heap.size w1.heap.size d ⟨fa, fb, fc⟩ o k s7 wr)
  case atStart =>
    refine ⟨⟨fa, fb, fc⟩, oneM, _, np, rfl, by omega, Hit.out, Hcy.out, by decide, Hfour.out, by go_grown, by omega, by omega, by (first | omega | (simp; omega)), by (first | omega | (simp; done)), by (first | omega | (simp; omega)), ?_, ?_, ?_, ?_⟩
    · exact ((((Hb1.out.far (by omega)).far (by omega)).far (by omega)).alloc _).alloc _
    · exact ((Holds.set3 Hb4.out).alloc _).alloc _
    · repeat (first | (refine Holds.new' _ _ _ ?_; simp; done) | refine Holds.alloc ?_ _ | refine Holds.far ?_ (by first | omega | (simp; done) | (simp; omega)))
    · repeat (first | (refine Holds.new' _ _ _ ?_; simp; done) | refine Holds.alloc ?_ _ | refine Holds.far ?_ (by first | omega | (simp; done) | (simp; omega)))
  case round =>
    obtain ⟨g, m, C, n, rfl, hk, hit, hg, hgm, hr, hB0, hA, hAB, hC, hBC, hAC, h1, h2, h4, h5⟩ := hrel
    clear y0 y1 y2 yf0 yf1 yf2 Hb1 Hb4 hB1
    obtain ⟨ga, gb, gc⟩ := g
    obtain ⟨mp, mq, mr, ms⟩ := m
    have Hg := Lib.hid hg
    have Hr := Lib.hid hr
    have Hit := Lib.hid hit
    obtain ⟨⟨p1, p2⟩, ⟨q1, q2⟩, ⟨r1, r2⟩, ⟨s1, s2⟩⟩ := bigM_iff.1 hgm
    clear hg hgm hr hit
    have hzB := h4.lt
    have hzC := h5.lt
    have y0 : wr.cell? ⟨C, 0, none⟩ = some (.int .i64 ga) := Holds.cell h5 rfl
    have y1 : wr.cell? ⟨C, 1, none⟩ = some (.int .i64 gb) := Holds.cell h5 rfl
    have y2 : wr.cell? ⟨C, 2, none⟩ = some (.int .i64 gc) := Holds.cell h5 rfl
    have yf0 : wr.frozen? ⟨C, 0, none⟩ = false := Holds.free h5
    have yf1 : wr.frozen? ⟨C, 1, none⟩ = false := Holds.free h5
    have yf2 : wr.frozen? ⟨C, 2, none⟩ = false := Holds.free h5
    go_wp2_with fail
    refine (spec_cyMove ga gb gc _ Hg.out.1.1).mono ?_
    rintro e w2 ⟨rfl, hb2⟩
    have hB2 : Below w.heap.size w w2 := Below.after (by go_grown) hb2
    clear y0 y1 y2 yf0 yf1 yf2
    have g1 := Holds.below h1 hb2
    have g2 := Holds.below h2 hb2
    have g4 := Holds.below h4 hb2
    have g5 := Holds.below h5 hb2
    clear hb2 hB0 h1 h2 h4 h5
    have hz2 : C < w2.heap.size := g5.lt
    have hz2' : w1.heap.size < w2.heap.size := g4.lt
    go_wp2_with fail
    refine region_named (fun W hW => ?_)
    have hB3 : Below w.heap.size w W := by rw [hW]; go_grown
    have i1 : Holds W w.heap.size #[.int .i64 0, .int .i64 0] 55 := by rw [hW]; exact g1.alloc _
    have i2 : Holds W w0.heap.size (cF ⟨fa, fb, fc⟩) 28 := by rw [hW]; exact g2.alloc _
    have i4 : Holds W w1.heap.size (cM ⟨mp, mq, mr, ms⟩) 30 := by rw [hW]; exact g4.alloc _
    have i5 : Holds W C (cF ⟨ga, gb, gc⟩) 28 := by rw [hW]; exact g5.alloc _
    have i6 : Holds W w2.heap.size (cM (stp ⟨ga, gb, gc⟩)) 30 := by rw [hW]; repeat (first | (refine Holds.new' _ _ _ ?_; simp; done) | refine Holds.alloc ?_ _ | refine Holds.far ?_ (by first | omega | (simp; done) | (simp; omega)))
    clear hW g1 g2 g4 g5
    have y0 := AftX.cell (j := 0) (v := .int .i64 ga) i5 rfl
    have y1 := AftX.cell (j := 1) (v := .int .i64 gb) i5 rfl
    have y2 := AftX.cell (j := 2) (v := .int .i64 gc) i5 rfl
    have yf0 := AftX.free (j := 0) i5
    have yf1 := AftX.free (j := 1) i5
    have yf2 := AftX.free (j := 2) i5
    have t0 := AftX.cell (j := 0) (v := .int .i64 mp) i4 rfl
    have t1 := AftX.cell (j := 1) (v := .int .i64 mq) i4 rfl
    have t2 := AftX.cell (j := 2) (v := .int .i64 mr) i4 rfl
    have t3 := AftX.cell (j := 3) (v := .int .i64 ms) i4 rfl
    have tf0 := AftX.free (j := 0) i4
    have tf1 := AftX.free (j := 1) i4
    have tf2 := AftX.free (j := 2) i4
    have tf3 := AftX.free (j := 3) i4
    have v0 := AftX.cell (j := 0) (v := .int .i64 0) i6 rfl
    have v1 := AftX.cell (j := 1) (v := .int .i64 (-1)) i6 rfl
    have v2 := AftX.cell (j := 2) (v := .int .i64 1) i6 rfl
    have v3 := AftX.cell (j := 3) (v := .int .i64 (nS ga gb gc)) i6 rfl
    have hs4 := i4.lt
    have hs5 := i5.lt
    have hs6 := i6.lt
    have hn1 : ¬ w1.heap.size = C := hBC
    have hn2 : ¬ w2.heap.size = C := by omega
    refine region_flow2 6 C 28 (cF (nx ⟨ga, gb, gc⟩)) 7 w1.heap.size 30 (cM (mulM ⟨mp, mq, mr, ms⟩ (stp ⟨ga, gb, gc⟩))) (by kernel_rfl) (by kernel_rfl) hs5 hs4 (by omega) (by decide) ?_
    refine wpFlow_step (([] : List Nat)) (by kernel_rfl) (by kernel_rfl) (fun K hK => ?_)
    go_simp
    (refine hK _ ?_; clear hK K)
    refine wpFlow_step (([] : List Nat)) (by kernel_rfl) (by kernel_rfl) (fun K hK => ?_)
    go_simp
    (refine hK _ ?_; clear hK K)
    refine wpFlow_step (([] : List Nat)) (by kernel_rfl) (by kernel_rfl) (fun K hK => ?_)
    go_simp
    apply Exists.intro
    refine ⟨fun _ => ?_, hK _ ?_⟩
    · exact spec_foAct_nx ga gb gc _ Hg.out.1.1
    clear hK K
    refine wpFlow_step ([C]) (by kernel_rfl) (by kernel_rfl) (fun K hK => ?_)
    go_simp
    (refine hK _ ?_; clear hK K)
    refine wpFlow_step ([C]) (by kernel_rfl) (by kernel_rfl) (fun K hK => ?_)
    go_simp
    (refine hK _ ?_; clear hK K)
    refine wpFlow_step (([] : List Nat)) (by kernel_rfl) (by kernel_rfl) (fun K hK => ?_)
    go_simp
    apply Exists.intro
    refine ⟨fun _ => ?_, hK _ ?_⟩
    · exact spec_foMul9 _ _ _ _ _ _ _ _ _ ⟨p1, p2⟩ ⟨q1, q2⟩ ⟨r1, r2⟩ ⟨s1, s2⟩ (nx_mgood Hg.out.1.1)
    clear hK K
    refine wpFlow_store (([] : List Nat)) (6, C, 28, cF (nx ⟨ga, gb, gc⟩)) (by kernel_rfl) (by kernel_rfl) rfl (fun x => ?_) ?_
    · refine ⟨_, ?_, Holds.set3 (x.holds i5 (by simp <;> omega)), BelowX.run3⟩
      go_simp
      try rfl
    refine wpFlow_store ([C]) (7, w1.heap.size, 30, cM (mulM ⟨mp, mq, mr, ms⟩ (stp ⟨ga, gb, gc⟩))) (by kernel_rfl) (by kernel_rfl) rfl (fun x => ?_) ?_
    · refine ⟨_, ?_, Holds.set4 (x.holds i4 (by simp <;> omega)), BelowX.run4⟩
      go_simp
      try rfl
    refine wpFlow_nil ?_
    intro w3 hb3 j5 j4
    have j1 := i1.belowX hb3 (by simp <;> omega)
    have j2 := i2.belowX hb3 (by simp <;> omega)
    have hB3' : Below w.heap.size w w3 := hb3.below hB3 (by omega) (by simp <;> omega)
    clear hb3 hB3 i1 i2 i4 i5 i6 y0 y1 y2 yf0 yf1 yf2 t0 t1 t2 t3 tf0 tf1 tf2 tf3 v0 v1 v2 v3 hs4 hs5 hs6 hn1 hn2
    have t0 : w3.cell? ⟨w1.heap.size, 0, none⟩ = some (.int .i64 (m1 mp mq mr ms 0 (-1) 1 (nS ga gb gc))) := Holds.cell j4 rfl
    have t1 : w3.cell? ⟨w1.heap.size, 1, none⟩ = some (.int .i64 (m2 mp mq mr ms 0 (-1) 1 (nS ga gb gc))) := Holds.cell j4 rfl
    have t2 : w3.cell? ⟨w1.heap.size, 2, none⟩ = some (.int .i64 (m3 mp mq mr ms 0 (-1) 1 (nS ga gb gc))) := Holds.cell j4 rfl
    have t3 : w3.cell? ⟨w1.heap.size, 3, none⟩ = some (.int .i64 (m4 mp mq mr ms 0 (-1) 1 (nS ga gb gc))) := Holds.cell j4 rfl
    have tf0 : w3.frozen? ⟨w1.heap.size, 0, none⟩ = false := Holds.free j4
    have tf1 : w3.frozen? ⟨w1.heap.size, 1, none⟩ = false := Holds.free j4
    have tf2 : w3.frozen? ⟨w1.heap.size, 2, none⟩ = false := Holds.free j4
    have tf3 : w3.frozen? ⟨w1.heap.size, 3, none⟩ = false := Holds.free j4
    obtain ⟨b1, b2, b3, b4⟩ := m9_bd ⟨p1, p2⟩ ⟨q1, q2⟩ ⟨r1, r2⟩ ⟨s1, s2⟩ (nx_mgood Hg.out.1.1)
    rcases four_cases Hr.out with ⟨hbg, hn⟩ | ⟨hbg, he, hn⟩ | ⟨hbg, he, hn⟩
    · obtain rfl := HO.out.1 hn
      have hbx := bigM_yes' hbg
      clear hbg hn
      have z0 : w3.cell? ⟨w.heap.size, 0, none⟩ = some (.int .i64 0) := Holds.cell j1 rfl
      have z1 : w3.cell? ⟨w.heap.size, 1, none⟩ = some (.int .i64 0) := Holds.cell j1 rfl
      have zf0 : w3.frozen? ⟨w.heap.size, 0, none⟩ = false := Holds.free j1
      have zf1 : w3.frozen? ⟨w.heap.size, 1, none⟩ = false := Holds.free j1
      rcases hbx with e1 | ⟨e1, e2⟩ | ⟨e1, e2, e3⟩ | ⟨e1, e2, e3, e4⟩
      all_goals
        go_wp2_with (go_at_call 62; refine (spec_l1Abs _ _ (by omega) (by omega)).mono ?_; rintro e w' ⟨rfl, rfl⟩)
        refine bodyPost_ret (v := .tuple #[.agg #[.int .i64 0, .int .i64 0], .bool false]) (by simp [results, Try.results81, go_sem, *] <;> rfl) rfl ⟨⟨0, 0, rfl, fun h => by cases h⟩, by go_grown⟩
    all_goals
      obtain ⟨n1, n2, n3, n4⟩ := bigM_no' hbg
      have Hgd := Lib.hid hbg
      have Hn := Lib.hid hn
      have He := Lib.hid he
      clear hbg hn he
      have y0 : w3.cell? ⟨C, 0, none⟩ = some (.int .i64 gc) := Holds.cell j5 rfl
      have y1 : w3.cell? ⟨C, 1, none⟩ = some (.int .i64 (nB ga gb gc)) := Holds.cell j5 rfl
      have y2 : w3.cell? ⟨C, 2, none⟩ = some (.int .i64 (nC ga gb gc)) := Holds.cell j5 rfl
      have yf0 : w3.frozen? ⟨C, 0, none⟩ = false := Holds.free j5
      have yf1 : w3.frozen? ⟨C, 1, none⟩ = false := Holds.free j5
      have yf2 : w3.frozen? ⟨C, 2, none⟩ = false := Holds.free j5
      have x0 : w3.cell? ⟨w0.heap.size, 0, none⟩ = some (.int .i64 fa) := Holds.cell j2 rfl
      have x1 : w3.cell? ⟨w0.heap.size, 1, none⟩ = some (.int .i64 fb) := Holds.cell j2 rfl
      have x2 : w3.cell? ⟨w0.heap.size, 2, none⟩ = some (.int .i64 fc) := Holds.cell j2 rfl
      have xf0 : w3.frozen? ⟨w0.heap.size, 0, none⟩ = false := Holds.free j2
      have xf1 : w3.frozen? ⟨w0.heap.size, 1, none⟩ = false := Holds.free j2
      have xf2 : w3.frozen? ⟨w0.heap.size, 2, none⟩ = false := Holds.free j2
    · obtain ⟨e1, e2, e3⟩ := fm_eq He.out
      go_wp2_with (go_at_call 62; refine (spec_l1Abs _ _ (by omega) (by omega)).mono ?_; rintro e w' ⟨rfl, rfl⟩)
      have hz4 := j4.lt
      have hz2b := j2.lt
      have hfa : ¬ fa = 0 := (indef_ne Hcy.out.1.1).1
      have l1 := tdiv_bd (a := fa) n3
      have hs : IntKind.i64.wrap (m1 mp mq mr ms 0 (-1) 1 (nS ga gb gc) + m4 mp mq mr ms 0 (-1) 1 (nS ga gb gc)) = m1 mp mq mr ms 0 (-1) 1 (nS ga gb gc) + m4 mp mq mr ms 0 (-1) 1 (nS ga gb gc) := IntWalk.i64_in _ (by omega)
      have hq : IntKind.i64.wrap ((m3 mp mq mr ms 0 (-1) 1 (nS ga gb gc)).tdiv fa) = (m3 mp mq mr ms 0 (-1) 1 (nS ga gb gc)).tdiv fa := IntWalk.i64_in _ (by omega)
      have k0 : ∀ x' : Aft w3, x'.w.cell? ⟨w1.heap.size, 0, none⟩ = some (.int .i64 (m1 mp mq mr ms 0 (-1) 1 (nS ga gb gc))) := fun x' => x'.cell hz4 t0
      have k2 : ∀ x' : Aft w3, x'.w.cell? ⟨w1.heap.size, 2, none⟩ = some (.int .i64 (m3 mp mq mr ms 0 (-1) 1 (nS ga gb gc))) := fun x' => x'.cell hz4 t2
      have k3 : ∀ x' : Aft w3, x'.w.cell? ⟨w1.heap.size, 3, none⟩ = some (.int .i64 (m4 mp mq mr ms 0 (-1) 1 (nS ga gb gc))) := fun x' => x'.cell hz4 t3
      have kx : ∀ x' : Aft w3, x'.w.cell? ⟨w0.heap.size, 0, none⟩ = some (.int .i64 fa) := fun x' => x'.cell hz2b x0
      have c1 : ∀ x' : Aft w3, Calls Try.prog 62 #[.int .i64 (m1 mp mq mr ms 0 (-1) 1 (nS ga gb gc) + m4 mp mq mr ms 0 (-1) 1 (nS ga gb gc))] x'.w fun e w' => e = .returned (.int .i64 (ab (m1 mp mq mr ms 0 (-1) 1 (nS ga gb gc) + m4 mp mq mr ms 0 (-1) 1 (nS ga gb gc)))) ∧ Below x'.w.heap.size x'.w w' := fun x' => (spec_l1Abs _ _ (by omega) (by omega)).mono fun _ _ ⟨h1, h2⟩ => ⟨h1, h2 ▸ Below.refl _ _⟩
      have c2 : ∀ x' : Aft w3, Calls Try.prog 62 #[.int .i64 ((m3 mp mq mr ms 0 (-1) 1 (nS ga gb gc)).tdiv fa)] x'.w fun e w' => e = .returned (.int .i64 (ab ((m3 mp mq mr ms 0 (-1) 1 (nS ga gb gc)).tdiv fa))) ∧ Below x'.w.heap.size x'.w w' := fun x' => (spec_l1Abs _ _ (by omega) (by omega)).mono fun _ _ ⟨h1, h2⟩ => ⟨h1, h2 ▸ Below.refl _ _⟩
      have hO := HO.out.2 _ Hn.out
      have HOO := Lib.hid (show smB (ab (m1 mp mq mr ms 0 (-1) 1 (nS ga gb gc) + m4 mp mq mr ms 0 (-1) 1 (nS ga gb gc))) (ab ((m3 mp mq mr ms 0 (-1) 1 (nS ga gb gc)).tdiv fa)) = v ∧ (v = true → ab (m1 mp mq mr ms 0 (-1) 1 (nS ga gb gc) + m4 mp mq mr ms 0 (-1) 1 (nS ga gb gc)) = t ∧ ab ((m3 mp mq mr ms 0 (-1) 1 (nS ga gb gc)).tdiv fa) = u) from hO)
      have C1 := Lib.hid c1
      have C2 := Lib.hid c2
      have J1 := Lib.hid j1
      clear c1 c2 hO j1 j2 j4 j5 y0 y1 y2 yf0 yf1 yf2 x0 x1 x2 xf0 xf1 xf2 t0 t1 t2 t3 tf0 tf1 tf2 tf3 e1 e2 e3
      refine region_aft_alloc 13 _ 55 #[.int .i64 0, .int .i64 0] (by kernel_rfl) (by kernel_rfl) rfl (fun a w => by kernel_rfl) ?_
      simp only [List.take_succ_cons, List.take_zero, List.drop_succ_cons, List.drop_zero]
      refine wpMild_step (fun K hK => ?_)
      go_simp
      (refine hK _ ?_; clear hK K)
      refine wpMild_step (fun K hK => ?_)
      go_simp
      (refine hK _ ?_; clear hK K)
      refine wpMild_step (fun K hK => ?_)
      go_simp
      (refine hK _ ?_; clear hK K)
      refine wpMild_step (fun K hK => ?_)
      go_simp
      (refine hK _ ?_; clear hK K)
      refine wpMild_step (fun K hK => ?_)
      go_simp
      (refine hK _ ?_; clear hK K)
      refine wpMild_step (fun K hK => ?_)
      go_simp
      apply Exists.intro
      refine ⟨fun _ => ?_, hK _ ?_⟩
      · exact C1.out _
      clear hK K
      refine wpMild_step (fun K hK => ?_)
      go_simp
      (refine hK _ ?_; clear hK K)
      refine wpMild_step (fun K hK => ?_)
      go_simp
      (refine hK _ ?_; clear hK K)
      refine wpMild_step (fun K hK => ?_)
      go_simp
      (refine hK _ ?_; clear hK K)
      refine wpMild_step (fun K hK => ?_)
      go_simp
      (refine hK _ ?_; clear hK K)
      refine wpMild_step (fun K hK => ?_)
      go_simp
      (refine hK _ ?_; clear hK K)
      refine wpMild_step (fun K hK => ?_)
      go_simp
      apply Exists.intro
      refine ⟨fun _ => ?_, hK _ ?_⟩
      · exact C2.out _
      clear hK K
      refine wpMild_step (fun K hK => ?_)
      go_simp
      (refine hK _ ?_; clear hK K)
      refine wpMild_nil ?_
      intro D w4 hD1 hD2 hD3 hb4
      have hB4 : Below w.heap.size w w4 := Below.after hB3' hb4
      have i1 := J1.out.below hb4
      have iD : Holds w4 D #[.int .i64 0, .int .i64 0] 55 := hD3
      have hzz := i1.lt
      have hw3 : w.heap.size < w3.heap.size := J1.out.lt
      clear k0 k2 k3 kx hs hq C1 C2 J1 hD3 hB3'
      generalize ab (m1 mp mq mr ms 0 (-1) 1 (nS ga gb gc) + m4 mp mq mr ms 0 (-1) 1 (nS ga gb gc)) = T at *
      generalize ab ((m3 mp mq mr ms 0 (-1) 1 (nS ga gb gc)).tdiv fa) = U at *
      have z0 : w4.cell? ⟨D, 0, none⟩ = some (.int .i64 0) := Holds.cell iD rfl
      have z1 : w4.cell? ⟨D, 1, none⟩ = some (.int .i64 0) := Holds.cell iD rfl
      have zf0 : w4.frozen? ⟨D, 0, none⟩ = false := Holds.free iD
      have zf1 : w4.frozen? ⟨D, 1, none⟩ = false := Holds.free iD
      go_wp2_with fail
      refine region_named (fun W hW => ?_)
      have hB5 : Below w.heap.size w W := by rw [hW]; go_grown
      have g1 : Holds W w.heap.size #[.int .i64 0, .int .i64 0] 55 := by rw [hW]; exact (i1.far (by omega)).far (by omega)
      have gD : Holds W D #[.int .i64 T, .int .i64 U] 55 := by rw [hW]; exact Holds.set2 iD
      clear z0 z1 zf0 zf1
      clear hW i1 iD hB4 hb4
      have hzD := gD.lt
      have z0 : ∀ x' : Aft W, x'.w.cell? ⟨D, 0, none⟩ = some (.int .i64 T) := fun x' => x'.cell (Holds.lt gD) (Holds.cell gD rfl)
      have z1 : ∀ x' : Aft W, x'.w.cell? ⟨D, 1, none⟩ = some (.int .i64 U) := fun x' => x'.cell (Holds.lt gD) (Holds.cell gD rfl)
      refine region_aft_tail 3 (by kernel_rfl) (by kernel_rfl) ?_
      simp only [List.take_succ_cons, List.take_zero, List.drop_succ_cons, List.drop_zero]
      repeat go_big_quiet_step ((go_at_call 120; exact callsAft (spec_small T U v _ HOO.out.1)))
      refine wpQuiet_nil ?_
      intro w5 hb5
      have hB6 : Below w.heap.size w w5 := Below.after hB5 hb5
      have f1 := g1.below hb5
      clear z0 z1 hb5 hB5
      have z0 : w5.cell? ⟨w.heap.size, 0, none⟩ = some (.int .i64 0) := Holds.cell f1 rfl
      have z1 : w5.cell? ⟨w.heap.size, 1, none⟩ = some (.int .i64 0) := Holds.cell f1 rfl
      have zf0 : w5.frozen? ⟨w.heap.size, 0, none⟩ = false := Holds.free f1
      have zf1 : w5.frozen? ⟨w.heap.size, 1, none⟩ = false := Holds.free f1
      go_wp2_with fail
      refine bodyPost_ret (v := .tuple #[.agg #[.int .i64 T, .int .i64 U], .bool v]) (by simp [results, Try.results81, go_sem, *] <;> rfl) rfl ⟨⟨T, U, rfl, HOO.out.2⟩, by go_grown⟩
    · obtain ⟨n', rfl⟩ : ∃ n', n = n' + 1 := by
        cases n with
        | zero => exact absurd Hit.out He.out
        | succ n' => exact ⟨n', rfl⟩
      have Hk := Lib.hid (And.intro j1 (And.intro j2 (And.intro j4 j5)))
      have hz4 := j5.lt
      have hz4' := j4.lt
      have hz4b := j2.lt
      have hz4c := j1.lt
      clear j1 j2 j4 j5
      rcases fm_ne He.out with e1 | ⟨e1, e2⟩ | ⟨e1, e2, e3⟩
      all_goals
        go_wp2_with (go_at_call 62; refine (spec_l1Abs _ _ (by omega) (by omega)).mono ?_; rintro e w' ⟨rfl, rfl⟩)
        go_roundg (n' + 1)
        case measure => omega
        case rel =>
          obtain ⟨k1, k2, k4, k5⟩ := Hk.out
          refine ⟨nx ⟨ga, gb, gc⟩, mulM ⟨mp, mq, mr, ms⟩ (stp ⟨ga, gb, gc⟩), _, n', rfl, by omega, by rw [← Hit.out, it_add 1 ⟨ga, gb, gc⟩ (n' + 1)]; rfl, cy_nx Hg.out, Hgd.out, Hn.out, by go_grown, by omega, by omega, by omega, by omega, by omega, k1.alloc _, k2.alloc _, k4.alloc _, ?_⟩
          repeat (first | (refine Holds.new' _ _ _ ?_; simp; done) | refine Holds.alloc ?_ _ | refine Holds.far ?_ (by first | omega | (simp; done) | (simp; omega)))
end Go.Proofs.Ytdonpiihjoihcaa
