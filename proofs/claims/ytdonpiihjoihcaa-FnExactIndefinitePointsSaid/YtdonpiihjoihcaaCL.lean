/- Contract and the walk of the law: the program's matrix that leads from one form to another. -/
import Derived.Test.YtdonpiihjoihcaaCK
import Derived.Test.YtdonpiihjoihcaaRL
namespace Go.Proofs.Ytdonpiihjoihcaa
set_option linter.unusedVariables false
open Go.ChangeShapes Go.WideShapes Go.ChangeAt Go.RowKit

set_option maxRecDepth 100000 in
set_option maxHeartbeats 4000000 in
theorem impl_CycleMatrix (a b c x y z p q r s : Int) (v : Bool) (w : World) (h : CMOut a b c x y z p q r s v) :
    Calls Try.prog 69 #[.agg #[.int .i64 a, .int .i64 b, .int .i64 c], .agg #[.int .i64 x, .int .i64 y, .int .i64 z]] w fun e w' => e = .returned (.tuple #[.agg #[.int .i64 p, .int .i64 q, .int .i64 r, .int .i64 s], .bool v]) ∧ Below w.heap.size w w' := by
  obtain ⟨x1, y1, z1, p1, q1, r1, s1, v1, x2, y2, z2, p2, q2, r2, s2, v2, h1, h2, hc⟩ := h
  have H1 := Lib.hid h1
  have H2 := Lib.hid h2
  have Hc := Lib.hid hc
  clear h1 h2 hc
  go_enter Try.func69, Try.ntmps69
  go_wp2_with fail
  refine (impl_ReduceIndefinite a b c x1 y1 z1 p1 q1 r1 s1 v1 _ H1.out).mono ?_
  rintro e w1 ⟨rfl, hb1⟩
  have hB1 : Below w.heap.size w w1 := Below.after (by go_grown) hb1
  have j3 : Holds w1 (w.heap.size + 1) (cF ⟨x, y, z⟩) 28 := Holds.below (by repeat (first | (refine Holds.new' _ _ _ ?_; simp; done) | refine Holds.alloc ?_ _ | refine Holds.far ?_ (by first | omega | (simp; done) | (simp; omega)))) hb1
  have j4 : Holds w1 (w.heap.size + 1 + 1) (cM zM) 30 := Holds.below (by repeat (first | (refine Holds.new' _ _ _ ?_; simp; done) | refine Holds.alloc ?_ _ | refine Holds.far ?_ (by first | omega | (simp; done) | (simp; omega)))) hb1
  clear hb1
  have hz3 := j4.lt
  have hz3a := j3.lt
  have hz3' : w.heap.size < w1.heap.size := by omega
  have cc0 : w1.cell? ⟨w.heap.size + 1, 0, none⟩ = some (.int .i64 x) := Holds.cell j3 rfl
  have cc1 : w1.cell? ⟨w.heap.size + 1, 1, none⟩ = some (.int .i64 y) := Holds.cell j3 rfl
  have cc2 : w1.cell? ⟨w.heap.size + 1, 2, none⟩ = some (.int .i64 z) := Holds.cell j3 rfl
  have ccf0 : w1.frozen? ⟨w.heap.size + 1, 0, none⟩ = false := Holds.free j3
  have ccf1 : w1.frozen? ⟨w.heap.size + 1, 1, none⟩ = false := Holds.free j3
  have ccf2 : w1.frozen? ⟨w.heap.size + 1, 2, none⟩ = false := Holds.free j3
  clear j3
  go_wp2_with fail
  refine (impl_ReduceIndefinite x y z x2 y2 z2 p2 q2 r2 s2 v2 _ H2.out).mono ?_
  rintro e w2 ⟨rfl, hb2⟩
  have hB2 : Below w.heap.size w w2 := Below.after (by go_grown) hb2
  clear cc0 cc1 cc2 ccf0 ccf1 ccf2
  have k4 := Holds.below (Holds.alloc (Holds.alloc j4 _) _) hb2
  have k6 : Holds w2 w1.heap.size (cF ⟨x1, y1, z1⟩) 28 := by
    refine Holds.below (W := (w1.alloc (.cells (cF ⟨x1, y1, z1⟩) 28)).alloc (.cells (cM ⟨p1, q1, r1, s1⟩) 30)) ?_ hb2
    exact (Holds.new w1 _ _).alloc _
  have k7 : Holds w2 (w1.heap.size + 1) (cM ⟨p1, q1, r1, s1⟩) 30 := by
    refine Holds.below (W := (w1.alloc (.cells (cF ⟨x1, y1, z1⟩) 28)).alloc (.cells (cM ⟨p1, q1, r1, s1⟩) 30)) ?_ hb2
    repeat (first | (refine Holds.new' _ _ _ ?_; simp; done) | refine Holds.alloc ?_ _ | refine Holds.far ?_ (by first | omega | (simp; done) | (simp; omega)))
  clear hb2 j4 hB1
  have hz4 := k7.lt
  have K := Lib.hid (And.intro k4 (And.intro k6 k7))
  clear k4 k6 k7
  go_wp2_with fail
  refine region_named (fun W hW => ?_)
  have hB5 : Below w.heap.size w W := by rw [hW]; go_grown
  have i4 : Holds W (w.heap.size + 1 + 1) (cM zM) 30 := by rw [hW]; exact (K.out.1.alloc _).alloc _
  have i6 : Holds W w1.heap.size (cF ⟨x1, y1, z1⟩) 28 := by rw [hW]; exact (K.out.2.1.alloc _).alloc _
  have i7 : Holds W (w1.heap.size + 1) (cM ⟨p1, q1, r1, s1⟩) 30 := by rw [hW]; exact (K.out.2.2.alloc _).alloc _
  have i9 : Holds W w2.heap.size (cF ⟨x2, y2, z2⟩) 28 := by rw [hW]; repeat (first | (refine Holds.new' _ _ _ ?_; simp; done) | refine Holds.alloc ?_ _ | refine Holds.far ?_ (by first | omega | (simp; done) | (simp; omega)))
  have i10 : Holds W (w2.heap.size + 1) (cM ⟨p2, q2, r2, s2⟩) 30 := by rw [hW]; repeat (first | (refine Holds.new' _ _ _ ?_; simp; done) | refine Holds.alloc ?_ _ | refine Holds.far ?_ (by first | omega | (simp; done) | (simp; omega)))
  clear hW K hB2
  rcases Hc.out with ⟨rfl, rfl, hcy, hg1, hg2, hd2, hm, _, k, o, hk, ho, hv⟩ | ⟨rfl, rfl, hcy, hm, hz, rfl⟩ | ⟨hb, hz, rfl⟩
  · have Hcy := Lib.hid hcy
    have Hm := Lib.hid hm
    have Hg := Lib.hid (And.intro hg1 (And.intro hg2 hd2))
    have Hk := Lib.hid hk
    have Ho := Lib.hid ho
    have Hv := Lib.hid hv
    clear hcy hm hg1 hg2 hd2 hk ho hv Hc
    replace i4 := i4.drew
    replace i6 := i6.drew
    replace i7 := i7.drew
    replace i9 := i9.drew
    replace i10 := i10.drew
    replace hB5 := hB5.drew
    go_region_held3 (fun w' => w'.cell? ⟨w1.heap.size, 0, none⟩ = some (.int .i64 x1) ∧ w'.cell? ⟨w1.heap.size, 1, none⟩ = some (.int .i64 y1) ∧ w'.cell? ⟨w1.heap.size, 2, none⟩ = some (.int .i64 z1) ∧
      w'.cell? ⟨w2.heap.size, 0, none⟩ = some (.int .i64 x2) ∧ w'.cell? ⟨w2.heap.size, 1, none⟩ = some (.int .i64 y2) ∧ w'.cell? ⟨w2.heap.size, 2, none⟩ = some (.int .i64 z2)) (exact keep2 i6 i9)
      (first
        | (go_at_call 111; refine (impl_cycle x1 y1 z1 (disc a b c) _ Hcy.out).mono ?_; rintro e wn ⟨u, rfl, hown, hbn⟩; replace i4 := i4.below hbn; replace i6 := i6.below hbn; replace i7 := i7.below hbn; replace i9 := i9.below hbn; replace i10 := i10.below hbn; replace hB5 := Below.after hB5 hbn; have Hown := Lib.hid hown; clear hbn hown)
        | (go_at_call 110; refine (impl_hasForm (cyc ⟨x1, y1, z1⟩) _ x2 y2 z2 _ true _ (by have := cyc_len Hcy.out; omega) Hown.out Hm.out).mono ?_; rintro e wn ⟨rfl, hbn⟩; replace i4 := i4.below hbn; replace i6 := i6.below hbn; replace i7 := i7.below hbn; replace i9 := i9.below hbn; replace i10 := i10.below hbn; replace hB5 := Below.after hB5 hbn; clear hbn))
    all_goals
      have K := Lib.hid (And.intro i4 (And.intro i6 (And.intro i7 (And.intro i9 i10))))
      clear i4 i6 i7 i9 i10 Hm
      go_wp2_with fail
      go_loopg [] (k + 1) (fun n wr => CMAt w w1.heap.size (w1.heap.size + 1) w2.heap.size (w2.heap.size + 1) (disc a b c) ⟨x2, y2, z2⟩ ⟨p2, q2, r2, s2⟩ o n wr)
      case atStart =>
        obtain ⟨i4, i6, i7, i9, i10⟩ := K.out
        exact ⟨⟨x1, y1, z1⟩, ⟨p1, q1, r1, s1⟩, k, by omega, Hk.out, Hcy.out, Hg.out.1, Ho.out, by first | exact hB5 | go_grown, i4, i6, i7, i9, i10⟩
      case round =>
        obtain ⟨g, m, n, hn, hit, hg, hgm, hl, hB0, h4, h6, h7, h9, h10⟩ := hrel
        clear K hB5 Ho Hk
        obtain ⟨ga, gb, gc⟩ := g
        obtain ⟨mp, mq, mr, ms⟩ := m
        have Hcg := Lib.hid hg
        have Hgm := Lib.hid hgm
        have Hl := Lib.hid hl
        have Hit := Lib.hid hit
        clear hg hgm hl hit
        have hzr := h10.lt
        have hzr4 := h4.lt
        have hzr6 := h6.lt
        have hzr7 := h7.lt
        have hzr9 := h9.lt
        have ya0 : wr.cell? ⟨w1.heap.size, 0, none⟩ = some (.int .i64 ga) := Holds.cell h6 rfl
        have ya1 : wr.cell? ⟨w1.heap.size, 1, none⟩ = some (.int .i64 gb) := Holds.cell h6 rfl
        have ya2 : wr.cell? ⟨w1.heap.size, 2, none⟩ = some (.int .i64 gc) := Holds.cell h6 rfl
        have yaf0 : wr.frozen? ⟨w1.heap.size, 0, none⟩ = false := Holds.free h6
        have yaf1 : wr.frozen? ⟨w1.heap.size, 1, none⟩ = false := Holds.free h6
        have yaf2 : wr.frozen? ⟨w1.heap.size, 2, none⟩ = false := Holds.free h6
        have yb0 : wr.cell? ⟨w2.heap.size, 0, none⟩ = some (.int .i64 x2) := Holds.cell h9 rfl
        have yb1 : wr.cell? ⟨w2.heap.size, 1, none⟩ = some (.int .i64 y2) := Holds.cell h9 rfl
        have yb2 : wr.cell? ⟨w2.heap.size, 2, none⟩ = some (.int .i64 z2) := Holds.cell h9 rfl
        have ybf0 : wr.frozen? ⟨w2.heap.size, 0, none⟩ = false := Holds.free h9
        have ybf1 : wr.frozen? ⟨w2.heap.size, 1, none⟩ = false := Holds.free h9
        have ybf2 : wr.frozen? ⟨w2.heap.size, 2, none⟩ = false := Holds.free h9
        by_cases he : (⟨ga, gb, gc⟩ : Fm) = ⟨x2, y2, z2⟩
        · obtain ⟨e1, e2, e3⟩ := fm_eq he
          have hl := Hl.out
          rw [he] at hl
          have hv := Hv.out
          rw [lead_same hl] at hv
          simp only [finV] at hv
          have Hv' := Lib.hid hv
          have Hgi := Lib.hid (invM_good Hg.out.2.1)
          clear he hl hv Hl Hit
          go_wp2_with fail
          clear ya0 ya1 ya2 yaf0 yaf1 yaf2
          clear yb0 yb1 yb2 ybf0 ybf1 ybf2
          have t0 : ∀ x' : Aft wr, x'.w.cell? ⟨(w1.heap.size + 1), 0, none⟩ = some (.int .i64 mp) := fun x' => x'.cell (Holds.lt h7) (Holds.cell h7 rfl)
          have t1 : ∀ x' : Aft wr, x'.w.cell? ⟨(w1.heap.size + 1), 1, none⟩ = some (.int .i64 mq) := fun x' => x'.cell (Holds.lt h7) (Holds.cell h7 rfl)
          have t2 : ∀ x' : Aft wr, x'.w.cell? ⟨(w1.heap.size + 1), 2, none⟩ = some (.int .i64 mr) := fun x' => x'.cell (Holds.lt h7) (Holds.cell h7 rfl)
          have t3 : ∀ x' : Aft wr, x'.w.cell? ⟨(w1.heap.size + 1), 3, none⟩ = some (.int .i64 ms) := fun x' => x'.cell (Holds.lt h7) (Holds.cell h7 rfl)
          have tt0 : ∀ x' : Aft wr, x'.w.cell? ⟨(w2.heap.size + 1), 0, none⟩ = some (.int .i64 p2) := fun x' => x'.cell (Holds.lt h10) (Holds.cell h10 rfl)
          have tt1 : ∀ x' : Aft wr, x'.w.cell? ⟨(w2.heap.size + 1), 1, none⟩ = some (.int .i64 q2) := fun x' => x'.cell (Holds.lt h10) (Holds.cell h10 rfl)
          have tt2 : ∀ x' : Aft wr, x'.w.cell? ⟨(w2.heap.size + 1), 2, none⟩ = some (.int .i64 r2) := fun x' => x'.cell (Holds.lt h10) (Holds.cell h10 rfl)
          have tt3 : ∀ x' : Aft wr, x'.w.cell? ⟨(w2.heap.size + 1), 3, none⟩ = some (.int .i64 s2) := fun x' => x'.cell (Holds.lt h10) (Holds.cell h10 rfl)
          cases hgd : goodM (mulM ⟨mp, mq, mr, ms⟩ (invM ⟨p2, q2, r2, s2⟩)) with
          | false =>
            have hv := Hv'.out
            rw [if_neg (by rw [hgd]; decide)] at hv
            simp only [zM, Prod.mk.injEq, Mx.mk.injEq] at hv
            obtain ⟨⟨rfl, rfl, rfl, rfl⟩, rfl⟩ := hv
            have Hgd := Lib.hid hgd
            clear hgd Hv Hv'
            refine region_aft_tail_late 7 6 7 (by kernel_rfl) (by kernel_rfl) (fun _ _ _ _ _ h => h) ?_
            simp only [List.take_succ_cons, List.take_zero, List.drop_succ_cons, List.drop_zero]
            repeat go_big_quiet_step ((first
              | (go_at_call 113; exact callsAft (impl_inverse p2 q2 r2 s2 _ Hg.out.2.1 Hg.out.2.2))
              | (go_at_call 112; exact callsAft (impl_times mp mq mr ms s2 (-q2) (-r2) p2 _ Hgm.out Hgi.out))
              | (go_at_call 101; exact callsAft (impl_checked_no _ _ _ _ _ Hgd.out))))
            refine wpQuiet_nil ?_
            intro w6 hb6
            have hB6 : Below w.heap.size w w6 := Below.after hB0 hb6
            have j4 := h4.below hb6
            clear t0 t1 t2 t3 tt0 tt1 tt2 tt3 h4 h6 h7 h9 h10 hb6 hB0
            have v0 : w6.cell? ⟨w.heap.size + 1 + 1, 0, none⟩ = some (.int .i64 0) := Holds.cell j4 rfl
            have v1 : w6.cell? ⟨w.heap.size + 1 + 1, 1, none⟩ = some (.int .i64 0) := Holds.cell j4 rfl
            have v2 : w6.cell? ⟨w.heap.size + 1 + 1, 2, none⟩ = some (.int .i64 0) := Holds.cell j4 rfl
            have v3 : w6.cell? ⟨w.heap.size + 1 + 1, 3, none⟩ = some (.int .i64 0) := Holds.cell j4 rfl
            have vf0 : w6.frozen? ⟨w.heap.size + 1 + 1, 0, none⟩ = false := Holds.free j4
            have vf1 : w6.frozen? ⟨w.heap.size + 1 + 1, 1, none⟩ = false := Holds.free j4
            have vf2 : w6.frozen? ⟨w.heap.size + 1 + 1, 2, none⟩ = false := Holds.free j4
            have vf3 : w6.frozen? ⟨w.heap.size + 1 + 1, 3, none⟩ = false := Holds.free j4
            go_wp2_with fail
            refine bodyPost_ret (v := .tuple #[.agg #[.int .i64 0, .int .i64 0, .int .i64 0, .int .i64 0], .bool false]) (by simp [results, Try.results69, go_sem, *] <;> rfl) rfl ⟨rfl, by go_grown⟩
          | true =>
            have hv := Hv'.out
            rw [if_pos hgd] at hv
            simp only [mulM, invM, Prod.mk.injEq, Mx.mk.injEq] at hv
            obtain ⟨⟨rfl, rfl, rfl, rfl⟩, rfl⟩ := hv
            have Hgd := Lib.hid hgd
            clear hgd Hv Hv'
            refine region_aft_tail_late 7 6 7 (by kernel_rfl) (by kernel_rfl) (fun _ _ _ _ _ h => h) ?_
            simp only [List.take_succ_cons, List.take_zero, List.drop_succ_cons, List.drop_zero]
            repeat go_big_quiet_step ((first
              | (go_at_call 113; exact callsAft (impl_inverse p2 q2 r2 s2 _ Hg.out.2.1 Hg.out.2.2))
              | (go_at_call 112; exact callsAft (impl_times mp mq mr ms s2 (-q2) (-r2) p2 _ Hgm.out Hgi.out))
              | (go_at_call 101; exact callsAft (impl_checked_yes _ _ _ _ _ Hgd.out))))
            refine wpQuiet_nil ?_
            intro w6 hb6
            have hB6 : Below w.heap.size w w6 := Below.after hB0 hb6
            have j4 := h4.below hb6
            clear t0 t1 t2 t3 tt0 tt1 tt2 tt3 h4 h6 h7 h9 h10 hb6 hB0
            have v0 : w6.cell? ⟨w.heap.size + 1 + 1, 0, none⟩ = some (.int .i64 0) := Holds.cell j4 rfl
            have v1 : w6.cell? ⟨w.heap.size + 1 + 1, 1, none⟩ = some (.int .i64 0) := Holds.cell j4 rfl
            have v2 : w6.cell? ⟨w.heap.size + 1 + 1, 2, none⟩ = some (.int .i64 0) := Holds.cell j4 rfl
            have v3 : w6.cell? ⟨w.heap.size + 1 + 1, 3, none⟩ = some (.int .i64 0) := Holds.cell j4 rfl
            have vf0 : w6.frozen? ⟨w.heap.size + 1 + 1, 0, none⟩ = false := Holds.free j4
            have vf1 : w6.frozen? ⟨w.heap.size + 1 + 1, 1, none⟩ = false := Holds.free j4
            have vf2 : w6.frozen? ⟨w.heap.size + 1 + 1, 2, none⟩ = false := Holds.free j4
            have vf3 : w6.frozen? ⟨w.heap.size + 1 + 1, 3, none⟩ = false := Holds.free j4
            go_wp2_with fail
            refine bodyPost_ret (v := .tuple #[.agg #[.int .i64 (m1 mp mq mr ms s2 (-q2) (-r2) p2), .int .i64 (m2 mp mq mr ms s2 (-q2) (-r2) p2), .int .i64 (m3 mp mq mr ms s2 (-q2) (-r2) p2), .int .i64 (m4 mp mq mr ms s2 (-q2) (-r2) p2)], .bool true]) (by simp [results, Try.results69, go_sem, *] <;> rfl) rfl ⟨rfl, by go_grown⟩
        · have He := Lib.hid he
          have hne : (ga == x2) = false ∨ ((ga == x2) = true ∧ (gb == y2) = false) ∨ ((ga == x2) = true ∧ (gb == y2) = true ∧ (gc == z2) = false) := fm_ne he
          clear he
          rcases hne with e1 | ⟨e1, e2⟩ | ⟨e1, e2, e3⟩
          all_goals
            go_wp2_with fail
            refine (impl_neighbour ga gb gc _ Hcg.out.1.1).mono ?_
            rintro e w5 ⟨rfl, hb5⟩
            have hB5 : Below w.heap.size w w5 := Below.after (by go_grown) hb5
            clear ya0 ya1 ya2 yaf0 yaf1 yaf2
            clear yb0 yb1 yb2 ybf0 ybf1 ybf2
            have g4 := Holds.below h4 hb5
            have g6 := Holds.below h6 hb5
            have g7 := Holds.below h7 hb5
            have g9 := Holds.below h9 hb5
            have g10 := Holds.below h10 hb5
            clear hb5 hB0 h4 h6 h7 h9 h10
            have hz5 := g10.lt
            have hz5a := g4.lt
            have hz5b := g9.lt
            have hz5c := g7.lt
            have hz5d : w1.heap.size < w5.heap.size := by omega
            have t0 : w5.cell? ⟨w1.heap.size + 1, 0, none⟩ = some (.int .i64 mp) := Holds.cell g7 rfl
            have t1 : w5.cell? ⟨w1.heap.size + 1, 1, none⟩ = some (.int .i64 mq) := Holds.cell g7 rfl
            have t2 : w5.cell? ⟨w1.heap.size + 1, 2, none⟩ = some (.int .i64 mr) := Holds.cell g7 rfl
            have t3 : w5.cell? ⟨w1.heap.size + 1, 3, none⟩ = some (.int .i64 ms) := Holds.cell g7 rfl
            have tf0 : w5.frozen? ⟨w1.heap.size + 1, 0, none⟩ = false := Holds.free g7
            have tf1 : w5.frozen? ⟨w1.heap.size + 1, 1, none⟩ = false := Holds.free g7
            have tf2 : w5.frozen? ⟨w1.heap.size + 1, 2, none⟩ = false := Holds.free g7
            have tf3 : w5.frozen? ⟨w1.heap.size + 1, 3, none⟩ = false := Holds.free g7
            go_wp2_with fail
            refine (impl_times mp mq mr ms 0 (-1) 1 (nS ga gb gc) _ Hgm.out (nx_mgood Hcg.out.1.1)).mono ?_
            rintro e w6 ⟨rfl, hb6⟩
            have hB6 : Below w.heap.size w w6 := Below.after (by go_grown) hb6
            clear t0 t1 t2 t3 tf0 tf1 tf2 tf3
            have k4 := Holds.below (Holds.alloc (Holds.alloc g4 _) _) hb6
            have k6 := Holds.below (Holds.alloc (Holds.alloc g6 _) _) hb6
            have k7 := Holds.below (Holds.alloc (Holds.alloc g7 _) _) hb6
            have k9 := Holds.below (Holds.alloc (Holds.alloc g9 _) _) hb6
            have k10 := Holds.below (Holds.alloc (Holds.alloc g10 _) _) hb6
            have k12 : Holds w6 w5.heap.size (cF (nx ⟨ga, gb, gc⟩)) 28 := by
              refine Holds.below (W := (w5.alloc (.cells (cF (nx ⟨ga, gb, gc⟩)) 28)).alloc (.cells (cM (stp ⟨ga, gb, gc⟩)) 30)) ?_ hb6
              exact (Holds.new w5 _ _).alloc _
            clear hb6 hB5 g4 g6 g7 g9 g10
            have hz6 := k12.lt
            have hz6a := k4.lt
            have hz6b := k6.lt
            have hz6c := k7.lt
            have hz6d := k9.lt
            have t0 : w6.cell? ⟨w1.heap.size + 1, 0, none⟩ = some (.int .i64 mp) := Holds.cell k7 rfl
            have t1 : w6.cell? ⟨w1.heap.size + 1, 1, none⟩ = some (.int .i64 mq) := Holds.cell k7 rfl
            have t2 : w6.cell? ⟨w1.heap.size + 1, 2, none⟩ = some (.int .i64 mr) := Holds.cell k7 rfl
            have t3 : w6.cell? ⟨w1.heap.size + 1, 3, none⟩ = some (.int .i64 ms) := Holds.cell k7 rfl
            have tf0 : w6.frozen? ⟨w1.heap.size + 1, 0, none⟩ = false := Holds.free k7
            have tf1 : w6.frozen? ⟨w1.heap.size + 1, 1, none⟩ = false := Holds.free k7
            have tf2 : w6.frozen? ⟨w1.heap.size + 1, 2, none⟩ = false := Holds.free k7
            have tf3 : w6.frozen? ⟨w1.heap.size + 1, 3, none⟩ = false := Holds.free k7
            rcases lead_more Hl.out He.out with ⟨hgd, hno⟩ | ⟨hgd, hno⟩
            · have hv := Hv.out
              rw [hno] at hv
              simp only [finV, zM, Prod.mk.injEq, Mx.mk.injEq] at hv
              obtain ⟨⟨rfl, rfl, rfl, rfl⟩, rfl⟩ := hv
              have Hgd := Lib.hid hgd
              clear hgd hno
              go_wp2_with fail
              refine (impl_IsMatrix _ _ _ _ false _ Hgd.out).mono ?_
              rintro e w7 ⟨rfl, hb7⟩
              have hB7 : Below w.heap.size w w7 := Below.after (by go_grown) hb7
              have j4 := Holds.below ((((Holds.far k4 (by omega)).far (by omega)).far (by omega)).far (by omega)) hb7
              clear hb7 hB6 k4 k6 k7 k9 k10 k12
              clear t0 t1 t2 t3 tf0 tf1 tf2 tf3
              have v0 : w7.cell? ⟨w.heap.size + 1 + 1, 0, none⟩ = some (.int .i64 0) := Holds.cell j4 rfl
              have v1 : w7.cell? ⟨w.heap.size + 1 + 1, 1, none⟩ = some (.int .i64 0) := Holds.cell j4 rfl
              have v2 : w7.cell? ⟨w.heap.size + 1 + 1, 2, none⟩ = some (.int .i64 0) := Holds.cell j4 rfl
              have v3 : w7.cell? ⟨w.heap.size + 1 + 1, 3, none⟩ = some (.int .i64 0) := Holds.cell j4 rfl
              have vf0 : w7.frozen? ⟨w.heap.size + 1 + 1, 0, none⟩ = false := Holds.free j4
              have vf1 : w7.frozen? ⟨w.heap.size + 1 + 1, 1, none⟩ = false := Holds.free j4
              have vf2 : w7.frozen? ⟨w.heap.size + 1 + 1, 2, none⟩ = false := Holds.free j4
              have vf3 : w7.frozen? ⟨w.heap.size + 1 + 1, 3, none⟩ = false := Holds.free j4
              go_wp2_with fail
              refine bodyPost_ret (v := .tuple #[.agg #[.int .i64 0, .int .i64 0, .int .i64 0, .int .i64 0], .bool false]) (by simp [results, Try.results69, go_sem, *] <;> rfl) rfl ⟨rfl, by go_grown⟩
            · have Hgd := Lib.hid hgd
              have Hno := Lib.hid hno
              obtain ⟨n', rfl⟩ : ∃ n', n = n' + 1 := by
                cases n with
                | zero => exact absurd Hit.out He.out
                | succ n' => exact ⟨n', rfl⟩
              clear hgd hno
              go_wp2_with fail
              refine (impl_IsMatrix _ _ _ _ true _ Hgd.out).mono ?_
              rintro e w7 ⟨rfl, hb7⟩
              have hB7 : Below w.heap.size w w7 := Below.after (by go_grown) hb7
              have j4 := Holds.below ((((Holds.far k4 (by omega)).far (by omega)).far (by omega)).far (by omega)) hb7
              have j6 := Holds.below ((((Holds.far k6 (by omega)).far (by omega)).far (by omega)).far (by omega)) hb7
              have j7 := Holds.below (Holds.set4 k7) hb7
              have j9 := Holds.below ((((Holds.far k9 (by omega)).far (by omega)).far (by omega)).far (by omega)) hb7
              have j10 := Holds.below ((((Holds.far k10 (by omega)).far (by omega)).far (by omega)).far (by omega)) hb7
              have j12 := Holds.below ((((Holds.far k12 (by omega)).far (by omega)).far (by omega)).far (by omega)) hb7
              clear hb7 hB6 k4 k6 k7 k9 k10 k12
              clear t0 t1 t2 t3 tf0 tf1 tf2 tf3
              have ya0 : w7.cell? ⟨w5.heap.size, 0, none⟩ = some (.int .i64 gc) := Holds.cell j12 rfl
              have ya1 : w7.cell? ⟨w5.heap.size, 1, none⟩ = some (.int .i64 (nB ga gb gc)) := Holds.cell j12 rfl
              have ya2 : w7.cell? ⟨w5.heap.size, 2, none⟩ = some (.int .i64 (nC ga gb gc)) := Holds.cell j12 rfl
              have yaf0 : w7.frozen? ⟨w5.heap.size, 0, none⟩ = false := Holds.free j12
              have yaf1 : w7.frozen? ⟨w5.heap.size, 1, none⟩ = false := Holds.free j12
              have yaf2 : w7.frozen? ⟨w5.heap.size, 2, none⟩ = false := Holds.free j12
              have yb0 : w7.cell? ⟨w1.heap.size, 0, none⟩ = some (.int .i64 ga) := Holds.cell j6 rfl
              have yb1 : w7.cell? ⟨w1.heap.size, 1, none⟩ = some (.int .i64 gb) := Holds.cell j6 rfl
              have yb2 : w7.cell? ⟨w1.heap.size, 2, none⟩ = some (.int .i64 gc) := Holds.cell j6 rfl
              have ybf0 : w7.frozen? ⟨w1.heap.size, 0, none⟩ = false := Holds.free j6
              have ybf1 : w7.frozen? ⟨w1.heap.size, 1, none⟩ = false := Holds.free j6
              have ybf2 : w7.frozen? ⟨w1.heap.size, 2, none⟩ = false := Holds.free j6
              go_wp2_with fail
              go_roundg (n' + 1)
              case measure => omega
              case rel =>
                exact ⟨nx ⟨ga, gb, gc⟩, mulM ⟨mp, mq, mr, ms⟩ (stp ⟨ga, gb, gc⟩), n', by omega, by rw [← Hit.out, it_add 1 ⟨ga, gb, gc⟩ n']; rfl, cy_nx Hcg.out, Hgd.out, Hno.out, by go_grown, ((j4.far (by omega)).far (by omega)).far (by omega), Holds.set3 j6, ((j7.far (by omega)).far (by omega)).far (by omega), ((j9.far (by omega)).far (by omega)).far (by omega), ((j10.far (by omega)).far (by omega)).far (by omega)⟩
  · simp only [zM, Mx.mk.injEq] at hz
    obtain ⟨rfl, rfl, rfl, rfl⟩ := hz
    have Hcy := Lib.hid hcy
    have Hm := Lib.hid hm
    clear hcy hm Hc
    replace i4 := i4.drew
    replace i6 := i6.drew
    replace i9 := i9.drew
    replace hB5 := hB5.drew
    clear i7 i10
    go_region_held3 (fun w' => w'.cell? ⟨w1.heap.size, 0, none⟩ = some (.int .i64 x1) ∧ w'.cell? ⟨w1.heap.size, 1, none⟩ = some (.int .i64 y1) ∧ w'.cell? ⟨w1.heap.size, 2, none⟩ = some (.int .i64 z1) ∧
      w'.cell? ⟨w2.heap.size, 0, none⟩ = some (.int .i64 x2) ∧ w'.cell? ⟨w2.heap.size, 1, none⟩ = some (.int .i64 y2) ∧ w'.cell? ⟨w2.heap.size, 2, none⟩ = some (.int .i64 z2)) (exact keep2 i6 i9)
      (first
        | (go_at_call 111; refine (impl_cycle x1 y1 z1 (disc a b c) _ Hcy.out).mono ?_; rintro e wn ⟨u, rfl, hown, hbn⟩; replace i4 := i4.below hbn; replace i6 := i6.below hbn; replace i9 := i9.below hbn; replace hB5 := Below.after hB5 hbn; have Hown := Lib.hid hown; clear hbn hown)
        | (go_at_call 110; refine (impl_hasForm (cyc ⟨x1, y1, z1⟩) _ x2 y2 z2 _ false _ (by have := cyc_len Hcy.out; omega) Hown.out Hm.out).mono ?_; rintro e wn ⟨rfl, hbn⟩; replace i4 := i4.below hbn; replace i6 := i6.below hbn; replace i9 := i9.below hbn; replace hB5 := Below.after hB5 hbn; clear hbn))
    all_goals
      clear i6 i9 Hcy Hm
      have v0 : wn.cell? ⟨w.heap.size + 1 + 1, 0, none⟩ = some (.int .i64 0) := Holds.cell i4 rfl
      have v1 : wn.cell? ⟨w.heap.size + 1 + 1, 1, none⟩ = some (.int .i64 0) := Holds.cell i4 rfl
      have v2 : wn.cell? ⟨w.heap.size + 1 + 1, 2, none⟩ = some (.int .i64 0) := Holds.cell i4 rfl
      have v3 : wn.cell? ⟨w.heap.size + 1 + 1, 3, none⟩ = some (.int .i64 0) := Holds.cell i4 rfl
      have vf0 : wn.frozen? ⟨w.heap.size + 1 + 1, 0, none⟩ = false := Holds.free i4
      have vf1 : wn.frozen? ⟨w.heap.size + 1 + 1, 1, none⟩ = false := Holds.free i4
      have vf2 : wn.frozen? ⟨w.heap.size + 1 + 1, 2, none⟩ = false := Holds.free i4
      have vf3 : wn.frozen? ⟨w.heap.size + 1 + 1, 3, none⟩ = false := Holds.free i4
      go_wp2_with fail
      refine bodyPost_ret (v := .tuple #[.agg #[.int .i64 0, .int .i64 0, .int .i64 0, .int .i64 0], .bool false]) (by simp [results, Try.results69, go_sem, *] <;> rfl) rfl ⟨rfl, by go_grown⟩
  · simp only [zM, Mx.mk.injEq] at hz
    obtain ⟨rfl, rfl, rfl, rfl⟩ := hz
    have hb' : v1 = false ∨ (v1 = true ∧ v2 = false) := by cases v1 <;> simp_all
    clear hb i6 i7 i9 i10 Hc
    rcases hb' with rfl | ⟨rfl, rfl⟩
    all_goals
      refine region_aft (by kernel_rfl) (by kernel_rfl) ?_
      repeat go_big_quiet_step (fail)
      refine wpQuiet_nil ?_
      intro w5 hb5
      have hB6 : Below w.heap.size w w5 := Below.after hB5 hb5
      have j4 := i4.below hb5
      clear i4 hb5 hB5
      have v0 : w5.cell? ⟨w.heap.size + 1 + 1, 0, none⟩ = some (.int .i64 0) := Holds.cell j4 rfl
      have v1 : w5.cell? ⟨w.heap.size + 1 + 1, 1, none⟩ = some (.int .i64 0) := Holds.cell j4 rfl
      have v2 : w5.cell? ⟨w.heap.size + 1 + 1, 2, none⟩ = some (.int .i64 0) := Holds.cell j4 rfl
      have v3 : w5.cell? ⟨w.heap.size + 1 + 1, 3, none⟩ = some (.int .i64 0) := Holds.cell j4 rfl
      have vf0 : w5.frozen? ⟨w.heap.size + 1 + 1, 0, none⟩ = false := Holds.free j4
      have vf1 : w5.frozen? ⟨w.heap.size + 1 + 1, 1, none⟩ = false := Holds.free j4
      have vf2 : w5.frozen? ⟨w.heap.size + 1 + 1, 2, none⟩ = false := Holds.free j4
      have vf3 : w5.frozen? ⟨w.heap.size + 1 + 1, 3, none⟩ = false := Holds.free j4
      go_wp2_with fail
      refine bodyPost_ret (v := .tuple #[.agg #[.int .i64 0, .int .i64 0, .int .i64 0, .int .i64 0], .bool false]) (by simp [results, Try.results69, go_sem, *] <;> rfl) rfl ⟨rfl, by go_grown⟩
end Go.Proofs.Ytdonpiihjoihcaa
