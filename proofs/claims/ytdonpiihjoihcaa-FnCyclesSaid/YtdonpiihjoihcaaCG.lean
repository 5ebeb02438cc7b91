/- Contracts and walks of the laws: the cycle of a form, its length. -/
import Derived.Test.YtdonpiihjoihcaaFS
namespace Go.Proofs.Ytdonpiihjoihcaa
set_option linter.unusedVariables false
open Go.ChangeShapes Go.WideShapes Go.ChangeAt Go.RowKit

theorem Holds.grown {w w' : World} {b : Nat} {cs : Array Value} {ty : TypeId} {row : Option Nat} (h : Holds w b cs ty) (hg : w.grownBy w' row) (hne : some b ≠ row) : Holds w' b cs ty := (hg.block b h.lt hne).trans h
theorem grownBy_setCell (w : World) (b j : Nat) (v : Value) : w.grownBy (w.setCell ⟨b, j, none⟩ v) (some b) := by
  refine ⟨rfl, rfl, rfl, by simp [World.setCell], fun k hk hne => ?_⟩
  unfold World.setCell
  simp only [Array.getElem?_modify]
  rw [if_neg (fun e => hne (by rw [e]))]
theorem Fms.set3 {w : World} {B b : Nat} {v : Value} {l : List Fm} {p q r : Value} (h : Fms w B v l) (hne : v.ownBlock ≠ some b) : Fms (((w.setCell ⟨b, 0, none⟩ p).setCell ⟨b, 1, none⟩ q).setCell ⟨b, 2, none⟩ r) B v l :=
  ((h.kept (grownBy_setCell w b 0 p) (.inr hne)).kept (grownBy_setCell _ b 1 q) (.inr hne)).kept (grownBy_setCell _ b 2 r) (.inr hne)
/-- at the head of the loop: the list so far, the form to come in block C -/
def CycAt (w : World) (f : Fm) (p n : Nat) (s3 s4 : Value) (wr : World) : Prop :=
  ∃ (vl : Value) (k C : Nat), vl = s3 ∧ s4 = .pointer (some ⟨C, 0, none⟩) ∧ k + n = p ∧ k + 1 ≤ p ∧ Fms wr (w.heap.size + 1) vl (itL f (k + 1)) ∧ vl.ownBlock ≠ some C ∧ Below w.heap.size w wr ∧ w.heap.size < C ∧ Holds wr w.heap.size (cF f) 28 ∧ Holds wr C (cF (it (k + 1) f)) 28
theorem own_ne {w : World} {B C : Nat} {v : Value} {l : List Fm} (h : Fms w B v l) (hC : w.heap.size ≤ C) : v.ownBlock ≠ some C := fun e => by
  have := (h.lt C e).2; omega
theorem own_ne' {w : World} {B C : Nat} {v : Value} {l : List Fm} (h : Fms w B v l) (hC : C < B) : some C ≠ v.ownBlock := fun e => by
  have := (h.lt C e.symm).1; omega
theorem Fms.empty (w : World) {B b : Nat} (hb : b = w.heap.size) (hB : B ≤ w.heap.size) : Fms (w.alloc (.cells #[] 28)) B (.slice (some ⟨b, 0, none⟩) 0 0) [] := by
  subst hb; exact Fms.made w [] #[] rfl hB (by simp)
theorem itL_one (f : Fm) : itL f 1 = [f] := rfl
set_option maxHeartbeats 1000000 in
theorem spec_cyCycle (a b c d : Int) (w : World) (h : Cy d ⟨a, b, c⟩) :
    Calls Try.prog 105 #[.agg #[.int .i64 a, .int .i64 b, .int .i64 c]] w fun e w' => ∃ v, e = .returned v ∧ Fms w' w.heap.size v (cyc ⟨a, b, c⟩) ∧ Below w.heap.size w w' := by
  obtain ⟨p, hp⟩ := per_ex h
  have hp1 := hp.1
  have hp2 := hp.2.1
  have H := Lib.hid h
  clear h
  have Hp := Lib.hid hp
  clear hp
  go_enter Try.func105, Try.ntmps105
  go_wp2_with fail
  refine region_named (fun W hW => ?_)
  have hB0 : Below w.heap.size w W := by rw [hW]; go_grown
  have a1 : Holds W w.heap.size (cF ⟨a, b, c⟩) 28 := by rw [hW]; repeat (first | (refine Holds.new' _ _ _ ?_; simp; done) | refine Holds.alloc ?_ _ | refine Holds.far ?_ (by first | omega | (simp; done) | (simp; omega)))
  have hl : Fms W (w.heap.size + 1) (.slice (some ⟨w.heap.size + 1, 0, none⟩) 1 1) (itL ⟨a, b, c⟩ 1) := by
    rw [hW]
    have := Fms.made (w.alloc (.cells (cF ⟨a, b, c⟩) 28)) (B := w.heap.size + 1) [⟨a, b, c⟩] (cF ⟨a, b, c⟩) rfl (by simp) (by simp)
    simpa [itL_one, cF] using this
  clear hW
  have y0 : ∀ x : Aft W, x.w.cell? ⟨w.heap.size, 0, none⟩ = some (.int .i64 a) := fun x => x.cell a1.lt (a1.cell rfl)
  have y1 : ∀ x : Aft W, x.w.cell? ⟨w.heap.size, 1, none⟩ = some (.int .i64 b) := fun x => x.cell a1.lt (a1.cell rfl)
  have y2 : ∀ x : Aft W, x.w.cell? ⟨w.heap.size, 2, none⟩ = some (.int .i64 c) := fun x => x.cell a1.lt (a1.cell rfl)
  have Hl := Lib.hid hl
  have Ha1 := Lib.hid a1
  have hzW := a1.lt
  clear hl a1
  refine region_aft_alloc 4 _ 28 #[.int .i64 0, .int .i64 0, .int .i64 0] (by kernel_rfl) (by kernel_rfl) rfl (fun a w => by kernel_rfl) ?_
  simp only [List.take_succ_cons, List.take_zero, List.drop_succ_cons, List.drop_zero]
  refine wpMild_step (fun K hK => ?_)
  go_simp
  (refine hK _ ?_; clear hK K)
  refine wpMild_step (fun K hK => ?_)
  go_simp
  (refine hK _ ?_; clear hK K)
  refine wpMild_step (fun K hK => ?_)
  go_simp
  apply Exists.intro
  refine ⟨fun _ => ?_, hK _ ?_⟩
  · exact spec_cyMove _ _ _ _ H.out.1.1
  clear hK K
  refine wpMild_step (fun K hK => ?_)
  go_simp
  apply Exists.intro
  refine ⟨fun _ => ?_, hK _ ?_⟩
  · exact spec_foAct_nx _ _ _ _ H.out.1.1
  clear hK K
  refine wpMild_nil ?_
  intro C w1 hC1 hC2 hC3 hb1
  have k1 : Holds w1 w.heap.size (cF ⟨a, b, c⟩) 28 := Ha1.out.below hb1
  have kl := Hl.out.below hb1
  have kn := own_ne Hl.out hC1
  have kC : Holds w1 C #[.int .i64 0, .int .i64 0, .int .i64 0] 28 := hC3
  have hB1 : Below w.heap.size w w1 := Below.after hB0 hb1
  have HC := Lib.hid kC
  have Kl := Lib.hid kl
  have K1 := Lib.hid k1
  have z0 : w1.cell? ⟨C, 0, none⟩ = some (.int .i64 0) := Holds.cell kC rfl
  have z1 : w1.cell? ⟨C, 1, none⟩ = some (.int .i64 0) := Holds.cell kC rfl
  have z2 : w1.cell? ⟨C, 2, none⟩ = some (.int .i64 0) := Holds.cell kC rfl
  have zf0 : w1.frozen? ⟨C, 0, none⟩ = false := Holds.free kC
  have zf1 : w1.frozen? ⟨C, 1, none⟩ = false := Holds.free kC
  have zf2 : w1.frozen? ⟨C, 2, none⟩ = false := Holds.free kC
  clear hC3 hb1 hB0 y0 y1 y2 Hl Ha1 kC kl k1
  go_wp2_with fail
  go_loopg [3, 4] p (fun n s3 s4 wr => CycAt w ⟨a, b, c⟩ p n s3 s4 wr)
  case atStart =>
    refine ⟨_, 0, C, rfl, rfl, by omega, hp1, Fms.set3 Kl.out kn, kn, by go_grown, by omega, ?_, ?_⟩
    · exact ((K1.out.far (by omega)).far (by omega)).far (by omega)
    · exact Holds.set3 HC.out
  case round =>
    obtain ⟨vl, k, C', rfl, rfl, hkn, hkp, hl, hne, hB2, hC', h1, h2⟩ := hrel
    clear z0 z1 z2 zf0 zf1 zf2 hB1 HC Kl K1
    rcases hg : it (k + 1) ⟨a, b, c⟩ with ⟨ga, gb, gc⟩
    rw [hg] at h2
    have Hg := Lib.hid hg
    clear hg
    have hcy : Cy d ⟨ga, gb, gc⟩ := by have := cy_it H.out (k + 1); rwa [Hg.out] at this
    have Hcy := Lib.hid hcy
    clear hcy
    have hz1 := h1.lt
    have hz2 := h2.lt
    have y0 : wr.cell? ⟨C', 0, none⟩ = some (.int .i64 ga) := Holds.cell h2 rfl
    have y1 : wr.cell? ⟨C', 1, none⟩ = some (.int .i64 gb) := Holds.cell h2 rfl
    have y2 : wr.cell? ⟨C', 2, none⟩ = some (.int .i64 gc) := Holds.cell h2 rfl
    have yf0 : wr.frozen? ⟨C', 0, none⟩ = false := Holds.free h2
    have yf1 : wr.frozen? ⟨C', 1, none⟩ = false := Holds.free h2
    have yf2 : wr.frozen? ⟨C', 2, none⟩ = false := Holds.free h2
    have u0 : wr.cell? ⟨w.heap.size, 0, none⟩ = some (.int .i64 a) := Holds.cell h1 rfl
    have u1 : wr.cell? ⟨w.heap.size, 1, none⟩ = some (.int .i64 b) := Holds.cell h1 rfl
    have u2 : wr.cell? ⟨w.heap.size, 2, none⟩ = some (.int .i64 c) := Holds.cell h1 rfl
    have uf0 : wr.frozen? ⟨w.heap.size, 0, none⟩ = false := Holds.free h1
    have uf1 : wr.frozen? ⟨w.heap.size, 1, none⟩ = false := Holds.free h1
    have uf2 : wr.frozen? ⟨w.heap.size, 2, none⟩ = false := Holds.free h1
    have Hl := Lib.hid hl
    have Hk := Lib.hid (And.intro h1 h2)
    clear hl h1 h2
    by_cases he : (⟨ga, gb, gc⟩ : Fm) = ⟨a, b, c⟩
    · obtain ⟨e1, e2, e3⟩ := fm_eq he
      have hfin : cyc ⟨a, b, c⟩ = itL ⟨a, b, c⟩ (k + 1) := by rw [cyc_eq Hp.out, per_stop Hp.out hkp (by rw [Hg.out, he])]
      have Hfin := Lib.hid hfin
      clear he hfin
      go_wp2_with fail
      go_ret
      exact ⟨_, rfl, by rw [Hfin.out]; exact Hl.out.mono (by omega), hB2⟩
    · have hnx := per_next Hp.out hkp (by rw [Hg.out]; exact he)
      have He := Lib.hid he
      clear he
      have hm : Fms (wr.alloc (.cells (cF ⟨ga, gb, gc⟩) 28)) (w.heap.size + 1) vl (itL ⟨a, b, c⟩ (k + 1)) := Hl.out.alloc _
      have hn : Holds (wr.alloc (.cells (cF ⟨ga, gb, gc⟩) 28)) wr.heap.size (cF ⟨ga, gb, gc⟩) 28 := Holds.new _ _ _
      have hBa : Below w.heap.size w (wr.alloc (.cells (cF ⟨ga, gb, gc⟩) 28)) := hB2.alloc hB2.size _
      have hlen : (itL ⟨a, b, c⟩ (k + 1)).length ≤ 1000000 := by rw [itL_len]; omega
      have Hm := Lib.hid hm
      have Hn := Lib.hid hn
      clear hm hn
      rcases fm_ne He.out with e1 | ⟨e1, e2⟩ | ⟨e1, e2, e3⟩
      all_goals
        go_wp2_with (at_builtin; refine app_fm (w.heap.size + 1) (itL ⟨a, b, c⟩ (k + 1)) ⟨ga, gb, gc⟩ vl wr.heap.size _ _ rfl rfl rfl rfl Hm.out Hn.out hlen (by simp; omega) ?_)
        intro v' w2 hown2 hgrow2
        have hB3 : Below w.heap.size w w2 := below_grownF hBa (Hm.out.mono (by omega)) hgrow2 (by have := hBa.size; simp at this ⊢; omega)
        have g1 : Holds w2 w.heap.size (cF ⟨a, b, c⟩) 28 := (Hk.out.1.alloc _).grown hgrow2 (own_ne' Hm.out (by omega))
        have g2 : Holds w2 C' (cF ⟨ga, gb, gc⟩) 28 := (Hk.out.2.alloc _).grown hgrow2 (fun e => hne e.symm)
        clear hgrow2 hB2 hBa Hm Hn hz1 hz2 y0 y1 y2 yf0 yf1 yf2 u0 u1 u2 uf0 uf1 uf2
        have hz1 := g1.lt
        have hz2 := g2.lt
        have y0 : w2.cell? ⟨C', 0, none⟩ = some (.int .i64 ga) := Holds.cell g2 rfl
        have y1 : w2.cell? ⟨C', 1, none⟩ = some (.int .i64 gb) := Holds.cell g2 rfl
        have y2 : w2.cell? ⟨C', 2, none⟩ = some (.int .i64 gc) := Holds.cell g2 rfl
        have yf0 : w2.frozen? ⟨C', 0, none⟩ = false := Holds.free g2
        have yf1 : w2.frozen? ⟨C', 1, none⟩ = false := Holds.free g2
        have yf2 : w2.frozen? ⟨C', 2, none⟩ = false := Holds.free g2
        have Hown2 := Lib.hid hown2
        have G1 := Lib.hid g1
        clear hown2 g1 g2
        go_wp2_with fail
        refine region_named (fun W hW => ?_)
        have hB4 : Below w.heap.size w W := by rw [hW]; go_grown
        have i1 : Holds W w.heap.size (cF ⟨a, b, c⟩) 28 := by rw [hW]; exact G1.out.alloc _
        have i4 : Holds W w2.heap.size (cF ⟨ga, gb, gc⟩) 28 := by rw [hW]; repeat (first | (refine Holds.new' _ _ _ ?_; simp; done) | refine Holds.alloc ?_ _ | refine Holds.far ?_ (by first | omega | (simp; done) | (simp; omega)))
        have il : Fms W (w.heap.size + 1) v' (itL ⟨a, b, c⟩ (k + 1) ++ [⟨ga, gb, gc⟩]) := by rw [hW]; exact Hown2.out.alloc _
        have ine : v'.ownBlock ≠ some w2.heap.size := own_ne Hown2.out (Nat.le_refl _)
        clear hW y0 y1 y2 yf0 yf1 yf2
        have t0 : ∀ x : Aft W, x.w.cell? ⟨w2.heap.size, 0, none⟩ = some (.int .i64 ga) := fun x => x.cell i4.lt (i4.cell rfl)
        have t1 : ∀ x : Aft W, x.w.cell? ⟨w2.heap.size, 1, none⟩ = some (.int .i64 gb) := fun x => x.cell i4.lt (i4.cell rfl)
        have t2 : ∀ x : Aft W, x.w.cell? ⟨w2.heap.size, 2, none⟩ = some (.int .i64 gc) := fun x => x.cell i4.lt (i4.cell rfl)
        refine region_aft_tail 4 (by kernel_rfl) (by kernel_rfl) ?_
        simp only [List.take_succ_cons, List.take_zero, List.drop_succ_cons, List.drop_zero]
        repeat go_big_quiet_step ((first | (go_at_call 106; exact callsAft (spec_cyMove _ _ _ _ Hcy.out.1.1)) | (go_at_call 54; exact callsAft (spec_foAct_nx _ _ _ _ Hcy.out.1.1))))
        refine wpQuiet_nil ?_
        intro w3 hb3
        have k1 := i1.below hb3
        have k4 := i4.below hb3
        have kl := il.below hb3
        have hB5 : Below w.heap.size w w3 := Below.after hB4 hb3
        clear hb3 hB4 hB3 t0 t1 t2 i1 i4 il
        have hz3 := k4.lt
        have y0 : w3.cell? ⟨w2.heap.size, 0, none⟩ = some (.int .i64 ga) := Holds.cell k4 rfl
        have y1 : w3.cell? ⟨w2.heap.size, 1, none⟩ = some (.int .i64 gb) := Holds.cell k4 rfl
        have y2 : w3.cell? ⟨w2.heap.size, 2, none⟩ = some (.int .i64 gc) := Holds.cell k4 rfl
        have yf0 : w3.frozen? ⟨w2.heap.size, 0, none⟩ = false := Holds.free k4
        have yf1 : w3.frozen? ⟨w2.heap.size, 1, none⟩ = false := Holds.free k4
        have yf2 : w3.frozen? ⟨w2.heap.size, 2, none⟩ = false := Holds.free k4
        have Kf := Lib.hid (And.intro k1 (And.intro k4 kl))
        clear k1 k4 kl
        go_wp2_with fail
        go_roundg (gk - 1)
        case measure => omega
        case rel =>
          obtain ⟨k1, k4, kl⟩ := Kf.out
          refine ⟨_, k + 1, _, rfl, rfl, by omega, by omega, ?_, ine, by go_grown, by omega, ((k1.far (by omega)).far (by omega)).far (by omega), ?_⟩
          · have e : itL ⟨a, b, c⟩ (k + 1 + 1) = itL ⟨a, b, c⟩ (k + 1) ++ [⟨ga, gb, gc⟩] := by rw [itL_succ, Hg.out]
            rw [e]
            exact Fms.set3 kl ine
          · rw [it_succ, Hg.out]
            exact Holds.set3 k4
/-- at the head of the program's loop: the form to come in block C, a matrix that nobody reads in block D -/
def CycAtI (w : World) (f : Fm) (p n : Nat) (s3 s4 s5 : Value) (wr : World) : Prop :=
  ∃ (vl : Value) (k C D : Nat) (m : Mx), vl = s3 ∧ s4 = .pointer (some ⟨C, 0, none⟩) ∧ s5 = .pointer (some ⟨D, 0, none⟩) ∧ k + n = p ∧ k + 1 ≤ p ∧ Fms wr (w.heap.size + 1) vl (itL f (k + 1)) ∧ vl.ownBlock ≠ some C ∧ vl.ownBlock ≠ some D ∧
    Below w.heap.size w wr ∧ w.heap.size < C ∧ w.heap.size < D ∧ Holds wr w.heap.size (cF f) 28 ∧ Holds wr C (cF (it (k + 1) f)) 28 ∧ Holds wr D (cM m) 30
set_option maxHeartbeats 1000000 in
theorem impl_cycle (a b c d : Int) (w : World) (h : Cy d ⟨a, b, c⟩) :
    Calls Try.prog 111 #[.agg #[.int .i64 a, .int .i64 b, .int .i64 c]] w fun e w' => ∃ v, e = .returned v ∧ Fms w' w.heap.size v (cyc ⟨a, b, c⟩) ∧ Below w.heap.size w w' := by
  obtain ⟨p, hp⟩ := per_ex h
  have hp1 := hp.1
  have hp2 := hp.2.1
  have H := Lib.hid h
  clear h
  have Hp := Lib.hid hp
  clear hp
  go_enter Try.func111, Try.ntmps111
  go_wp2_with fail
  refine (impl_neighbour a b c _ H.out.1.1).mono ?_
  rintro e w1 ⟨rfl, hb1⟩
  have hB1 : Below w.heap.size w w1 := Below.after (by go_grown) hb1
  have k1 : Holds w1 w.heap.size (cF ⟨a, b, c⟩) 28 := by
    refine Holds.below (W := (w.alloc (.cells (cF ⟨a, b, c⟩) 28)).alloc (.cells (cF ⟨a, b, c⟩) 28)) ?_ hb1
    exact (Holds.new w _ _).alloc _
  have kl : Fms w1 (w.heap.size + 1) (.slice (some ⟨w.heap.size + 1, 0, none⟩) 1 1) (itL ⟨a, b, c⟩ 1) := by
    have := Fms.made (w.alloc (.cells (cF ⟨a, b, c⟩) 28)) (B := w.heap.size + 1) [⟨a, b, c⟩] (cF ⟨a, b, c⟩) rfl (by simp) (by simp)
    have h2 := this.below hb1
    simpa [itL_one, cF] using h2
  have hz0 := k1.lt
  have Kl := Lib.hid kl
  have K1 := Lib.hid k1
  clear hb1 kl k1
  go_wp2_with fail
  go_loopg [3, 4, 5] p (fun n s3 s4 s5 wr => CycAtI w ⟨a, b, c⟩ p n s3 s4 s5 wr)
  case atStart =>
    refine ⟨_, 0, _, _, stp ⟨a, b, c⟩, rfl, rfl, rfl, by omega, hp1, (Kl.out.alloc _).alloc _, own_ne Kl.out (Nat.le_refl _), own_ne Kl.out (by omega), by go_grown, by omega, by omega, (K1.out.alloc _).alloc _, ?_, ?_⟩
    · repeat (first | (refine Holds.new' _ _ _ ?_; simp; done) | refine Holds.alloc ?_ _ | refine Holds.far ?_ (by first | omega | (simp; done) | (simp; omega)))
    · repeat (first | (refine Holds.new' _ _ _ ?_; simp; done) | refine Holds.alloc ?_ _ | refine Holds.far ?_ (by first | omega | (simp; done) | (simp; omega)))
  case round =>
    obtain ⟨vl, k, C', D', ⟨mp, mq, mr, ms⟩, rfl, rfl, rfl, hkn, hkp, hl, hne, hne', hB2, hC', hD', h1, h2, h3⟩ := hrel
    clear hB1 Kl K1
    rcases hg : it (k + 1) ⟨a, b, c⟩ with ⟨ga, gb, gc⟩
    rw [hg] at h2
    have Hg := Lib.hid hg
    clear hg
    have hcy : Cy d ⟨ga, gb, gc⟩ := by have := cy_it H.out (k + 1); rwa [Hg.out] at this
    have Hcy := Lib.hid hcy
    clear hcy
    have hz1 := h1.lt
    have hz2 := h2.lt
    have hz3 := h3.lt
    have y0 : wr.cell? ⟨C', 0, none⟩ = some (.int .i64 ga) := Holds.cell h2 rfl
    have y1 : wr.cell? ⟨C', 1, none⟩ = some (.int .i64 gb) := Holds.cell h2 rfl
    have y2 : wr.cell? ⟨C', 2, none⟩ = some (.int .i64 gc) := Holds.cell h2 rfl
    have yf0 : wr.frozen? ⟨C', 0, none⟩ = false := Holds.free h2
    have yf1 : wr.frozen? ⟨C', 1, none⟩ = false := Holds.free h2
    have yf2 : wr.frozen? ⟨C', 2, none⟩ = false := Holds.free h2
    have u0 : wr.cell? ⟨w.heap.size, 0, none⟩ = some (.int .i64 a) := Holds.cell h1 rfl
    have u1 : wr.cell? ⟨w.heap.size, 1, none⟩ = some (.int .i64 b) := Holds.cell h1 rfl
    have u2 : wr.cell? ⟨w.heap.size, 2, none⟩ = some (.int .i64 c) := Holds.cell h1 rfl
    have uf0 : wr.frozen? ⟨w.heap.size, 0, none⟩ = false := Holds.free h1
    have uf1 : wr.frozen? ⟨w.heap.size, 1, none⟩ = false := Holds.free h1
    have uf2 : wr.frozen? ⟨w.heap.size, 2, none⟩ = false := Holds.free h1
    have Hl := Lib.hid hl
    have Hk := Lib.hid (And.intro h1 (And.intro h2 h3))
    clear hl h1 h2 h3
    by_cases he : (⟨ga, gb, gc⟩ : Fm) = ⟨a, b, c⟩
    · obtain ⟨e1, e2, e3⟩ := fm_eq he
      have hfin : cyc ⟨a, b, c⟩ = itL ⟨a, b, c⟩ (k + 1) := by rw [cyc_eq Hp.out, per_stop Hp.out hkp (by rw [Hg.out, he])]
      have Hfin := Lib.hid hfin
      clear he hfin
      go_wp2_with fail
      go_ret
      exact ⟨_, rfl, by rw [Hfin.out]; exact Hl.out.mono (by omega), hB2⟩
    · have hnx := per_next Hp.out hkp (by rw [Hg.out]; exact he)
      have He := Lib.hid he
      clear he
      have hm : Fms (wr.alloc (.cells (cF ⟨ga, gb, gc⟩) 28)) (w.heap.size + 1) vl (itL ⟨a, b, c⟩ (k + 1)) := Hl.out.alloc _
      have hn : Holds (wr.alloc (.cells (cF ⟨ga, gb, gc⟩) 28)) wr.heap.size (cF ⟨ga, gb, gc⟩) 28 := Holds.new _ _ _
      have hBa : Below w.heap.size w (wr.alloc (.cells (cF ⟨ga, gb, gc⟩) 28)) := hB2.alloc hB2.size _
      have hlen : (itL ⟨a, b, c⟩ (k + 1)).length ≤ 1000000 := by rw [itL_len]; omega
      have Hm := Lib.hid hm
      have Hn := Lib.hid hn
      clear hm hn
      rcases fm_ne He.out with e1 | ⟨e1, e2⟩ | ⟨e1, e2, e3⟩
      all_goals
        go_wp2_with (at_builtin; refine app_fm (w.heap.size + 1) (itL ⟨a, b, c⟩ (k + 1)) ⟨ga, gb, gc⟩ vl wr.heap.size _ _ rfl rfl rfl rfl Hm.out Hn.out hlen (by simp; omega) ?_)
        intro v' w2 hown2 hgrow2
        have hBw : Below w.heap.size w w2 := below_grownF hBa (Hm.out.mono (by omega)) hgrow2 (by have := hBa.size; simp at this ⊢; omega)
        have g1 : Holds w2 w.heap.size (cF ⟨a, b, c⟩) 28 := (Hk.out.1.alloc _).grown hgrow2 (own_ne' Hm.out (by omega))
        have g2 : Holds w2 C' (cF ⟨ga, gb, gc⟩) 28 := (Hk.out.2.1.alloc _).grown hgrow2 (fun e => hne e.symm)
        have g3 : Holds w2 D' (cM ⟨mp, mq, mr, ms⟩) 30 := (Hk.out.2.2.alloc _).grown hgrow2 (fun e => hne' e.symm)
        clear hgrow2 hB2 hBa Hm Hn hz1 hz2 hz3 y0 y1 y2 yf0 yf1 yf2 u0 u1 u2 uf0 uf1 uf2
        have hz1 := g1.lt
        have hz2 := g2.lt
        have hz3 := g3.lt
        have y0 : w2.cell? ⟨C', 0, none⟩ = some (.int .i64 ga) := Holds.cell g2 rfl
        have y1 : w2.cell? ⟨C', 1, none⟩ = some (.int .i64 gb) := Holds.cell g2 rfl
        have y2 : w2.cell? ⟨C', 2, none⟩ = some (.int .i64 gc) := Holds.cell g2 rfl
        have yf0 : w2.frozen? ⟨C', 0, none⟩ = false := Holds.free g2
        have yf1 : w2.frozen? ⟨C', 1, none⟩ = false := Holds.free g2
        have yf2 : w2.frozen? ⟨C', 2, none⟩ = false := Holds.free g2
        have t0 : w2.cell? ⟨D', 0, none⟩ = some (.int .i64 mp) := Holds.cell g3 rfl
        have t1 : w2.cell? ⟨D', 1, none⟩ = some (.int .i64 mq) := Holds.cell g3 rfl
        have t2 : w2.cell? ⟨D', 2, none⟩ = some (.int .i64 mr) := Holds.cell g3 rfl
        have t3 : w2.cell? ⟨D', 3, none⟩ = some (.int .i64 ms) := Holds.cell g3 rfl
        have tf0 : w2.frozen? ⟨D', 0, none⟩ = false := Holds.free g3
        have tf1 : w2.frozen? ⟨D', 1, none⟩ = false := Holds.free g3
        have tf2 : w2.frozen? ⟨D', 2, none⟩ = false := Holds.free g3
        have tf3 : w2.frozen? ⟨D', 3, none⟩ = false := Holds.free g3
        have Hown2 := Lib.hid hown2
        clear hown2
        go_wp2_with fail
        refine (impl_neighbour ga gb gc _ Hcy.out.1.1).mono ?_
        rintro e w3 ⟨rfl, hb3⟩
        have hB3 : Below w.heap.size w w3 := Below.after (by go_grown) hb3
        clear y0 y1 y2 yf0 yf1 yf2
        clear t0 t1 t2 t3 tf0 tf1 tf2 tf3
        have k1 := Holds.below (Holds.alloc (Holds.alloc g1 _) _) hb3
        have k4 : Holds w3 w2.heap.size (cF ⟨ga, gb, gc⟩) 28 := by
          refine Holds.below (W := (w2.alloc (.cells (cF ⟨ga, gb, gc⟩) 28)).alloc (.cells (cM ⟨mp, mq, mr, ms⟩) 30)) ?_ hb3
          exact (Holds.new w2 _ _).alloc _
        have k5 : Holds w3 (w2.heap.size + 1) (cM ⟨mp, mq, mr, ms⟩) 30 := by
          refine Holds.below (W := (w2.alloc (.cells (cF ⟨ga, gb, gc⟩) 28)).alloc (.cells (cM ⟨mp, mq, mr, ms⟩) 30)) ?_ hb3
          exact Holds.new' _ _ _ (by simp)
        have kl := ((Hown2.out.alloc _).alloc _).below hb3
        have ine : v'.ownBlock ≠ some w2.heap.size := own_ne Hown2.out (Nat.le_refl _)
        have ine' : v'.ownBlock ≠ some (w2.heap.size + 1) := own_ne Hown2.out (by omega)
        clear hb3 hBw g1 g2 g3
        have hz4 := k5.lt
        have hz5 := k4.lt
        have y0 : w3.cell? ⟨w2.heap.size, 0, none⟩ = some (.int .i64 ga) := Holds.cell k4 rfl
        have y1 : w3.cell? ⟨w2.heap.size, 1, none⟩ = some (.int .i64 gb) := Holds.cell k4 rfl
        have y2 : w3.cell? ⟨w2.heap.size, 2, none⟩ = some (.int .i64 gc) := Holds.cell k4 rfl
        have yf0 : w3.frozen? ⟨w2.heap.size, 0, none⟩ = false := Holds.free k4
        have yf1 : w3.frozen? ⟨w2.heap.size, 1, none⟩ = false := Holds.free k4
        have yf2 : w3.frozen? ⟨w2.heap.size, 2, none⟩ = false := Holds.free k4
        have Kf := Lib.hid (And.intro k1 (And.intro k4 (And.intro k5 kl)))
        clear k1 k4 k5 kl
        go_wp2_with fail
        go_roundg (gk - 1)
        case measure => omega
        case rel =>
          obtain ⟨k1, k4, k5, kl⟩ := Kf.out
          refine ⟨_, k + 1, _, _, ⟨mp, mq, mr, ms⟩, rfl, rfl, rfl, by omega, by omega, ?_, ine, ine', by go_grown, by omega, by omega, ((k1.far (by omega)).far (by omega)).far (by omega), ?_, ((k5.far (by omega)).far (by omega)).far (by omega)⟩
          · have e : itL ⟨a, b, c⟩ (k + 1 + 1) = itL ⟨a, b, c⟩ (k + 1) ++ [⟨ga, gb, gc⟩] := by rw [itL_succ, Hg.out]
            rw [e]
            exact Fms.set3 kl ine
          · rw [it_succ, Hg.out]
            exact Holds.set3 k4
/-! the cycle of a form -/
/-- what CycleOf hands back -/
def CycOut (a b c : Int) (l : List Fm) (v : Bool) : Prop := ∃ x y z p q r s, RedOut a b c x y z p q r s v ∧ ((v = true ∧ Cy (disc a b c) ⟨x, y, z⟩ ∧ l = cyc ⟨x, y, z⟩) ∨ (v = false ∧ l = []))
theorem cycOut_ex (a b c : Int) : ∃ l v, CycOut a b c l v := by
  obtain ⟨x, y, z, p, q, r, s, v, h⟩ := redOut_ex a b c
  rcases h with ⟨h, o, ho, hv⟩ | ⟨h, h1, h2, h3⟩
  · cases o with
    | none =>
      simp only [redV, Prod.mk.injEq] at hv
      exact ⟨[], v, x, y, z, p, q, r, s, .inl ⟨h, none, ho, by simp only [redV, Prod.mk.injEq]; exact hv⟩, .inr ⟨hv.2.2.symm, rfl⟩⟩
    | some fm =>
      obtain ⟨g, n⟩ := fm
      have hs := red_spec ho ⟨h, rfl⟩ (by decide) detM_one g n rfl
      simp only [redV, Prod.mk.injEq] at hv
      obtain ⟨rfl, rfl, rfl⟩ := hv
      exact ⟨_, true, x, y, z, p, q, r, s, .inl ⟨h, _, ho, rfl⟩, .inl ⟨rfl, hs.1, rfl⟩⟩
  · exact ⟨[], v, x, y, z, p, q, r, s, .inr ⟨h, h1, h2, h3⟩, .inr ⟨h3, rfl⟩⟩
theorem cycOut_len {a b c : Int} {l : List Fm} {v : Bool} (h : CycOut a b c l v) : l.length ≤ 1000000 := by
  obtain ⟨x, y, z, p, q, r, s, h1, ⟨_, h2, rfl⟩ | ⟨_, rfl⟩⟩ := h
  · have := cyc_len h2; omega
  · simp
theorem spec_CycleOf (a b c : Int) (l : List Fm) (v : Bool) (w : World) (h : CycOut a b c l v) :
    Calls Try.prog 86 #[.agg #[.int .i64 a, .int .i64 b, .int .i64 c]] w fun e w' => ∃ u, e = .returned (.tuple #[u, .bool v]) ∧ Fms w' w.heap.size u l ∧ Below w.heap.size w w' := by
  obtain ⟨x, y, z, p, q, r, s, hr, hl⟩ := h
  have Hl := Lib.hid hl
  clear hl
  rcases hr with ⟨h, o, ho, hv⟩ | ⟨h, h1, h2, h3⟩
  · have H := Lib.hid h
    clear h
    have Ho := Lib.hid ho
    clear ho
    have Hv := Lib.hid hv
    clear hv
    go_enter Try.func86, Try.ntmps86
    go_wp2_with fail
    refine (spec_cyGood a b c true _ H.out).mono ?_
    rintro e w1 ⟨rfl, hb1⟩
    have hB1 : Below w.heap.size w w1 := Below.after (by go_grown) hb1
    obtain ⟨hc1, hf1⟩ := bcell hb1
    have hy1 := hb1.size
    try simp at hy1
    first | (with_reducible have hx1 := Nat.lt_of_succ_le hy1) | skip
    first | (with_reducible have hv1 := Nat.lt_of_succ_lt hx1) | skip
    first | (with_reducible have hu1 := Nat.lt_of_succ_lt hv1) | skip
    first | (have hz1 : w.heap.size < w1.heap.size := by omega) | (have hz1 := hB1.size)
    clear hb1
    go_wp2_with fail
    refine (spec_cyReduce a b c o x y z p q r s v _ H.out Ho.out Hv.out).mono ?_
    rintro e w2 ⟨rfl, hb2⟩
    have hB2 : Below w.heap.size w w2 := Below.after (by go_grown) hb2
    obtain ⟨hc2, hf2⟩ := bcell hb2
    have hy2 := hb2.size
    try simp at hy2
    first | (with_reducible have hx2 := Nat.lt_of_succ_le hy2) | skip
    first | (with_reducible have hv2 := Nat.lt_of_succ_lt hx2) | skip
    first | (with_reducible have hu2 := Nat.lt_of_succ_lt hv2) | skip
    first | (have hz2 : w.heap.size < w2.heap.size := by omega) | (have hz2 := hB2.size)
    first | (have hq2 : w1.heap.size ≤ w2.heap.size := by omega) | skip
    first | (have hx1_2 := Nat.lt_of_lt_of_le hx1 hq2) | skip
    first | (have hv1_2 := Nat.lt_of_lt_of_le hv1 hq2) | skip
    first | (have hu1_2 := Nat.lt_of_lt_of_le hu1 hq2) | skip
    clear hb2
    rcases Hl.out with ⟨hv1, hcy, hll⟩ | ⟨hv0, hll⟩
    · have Hcy := Lib.hid hcy
      have Hll := Lib.hid hll
      subst hv1
      clear hcy hll
      go_wp2_with fail
      refine (spec_cyCycle x y z (disc a b c) _ Hcy.out).mono ?_
      rintro e w3 ⟨u, rfl, hown, hb3⟩
      have hB3 : Below w.heap.size w w3 := Below.after (by go_grown) hb3
      have hown' := hown.mono (B' := w.heap.size) (by simp; omega)
      clear hown hb3
      go_wp2_with fail
      go_ret2
      exact ⟨u, rfl, by rw [Hll.out]; exact hown', hB3⟩
    · have Hll := Lib.hid hll
      subst hv0
      clear hll
      go_wp2_with fail
      go_ret2
      exact ⟨_, rfl, by rw [Hll.out]; exact Fms.nil _ _, by go_grown⟩
  · subst h3
    have H := Lib.hid h
    clear h
    have hll : l = [] := by
      rcases Hl.out with ⟨hv1, _⟩ | ⟨_, hll⟩
      · cases hv1
      · exact hll
    have Hll := Lib.hid hll
    clear hll h1 h2
    go_enter Try.func86, Try.ntmps86
    go_wp2_with fail
    refine (spec_cyGood a b c false _ H.out).mono ?_
    rintro e w1 ⟨rfl, hb1⟩
    have hB1 : Below w.heap.size w w1 := Below.after (by go_grown) hb1
    obtain ⟨hc1, hf1⟩ := bcell hb1
    have hy1 := hb1.size
    try simp at hy1
    first | (with_reducible have hx1 := Nat.lt_of_succ_le hy1) | skip
    first | (with_reducible have hv1 := Nat.lt_of_succ_lt hx1) | skip
    first | (with_reducible have hu1 := Nat.lt_of_succ_lt hv1) | skip
    first | (have hz1 : w.heap.size < w1.heap.size := by omega) | (have hz1 := hB1.size)
    clear hb1
    go_wp2_with fail
    go_ret2
    exact ⟨_, rfl, by rw [Hll.out]; exact Fms.nil _ _, by go_grown⟩
theorem impl_CycleOf (a b c : Int) (l : List Fm) (v : Bool) (w : World) (h : CycOut a b c l v) :
    Calls Try.prog 87 #[.agg #[.int .i64 a, .int .i64 b, .int .i64 c]] w fun e w' => ∃ u, e = .returned (.tuple #[u, .bool v]) ∧ Fms w' w.heap.size u l ∧ Below w.heap.size w w' := by
  obtain ⟨x, y, z, p, q, r, s, hr, hl⟩ := h
  have Hl := Lib.hid hl
  have Hr := Lib.hid hr
  clear hl hr
  go_enter Try.func87, Try.ntmps87
  go_wp2_with fail
  refine (impl_ReduceIndefinite a b c x y z p q r s v _ Hr.out).mono ?_
  rintro e w1 ⟨rfl, hb1⟩
  have hB1 : Below w.heap.size w w1 := Below.after (by go_grown) hb1
  obtain ⟨hc1, hf1⟩ := bcell hb1
  have hy1 := hb1.size
  try simp at hy1
  first | (with_reducible have hx1 := Nat.lt_of_succ_le hy1) | skip
  first | (with_reducible have hv1 := Nat.lt_of_succ_lt hx1) | skip
  first | (with_reducible have hu1 := Nat.lt_of_succ_lt hv1) | skip
  first | (have hz1 : w.heap.size < w1.heap.size := by omega) | (have hz1 := hB1.size)
  clear hb1
  rcases Hl.out with ⟨hv1, hcy, hll⟩ | ⟨hv0, hll⟩
  · have Hcy := Lib.hid hcy
    have Hll := Lib.hid hll
    subst hv1
    clear hcy hll
    go_wp2_with fail
    refine (impl_cycle x y z (disc a b c) _ Hcy.out).mono ?_
    rintro e w3 ⟨u, rfl, hown, hb3⟩
    have hB3 : Below w.heap.size w w3 := Below.after (by go_grown) hb3
    have hown' := hown.mono (B' := w.heap.size) (by simp; omega)
    clear hown hb3
    go_wp2_with fail
    go_ret2
    exact ⟨u, rfl, by rw [Hll.out]; exact hown', hB3⟩
  · have Hll := Lib.hid hll
    subst hv0
    clear hll
    go_wp2_with fail
    go_ret2
    refine ⟨.slice (some ⟨w1.heap.size + 1 + 1, 0, none⟩) 0 0, rfl, ?_, by go_grown⟩
    rw [Hll.out]
    exact Fms.empty _ (by simp) (by simp; omega)
end Go.Proofs.Ytdonpiihjoihcaa
