/- Contracts and the walk of the law: whether two forms have the same cycle. -/
import Derived.Test.YtdonpiihjoihcaaCI
import Derived.Deep.RegionHeld3
namespace Go.Proofs.Ytdonpiihjoihcaa
set_option linter.unusedVariables false
open Go.ChangeShapes Go.WideShapes Go.ChangeAt Go.RowKit

theorem keep2 {w : World} {b1 b2 : Nat} {a b c x y z : Int} {ty : TypeId} (h1 : Holds w b1 (cF ⟨a, b, c⟩) ty) (h2 : Holds w b2 (cF ⟨x, y, z⟩) ty) :
    w.cell? ⟨b1, 0, none⟩ = some (.int .i64 a) ∧ w.cell? ⟨b1, 1, none⟩ = some (.int .i64 b) ∧ w.cell? ⟨b1, 2, none⟩ = some (.int .i64 c) ∧
    w.cell? ⟨b2, 0, none⟩ = some (.int .i64 x) ∧ w.cell? ⟨b2, 1, none⟩ = some (.int .i64 y) ∧ w.cell? ⟨b2, 2, none⟩ = some (.int .i64 z) :=
  ⟨h1.cell rfl, h1.cell rfl, h1.cell rfl, h2.cell rfl, h2.cell rfl, h2.cell rfl⟩
theorem keep4 {w : World} {b1 b2 b3 b4 : Nat} {a b c x y z a' b' c' x' y' z' : Int} {ty : TypeId} (h1 : Holds w b1 (cF ⟨a, b, c⟩) ty) (h2 : Holds w b2 (cF ⟨x, y, z⟩) ty) (h3 : Holds w b3 (cF ⟨a', b', c'⟩) ty) (h4 : Holds w b4 (cF ⟨x', y', z'⟩) ty) :
    w.cell? ⟨b1, 0, none⟩ = some (.int .i64 a) ∧ w.cell? ⟨b1, 1, none⟩ = some (.int .i64 b) ∧ w.cell? ⟨b1, 2, none⟩ = some (.int .i64 c) ∧
    w.cell? ⟨b2, 0, none⟩ = some (.int .i64 x) ∧ w.cell? ⟨b2, 1, none⟩ = some (.int .i64 y) ∧ w.cell? ⟨b2, 2, none⟩ = some (.int .i64 z) ∧
    w.cell? ⟨b3, 0, none⟩ = some (.int .i64 a') ∧ w.cell? ⟨b3, 1, none⟩ = some (.int .i64 b') ∧ w.cell? ⟨b3, 2, none⟩ = some (.int .i64 c') ∧
    w.cell? ⟨b4, 0, none⟩ = some (.int .i64 x') ∧ w.cell? ⟨b4, 1, none⟩ = some (.int .i64 y') ∧ w.cell? ⟨b4, 2, none⟩ = some (.int .i64 z') :=
  ⟨h1.cell rfl, h1.cell rfl, h1.cell rfl, h2.cell rfl, h2.cell rfl, h2.cell rfl, h3.cell rfl, h3.cell rfl, h3.cell rfl, h4.cell rfl, h4.cell rfl, h4.cell rfl⟩

/-- what SameCycle hands back -/
def SameOut (a b c x y z : Int) (r v : Bool) : Prop :=
  ∃ x1 y1 z1 p1 q1 r1 s1 v1 x2 y2 z2 p2 q2 r2 s2 v2, RedOut a b c x1 y1 z1 p1 q1 r1 s1 v1 ∧ RedOut x y z x2 y2 z2 p2 q2 r2 s2 v2 ∧ v = (v1 && v2) ∧
    ((v1 = true ∧ v2 = true ∧ Cy (disc a b c) ⟨x1, y1, z1⟩ ∧ Cy (disc x y z) ⟨x2, y2, z2⟩ ∧ decide ((⟨x2, y2, z2⟩ : Fm) ∈ cyc ⟨x1, y1, z1⟩) = r) ∨ ((v1 && v2) = false ∧ r = false))
theorem redOut_cy {a b c x y z p q r s : Int} (h : RedOut a b c x y z p q r s true) : Cy (disc a b c) ⟨x, y, z⟩ ∧ goodM ⟨p, q, r, s⟩ = true ∧ detM ⟨p, q, r, s⟩ = 1 := by
  rcases h with ⟨h, o, ho, hv⟩ | ⟨_, _, _, h⟩
  · cases o with
    | none => simp [redV] at hv
    | some fm =>
      obtain ⟨g, n⟩ := fm
      have := red_spec ho ⟨h, rfl⟩ (by decide) detM_one g n rfl
      simp only [redV, Prod.mk.injEq] at hv
      obtain ⟨rfl, rfl, _⟩ := hv
      exact this
  · cases h
theorem sameOut_ex (a b c x y z : Int) : ∃ r v, SameOut a b c x y z r v := by
  obtain ⟨x1, y1, z1, p1, q1, r1, s1, v1, h1⟩ := redOut_ex a b c
  obtain ⟨x2, y2, z2, p2, q2, r2, s2, v2, h2⟩ := redOut_ex x y z
  cases v1 with
  | true =>
    cases v2 with
    | true => exact ⟨_, _, x1, y1, z1, p1, q1, r1, s1, true, x2, y2, z2, p2, q2, r2, s2, true, h1, h2, rfl, .inl ⟨rfl, rfl, (redOut_cy h1).1, (redOut_cy h2).1, rfl⟩⟩
    | false => exact ⟨false, _, x1, y1, z1, p1, q1, r1, s1, true, x2, y2, z2, p2, q2, r2, s2, false, h1, h2, rfl, .inr ⟨rfl, rfl⟩⟩
  | false => exact ⟨false, _, x1, y1, z1, p1, q1, r1, s1, false, x2, y2, z2, p2, q2, r2, s2, v2, h1, h2, rfl, .inr ⟨rfl, rfl⟩⟩
theorem mem_disc {d d' : Int} {f g : Fm} (hf : Cy d f) (hg : Cy d' g) (hne : d ≠ d') : decide (g ∈ cyc f) = false := by
  simp only [decide_eq_false_iff_not]
  intro hm
  have := (cyc_mem hf hm).1.1.2
  exact hne (this.symm.trans hg.1.2)
set_option maxHeartbeats 1000000 in
theorem impl_SameCycle (a b c x y z : Int) (r v : Bool) (w : World) (h : SameOut a b c x y z r v) :
    Calls Try.prog 68 #[.agg #[.int .i64 a, .int .i64 b, .int .i64 c], .agg #[.int .i64 x, .int .i64 y, .int .i64 z]] w fun e w' => e = .returned (.tuple #[.bool r, .bool v]) ∧ Below w.heap.size w w' := by
  obtain ⟨x1, y1, z1, p1, q1, r1, s1, v1, x2, y2, z2, p2, q2, r2, s2, v2, h1, h2, rfl, hc⟩ := h
  have H1 := Lib.hid h1
  have H2 := Lib.hid h2
  have Hc := Lib.hid hc
  clear h1 h2 hc
  go_enter Try.func68, Try.ntmps68
  go_wp2_with fail
  refine (impl_ReduceIndefinite a b c x1 y1 z1 p1 q1 r1 s1 v1 _ H1.out).mono ?_
  rintro e w1 ⟨rfl, hb1⟩
  have hB1 : Below w.heap.size w w1 := Below.after (by go_grown) hb1
  have a2 : Holds w1 (w.heap.size + 1) (cF ⟨x, y, z⟩) 28 := by
    refine Holds.below ?_ hb1
    repeat (first | (refine Holds.new' _ _ _ ?_; simp; done) | refine Holds.alloc ?_ _ | refine Holds.far ?_ (by first | omega | (simp; done) | (simp; omega)))
  clear hb1
  have hz1 := a2.lt
  have cc0 : w1.cell? ⟨w.heap.size + 1, 0, none⟩ = some (.int .i64 x) := Holds.cell a2 rfl
  have cc1 : w1.cell? ⟨w.heap.size + 1, 1, none⟩ = some (.int .i64 y) := Holds.cell a2 rfl
  have cc2 : w1.cell? ⟨w.heap.size + 1, 2, none⟩ = some (.int .i64 z) := Holds.cell a2 rfl
  have ccf0 : w1.frozen? ⟨w.heap.size + 1, 0, none⟩ = false := Holds.free a2
  have ccf1 : w1.frozen? ⟨w.heap.size + 1, 1, none⟩ = false := Holds.free a2
  have ccf2 : w1.frozen? ⟨w.heap.size + 1, 2, none⟩ = false := Holds.free a2
  have A2 := Lib.hid a2
  clear a2
  have hz0 : w.heap.size < w1.heap.size := by omega
  go_wp2_with fail
  refine (impl_ReduceIndefinite x y z x2 y2 z2 p2 q2 r2 s2 v2 _ H2.out).mono ?_
  rintro e w2 ⟨rfl, hb2⟩
  have hB2 : Below w.heap.size w w2 := Below.after (by go_grown) hb2
  have b6 : Holds w2 w1.heap.size (cF ⟨x1, y1, z1⟩) 28 := by
    refine Holds.below (W := (w1.alloc (.cells (cF ⟨x1, y1, z1⟩) 28)).alloc (.cells (cM ⟨p1, q1, r1, s1⟩) 30)) ?_ hb2
    exact (Holds.new w1 _ _).alloc _
  clear hb2 cc0 cc1 cc2 ccf0 ccf1 ccf2 hB1
  have hz2 := b6.lt
  have B6 := Lib.hid b6
  clear b6
  rcases Hc.out with ⟨rfl, rfl, hcy1, hcy2, hr⟩ | ⟨hv, rfl⟩
  · have Hcy1 := Lib.hid hcy1
    have Hcy2 := Lib.hid hcy2
    have Hr := Lib.hid hr
    clear hcy1 hcy2 hr
    go_wp2_with fail
    refine region_named (fun W hW => ?_)
    have hB3 : Below w.heap.size w W := by rw [hW]; go_grown
    have i6 : Holds W w1.heap.size (cF ⟨x1, y1, z1⟩) 28 := by rw [hW]; exact (B6.out.alloc _).alloc _
    have i9 : Holds W w2.heap.size (cF ⟨x2, y2, z2⟩) 28 := by rw [hW]; repeat (first | (refine Holds.new' _ _ _ ?_; simp; done) | refine Holds.alloc ?_ _ | refine Holds.far ?_ (by first | omega | (simp; done) | (simp; omega)))
    clear hW
    have m6 := i6.drew
    have m9 := i9.drew
    have hBd : Below w.heap.size w W.drew := hB3.drew
    clear i6 i9 hB3
    go_region_held3 (fun w' => w'.cell? ⟨w1.heap.size, 0, none⟩ = some (.int .i64 x1) ∧ w'.cell? ⟨w1.heap.size, 1, none⟩ = some (.int .i64 y1) ∧ w'.cell? ⟨w1.heap.size, 2, none⟩ = some (.int .i64 z1) ∧
      w'.cell? ⟨w2.heap.size, 0, none⟩ = some (.int .i64 x2) ∧ w'.cell? ⟨w2.heap.size, 1, none⟩ = some (.int .i64 y2) ∧ w'.cell? ⟨w2.heap.size, 2, none⟩ = some (.int .i64 z2)) (exact keep2 m6 m9)
      (first
        | (go_at_call 111; refine (impl_cycle x1 y1 z1 (disc a b c) _ Hcy1.out).mono ?_; rintro e wn ⟨u, rfl, hown, hbn⟩; replace m6 := m6.below hbn; replace m9 := m9.below hbn; replace hBd := Below.after hBd hbn; have Hown := Lib.hid hown; clear hbn hown)
        | (go_at_call 110; refine (impl_hasForm (cyc ⟨x1, y1, z1⟩) _ x2 y2 z2 _ r _ (by have := cyc_len Hcy1.out; omega) Hown.out Hr.out).mono ?_; rintro e wn ⟨rfl, hbn⟩; replace m6 := m6.below hbn; replace m9 := m9.below hbn; replace hBd := Below.after hBd hbn; clear hbn))
    all_goals
      go_wp2_with fail
      refine bodyPost_ret (v := .tuple #[.bool r, .bool true]) (by simp [results, Try.results68, go_sem, *] <;> rfl) rfl ⟨rfl, hBd⟩
  · have Hv := Lib.hid hv
    clear hv
    cases v1 with
    | false =>
      go_wp2_with fail
      refine bodyPost_ret (v := .tuple #[.bool false, .bool false]) (by simp [results, Try.results68, go_sem, *] <;> rfl) rfl ⟨rfl, by go_grown⟩
    | true =>
      obtain rfl : v2 = false := by simpa using Hv.out
      go_wp2_with fail
      refine bodyPost_ret (v := .tuple #[.bool false, .bool false]) (by simp [results, Try.results68, go_sem, *] <;> rfl) rfl ⟨rfl, by go_grown⟩
theorem spec_foDisc_d (a b c D : Int) (w : World) (h : good3 a b c = true ∧ disc a b c = D) :
    Calls Try.prog 60 #[.agg #[.int .i64 a, .int .i64 b, .int .i64 c]] w fun e w' => e = .returned (.int .i64 D) ∧ Below w.heap.size w w' := by
  rw [← h.2]
  exact spec_foDisc a b c w h.1
set_option maxRecDepth 100000 in
set_option maxHeartbeats 1000000 in
theorem spec_SameCycle (a b c x y z : Int) (r v : Bool) (w : World) (h : SameOut a b c x y z r v) :
    Calls Try.prog 63 #[.agg #[.int .i64 a, .int .i64 b, .int .i64 c], .agg #[.int .i64 x, .int .i64 y, .int .i64 z]] w fun e w' => e = .returned (.tuple #[.bool r, .bool v]) ∧ Below w.heap.size w w' := by
  obtain ⟨x1, y1, z1, p1, q1, r1, s1, v1, x2, y2, z2, p2, q2, r2, s2, v2, h1, h2, rfl, hc⟩ := h
  have hcy1 := fun (e : v1 = true) => redOut_cy (e ▸ h1)
  have Hc := Lib.hid hc
  clear hc
  rcases h1 with ⟨g1, o1, ho1, hv1⟩ | ⟨g1, _, _, rfl⟩
  · rcases h2 with ⟨g2, o2, ho2, hv2⟩ | ⟨g2, _, _, rfl⟩
    · have G1 := Lib.hid g1
      have G2 := Lib.hid g2
      have O1 := Lib.hid ho1
      have O2 := Lib.hid ho2
      have V1 := Lib.hid hv1
      have V2 := Lib.hid hv2
      clear g1 g2 ho1 ho2 hv1 hv2 hcy1
      go_enter Try.func63, Try.ntmps63
      go_wp2_with fail
      refine (spec_cyGood a b c true _ G1.out).mono ?_
      rintro e w1 ⟨rfl, hb1⟩
      have hB1 : Below w.heap.size w w1 := Below.after (by go_grown) hb1
      have a1 : Holds w1 (w.heap.size) (cF ⟨a, b, c⟩) 28 := by
        refine Holds.below ?_ hb1
        repeat (first | (refine Holds.new' _ _ _ ?_; simp; done) | refine Holds.alloc ?_ _ | refine Holds.far ?_ (by first | omega | (simp; done) | (simp; omega)))
      have a2 : Holds w1 (w.heap.size + 1) (cF ⟨x, y, z⟩) 28 := by
        refine Holds.below ?_ hb1
        repeat (first | (refine Holds.new' _ _ _ ?_; simp; done) | refine Holds.alloc ?_ _ | refine Holds.far ?_ (by first | omega | (simp; done) | (simp; omega)))
      clear hb1
      have hz1 := a2.lt
      have hz0 : w.heap.size < w1.heap.size := by omega
      have ca0 : w1.cell? ⟨w.heap.size, 0, none⟩ = some (.int .i64 a) := Holds.cell a1 rfl
      have ca1 : w1.cell? ⟨w.heap.size, 1, none⟩ = some (.int .i64 b) := Holds.cell a1 rfl
      have ca2 : w1.cell? ⟨w.heap.size, 2, none⟩ = some (.int .i64 c) := Holds.cell a1 rfl
      have caf0 : w1.frozen? ⟨w.heap.size, 0, none⟩ = false := Holds.free a1
      have caf1 : w1.frozen? ⟨w.heap.size, 1, none⟩ = false := Holds.free a1
      have caf2 : w1.frozen? ⟨w.heap.size, 2, none⟩ = false := Holds.free a1
      have cc0 : w1.cell? ⟨w.heap.size + 1, 0, none⟩ = some (.int .i64 x) := Holds.cell a2 rfl
      have cc1 : w1.cell? ⟨w.heap.size + 1, 1, none⟩ = some (.int .i64 y) := Holds.cell a2 rfl
      have cc2 : w1.cell? ⟨w.heap.size + 1, 2, none⟩ = some (.int .i64 z) := Holds.cell a2 rfl
      have ccf0 : w1.frozen? ⟨w.heap.size + 1, 0, none⟩ = false := Holds.free a2
      have ccf1 : w1.frozen? ⟨w.heap.size + 1, 1, none⟩ = false := Holds.free a2
      have ccf2 : w1.frozen? ⟨w.heap.size + 1, 2, none⟩ = false := Holds.free a2
      have A1 := Lib.hid a1
      have A2 := Lib.hid a2
      clear a1 a2
      go_wp2_with fail
      refine (spec_cyGood x y z true _ G2.out).mono ?_
      rintro e w2 ⟨rfl, hb2⟩
      have hB2 : Below w.heap.size w w2 := Below.after (by go_grown) hb2
      have A1' := Lib.hid (A1.out.below hb2)
      have A2' := Lib.hid (A2.out.below hb2)
      clear A1 A2 hb2
      clear ca0 ca1 ca2 caf0 caf1 caf2
      clear cc0 cc1 cc2 ccf0 ccf1 ccf2
      have a1 := A1'.out
      have a2 := A2'.out
      clear hz1 hz0
      have hz1 := a2.lt
      have hz0 : w.heap.size < w2.heap.size := by omega
      have ca0 : w2.cell? ⟨w.heap.size, 0, none⟩ = some (.int .i64 a) := Holds.cell a1 rfl
      have ca1 : w2.cell? ⟨w.heap.size, 1, none⟩ = some (.int .i64 b) := Holds.cell a1 rfl
      have ca2 : w2.cell? ⟨w.heap.size, 2, none⟩ = some (.int .i64 c) := Holds.cell a1 rfl
      have caf0 : w2.frozen? ⟨w.heap.size, 0, none⟩ = false := Holds.free a1
      have caf1 : w2.frozen? ⟨w.heap.size, 1, none⟩ = false := Holds.free a1
      have caf2 : w2.frozen? ⟨w.heap.size, 2, none⟩ = false := Holds.free a1
      have cc0 : w2.cell? ⟨w.heap.size + 1, 0, none⟩ = some (.int .i64 x) := Holds.cell a2 rfl
      have cc1 : w2.cell? ⟨w.heap.size + 1, 1, none⟩ = some (.int .i64 y) := Holds.cell a2 rfl
      have cc2 : w2.cell? ⟨w.heap.size + 1, 2, none⟩ = some (.int .i64 z) := Holds.cell a2 rfl
      have ccf0 : w2.frozen? ⟨w.heap.size + 1, 0, none⟩ = false := Holds.free a2
      have ccf1 : w2.frozen? ⟨w.heap.size + 1, 1, none⟩ = false := Holds.free a2
      have ccf2 : w2.frozen? ⟨w.heap.size + 1, 2, none⟩ = false := Holds.free a2
      clear a1 a2 hB1
      go_wp2_with fail
      refine (spec_cyReduce a b c o1 x1 y1 z1 p1 q1 r1 s1 v1 _ G1.out O1.out V1.out).mono ?_
      rintro e w3 ⟨rfl, hb3⟩
      have hB3 : Below w.heap.size w w3 := Below.after (by go_grown) hb3
      have A1 := Lib.hid (A1'.out.below hb3)
      have A2 := Lib.hid (A2'.out.below hb3)
      clear A1' A2' hb3 hz1 hz0
      clear ca0 ca1 ca2 caf0 caf1 caf2
      clear cc0 cc1 cc2 ccf0 ccf1 ccf2
      have a1 := A1.out
      have a2 := A2.out
      have hz1 := a2.lt
      have hz0 : w.heap.size < w3.heap.size := by omega
      have ca0 : w3.cell? ⟨w.heap.size, 0, none⟩ = some (.int .i64 a) := Holds.cell a1 rfl
      have ca1 : w3.cell? ⟨w.heap.size, 1, none⟩ = some (.int .i64 b) := Holds.cell a1 rfl
      have ca2 : w3.cell? ⟨w.heap.size, 2, none⟩ = some (.int .i64 c) := Holds.cell a1 rfl
      have caf0 : w3.frozen? ⟨w.heap.size, 0, none⟩ = false := Holds.free a1
      have caf1 : w3.frozen? ⟨w.heap.size, 1, none⟩ = false := Holds.free a1
      have caf2 : w3.frozen? ⟨w.heap.size, 2, none⟩ = false := Holds.free a1
      have cc0 : w3.cell? ⟨w.heap.size + 1, 0, none⟩ = some (.int .i64 x) := Holds.cell a2 rfl
      have cc1 : w3.cell? ⟨w.heap.size + 1, 1, none⟩ = some (.int .i64 y) := Holds.cell a2 rfl
      have cc2 : w3.cell? ⟨w.heap.size + 1, 2, none⟩ = some (.int .i64 z) := Holds.cell a2 rfl
      have ccf0 : w3.frozen? ⟨w.heap.size + 1, 0, none⟩ = false := Holds.free a2
      have ccf1 : w3.frozen? ⟨w.heap.size + 1, 1, none⟩ = false := Holds.free a2
      have ccf2 : w3.frozen? ⟨w.heap.size + 1, 2, none⟩ = false := Holds.free a2
      clear a1 a2 hB2
      go_wp2_with fail
      refine (spec_cyReduce x y z o2 x2 y2 z2 p2 q2 r2 s2 v2 _ G2.out O2.out V2.out).mono ?_
      rintro e w4 ⟨rfl, hb4⟩
      have hB4 : Below w.heap.size w w4 := Below.after (by go_grown) hb4
      have A1' := Lib.hid (((A1.out.alloc _).alloc _).below hb4)
      have A2' := Lib.hid (((A2.out.alloc _).alloc _).below hb4)
      have b6 : Holds w4 w3.heap.size (cF ⟨x1, y1, z1⟩) 28 := by
        refine Holds.below (W := (w3.alloc (.cells (cF ⟨x1, y1, z1⟩) 28)).alloc (.cells (cM ⟨p1, q1, r1, s1⟩) 30)) ?_ hb4
        exact (Holds.new w3 _ _).alloc _
      clear A1 A2 hb4 hz1 hz0 hB3
      clear ca0 ca1 ca2 caf0 caf1 caf2
      clear cc0 cc1 cc2 ccf0 ccf1 ccf2
      have hz2 := b6.lt
      have hz1 := A2'.out.lt
      have hz0 : w.heap.size < w4.heap.size := by omega
      have B6 := Lib.hid b6
      clear b6
      rcases Hc.out with ⟨rfl, rfl, hcy1, hcy2, hr⟩ | ⟨hv, rfl⟩
      · have Hcy1 := Lib.hid hcy1
        have Hcy2 := Lib.hid hcy2
        have Hr := Lib.hid hr
        clear hcy1 hcy2 hr
        go_wp2_with fail
        refine region_named (fun W hW => ?_)
        have hB3 : Below w.heap.size w W := by rw [hW]; go_grown
        have i2 : Holds W w.heap.size (cF ⟨a, b, c⟩) 28 := by rw [hW]; exact (A1'.out.alloc _).alloc _
        have i3 : Holds W (w.heap.size + 1) (cF ⟨x, y, z⟩) 28 := by rw [hW]; exact (A2'.out.alloc _).alloc _
        have i6 : Holds W w3.heap.size (cF ⟨x1, y1, z1⟩) 28 := by rw [hW]; exact (B6.out.alloc _).alloc _
        have i9 : Holds W w4.heap.size (cF ⟨x2, y2, z2⟩) 28 := by rw [hW]; repeat (first | (refine Holds.new' _ _ _ ?_; simp; done) | refine Holds.alloc ?_ _ | refine Holds.far ?_ (by first | omega | (simp; done) | (simp; omega)))
        clear hW
        by_cases hd : disc a b c = disc x y z
        · obtain ⟨D, hD⟩ : ∃ D, D = disc a b c := ⟨_, rfl⟩
          have D1 := Lib.hid (And.intro (indefB_good G1.out) hD.symm)
          have D2 := Lib.hid (And.intro (indefB_good G2.out) (hd.symm.trans hD.symm))
          clear hd hD
          have m2 := i2.drew
          have m3 := i3.drew
          have m6 := i6.drew
          have m9 := i9.drew
          have hBd : Below w.heap.size w W.drew := hB3.drew
          clear i2 i3 i6 i9 hB3
          go_region_held3 (fun w' => w'.cell? ⟨w.heap.size, 0, none⟩ = some (.int .i64 a) ∧ w'.cell? ⟨w.heap.size, 1, none⟩ = some (.int .i64 b) ∧ w'.cell? ⟨w.heap.size, 2, none⟩ = some (.int .i64 c) ∧
            w'.cell? ⟨w.heap.size + 1, 0, none⟩ = some (.int .i64 x) ∧ w'.cell? ⟨w.heap.size + 1, 1, none⟩ = some (.int .i64 y) ∧ w'.cell? ⟨w.heap.size + 1, 2, none⟩ = some (.int .i64 z) ∧
            w'.cell? ⟨w3.heap.size, 0, none⟩ = some (.int .i64 x1) ∧ w'.cell? ⟨w3.heap.size, 1, none⟩ = some (.int .i64 y1) ∧ w'.cell? ⟨w3.heap.size, 2, none⟩ = some (.int .i64 z1) ∧
            w'.cell? ⟨w4.heap.size, 0, none⟩ = some (.int .i64 x2) ∧ w'.cell? ⟨w4.heap.size, 1, none⟩ = some (.int .i64 y2) ∧ w'.cell? ⟨w4.heap.size, 2, none⟩ = some (.int .i64 z2)) (exact keep4 m2 m3 m6 m9)
            (first
              | (go_at_call 60; refine (spec_foDisc_d _ _ _ D _ ?_).mono ?_; (first | exact D1.out | exact D2.out); rintro e wn ⟨rfl, hbn⟩; replace m2 := m2.below hbn; replace m3 := m3.below hbn; replace m6 := m6.below hbn; replace m9 := m9.below hbn; replace hBd := Below.after hBd hbn; clear hbn)
              | (go_at_call 105; refine (spec_cyCycle x1 y1 z1 (disc a b c) _ Hcy1.out).mono ?_; rintro e wn ⟨u, rfl, hown, hbn⟩; replace m2 := m2.below hbn; replace m3 := m3.below hbn; replace m6 := m6.below hbn; replace m9 := m9.below hbn; replace hBd := Below.after hBd hbn; have Hown := Lib.hid hown; clear hbn hown)
              | (go_at_call 104; refine (spec_cyHas (cyc ⟨x1, y1, z1⟩) _ x2 y2 z2 _ r _ (by have := cyc_len Hcy1.out; omega) Hown.out Hr.out).mono ?_; rintro e wn ⟨rfl, hbn⟩; replace m2 := m2.below hbn; replace m3 := m3.below hbn; replace m6 := m6.below hbn; replace m9 := m9.below hbn; replace hBd := Below.after hBd hbn; clear hbn))
          all_goals
            go_wp2_with fail
            refine bodyPost_ret (v := .tuple #[.bool r, .bool true]) (by simp [results, Try.results63, go_sem, *] <;> rfl) rfl ⟨rfl, hBd⟩
        · obtain ⟨D, hD⟩ : ∃ D, D = disc a b c := ⟨_, rfl⟩
          obtain ⟨E, hE⟩ : ∃ E, E = disc x y z := ⟨_, rfl⟩
          have D1 := Lib.hid (And.intro (indefB_good G1.out) hD.symm)
          have D2 := Lib.hid (And.intro (indefB_good G2.out) hE.symm)
          have hdd : (D == E) = false := by rw [hD, hE]; simpa using hd
          clear hD hE
          have Hr' := Lib.hid (Hr.out.symm.trans (mem_disc Hcy1.out Hcy2.out hd))
          obtain rfl := Hr'.out
          have e20 : ∀ x' : Aft W, x'.w.cell? ⟨w.heap.size, 0, none⟩ = some (.int .i64 a) := fun x' => x'.cell (Holds.lt i2) (Holds.cell i2 rfl)
          have e21 : ∀ x' : Aft W, x'.w.cell? ⟨w.heap.size, 1, none⟩ = some (.int .i64 b) := fun x' => x'.cell (Holds.lt i2) (Holds.cell i2 rfl)
          have e22 : ∀ x' : Aft W, x'.w.cell? ⟨w.heap.size, 2, none⟩ = some (.int .i64 c) := fun x' => x'.cell (Holds.lt i2) (Holds.cell i2 rfl)
          have e30 : ∀ x' : Aft W, x'.w.cell? ⟨(w.heap.size + 1), 0, none⟩ = some (.int .i64 x) := fun x' => x'.cell (Holds.lt i3) (Holds.cell i3 rfl)
          have e31 : ∀ x' : Aft W, x'.w.cell? ⟨(w.heap.size + 1), 1, none⟩ = some (.int .i64 y) := fun x' => x'.cell (Holds.lt i3) (Holds.cell i3 rfl)
          have e32 : ∀ x' : Aft W, x'.w.cell? ⟨(w.heap.size + 1), 2, none⟩ = some (.int .i64 z) := fun x' => x'.cell (Holds.lt i3) (Holds.cell i3 rfl)
          have e60 : ∀ x' : Aft W, x'.w.cell? ⟨w3.heap.size, 0, none⟩ = some (.int .i64 x1) := fun x' => x'.cell (Holds.lt i6) (Holds.cell i6 rfl)
          have e61 : ∀ x' : Aft W, x'.w.cell? ⟨w3.heap.size, 1, none⟩ = some (.int .i64 y1) := fun x' => x'.cell (Holds.lt i6) (Holds.cell i6 rfl)
          have e62 : ∀ x' : Aft W, x'.w.cell? ⟨w3.heap.size, 2, none⟩ = some (.int .i64 z1) := fun x' => x'.cell (Holds.lt i6) (Holds.cell i6 rfl)
          have e90 : ∀ x' : Aft W, x'.w.cell? ⟨w4.heap.size, 0, none⟩ = some (.int .i64 x2) := fun x' => x'.cell (Holds.lt i9) (Holds.cell i9 rfl)
          have e91 : ∀ x' : Aft W, x'.w.cell? ⟨w4.heap.size, 1, none⟩ = some (.int .i64 y2) := fun x' => x'.cell (Holds.lt i9) (Holds.cell i9 rfl)
          have e92 : ∀ x' : Aft W, x'.w.cell? ⟨w4.heap.size, 2, none⟩ = some (.int .i64 z2) := fun x' => x'.cell (Holds.lt i9) (Holds.cell i9 rfl)
          refine region_aft (by kernel_rfl) (by kernel_rfl) ?_
          repeat go_big_quiet_step ((first
            | (go_at_call 60; refine callsAft (spec_foDisc_d _ _ _ D _ ?_); exact D1.out)
            | (go_at_call 60; refine callsAft (spec_foDisc_d _ _ _ E _ ?_); exact D2.out)))
          refine wpQuiet_nil ?_
          intro w5 hb5
          have hB5 : Below w.heap.size w w5 := Below.after hB3 hb5
          go_wp2_with fail
          refine bodyPost_ret (v := .tuple #[.bool false, .bool true]) (by simp [results, Try.results63, go_sem, *] <;> rfl) rfl ⟨rfl, hB5⟩
      · have Hv := Lib.hid hv
        clear hv
        cases v1 with
        | false =>
          go_wp2_with fail
          refine bodyPost_ret (v := .tuple #[.bool false, .bool false]) (by simp [results, Try.results63, go_sem, *] <;> rfl) rfl ⟨rfl, by go_grown⟩
        | true =>
          obtain rfl : v2 = false := by simpa using Hv.out
          go_wp2_with fail
          refine bodyPost_ret (v := .tuple #[.bool false, .bool false]) (by simp [results, Try.results63, go_sem, *] <;> rfl) rfl ⟨rfl, by go_grown⟩
    · obtain rfl : r = false := by rcases Hc.out with ⟨_, h, _⟩ | ⟨_, h⟩ <;> simp_all
      have G1 := Lib.hid g1
      have G2 := Lib.hid g2
      clear g1 g2 hcy1 ho1 hv1 Hc
      rw [Bool.and_false]
      go_enter Try.func63, Try.ntmps63
      go_wp2_with fail
      refine (spec_cyGood a b c true _ G1.out).mono ?_
      rintro e w1 ⟨rfl, hb1⟩
      have hB1 : Below w.heap.size w w1 := Below.after (by go_grown) hb1
      have a2 : Holds w1 (w.heap.size + 1) (cF ⟨x, y, z⟩) 28 := by
        refine Holds.below ?_ hb1
        repeat (first | (refine Holds.new' _ _ _ ?_; simp; done) | refine Holds.alloc ?_ _ | refine Holds.far ?_ (by first | omega | (simp; done) | (simp; omega)))
      clear hb1
      have hz1 := a2.lt
      have hz0 : w.heap.size < w1.heap.size := by omega
      have cc0 : w1.cell? ⟨w.heap.size + 1, 0, none⟩ = some (.int .i64 x) := Holds.cell a2 rfl
      have cc1 : w1.cell? ⟨w.heap.size + 1, 1, none⟩ = some (.int .i64 y) := Holds.cell a2 rfl
      have cc2 : w1.cell? ⟨w.heap.size + 1, 2, none⟩ = some (.int .i64 z) := Holds.cell a2 rfl
      have ccf0 : w1.frozen? ⟨w.heap.size + 1, 0, none⟩ = false := Holds.free a2
      have ccf1 : w1.frozen? ⟨w.heap.size + 1, 1, none⟩ = false := Holds.free a2
      have ccf2 : w1.frozen? ⟨w.heap.size + 1, 2, none⟩ = false := Holds.free a2
      clear a2
      go_wp2_with fail
      refine (spec_cyGood x y z false _ G2.out).mono ?_
      rintro e w2 ⟨rfl, hb2⟩
      have hB2 : Below w.heap.size w w2 := Below.after (by go_grown) hb2
      go_wp2_with fail
      refine bodyPost_ret (v := .tuple #[.bool false, .bool false]) (by simp [results, Try.results63, go_sem, *] <;> rfl) rfl ⟨rfl, by go_grown⟩
  · obtain rfl : r = false := by rcases Hc.out with ⟨h, _⟩ | ⟨_, h⟩ <;> simp_all
    have G1 := Lib.hid g1
    clear g1 hcy1 h2 Hc
    rw [Bool.false_and]
    go_enter Try.func63, Try.ntmps63
    go_wp2_with fail
    refine (spec_cyGood a b c false _ G1.out).mono ?_
    rintro e w1 ⟨rfl, hb1⟩
    have hB1 : Below w.heap.size w w1 := Below.after (by go_grown) hb1
    go_wp2_with fail
    refine bodyPost_ret (v := .tuple #[.bool false, .bool false]) (by simp [results, Try.results63, go_sem, *] <;> rfl) rfl ⟨rfl, by go_grown⟩
end Go.Proofs.Ytdonpiihjoihcaa
