/- Contracts: proofs by reciprocity, made and checked. -/
import Derived.Test.YtiblpagbloflhaaRC
import Derived.Deep.LoopGhost
import Derived.Test.YtiblpagbloflhaaRL
namespace Go.Proofs.Ytiblpagbloflhaa
set_option linter.unusedVariables false
open Go.ChangeShapes Go.WideShapes Go.ChangeAt Go.RowKit

/-- what ReciprocityProof hands back -/
def RecOut (A N : Int) (l : List St) (v : Bool) : Prop :=
  (good A = true ∧ oddM N = true ∧ v = true ∧ ∃ K, K ≤ 2000000 ∧ StopS ⟨A, N, 1⟩ K ∧ l = itSL ⟨A, N, 1⟩ (K + 1)) ∨ ((good A = false ∨ (good A = true ∧ oddM N = false)) ∧ v = false ∧ l = [])
theorem recOut_ex (A N : Int) : ∃ l v, RecOut A N l v := by
  cases h1 : good A with
  | false => exact ⟨_, _, .inr ⟨.inl h1, rfl, rfl⟩⟩
  | true =>
    cases h2 : oddM N with
    | false => exact ⟨_, _, .inr ⟨.inr ⟨h1, h2⟩, rfl, rfl⟩⟩
    | true =>
      have hN := (oddM_iff.1 h2)
      obtain ⟨K, k1, k2⟩ := stop_ex hN.1.2 2000000 ⟨A, N, 1⟩ (okS_start h1 h2) (Jm_le hN.2.1 hN.1.2)
      exact ⟨_, _, .inl ⟨h1, h2, rfl, K, k1, k2, rfl⟩⟩
theorem Sts.empty (w : World) {B b : Nat} (hb : b = w.heap.size) (hB : B ≤ w.heap.size) : Sts (w.alloc (.cells #[] 58)) B (.slice (some ⟨b, 0, none⟩) 0 0) [] := by
  subst hb; exact Sts.made w [] #[] rfl hB (by simp)
theorem itSL_one (s : St) : itSL s 1 = [s] := rfl
theorem Holds.grownS {w w' : World} {b : Nat} {cs : Array Value} {ty : TypeId} {row : Option Nat} (h : Holds w b cs ty) (hg : w.grownBy w' row) (hne : some b ≠ row) : Holds w' b cs ty := (hg.block b h.lt hne).trans h
theorem own_neS {w : World} {B C : Nat} {v : Value} {l : List St} (h : Sts w B v l) (hC : C < B) : some C ≠ v.ownBlock := fun e => by
  have := (h.lt C e.symm).1; omega
theorem grownBy_setS (w : World) (b j : Nat) (v : Value) : w.grownBy (w.setCell ⟨b, j, none⟩ v) (some b) := by
  refine ⟨rfl, rfl, rfl, by simp [World.setCell], fun k hk hne => ?_⟩
  unfold World.setCell
  simp only [Array.getElem?_modify]
  rw [if_neg (fun e => hne (by rw [e]))]
theorem Sts.set3 {w : World} {B b : Nat} {v : Value} {l : List St} {p q r : Value} (h : Sts w B v l) (hne : v.ownBlock ≠ some b) : Sts (((w.setCell ⟨b, 0, none⟩ p).setCell ⟨b, 1, none⟩ q).setCell ⟨b, 2, none⟩ r) B v l :=
  ((h.kept (grownBy_setS w b 0 p) (.inr hne)).kept (grownBy_setS _ b 1 q) (.inr hne)).kept (grownBy_setS _ b 2 r) (.inr hne)
set_option maxHeartbeats 1000000 in
theorem spec_RecProof (A N : Int) (l : List St) (v : Bool) (w : World) (h : RecOut A N l v) :
    Calls Try.prog 44 #[.int .i64 A, .int .i64 N] w fun e w' => ∃ u, e = .returned (.tuple #[u, .bool v]) ∧ Sts w' w.heap.size u l ∧ Below w.heap.size w w' := by
  rcases h with ⟨h1, h2, rfl, K, k1, k2, rfl⟩ | ⟨h1 | ⟨h1, h2⟩, rfl, rfl⟩
  · have hN := oddM_iff.1 h2
    have hN6 := hN.1.2
    have Hok := Lib.hid (fun k (hk : k ≤ K) => okS_it (okS_start h1 h2) hN6 k2 k hk)
    obtain ⟨s0, hs0⟩ : ∃ s0 : St, (⟨A, N, 1⟩ : St) = s0 := ⟨_, rfl⟩
    rw [hs0] at k2 Hok
    have Hs0 := Lib.hid hs0
    have HK := Lib.hid k2
    have H1 := Lib.hid h1
    have H2 := Lib.hid h2
    clear h1 h2 hs0 k2 hN
    go_enter Try.func44, Try.ntmps44
    go_wp2_with fail
    refine (spec_nuGood A true _ H1.out).mono ?_
    rintro e w' ⟨rfl, rfl⟩
    go_wp2_with fail
    refine (spec_syOdd N true _ H2.out).mono ?_
    rintro e w' ⟨rfl, rfl⟩
    go_wp2_with fail
    have hl1 : Sts (w.alloc (.cells #[.int .i64 A, .int .i64 N, .int .i64 1] 58)) w.heap.size (.slice (some ⟨w.heap.size, 0, none⟩) 1 1) (itSL s0 1) := by
      rw [← Hs0.out]
      exact Sts.made w [⟨A, N, 1⟩] (cS ⟨A, N, 1⟩) rfl (Nat.le_refl _) (by simp)
    have Hl1 := Lib.hid hl1
    clear hl1
    go_loopg [6] K (fun n vl wr => ∃ k : Nat, k + n = K ∧ Sts wr w.heap.size vl (itSL s0 (k + 1)) ∧ Below w.heap.size w wr)
    case atStart => exact ⟨0, by omega, Hl1.out, by go_grown⟩
    case round =>
      obtain ⟨k, hkn, hl, hB⟩ := hrel
      clear Hl1
      have hs := hB.size
      rcases hg : itS k s0 with ⟨ta, tb, tc⟩
      have hok := Hok.out k (by omega)
      rw [hg] at hok
      have Hok1 := Lib.hid hok
      have Hg := Lib.hid hg
      obtain ⟨p, cp, rfl, _, hr⟩ := hl.view
      obtain ⟨g, rfl, _, hg1, c0, c1, c2, hfz⟩ := hl.read k (by rw [itSL_len]; omega)
      rw [itSL_get, hg] at c0 c1 c2
      rw [itSL_len] at hl
      have Hl := Lib.hid hl
      rw [itSL_len]
      have ek : ((k + 1 : Nat) : Int) - 1 = (k : Int) := by omega
      have ek2 : (k : Int) + 1 - 1 = (k : Int) := by omega
      clear hr hfz hl hg hok
      by_cases hK : k = K
      · subst hK
        have he := Lib.hid (show (decide (ta = 0) || decide (ta = 1)) = true by have := HK.out.1; rw [Hg.out] at this; exact this)
        go_wp2_with fail
        refine (spec_syEnd ta tb tc true _ he.out).mono ?_
        rintro e w2 ⟨rfl, hb2⟩
        have hB2 : Below w.heap.size w w2 := Below.after hB hb2
        have Hl2 := Lib.hid (Hl.out.below hb2)
        clear hb2 hB Hl
        go_wp2_with fail
        go_ret2
        exact ⟨_, rfl, (by have := Hl2.out; rw [← Hs0.out] at this; exact this), hB2⟩
      · have he := Lib.hid (show (decide (ta = 0) || decide (ta = 1)) = false by have := HK.out.2 k (by omega); rw [Hg.out] at this; exact this)
        rcases hn : nxS ⟨ta, tb, tc⟩ with ⟨ta', tb', tc'⟩
        have Hn := Lib.hid hn
        have Hnx := Lib.hid (show itS (k + 1) s0 = ⟨ta', tb', tc'⟩ by show nxS (itS k s0) = _; rw [Hg.out, hn])
        clear hn
        go_wp2_with fail
        refine (spec_syEnd ta tb tc false _ he.out).mono ?_
        rintro e w2 ⟨rfl, hb2⟩
        have hB2 : Below w.heap.size w w2 := Below.after hB hb2
        have hl2 := Hl.out.below hb2
        obtain ⟨_, g2, c0', c1', c2', hfz2⟩ : w.heap.size ≤ g ∧ g < w2.heap.size ∧ w2.cell? ⟨g, k * 3, none⟩ = some (.int .i64 ta) ∧ w2.cell? ⟨g, k * 3 + 1, none⟩ = some (.int .i64 tb) ∧ w2.cell? ⟨g, k * 3 + 2, none⟩ = some (.int .i64 tc) ∧ True := by
          have hl3 : Sts w2 w.heap.size (.slice (some ⟨g, 0, none⟩) (itSL s0 (k + 1)).length cp) (itSL s0 (k + 1)) := by rw [itSL_len]; exact hl2
          obtain ⟨g', e, a1, a2, a3, a4, a5, _⟩ := hl3.read k (by rw [itSL_len]; omega)
          injection e with e
          injection e with e
          subst e
          rw [itSL_get, Hg.out] at a3 a4 a5
          exact ⟨a1, a2, a3, a4, a5, trivial⟩
        have Hl2 := Lib.hid hl2
        clear hb2 hB Hl hl2 c0 c1 c2 hg1 hfz2
        go_wp2_with fail
        refine (spec_succ ta tb tc ta' tb' tc' _ Hok1.out hN6 Hn.out).mono ?_
        rintro e w3 ⟨rfl, hb3⟩
        have hB3 : Below w.heap.size w w3 := Below.after hB2 hb3
        have hl3 := Hl2.out.below hb3
        have hs3 := hB3.size
        have Hm := Lib.hid (hl3.alloc (.cells (cS ⟨ta', tb', tc'⟩) 58))
        have Hn2 : Hid (Holds (w3.alloc (.cells (cS ⟨ta', tb', tc'⟩) 58)) w3.heap.size (cS ⟨ta', tb', tc'⟩) 58) := Lib.hid (Holds.new _ _ _)
        have hBa : Below w.heap.size w (w3.alloc (.cells (cS ⟨ta', tb', tc'⟩) 58)) := hB3.alloc hs3 _
        have hlen : (itSL s0 (k + 1)).length ≤ 10000000 := by rw [itSL_len]; omega
        clear hb3 hB2 Hl2 hl3 c0' c1' c2'
        go_wp2_with (at_builtin; refine app_st w.heap.size (itSL s0 (k + 1)) ⟨ta', tb', tc'⟩ (.slice (some ⟨g, 0, none⟩) (k + 1) cp) w3.heap.size _ _ rfl rfl rfl rfl Hm.out Hn2.out hlen (by simp; omega) ?_)
        intro v' w4 hown4 hgrow4
        have hB4 : Below w.heap.size w w4 := below_grownS hBa Hm.out hgrow4 (by have := hBa.size; simp at this ⊢; omega)
        have Ho4 := Lib.hid (show Sts w4 w.heap.size v' (itSL s0 (k + 1 + 1)) by rw [itSL_succ, Hnx.out]; exact hown4)
        clear hown4 hgrow4 hBa Hm Hn2
        go_wp2_with fail
        go_roundg (gk - 1)
        case measure => omega
        case rel => exact ⟨k + 1, by omega, Ho4.out, hB4⟩
  · have H1 := Lib.hid h1
    clear h1
    go_enter Try.func44, Try.ntmps44
    go_wp2_with fail
    refine (spec_nuGood A false _ H1.out).mono ?_
    rintro e w' ⟨rfl, rfl⟩
    go_wp2_with fail
    go_ret2
    exact ⟨_, rfl, Sts.nil _ _, by go_grown⟩
  · have H1 := Lib.hid h1
    have H2 := Lib.hid h2
    clear h1 h2
    go_enter Try.func44, Try.ntmps44
    go_wp2_with fail
    refine (spec_nuGood A true _ H1.out).mono ?_
    rintro e w' ⟨rfl, rfl⟩
    go_wp2_with fail
    refine (spec_syOdd N false _ H2.out).mono ?_
    rintro e w' ⟨rfl, rfl⟩
    go_wp2_with fail
    go_ret2
    exact ⟨_, rfl, Sts.nil _ _, by go_grown⟩
set_option maxHeartbeats 1000000 in
theorem impl_RecProof (A N : Int) (l : List St) (v : Bool) (w : World) (h : RecOut A N l v) :
    Calls Try.prog 43 #[.int .i64 A, .int .i64 N] w fun e w' => ∃ u, e = .returned (.tuple #[u, .bool v]) ∧ Sts w' w.heap.size u l ∧ Below w.heap.size w w' := by
  rcases h with ⟨h1, h2, rfl, K, k1, k2, rfl⟩ | ⟨h1 | ⟨h1, h2⟩, rfl, rfl⟩
  · have hN := oddM_iff.1 h2
    have hN6 := hN.1.2
    have Hok := Lib.hid (fun k (hk : k ≤ K) => okS_it (okS_start h1 h2) hN6 k2 k hk)
    obtain ⟨s0, hs0⟩ : ∃ s0 : St, (⟨A, N, 1⟩ : St) = s0 := ⟨_, rfl⟩
    rw [hs0] at k2 Hok
    have Hs0 := Lib.hid hs0
    have HK := Lib.hid k2
    have H1 := Lib.hid h1
    have H2 := Lib.hid h2
    clear h1 h2 hs0 k2 hN
    go_enter Try.func43, Try.ntmps43
    go_wp2_with fail
    refine (are1 A _ _ true _ H1.out (by simp)).mono ?_
    rintro e w' ⟨rfl, rfl⟩
    go_wp2_with fail
    refine (impl_isOddModulus N true _ H2.out).mono ?_
    rintro e w1 ⟨rfl, hb1⟩
    have hB1 : Below w.heap.size w w1 := Below.after (by go_grown) hb1
    clear hb1
    have hs1 := hB1.size
    go_wp2_with fail
    have hbx : Holds ((w1.alloc (.cells (cS ⟨A, N, 1⟩) 58)).alloc (.cells (cS ⟨A, N, 1⟩) 58)) w1.heap.size (cS (itS 0 s0)) 58 := by
      have e : itS 0 s0 = ⟨A, N, 1⟩ := Hs0.out.symm
      rw [e]
      exact (Holds.new w1 _ _).alloc _
    have hl1 : Sts ((w1.alloc (.cells (cS ⟨A, N, 1⟩) 58)).alloc (.cells (cS ⟨A, N, 1⟩) 58)) (w1.heap.size + 1) (.slice (some ⟨w1.heap.size + 1, 0, none⟩) 1 1) (itSL s0 1) := by
      rw [← Hs0.out]
      have := Sts.made (w1.alloc (.cells (cS ⟨A, N, 1⟩) 58)) (B := w1.heap.size + 1) [⟨A, N, 1⟩] (cS ⟨A, N, 1⟩) rfl (by simp) (by simp)
      rw [itSL_one]
      simpa using this
    have Hl1 := Lib.hid hl1
    have Hbx := Lib.hid hbx
    clear hl1 hbx
    go_loopg [7] K (fun n vl wr => ∃ k : Nat, k + n = K ∧ Sts wr (w1.heap.size + 1) vl (itSL s0 (k + 1)) ∧ Holds wr w1.heap.size (cS (itS k s0)) 58 ∧ Below w.heap.size w wr)
    case atStart => exact ⟨0, by omega, Hl1.out, Hbx.out, by go_grown⟩
    case round =>
      obtain ⟨k, hkn, hl, hh, hB⟩ := hrel
      clear Hl1 Hbx hB1
      have hs := hB.size
      rcases hg : itS k s0 with ⟨ta, tb, tc⟩
      have hok := Hok.out k (by omega)
      rw [hg] at hok hh
      have Hok1 := Lib.hid hok
      have Hg := Lib.hid hg
      have Hl := Lib.hid hl
      have hzb := hh.lt
      have y0 : wr.cell? ⟨w1.heap.size, 0, none⟩ = some (.int .i64 ta) := Holds.cell hh rfl
      have y1 : wr.cell? ⟨w1.heap.size, 1, none⟩ = some (.int .i64 tb) := Holds.cell hh rfl
      have y2 : wr.cell? ⟨w1.heap.size, 2, none⟩ = some (.int .i64 tc) := Holds.cell hh rfl
      have yf0 : wr.frozen? ⟨w1.heap.size, 0, none⟩ = false := Holds.free hh
      have yf1 : wr.frozen? ⟨w1.heap.size, 1, none⟩ = false := Holds.free hh
      have yf2 : wr.frozen? ⟨w1.heap.size, 2, none⟩ = false := Holds.free hh
      have Hh := Lib.hid hh
      clear hl hg hok hh
      by_cases hK : k = K
      · subst hK
        have he := Lib.hid (show (decide (ta = 0) || decide (ta = 1)) = true by have := HK.out.1; rw [Hg.out] at this; exact this)
        go_wp2_with fail
        refine (impl_ends ta tb tc true _ he.out).mono ?_
        rintro e w2 ⟨rfl, hb2⟩
        have hB2 : Below w.heap.size w w2 := Below.after hB hb2
        have Hl2 := Lib.hid ((Hl.out.below hb2).mono (B' := w.heap.size) (by omega))
        clear hb2 hB Hl
        go_wp2_with fail
        go_ret2
        exact ⟨_, rfl, (by have := Hl2.out; rw [← Hs0.out] at this; exact this), hB2⟩
      · have he := Lib.hid (show (decide (ta = 0) || decide (ta = 1)) = false by have := HK.out.2 k (by omega); rw [Hg.out] at this; exact this)
        rcases hn : nxS ⟨ta, tb, tc⟩ with ⟨ta', tb', tc'⟩
        have Hn := Lib.hid hn
        have Hnx := Lib.hid (show itS (k + 1) s0 = ⟨ta', tb', tc'⟩ by show nxS (itS k s0) = _; rw [Hg.out, hn])
        clear hn
        go_wp2_with fail
        refine (impl_ends ta tb tc false _ he.out).mono ?_
        rintro e w2 ⟨rfl, hb2⟩
        have hB2 : Below w.heap.size w w2 := Below.after hB hb2
        have Hl2 := Lib.hid (Hl.out.below hb2)
        have hh2 := Hh.out.below hb2
        clear y0 y1 y2 yf0 yf1 yf2
        have y0 : w2.cell? ⟨w1.heap.size, 0, none⟩ = some (.int .i64 ta) := Holds.cell hh2 rfl
        have y1 : w2.cell? ⟨w1.heap.size, 1, none⟩ = some (.int .i64 tb) := Holds.cell hh2 rfl
        have y2 : w2.cell? ⟨w1.heap.size, 2, none⟩ = some (.int .i64 tc) := Holds.cell hh2 rfl
        have yf0 : w2.frozen? ⟨w1.heap.size, 0, none⟩ = false := Holds.free hh2
        have yf1 : w2.frozen? ⟨w1.heap.size, 1, none⟩ = false := Holds.free hh2
        have yf2 : w2.frozen? ⟨w1.heap.size, 2, none⟩ = false := Holds.free hh2
        have Hh2 := Lib.hid hh2
        clear hb2 hB Hl Hh hh2
        go_wp2_with fail
        refine (impl_next ta tb tc ta' tb' tc' _ Hok1.out hN6 Hn.out).mono ?_
        rintro e w3 ⟨rfl, hb3⟩
        have hB3 : Below w.heap.size w w3 := Below.after hB2 hb3
        have Hl3 := Lib.hid (Hl2.out.below hb3)
        have hh3 := Hh2.out.below hb3
        have hzb3 := hh3.lt
        clear y0 y1 y2 yf0 yf1 yf2
        have y0 : w3.cell? ⟨w1.heap.size, 0, none⟩ = some (.int .i64 ta) := Holds.cell hh3 rfl
        have y1 : w3.cell? ⟨w1.heap.size, 1, none⟩ = some (.int .i64 tb) := Holds.cell hh3 rfl
        have y2 : w3.cell? ⟨w1.heap.size, 2, none⟩ = some (.int .i64 tc) := Holds.cell hh3 rfl
        have yf0 : w3.frozen? ⟨w1.heap.size, 0, none⟩ = false := Holds.free hh3
        have yf1 : w3.frozen? ⟨w1.heap.size, 1, none⟩ = false := Holds.free hh3
        have yf2 : w3.frozen? ⟨w1.heap.size, 2, none⟩ = false := Holds.free hh3
        have Hh3 := Lib.hid hh3
        clear hb3 hB2 Hl2 Hh2 hh3
        have hs3 := hB3.size
        have hlen : (itSL s0 (k + 1)).length ≤ 10000000 := by rw [itSL_len]; omega
        have hne : u7.ownBlock ≠ some w1.heap.size := fun e => by have := (Hl3.out.lt _ e).1; omega
        obtain ⟨W3, hW3⟩ : ∃ W3, W3 = ((w3.setCell ⟨w1.heap.size, 0, none⟩ (.int .i64 ta')).setCell ⟨w1.heap.size, 1, none⟩ (.int .i64 tb')).setCell ⟨w1.heap.size, 2, none⟩ (.int .i64 tc') := ⟨_, rfl⟩
        have Hl4 : Hid (Sts W3 (w1.heap.size + 1) u7 (itSL s0 (k + 1))) := Lib.hid (by rw [hW3]; exact Sts.set3 Hl3.out hne)
        have Hh4 : Hid (Holds W3 w1.heap.size (cS ⟨ta', tb', tc'⟩) 58) := Lib.hid (by rw [hW3]; exact Holds.set3 Hh3.out)
        have hz4 : W3.heap.size = w3.heap.size := by rw [hW3]; simp [World.setCell]
        have hB4 : Below w.heap.size w W3 := by
          rw [hW3]
          refine ((hB3.grown (grownBy_setS w3 w1.heap.size 0 _) hs3 ?_).grown (grownBy_setS _ w1.heap.size 1 _) (by simpa [World.setCell] using hs3) ?_).grown (grownBy_setS _ w1.heap.size 2 _) (by simpa [World.setCell] using hs3) ?_
          all_goals
            intro k' hk'
            injection hk' with hk'
            omega
        have HW3 := Lib.hid hW3
        have Hm := Lib.hid (Hl4.out.alloc (.cells (cS ⟨ta', tb', tc'⟩) 58))
        have Hn2 : Hid (Holds (W3.alloc (.cells (cS ⟨ta', tb', tc'⟩) 58)) w3.heap.size (cS ⟨ta', tb', tc'⟩) 58) := Lib.hid (by rw [← hz4]; exact Holds.new _ _ _)
        have Hh5 := Lib.hid (Hh4.out.alloc (.cells (cS ⟨ta', tb', tc'⟩) 58))
        have hBa : Below w.heap.size w (W3.alloc (.cells (cS ⟨ta', tb', tc'⟩) 58)) := hB4.alloc (by omega) _
        clear hW3 hB3
        have hW4 := HW3.out
        clear HW3
        subst hW4
        clear Hl4 Hh4 hB4
        go_wp2_with (at_builtin; refine app_st (w1.heap.size + 1) (itSL s0 (k + 1)) ⟨ta', tb', tc'⟩ u7 w3.heap.size _ _ rfl rfl rfl rfl Hm.out Hn2.out hlen (by simp [World.setCell]; omega) ?_)
        intro v' w4 hown4 hgrow4
        have hB5 : Below w.heap.size w w4 := below_grownS hBa (Hm.out.mono (B' := w.heap.size) (by omega)) hgrow4 (by have := hBa.size; simpa using this)
        have Ho4 := Lib.hid (show Sts w4 (w1.heap.size + 1) v' (itSL s0 (k + 1 + 1)) by rw [itSL_succ, Hnx.out]; exact hown4)
        have hh5 : Holds w4 w1.heap.size (cS (itS (k + 1) s0)) 58 := by
          rw [Hnx.out]
          exact Hh5.out.grownS hgrow4 (fun e => hne e.symm)
        have Hh6 := Lib.hid hh5
        clear hown4 hgrow4 hBa Hm Hn2 Hh5 hh5
        go_wp2_with fail
        go_roundg (gk - 1)
        case measure => omega
        case rel => exact ⟨k + 1, by omega, Ho4.out, Hh6.out, hB5⟩
  · have H1 := Lib.hid h1
    clear h1
    go_enter Try.func43, Try.ntmps43
    go_wp2_with fail
    refine (are1 A _ _ false _ H1.out (by simp)).mono ?_
    rintro e w' ⟨rfl, rfl⟩
    go_wp2_with fail
    go_ret2
    exact ⟨_, rfl, Sts.empty (w.alloc _) (by simp) (by simp), by go_grown⟩
  · have H1 := Lib.hid h1
    have H2 := Lib.hid h2
    clear h1 h2
    go_enter Try.func43, Try.ntmps43
    go_wp2_with fail
    refine (are1 A _ _ true _ H1.out (by simp)).mono ?_
    rintro e w' ⟨rfl, rfl⟩
    go_wp2_with fail
    refine (impl_isOddModulus N false _ H2.out).mono ?_
    rintro e w1 ⟨rfl, hb1⟩
    have hB1 : Below w.heap.size w w1 := Below.after (by go_grown) hb1
    obtain ⟨hc1, hf1⟩ := bcell hb1
    have hy1 := hb1.size
    try simp at hy1
    first | (with_reducible have hx1 := Nat.lt_of_succ_le hy1) | skip
    first | (with_reducible have hv1 := Nat.lt_of_succ_lt hx1) | skip
    first | (with_reducible have hu1 := Nat.lt_of_succ_lt hv1) | skip
    first | (have hz1 : w.heap.size < w1.heap.size := by omega) | (have hz1 := hB1.size)
    clear hb1
    go_wp2_with fail
    go_ret2
    exact ⟨_, rfl, Sts.empty w1 (by simp) (by omega), by go_grown⟩
end Go.Proofs.Ytiblpagbloflhaa
