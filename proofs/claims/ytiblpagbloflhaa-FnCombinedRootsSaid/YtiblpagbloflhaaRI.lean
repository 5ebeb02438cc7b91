/- Contracts: whether steps are a proof by reciprocity; the sums of Eisenstein. -/
import Derived.Test.YtiblpagbloflhaaRR
namespace Go.Proofs.Ytiblpagbloflhaa
set_option linter.unusedVariables false
open Go.ChangeShapes Go.WideShapes Go.ChangeAt Go.RowKit

/-- the steps of a proof, the last one's sign times fl -/
def FlS (s0 : St) (K : Nat) (fl : Int) (l : List St) : Prop := l.length = K + 1 ∧ ∀ i (h : i < l.length), l[i] = if i = K then ⟨(itS K s0).a, (itS K s0).b, fl * (itS K s0).c⟩ else itS i s0
theorem flS_one (s0 : St) (K : Nat) : FlS s0 K 1 (itSL s0 (K + 1)) := by
  refine ⟨itSL_len _ _, fun i h => ?_⟩
  rw [itSL_get]
  split
  · rename_i e; subst e; rw [Int.one_mul]
  · rfl
theorem flS_neg (s0 : St) (K : Nat) : FlS s0 K (-1) ((itSL s0 (K + 1)).set K ⟨(itS K s0).a, (itS K s0).b, -(itS K s0).c⟩) := by
  refine ⟨by rw [List.length_set, itSL_len], fun i h => ?_⟩
  rw [List.getElem_set]
  by_cases e : K = i
  · subst e
    rw [if_pos rfl, if_pos rfl]
    congr 1
    omega
  · rw [if_neg e, if_neg (fun x => e x.symm), itSL_get]
set_option maxHeartbeats 1000000 in
set_option maxRecDepth 100000 in
theorem impl_IsRP (A N : Int) (K : Nat) (fl : Int) (v : Bool) (u : Value) (B : Nat) (l : List St) (w : World) (h1 : good A = true) (h2 : oddM N = true) (hK : StopS ⟨A, N, 1⟩ K) (hKb : K ≤ 2000000) (hl : FlS ⟨A, N, 1⟩ K fl l) (hf : (fl = 1 ∧ v = true) ∨ (fl = -1 ∧ v = false)) (hu : Sts w B u l) :
    Calls Try.prog 46 #[u] w fun e w' => e = .returned (.bool v) ∧ Below w.heap.size w w' := by
  obtain ⟨hll, hlg⟩ := hl
  obtain ⟨p, cp, rfl, _, hr⟩ := hu.view
  have hN := oddM_iff.1 h2
  have hN6 := hN.1.2
  have Hok := Lib.hid (fun k (hk : k ≤ K) => okS_it (okS_start h1 h2) hN6 hK k hk)
  have Hr := Lib.hid hr
  have H1 := Lib.hid h1
  have H2 := Lib.hid h2
  have Hg := Lib.hid hlg
  have HK := Lib.hid hK
  rw [hll]
  by_cases hbad : K = 0 ∧ fl = -1
  · obtain ⟨rfl, rfl⟩ := hbad
    obtain rfl : v = false := by rcases hf with ⟨h, _⟩ | ⟨_, h⟩; omega; exact h
    obtain ⟨g, rfl, _, hg1, c0, c1, c2, _⟩ := Hr.out 0 (by omega)
    rw [Hg.out 0 (by omega)] at c0 c1 c2
    have c2' : w.cell? ⟨g, 2, none⟩ = some (.int .i64 (-1)) := by simpa [itS] using c2
    clear c0 c1 c2 hr hlg h1 h2 hK hu Hr Hg
    go_enter Try.func46, Try.ntmps46
    go_wp2_with fail
    go_ret
    exact ⟨rfl, by go_grown⟩
  · have hfirst : ∃ g, p = some ⟨g, 0, none⟩ ∧ g < w.heap.size ∧ w.cell? ⟨g, 0, none⟩ = some (.int .i64 A) ∧ w.cell? ⟨g, 1, none⟩ = some (.int .i64 N) ∧ w.cell? ⟨g, 2, none⟩ = some (.int .i64 1) := by
      obtain ⟨g, e, _, hg1, c0, c1, c2, _⟩ := Hr.out 0 (by omega)
      rw [Hg.out 0 (by omega)] at c0 c1 c2
      by_cases h0 : K = 0
      · have hfl : fl = 1 := by rcases hf with ⟨h, _⟩ | ⟨h, _⟩; exact h; exact absurd ⟨h0, h⟩ hbad
        subst h0; subst hfl
        exact ⟨g, e, hg1, by simpa [itS] using c0, by simpa [itS] using c1, by simpa [itS] using c2⟩
      · rw [if_neg (by omega)] at c0 c1 c2
        exact ⟨g, e, hg1, by simpa [itS] using c0, by simpa [itS] using c1, by simpa [itS] using c2⟩
    obtain ⟨g, rfl, hg1, c0, c1, c2⟩ := hfirst
    have Hf := Lib.hid hf
    have Hbad := Lib.hid hbad
    have bK : (((K : Int) + 1) == 0) = false := beqF (by omega)
    clear hr hlg h1 h2 hK hu hf hbad
    go_enter Try.func46, Try.ntmps46
    go_wp2_with fail
    refine (impl_isOddModulus N true _ H2.out).mono ?_
    rintro e w1 ⟨rfl, hb1⟩
    have hB1 : Below w.heap.size w w1 := Below.after (by go_grown) hb1
    have hs1 := hB1.size
    have c0' : w1.cell? ⟨g, 0, none⟩ = some (.int .i64 A) := (hb1.cell (p := ⟨g, 0, none⟩) hg1).trans c0
    clear hb1
    go_wp2_with fail
    refine (are1 A _ _ true _ H1.out (by simp)).mono ?_
    rintro e w' ⟨rfl, rfl⟩
    go_wp2_with fail
    go_loopw [3] (fun i wr => (∃ j m : Nat, i = .int .i64 m ∧ m = j + 1 ∧ j ≤ K ∧ (fl = -1 → j < K)) ∧ Below w.heap.size w wr) (fun i _ => K + 1 - (intOf i).toNat)
    case atStart => exact ⟨⟨0, 1, rfl, rfl, by omega, fun h => by have := Hbad.out; omega⟩, by go_grown⟩
    case round =>
      obtain ⟨⟨j, m, rfl, hm, hj, hjf⟩, hB⟩ := hrel
      clear hB1 c0 c1 c2 c0'
      have hs := hB.size
      by_cases hlt : j < K
      · obtain ⟨g', e, _, hg1', d0, d1, d2, _⟩ := Hr.out j (by omega)
        injection e with e
        injection e with e
        subst e
        rw [Hg.out j (by omega), if_neg (by omega)] at d0 d1 d2
        obtain ⟨g', e, _, _, f0, f1, f2, _⟩ := Hr.out m (by omega)
        injection e with e
        injection e with e
        subst e
        rw [Hg.out m (by omega)] at f0 f1 f2
        rcases hgj : itS j ⟨A, N, 1⟩ with ⟨ta, tb, tc⟩
        rw [hgj] at d0 d1 d2
        rcases hn : nxS ⟨ta, tb, tc⟩ with ⟨ta', tb', tc'⟩
        have hnx : itS m ⟨A, N, 1⟩ = ⟨ta', tb', tc'⟩ := by rw [hm]; show nxS (itS j _) = _; rw [hgj, hn]
        have hok := Hok.out j (by omega)
        rw [hgj] at hok
        have Hok1 := Lib.hid hok
        have Hn := Lib.hid hn
        have He := Lib.hid (show (decide (ta = 0) || decide (ta = 1)) = false by have := HK.out.2 j hlt; rw [hgj] at this; exact this)
        have em : (m : Int) - 1 = (j : Int) := by omega
        have bm : decide ((m : Int) < ((K + 1 : Nat) : Int)) = true := by simp; omega
        have q0 : ∀ x : Aft wr, x.w.cell? ⟨g, j * 3, none⟩ = some (.int .i64 ta) := fun x => x.cell (by omega) ((hB.cell (p := ⟨g, j * 3, none⟩) hg1).trans d0)
        have q1 : ∀ x : Aft wr, x.w.cell? ⟨g, j * 3 + 1, none⟩ = some (.int .i64 tb) := fun x => x.cell (by omega) ((hB.cell (p := ⟨g, j * 3 + 1, none⟩) hg1).trans d1)
        have q2 : ∀ x : Aft wr, x.w.cell? ⟨g, j * 3 + 2, none⟩ = some (.int .i64 tc) := fun x => x.cell (by omega) ((hB.cell (p := ⟨g, j * 3 + 2, none⟩) hg1).trans d2)
        by_cases hlast : m = K ∧ fl = -1
        · obtain ⟨e1, e2⟩ := hlast
          rw [if_pos e1, ← e1, hnx] at f0 f1 f2
          have htc : ¬ -1 * tc' = tc' := by
            have := (Hok.out m (by omega)).c1
            rw [hnx] at this
            have this : tc' = 1 ∨ tc' = -1 := this
            omega
          have hv : v = false := by rcases Hf.out with ⟨h, _⟩ | ⟨_, h⟩; omega; exact h
          subst hv
          obtain ⟨td, htd⟩ : ∃ td, fl * tc' = td := ⟨_, rfl⟩
          have bt : (td == tc') = false := beqF (by rw [← htd, e2]; exact htc)
          have f2' : w.cell? ⟨g, m * 3 + 2, none⟩ = some (.int .i64 td) := by rw [← htd]; exact f2
          have q3 : ∀ x : Aft wr, x.w.cell? ⟨g, m * 3, none⟩ = some (.int .i64 ta') := fun x => x.cell (by omega) ((hB.cell (p := ⟨g, m * 3, none⟩) hg1).trans f0)
          have q4 : ∀ x : Aft wr, x.w.cell? ⟨g, m * 3 + 1, none⟩ = some (.int .i64 tb') := fun x => x.cell (by omega) ((hB.cell (p := ⟨g, m * 3 + 1, none⟩) hg1).trans f1)
          have q5 : ∀ x : Aft wr, x.w.cell? ⟨g, m * 3 + 2, none⟩ = some (.int .i64 td) := fun x => x.cell (by omega) ((hB.cell (p := ⟨g, m * 3 + 2, none⟩) hg1).trans f2')
          clear d0 d1 d2 f0 f1 f2 f2' hgj hn hnx hok htc htd
          have hmK : (m : Int) < (K : Int) + 1 := by omega
          clear hm e1 e2
          go_wp2_with fail
          refine region_aft (by kernel_rfl) (by kernel_rfl) ?_
          repeat go_big_quiet_step ((first | (go_at_call 110; exact callsAft (impl_ends ta tb tc false _ He.out)) | (go_at_call 111; exact callsAft (impl_next ta tb tc ta' tb' tc' _ Hok1.out hN6 Hn.out))))
          refine wpQuiet_nil ?_
          intro w2 hb2
          have hB2 : Below w.heap.size w w2 := Below.after hB hb2
          clear hb2 hB q0 q1 q2 q3 q4 q5
          go_wp2_with fail
          go_ret
          exact ⟨rfl, hB2⟩
        · have hfe : ∀ y : Int, (if m = K then fl * y else y) = y := fun y => by
            by_cases hmK : m = K
            · rw [if_pos hmK]
              rcases Hf.out with ⟨h, _⟩ | ⟨h, _⟩
              · rw [h, Int.one_mul]
              · exact absurd ⟨hmK, h⟩ hlast
            · rw [if_neg hmK]
          have hlm : l[m]'(by omega) = ⟨ta', tb', tc'⟩ := by
            rw [Hg.out m (by omega)]
            by_cases hmK : m = K
            · have := hfe tc'
              rw [if_pos hmK] at this
              rw [if_pos hmK, ← hmK, hnx]
              simp only [this]
            · rw [if_neg hmK, hnx]
          rw [← Hg.out m (by omega), hlm] at f0 f1 f2
          have q3 : ∀ x : Aft wr, x.w.cell? ⟨g, m * 3, none⟩ = some (.int .i64 ta') := fun x => x.cell (by omega) ((hB.cell (p := ⟨g, m * 3, none⟩) hg1).trans f0)
          have q4 : ∀ x : Aft wr, x.w.cell? ⟨g, m * 3 + 1, none⟩ = some (.int .i64 tb') := fun x => x.cell (by omega) ((hB.cell (p := ⟨g, m * 3 + 1, none⟩) hg1).trans f1)
          have q5 : ∀ x : Aft wr, x.w.cell? ⟨g, m * 3 + 2, none⟩ = some (.int .i64 tc') := fun x => x.cell (by omega) ((hB.cell (p := ⟨g, m * 3 + 2, none⟩) hg1).trans f2)
          have Hlast := Lib.hid hlast
          have Hm := Lib.hid hm
          have hmK : (m : Int) < (K : Int) + 1 := by omega
          clear d0 d1 d2 f0 f1 f2 hgj hn hnx hok hfe hlm hlast hm
          go_wp2_with fail
          refine region_aft (by kernel_rfl) (by kernel_rfl) ?_
          repeat go_big_quiet_step ((first | (go_at_call 110; exact callsAft (impl_ends ta tb tc false _ He.out)) | (go_at_call 111; exact callsAft (impl_next ta tb tc ta' tb' tc' _ Hok1.out hN6 Hn.out))))
          refine wpQuiet_nil ?_
          intro w2 hb2
          have hB2 : Below w.heap.size w w2 := Below.after hB hb2
          clear hb2 hB q0 q1 q2 q3 q4 q5
          go_wp2_with fail
          go_roundw
          case rel => exact ⟨⟨j + 1, m + 1, by go_num, by have := Hm.out; omega, by omega, fun h => by
            have h1 := Hm.out
            have h2 := Hlast.out
            have : ¬ m = K := fun e => h2 ⟨e, h⟩
            omega⟩, hB2⟩
          case measure => have := Hm.out; simp [intOf]; omega
      · obtain rfl : j = K := by omega
        have hfl : fl = 1 ∧ v = true := by
          rcases Hf.out with h | ⟨h, _⟩
          · exact h
          · have := hjf h; omega
        obtain ⟨rfl, rfl⟩ := hfl
        obtain ⟨g', e, _, hg1', d0, d1, d2, _⟩ := Hr.out j (by omega)
        injection e with e
        injection e with e
        subst e
        rw [Hg.out j (by omega), if_pos rfl] at d0 d1 d2
        rcases hgj : itS j ⟨A, N, 1⟩ with ⟨ta, tb, tc⟩
        rw [hgj] at d0 d1 d2
        have d2' : w.cell? ⟨g, j * 3 + 2, none⟩ = some (.int .i64 tc) := by rw [d2]; simp
        have He := Lib.hid (show (decide (ta = 0) || decide (ta = 1)) = true by have := HK.out.1; rw [hgj] at this; exact this)
        have f0 := (hB.cell (p := ⟨g, j * 3, none⟩) hg1).trans d0
        have f1 := (hB.cell (p := ⟨g, j * 3 + 1, none⟩) hg1).trans d1
        have f2 := (hB.cell (p := ⟨g, j * 3 + 2, none⟩) hg1).trans d2'
        have ej : ((j + 1 : Nat) : Int) - 1 = (j : Int) := by omega
        have ej2 : (j : Int) + 1 - 1 = (j : Int) := by omega
        subst hm
        clear d0 d1 d2 d2' hgj
        go_wp2_with fail
        refine (impl_ends ta tb tc true _ He.out).mono ?_
        rintro e w2 ⟨rfl, hb2⟩
        have hB2 : Below w.heap.size w w2 := Below.after hB hb2
        clear hb2 hB f0 f1 f2
        go_wp2_with fail
        go_ret
        exact ⟨rfl, hB2⟩
end Go.Proofs.Ytiblpagbloflhaa
