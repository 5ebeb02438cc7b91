/- Contracts: drawn numbers. -/
import Derived.Test.YtiblpagbloflhaaCU
import Derived.Test.YtiblpagbloflhaaZ
namespace Go.Proofs.Ytiblpagbloflhaa
set_option linter.unusedVariables false
open Go.ChangeShapes Go.WideShapes Go.ChangeAt Go.RowKit

def I64 (v : Int) : Prop := -9223372036854775808 ≤ v ∧ v ≤ 9223372036854775807
theorem I64_wrap (n : Int) : I64 (wrap64 n) := by unfold I64 wrap64; omega
theorem CurW.below {w w' : World} {c N m : Nat} (h : CurW w c N m) (hN : N ≤ w.heap.size) (hb : Below w.heap.size w w') : CurW w' c N m := by
  obtain ⟨sv, a, s, h1, h2, h3, h4, h5, h6⟩ := h
  exact ⟨sv, a, s, h1.below hb, h2, h3, h4, h5, h6.keep hN h2 (grow_below hb)⟩
theorem CurW.alloc {w : World} {c N m : Nat} (h : CurW w c N m) (hN : N ≤ w.heap.size) (o : Obj) : CurW (w.alloc o) c N m :=
  h.below hN (Below.alloc (Below.refl _ _) (Nat.le_refl _) o)
theorem CurW.up {w : World} {c N m m' : Nat} (h : CurW w c N m) (hm : m ≤ m') : CurW w c N m' := by
  obtain ⟨sv, a, s, h1, h2, h3, h4⟩ := h
  exact ⟨sv, a, s, h1, h2, by omega, h4⟩
theorem CurW.lt {w : World} {c N m : Nat} (h : CurW w c N m) : c < w.heap.size := by
  obtain ⟨sv, a, s, h1, _⟩ := h
  exact h1.lt
theorem grow_alloc (w : World) (o : Obj) (r : Option Nat) : w.grownBy (w.alloc o) r := grow_below (Below.alloc (Below.refl _ _) (Nat.le_refl _) o)
/-- an element of a literal list -/
theorem cur_lit (l : List Int) (cs : Array Value) (hcs : cs.toList = l.map (Value.int .i64)) (hl : l ≠ []) (hl2 : l.length ≤ 1000) (c N m : Nat) (w : World) (hm : m ≤ 100000000) (hN : N ≤ w.heap.size) (h : CurW w c N m) :
    Calls Try.prog 121 #[.pointer (some ⟨c, 0, none⟩), .slice (some ⟨w.heap.size, 0, none⟩) l.length l.length] (w.alloc (.cells cs 3)) fun e w' => ∃ v : Int, e = .returned (.int .i64 v) ∧ v ∈ l ∧ CurW w' c N (m + 2) ∧ w.grownBy w' (some c) := by
  refine (cur_among l w.heap.size _ c N m (w.alloc (.cells cs 3)) hl hl2 (Ints.made w l cs hcs (Nat.le_refl _) hl2) hm (by simp; omega) (fun e => ?_) (h.alloc hN _)).mono ?_
  · have := h.lt
    simp [Value.ownBlock] at e
    omega
  · rintro e w' ⟨v, h1, h2, h3, h4⟩
    exact ⟨v, h1, h2, h3, cg_trans (grow_alloc w _ _) h4⟩
theorem cur_oddPrime (c N m : Nat) (w : World) (hm : m ≤ 100000000) (hN : N ≤ w.heap.size) (h : CurW w c N m) :
    Calls Try.prog 104 #[.pointer (some ⟨c, 0, none⟩)] w fun e w' => ∃ v : Int, e = .returned (.int .i64 v) ∧ (-7 ≤ v ∧ v ≤ 1000003) ∧ CurW w' c N (m + 2) ∧ w.grownBy w' (some c) := by
  have H := Lib.hid h
  clear h
  go_enter Try.func104, Try.ntmps104
  go_wp2_with fail
  refine (cur_lit [3, 5, 7, 11, 13, 17, 19, 23, 29, 31, 97, 101, 9973, 10007, 999983, 9, 2, 1, 0, -7, 15, 1000003, 3, 5, 7] _ rfl (by simp) (by simp) c N m _ hm hN H.out).mono ?_
  rintro e w1 ⟨v, rfl, hv, hc, hg⟩
  have hb : -7 ≤ v ∧ v ≤ 1000003 := by simp at hv; omega
  have HC := Lib.hid hc
  have HG := Lib.hid hg
  clear hc hg hv
  go_wp2_with fail
  go_ret
  exact ⟨v, rfl, hb, HC.out, HG.out⟩
theorem cur_number (c N m : Nat) (w : World) (hm : m ≤ 10000000) (hN : N ≤ w.heap.size) (h : CurW w c N m) :
    Calls Try.prog 169 #[.pointer (some ⟨c, 0, none⟩)] w fun e w' => ∃ v : Int, e = .returned (.int .i64 v) ∧ I64 v ∧ CurW w' c N (m + 8) ∧ w.grownBy w' (some c) := by
  have H := Lib.hid h
  have HG0 := Lib.hid (grow_drewN w 0 (some c))
  clear h
  go_enter Try.func169, Try.ntmps169
  go_wp2_with fail
  refine (cur_pick 12 c N m _ (by omega) (by omega) hN H.out).mono ?_
  rintro e w1 ⟨x1, rfl, a1, b1, hc, hg⟩
  have hz1 := hg.size
  have HC1 := Lib.hid hc
  have HG1 := Lib.hid (cg_trans HG0.out hg)
  clear hc hg
  by_cases e0 : x1 = 0
  · have f0 := beqT e0
    clear e0
    go_wp2_with fail
    refine (cur_lit [0, 1, -1, 1000000, -1000000, 1000001, -1000001, -9223372036854775808, 9223372036854775807, 999983, 999999, 1000] _ rfl (by simp) (by simp) c N (m + 2) _ (by omega) (by omega) HC1.out).mono ?_
    rintro e w2 ⟨v, rfl, hv, hc, hg⟩
    have hb : I64 v := by unfold I64; simp at hv; omega
    have HC := Lib.hid hc
    have HG := Lib.hid (cg_trans HG1.out hg)
    clear hc hg hv
    go_wp2_with fail
    go_ret
    exact ⟨v, rfl, hb, HC.out.up (by omega), HG.out⟩
  · have f0 := beqF e0
    have last : ∀ (w : World) (m' : Nat), True := fun _ _ => trivial
    clear last
    by_cases e1 : x1 = 1 ∨ x1 = 2
    · have f1 : (x1 == 1) = true ∨ ((x1 == 1) = false ∧ (x1 == 2) = true) := by
        rcases e1 with e | e
        · exact .inl (beqT e)
        · exact .inr ⟨beqF (by omega), beqT e⟩
      clear e0 e1
      rcases f1 with f1 | ⟨f1, f2⟩
      all_goals
        go_wp2_with fail
        refine (cur_pick 50000 c N (m + 2) _ (by omega) (by omega) (by omega) HC1.out).mono ?_
        rintro e w2 ⟨x2, rfl, a2, b2, hc, hg⟩
        have hz2 := hg.size
        have HC2 := Lib.hid hc
        have HG2 := Lib.hid (cg_trans HG1.out hg)
        clear hc hg
        go_wp2_with fail
        refine (cur_pick 20 c N (m + 2 + 2) _ (by omega) (by omega) (by omega) HC2.out).mono ?_
        rintro e w3 ⟨x3, rfl, a3, b3, hc, hg⟩
        have hz3 := hg.size
        have HC3 := Lib.hid hc
        have HG3 := Lib.hid (cg_trans HG2.out hg)
        clear hc hg
        go_wp2_with fail
        refine (cur_pick 2 c N (m + 2 + 2 + 2) _ (by omega) (by omega) (by omega) HC3.out).mono ?_
        rintro e w4 ⟨x4, rfl, a4, b4, hc, hg⟩
        have hz4 := hg.size
        have HC4 := Lib.hid hc
        have HG4 := Lib.hid (cg_trans HG3.out hg)
        clear hc hg
        go_wp2_with fail
        go_ret
        exact ⟨_, rfl, I64_wrap _, HC4.out, HG4.out⟩
    · have f1 := beqF (show ¬ x1 = 1 by omega)
      have f2 := beqF (show ¬ x1 = 2 by omega)
      by_cases e3 : x1 = 3 ∨ x1 = 4
      · have f3 : (x1 == 3) = true ∨ ((x1 == 3) = false ∧ (x1 == 4) = true) := by
          rcases e3 with e | e
          · exact .inl (beqT e)
          · exact .inr ⟨beqF (by omega), beqT e⟩
        clear e0 e1 e3
        rcases f3 with f3 | ⟨f3, f4⟩
        all_goals
          go_wp2_with fail
          refine (cur_pick 2000 c N (m + 2) _ (by omega) (by omega) (by omega) HC1.out).mono ?_
          rintro e w2 ⟨x2, rfl, a2, b2, hc, hg⟩
          have hz2 := hg.size
          have HC2 := Lib.hid hc
          have HG2 := Lib.hid (cg_trans HG1.out hg)
          clear hc hg
          go_wp2_with fail
          go_ret
          exact ⟨_, rfl, ⟨by omega, by omega⟩, HC2.out.up (by omega), HG2.out⟩
      · have f3 := beqF (show ¬ x1 = 3 by omega)
        have f4 := beqF (show ¬ x1 = 4 by omega)
        clear e0 e1 e3
        go_wp2_with fail
        refine (cur_pick 121 c N (m + 2) _ (by omega) (by omega) (by omega) HC1.out).mono ?_
        rintro e w2 ⟨x2, rfl, a2, b2, hc, hg⟩
        have hz2 := hg.size
        have HC2 := Lib.hid hc
        have HG2 := Lib.hid (cg_trans HG1.out hg)
        clear hc hg
        go_wp2_with fail
        go_ret
        exact ⟨_, rfl, ⟨by omega, by omega⟩, HC2.out.up (by omega), HG2.out⟩
theorem cur_small (c N m : Nat) (w : World) (hm : m ≤ 1000000) (hN : N ≤ w.heap.size) (h : CurW w c N m) :
    Calls Try.prog 117 #[.pointer (some ⟨c, 0, none⟩)] w fun e w' => ∃ v : Int, e = .returned (.int .i64 v) ∧ I64 v ∧ CurW w' c N (m + 10) ∧ w.grownBy w' (some c) := by
  have H := Lib.hid h
  clear h
  go_enter Try.func117, Try.ntmps117
  go_wp2_with fail
  refine (cur_one 12 c N m _ (by omega) (by omega) hN H.out).mono ?_
  rintro e w1 ⟨b, rfl, hc, hg⟩
  have hz1 := hg.size
  have HC1 := Lib.hid hc
  have HG1 := Lib.hid hg
  clear hc hg
  cases b with
  | true =>
    go_wp2_with fail
    refine (cur_number c N (m + 2) _ (by omega) (by omega) HC1.out).mono ?_
    rintro e w2 ⟨v, rfl, hv, hc, hg⟩
    have HC2 := Lib.hid hc
    have HG2 := Lib.hid (cg_trans HG1.out hg)
    clear hc hg
    go_wp2_with fail
    go_ret
    exact ⟨v, rfl, hv, HC2.out, HG2.out⟩
  | false =>
    go_wp2_with fail
    refine (cur_pick 81 c N (m + 2) _ (by omega) (by omega) (by omega) HC1.out).mono ?_
    rintro e w2 ⟨x2, rfl, a2, b2, hc, hg⟩
    have hz2 := hg.size
    have HC2 := Lib.hid hc
    have HG2 := Lib.hid (cg_trans HG1.out hg)
    clear hc hg
    go_wp2_with fail
    go_ret
    exact ⟨_, rfl, ⟨by omega, by omega⟩, HC2.out.up (by omega), HG2.out⟩
end Go.Proofs.Ytiblpagbloflhaa
