/- Contracts: drawn numbers. -/
import Derived.Test.YtdonpiihjoihcaaCU
import Derived.Test.YtdonpiihjoihcaaZ
namespace Go.Proofs.Ytdonpiihjoihcaa
set_option linter.unusedVariables false
open Go.ChangeShapes Go.WideShapes Go.ChangeAt Go.RowKit

def I64 (v : Int) : Prop := -9223372036854775808 ≤ v ∧ v ≤ 9223372036854775807
theorem I64_wrap (n : Int) : I64 (wrap64 n) := by unfold I64 wrap64; omega
theorem CurW.below {w w' : World} {c N m : Nat} (h : CurW w c N m) (hN : N ≤ w.heap.size) (hb : Below w.heap.size w w') : CurW w' c N m := by
  obtain ⟨sv, a, s, h1, h2, h3, h4, h5, h6⟩ := h
  exact ⟨sv, a, s, h1.below hb, h2, h3, h4, h5, h6.keep hN h2 (grow_below hb)⟩
theorem CurW.alloc {w : World} {c N m : Nat} (h : CurW w c N m) (hN : N ≤ w.heap.size) (o : Obj) : CurW (w.alloc o) c N m :=
  h.below hN (Below.alloc (Below.refl _ _) (Nat.le_refl _) o)
theorem CurW.up {w : World} {c N m m' : Nat} (h : CurW w c N m) (hm : m ≤ m') : CurW w c N m' := by
  obtain ⟨sv, a, s, h1, h2, h3, h4⟩ := h
  exact ⟨sv, a, s, h1, h2, by omega, h4⟩
theorem CurW.lt {w : World} {c N m : Nat} (h : CurW w c N m) : c < w.heap.size := by
  obtain ⟨sv, a, s, h1, _⟩ := h
  exact h1.lt
theorem grow_alloc (w : World) (o : Obj) (r : Option Nat) : w.grownBy (w.alloc o) r := grow_below (Below.alloc (Below.refl _ _) (Nat.le_refl _) o)
/-- an element of a literal list -/
theorem cur_lit (l : List Int) (cs : Array Value) (hcs : cs.toList = l.map (Value.int .i64)) (hl : l ≠ []) (hl2 : l.length ≤ 1000) (c N m : Nat) (w : World) (hm : m ≤ 100000000) (hN : N ≤ w.heap.size) (h : CurW w c N m) :
    Calls Try.prog 135 #[.pointer (some ⟨c, 0, none⟩), .slice (some ⟨w.heap.size, 0, none⟩) l.length l.length] (w.alloc (.cells cs 3)) fun e w' => ∃ v : Int, e = .returned (.int .i64 v) ∧ v ∈ l ∧ CurW w' c N (m + 2) ∧ w.grownBy w' (some c) := by
  refine (cur_among l w.heap.size _ c N m (w.alloc (.cells cs 3)) hl hl2 (Ints.made w l cs hcs (Nat.le_refl _) hl2) hm (by simp; omega) (fun e => ?_) (h.alloc hN _)).mono ?_
  · have := h.lt
    simp [Value.ownBlock] at e
    omega
  · rintro e w' ⟨v, h1, h2, h3, h4⟩
    exact ⟨v, h1, h2, h3, cg_trans (grow_alloc w _ _) h4⟩
end Go.Proofs.Ytdonpiihjoihcaa
