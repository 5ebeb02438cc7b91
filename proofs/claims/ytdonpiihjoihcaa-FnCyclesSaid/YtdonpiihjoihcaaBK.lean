/- What a block of memory holds, and what leaves it alone. No condition. -/
import Derived.Test.YtdonpiihjoihcaaRB
namespace Go.Proofs.Ytdonpiihjoihcaa
open Go.RowKit
set_option linter.unusedVariables false

def Holds (w : World) (b : Nat) (cs : Array Value) (ty : TypeId) : Prop := w.heap[b]? = some (.cells cs ty (0, 0))
section
variable {w w' W : World} {b b' j : Nat} {cs : Array Value} {ty : TypeId} {v : Value}
theorem Holds.lt (h : Holds w b cs ty) : b < w.heap.size := (Array.getElem?_eq_some_iff.1 h).1
theorem Holds.cell (h : Holds w b cs ty) (hj : cs[j]? = some v) : w.cell? ⟨b, j, none⟩ = some v := made_cell h hj
theorem Holds.free (h : Holds w b cs ty) : w.frozen? ⟨b, j, none⟩ = false := made_free h
theorem Holds.below (h : Holds W b cs ty) (hb : Below W.heap.size W w) : Holds w b cs ty := (hb.block b h.lt).trans h
theorem Holds.alloc (h : Holds w b cs ty) (o : Obj) : Holds (w.alloc o) b cs ty := (heap_alloc_old w o b h.lt).trans h
theorem Holds.new (w : World) (cs : Array Value) (ty : TypeId) : Holds (w.alloc (.cells cs ty)) w.heap.size cs ty := heap_alloc_new w _
theorem Holds.new' (w : World) (cs : Array Value) (ty : TypeId) (hb : b = w.heap.size) : Holds (w.alloc (.cells cs ty)) b cs ty := hb ▸ heap_alloc_new w _
theorem Holds.drew (h : Holds w b cs ty) : Holds w.drew b cs ty := h
theorem Holds.drewN (h : Holds w b cs ty) (n : Nat) : Holds (w.drewN n) b cs ty := h
theorem Holds.far (h : Holds w b cs ty) (hne : b' ≠ b) : Holds (w.setCell ⟨b', j, none⟩ v) b cs ty := by
  unfold Holds World.setCell at *
  simp only [Array.getElem?_modify]
  rw [if_neg hne]; exact h
theorem Holds.set (h : Holds w b cs ty) : Holds (w.setCell ⟨b, j, none⟩ v) b (cs.setIfInBounds j v) ty := by
  unfold Holds World.setCell at *
  simp [Array.getElem?_modify, h]
theorem Holds.set3 {x y z p q r : Value} (h : Holds w b #[x, y, z] ty) : Holds (((w.setCell ⟨b, 0, none⟩ p).setCell ⟨b, 1, none⟩ q).setCell ⟨b, 2, none⟩ r) b #[p, q, r] ty := by
  have := ((h.set (j := 0) (v := p)).set (j := 1) (v := q)).set (j := 2) (v := r)
  simpa using this
theorem Holds.set4 {x y z u p q r s : Value} (h : Holds w b #[x, y, z, u] ty) : Holds ((((w.setCell ⟨b, 0, none⟩ p).setCell ⟨b, 1, none⟩ q).setCell ⟨b, 2, none⟩ r).setCell ⟨b, 3, none⟩ s) b #[p, q, r, s] ty := by
  have := (((h.set (j := 0) (v := p)).set (j := 1) (v := q)).set (j := 2) (v := r)).set (j := 3) (v := s)
  simpa using this
theorem Holds.set2 {x y p q : Value} (h : Holds w b #[x, y] ty) : Holds ((w.setCell ⟨b, 0, none⟩ p).setCell ⟨b, 1, none⟩ q) b #[p, q] ty := by
  have := (h.set (j := 0) (v := p)).set (j := 1) (v := q)
  simpa using this
end
end Go.Proofs.Ytdonpiihjoihcaa
