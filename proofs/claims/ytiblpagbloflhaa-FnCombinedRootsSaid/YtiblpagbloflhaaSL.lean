/- Lists of symbol steps in memory: what a call that made one says of it; one more; reading it; one element changed. -/
import Derived.Test.YtiblpagbloflhaaBK
import Derived.Test.YtiblpagbloflhaaD
import Derived.Laws.AppendOwn
import Derived.Laws.OwnMore
import Derived.Laws.AppendOwnNone
namespace Go.Proofs.Ytiblpagbloflhaa
set_option linter.unusedVariables false
open Go.ChangeShapes Go.WideShapes Go.ChangeAt Go.RowKit

structure St where
  a : Int
  b : Int
  c : Int
deriving DecidableEq
def cS (f : St) : Array Value := #[.int .i64 f.a, .int .i64 f.b, .int .i64 f.c]
theorem infoSt : (Try.prog.info? 58).map (fun i => (i.zero, i.size, i.bytes)) = some (some (.agg #[.int .i64 0, .int .i64 0, .int .i64 0]), 3, 24) := by kernel_rfl
def sCells (f : St) : List Value := [.int .i64 f.a, .int .i64 f.b, .int .i64 f.c]
def cellsS (l : List St) : List Value := l.flatMap sCells
theorem cellsS_len : ∀ l : List St, (cellsS l).length = l.length * 3
  | [] => rfl
  | f :: l => by simp only [cellsS, List.flatMap_cons, List.length_append, List.length_cons] at *; rw [show (List.flatMap sCells l).length = l.length * 3 from cellsS_len l]; simp [sCells]; omega
theorem cellsS_app (l m : List St) : cellsS (l ++ m) = cellsS l ++ cellsS m := by simp [cellsS]
theorem cellsS_get : ∀ (l : List St) (i : Nat) (f : St), l[i]? = some f → (cellsS l)[i * 3]? = some (.int .i64 f.a) ∧ (cellsS l)[i * 3 + 1]? = some (.int .i64 f.b) ∧ (cellsS l)[i * 3 + 2]? = some (.int .i64 f.c)
  | [], i, f, h => by simp at h
  | g :: l, 0, f, h => by simp at h; subst h; simp [cellsS, sCells]
  | g :: l, i + 1, f, h => by
    have := cellsS_get l i f (by simpa using h)
    have e : cellsS (g :: l) = sCells g ++ cellsS l := rfl
    rw [e]
    refine ⟨?_, ?_, ?_⟩
    · rw [List.getElem?_append_right (by simp [sCells]; omega)]; rw [← this.1]; congr 1; simp [sCells]; omega
    · rw [List.getElem?_append_right (by simp [sCells]; omega)]; rw [← this.2.1]; congr 1; simp [sCells]; omega
    · rw [List.getElem?_append_right (by simp [sCells]; omega)]; rw [← this.2.2]; congr 1; simp [sCells]; omega

/-- the slice value v holds the steps l in memory of the call's own (from block B on) -/
def Sts (w : World) (B : Nat) (v : Value) (l : List St) : Prop := w.ownsRow B 58 3 v l.length (cellsS l)
theorem Sts.nil (w : World) (B : Nat) : Sts w B (.slice none 0 0) [] := World.ownsRow_nil _ _ _ _
theorem Sts.mono {w : World} {B B' : Nat} {v : Value} {l : List St} (h : Sts w B v l) (hB : B' ≤ B) : Sts w B' v l := by
  obtain ⟨h1, h2⟩ := h
  refine ⟨h1, ?_⟩
  rcases h2 with h2 | ⟨g, cap, cur, hv, hb, r⟩
  · exact .inl h2
  · exact .inr ⟨g, cap, cur, hv, by omega, r⟩
theorem Sts.alloc {w : World} {B : Nat} {v : Value} {l : List St} (h : Sts w B v l) (o : Obj) : Sts (w.alloc o) B v l := World.ownsRow.alloc h o
theorem Sts.kept {w w' : World} {B : Nat} {v : Value} {l : List St} {row : Option Nat} (h : Sts w B v l) (hg : w.grownBy w' row) (hne : v.ownBlock = none ∨ v.ownBlock ≠ row) : Sts w' B v l := World.ownsRow.kept h hg hne
theorem grownBy_of_belowS {w w' : World} (h : Below w.heap.size w w') : w.grownBy w' none := ⟨h.os, h.tape, h.output, h.size, fun k hk _ => h.block k hk⟩
theorem Sts.below {w w' : World} {B : Nat} {v : Value} {l : List St} (h : Sts w B v l) (hb : Below w.heap.size w w') : Sts w' B v l :=
  World.ownsRow.kept h (grownBy_of_belowS hb) (by cases hv : v.ownBlock <;> simp)
theorem Sts.drewN {w : World} {B : Nat} {v : Value} {l : List St} (h : Sts w B v l) (n : Nat) : Sts (w.drewN n) B v l := h
theorem Sts.lt {w : World} {B : Nat} {v : Value} {l : List St} (h : Sts w B v l) : ∀ k, v.ownBlock = some k → B ≤ k ∧ k < w.heap.size := World.ownsRow.lt h
/-- a literal of some steps (none, too): one new block -/
theorem Sts.made (w : World) {B : Nat} (l : List St) (cs : Array Value) (hcs : cs.toList = cellsS l) (hB : B ≤ w.heap.size) (hl : l.length ≤ 1000) : Sts (w.alloc (.cells cs 58)) B (.slice (some ⟨w.heap.size, 0, none⟩) l.length l.length) l := by
  have := World.ownsRow_lit (e := 58) (size := 3) w cs l.length hB (by unfold maxLen; omega) (by rw [← Array.length_toList, hcs, cellsS_len])
  unfold Sts
  rw [← hcs]; exact this
/-- how a list is read -/
theorem Sts.view {w : World} {B : Nat} {v : Value} {l : List St} (h : Sts w B v l) :
    ∃ (p : Option Addr) (cap : Nat), v = .slice p l.length cap ∧ l.length ≤ maxLen ∧ ∀ i (hi : i < l.length), ∃ g, p = some ⟨g, 0, none⟩ ∧ B ≤ g ∧ g < w.heap.size ∧
      w.cell? ⟨g, i * 3, none⟩ = some (.int .i64 l[i].a) ∧ w.cell? ⟨g, i * 3 + 1, none⟩ = some (.int .i64 l[i].b) ∧ w.cell? ⟨g, i * 3 + 2, none⟩ = some (.int .i64 l[i].c) ∧ ∀ j, w.frozen? ⟨g, j, none⟩ = false := by
  have hall := h
  obtain ⟨h1, h2⟩ := h
  rcases h2 with ⟨rfl, hn⟩ | ⟨g, cap, cur, rfl, hb, hh, h3, h4, h5, h6⟩
  · exact ⟨none, 0, by rw [hn], by unfold maxLen; omega, fun i hi => by omega⟩
  · refine ⟨some ⟨g, 0, none⟩, cap, rfl, by omega, fun i hi => ⟨g, rfl, hb, (Array.getElem?_eq_some_iff.1 hh).1, ?_⟩⟩
    obtain ⟨e1, e2, e3⟩ := cellsS_get l i l[i] (by simp [hi])
    have key : ∀ j u, (cellsS l)[j]? = some u → w.cell? ⟨g, j, none⟩ = some u := fun j u hj => by
      have := World.ownsRow.cells hall (g := g) rfl j u hj
      have hadd : (⟨g, 0, none⟩ : Addr).add j = ⟨g, j, none⟩ := by unfold Addr.add; split <;> simp_all
      rwa [hadd] at this
    exact ⟨key _ _ e1, key _ _ e2, key _ _ e3, fun j => World.ownsRow.frozenAt hall j⟩
/-- one step more -/
theorem app_st {ops : Array Oper} {rest : List Oper} {o : Oper} {a : Act} {Q : Exit → Act → World → Prop} {w : World} (B : Nat) (l : List St) (f : St) (v : Value) (blk : Nat) (s y : Operand)
    (hgd : o.guard = none) (ho : o.op = .call { callee := .builtin .append, args := #[s, y], argTypes := #[54, 54] }) (hs : a.eval s = v) (hx : a.eval y = .slice (some ⟨blk, 0, none⟩) 1 1)
    (hown : Sts w B v l) (hc : Holds w blk (cS f) 58) (hl : l.length ≤ 10000000) (hb : B ≤ w.heap.size)
    (h : ∀ v' w', Sts w' B v' (l ++ [f]) → w.grownBy w' v.ownBlock → wpList Try.prog ops Q rest (a.put o.dst v') w') : wpList Try.prog ops Q (o :: rest) a w := by
  obtain ⟨i0, hi, hz0, hz1, hz2⟩ := info_parts infoSt
  refine wpList_append_own w hgd s y 54 ho B 58 i0 (.agg #[.int .i64 0, .int .i64 0, .int .i64 0]) 3 24 Try.underlying54 hi hz0 hz1 hz2 rfl (by decide) v l.length _ hs hown ⟨blk, 0, none⟩ 1 1 (sCells f) hx (by simp [sCells]) ?_ ?_ ?_ ?_ hb ?_
  · intro j u hj
    have hadd : (⟨blk, 0, none⟩ : Addr).add j = ⟨blk, j, none⟩ := by unfold Addr.add; split <;> simp_all
    rw [hadd]
    exact hc.cell (by rw [← hj]; simp [cS, sCells])
  · intro u hu
    simp [sCells] at hu
    rcases hu with rfl | rfl | rfl <;> rfl
  · unfold maxLen; omega
  · omega
  · intro v' w' h1 h2 _
    refine h v' w' ?_ h2
    unfold Sts
    rw [cellsS_app]
    simpa [cellsS] using h1
theorem below_grownS {B : Nat} {a w w' : World} {v : Value} {l : List St} (hB : Below B a w) (h : Sts w B v l) (hg : w.grownBy w' v.ownBlock) (hs : B ≤ w.heap.size) : Below B a w' :=
  hB.grown hg hs fun k hk => (h.lt k hk).1
theorem sep_ofS {w w' : World} {B : Nat} {u v : Value} {l m : List St} (h : Sts w B u l) (h' : Sts w' w.heap.size v m) : u.ownBlock = none ∨ u.ownBlock ≠ v.ownBlock := by
  cases hu : u.ownBlock with
  | none => exact .inl rfl
  | some k =>
    right
    intro e
    have h1 := (h.lt k hu).2
    have h2 := (h'.lt k e.symm).1
    omega
theorem grow_transS {a b c : World} {row : Option Nat} (h : a.grownBy b row) (k : b.grownBy c row) : a.grownBy c row :=
  ⟨k.os.trans h.os, k.tape.trans h.tape, k.output.trans h.output, Nat.le_trans h.size k.size, fun i hi hne => (k.block i (Nat.lt_of_lt_of_le hi h.size) hne).trans (h.block i hi hne)⟩
theorem cellsS_set : ∀ (l : List St) (i : Nat) (f : St), i < l.length → cellsS (l.set i f) = (((cellsS l).set (i * 3) (.int .i64 f.a)).set (i * 3 + 1) (.int .i64 f.b)).set (i * 3 + 2) (.int .i64 f.c)
  | [], i, f, h => by simp at h
  | g :: l, 0, f, h => by simp [cellsS, sCells]
  | g :: l, i + 1, f, h => by
    have ih := cellsS_set l i f (by simpa using h)
    have e : ∀ m : List St, cellsS (g :: m) = sCells g ++ cellsS m := fun m => rfl
    rw [List.set_cons_succ, e, e, ih]
    rw [List.set_append_right _ _ (by simp [sCells]; omega), List.set_append_right _ _ (by simp [sCells]; omega), List.set_append_right _ _ (by simp [sCells]; omega)]
    have f1 : (i + 1) * 3 - (sCells g).length = i * 3 := by simp [sCells]; omega
    have f2 : (i + 1) * 3 + 1 - (sCells g).length = i * 3 + 1 := by simp [sCells]; omega
    have f3 : (i + 1) * 3 + 2 - (sCells g).length = i * 3 + 2 := by simp [sCells]; omega
    rw [f1, f2, f3]
theorem Sts.read {w : World} {B n cap : Nat} {p : Option Addr} {l : List St} (h : Sts w B (.slice p n cap) l) :
    ∀ i (hi : i < l.length), ∃ g, p = some ⟨g, 0, none⟩ ∧ B ≤ g ∧ g < w.heap.size ∧ w.cell? ⟨g, i * 3, none⟩ = some (.int .i64 l[i].a) ∧ w.cell? ⟨g, i * 3 + 1, none⟩ = some (.int .i64 l[i].b) ∧ w.cell? ⟨g, i * 3 + 2, none⟩ = some (.int .i64 l[i].c) ∧ ∀ j, w.frozen? ⟨g, j, none⟩ = false := by
  obtain ⟨p', cap', he, _, hr⟩ := h.view
  injection he with e1 e2 e3
  subst e1
  exact hr
end Go.Proofs.Ytiblpagbloflhaa
