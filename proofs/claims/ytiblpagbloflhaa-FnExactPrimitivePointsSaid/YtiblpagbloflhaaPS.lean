/- Lists of points in memory: what a call that made one says of it; one more element; reading it; two compared, one marked, one whose marks are held. -/
import Derived.Test.YtiblpagbloflhaaBK
import Derived.Test.YtiblpagbloflhaaD
import Derived.Test.YtiblpagbloflhaaPB
import Derived.Laws.AppendOwn
import Derived.Laws.OwnMore
import Derived.Laws.AppendOwnNone
namespace Go.Proofs.Ytiblpagbloflhaa
set_option linter.unusedVariables false
open Go.ChangeShapes Go.WideShapes Go.ChangeAt Go.RowKit

def cP (f : Pt) : Array Value := #[.int .i64 f.x, .int .i64 f.y]
theorem infoPt : (Try.prog.info? 80).map (fun i => (i.zero, i.size, i.bytes)) = some (some (.agg #[.int .i64 0, .int .i64 0]), 2, 16) := by kernel_rfl
def pCells (f : Pt) : List Value := [.int .i64 f.x, .int .i64 f.y]
def cellsP (l : List Pt) : List Value := l.flatMap pCells
theorem cellsP_len : ∀ l : List Pt, (cellsP l).length = l.length * 2
  | [] => rfl
  | f :: l => by simp only [cellsP, List.flatMap_cons, List.length_append, List.length_cons] at *; rw [show (List.flatMap pCells l).length = l.length * 2 from cellsP_len l]; simp [pCells]; omega
theorem cellsP_app (l m : List Pt) : cellsP (l ++ m) = cellsP l ++ cellsP m := by simp [cellsP]
theorem cellsP_get : ∀ (l : List Pt) (i : Nat) (f : Pt), l[i]? = some f → (cellsP l)[i * 2]? = some (.int .i64 f.x) ∧ (cellsP l)[i * 2 + 1]? = some (.int .i64 f.y)
  | [], i, f, h => by simp at h
  | g :: l, 0, f, h => by simp at h; subst h; simp [cellsP, pCells]
  | g :: l, i + 1, f, h => by
    have := cellsP_get l i f (by simpa using h)
    have e : cellsP (g :: l) = pCells g ++ cellsP l := rfl
    rw [e]
    refine ⟨?_, ?_⟩
    · rw [List.getElem?_append_right (by simp [pCells]; omega)]; rw [← this.1]; congr 1; simp [pCells]; omega
    · rw [List.getElem?_append_right (by simp [pCells]; omega)]; rw [← this.2]; congr 1; simp [pCells]; omega

/-- the slice value v holds the points l in memory of the call's own (from block B on) -/
def Pts (w : World) (B : Nat) (v : Value) (l : List Pt) : Prop := w.ownsRow B 80 2 v l.length (cellsP l)
theorem Pts.nil (w : World) (B : Nat) : Pts w B (.slice none 0 0) [] := World.ownsRow_nil _ _ _ _
theorem Pts.mono {w : World} {B B' : Nat} {v : Value} {l : List Pt} (h : Pts w B v l) (hB : B' ≤ B) : Pts w B' v l := by
  obtain ⟨h1, h2⟩ := h
  refine ⟨h1, ?_⟩
  rcases h2 with h2 | ⟨g, cap, cur, hv, hb, r⟩
  · exact .inl h2
  · exact .inr ⟨g, cap, cur, hv, by omega, r⟩
theorem Pts.alloc {w : World} {B : Nat} {v : Value} {l : List Pt} (h : Pts w B v l) (o : Obj) : Pts (w.alloc o) B v l := World.ownsRow.alloc h o
theorem Pts.kept {w w' : World} {B : Nat} {v : Value} {l : List Pt} {row : Option Nat} (h : Pts w B v l) (hg : w.grownBy w' row) (hne : v.ownBlock = none ∨ v.ownBlock ≠ row) : Pts w' B v l := World.ownsRow.kept h hg hne
theorem grownBy_of_belowP {w w' : World} (h : Below w.heap.size w w') : w.grownBy w' none := ⟨h.os, h.tape, h.output, h.size, fun k hk _ => h.block k hk⟩
theorem Pts.below {w w' : World} {B : Nat} {v : Value} {l : List Pt} (h : Pts w B v l) (hb : Below w.heap.size w w') : Pts w' B v l :=
  World.ownsRow.kept h (grownBy_of_belowP hb) (by cases hv : v.ownBlock <;> simp)
theorem Pts.drewN {w : World} {B : Nat} {v : Value} {l : List Pt} (h : Pts w B v l) (n : Nat) : Pts (w.drewN n) B v l := h
theorem Pts.lt {w : World} {B : Nat} {v : Value} {l : List Pt} (h : Pts w B v l) : ∀ k, v.ownBlock = some k → B ≤ k ∧ k < w.heap.size := World.ownsRow.lt h
/-- a literal of some points (none, too): one new block -/
theorem Pts.made (w : World) {B : Nat} (l : List Pt) (cs : Array Value) (hcs : cs.toList = cellsP l) (hB : B ≤ w.heap.size) (hl : l.length ≤ 1000) : Pts (w.alloc (.cells cs 80)) B (.slice (some ⟨w.heap.size, 0, none⟩) l.length l.length) l := by
  have := World.ownsRow_lit (e := 80) (size := 2) w cs l.length hB (by unfold maxLen; omega) (by rw [← Array.length_toList, hcs, cellsP_len])
  unfold Pts
  rw [← hcs]; exact this
theorem Pts.empty (w : World) {B b : Nat} (hb : b = w.heap.size) (hB : B ≤ w.heap.size) : Pts (w.alloc (.cells #[] 80)) B (.slice (some ⟨b, 0, none⟩) 0 0) [] := by
  subst hb; exact Pts.made w [] #[] rfl hB (by simp)
/-- how a list is read -/
theorem Pts.view {w : World} {B : Nat} {v : Value} {l : List Pt} (h : Pts w B v l) :
    ∃ (p : Option Addr) (cap : Nat), v = .slice p l.length cap ∧ l.length ≤ maxLen ∧ ∀ i (hi : i < l.length), ∃ g, p = some ⟨g, 0, none⟩ ∧ B ≤ g ∧ g < w.heap.size ∧
      w.cell? ⟨g, i * 2, none⟩ = some (.int .i64 l[i].x) ∧ w.cell? ⟨g, i * 2 + 1, none⟩ = some (.int .i64 l[i].y) ∧ ∀ j, w.frozen? ⟨g, j, none⟩ = false := by
  have hall := h
  obtain ⟨h1, h2⟩ := h
  rcases h2 with ⟨rfl, hn⟩ | ⟨g, cap, cur, rfl, hb, hh, h3, h4, h5, h6⟩
  · exact ⟨none, 0, by rw [hn], by unfold maxLen; omega, fun i hi => by omega⟩
  · refine ⟨some ⟨g, 0, none⟩, cap, rfl, by omega, fun i hi => ⟨g, rfl, hb, (Array.getElem?_eq_some_iff.1 hh).1, ?_⟩⟩
    obtain ⟨e1, e2⟩ := cellsP_get l i l[i] (by simp [hi])
    have key : ∀ j u, (cellsP l)[j]? = some u → w.cell? ⟨g, j, none⟩ = some u := fun j u hj => by
      have := World.ownsRow.cells hall (g := g) rfl j u hj
      have hadd : (⟨g, 0, none⟩ : Addr).add j = ⟨g, j, none⟩ := by unfold Addr.add; split <;> simp_all
      rwa [hadd] at this
    exact ⟨key _ _ e1, key _ _ e2, fun j => World.ownsRow.frozenAt hall j⟩
theorem Pts.read {w : World} {B n cap : Nat} {p : Option Addr} {l : List Pt} (h : Pts w B (.slice p n cap) l) :
    ∀ i (hi : i < l.length), ∃ g, p = some ⟨g, 0, none⟩ ∧ B ≤ g ∧ g < w.heap.size ∧ w.cell? ⟨g, i * 2, none⟩ = some (.int .i64 l[i].x) ∧ w.cell? ⟨g, i * 2 + 1, none⟩ = some (.int .i64 l[i].y) ∧ ∀ j, w.frozen? ⟨g, j, none⟩ = false := by
  obtain ⟨p', cap', he, _, hr⟩ := h.view
  injection he with e1 e2 e3
  subst e1
  exact hr
/-- some points more -/
theorem app_pts {ops : Array Oper} {rest : List Oper} {o : Oper} {a : Act} {Q : Exit → Act → World → Prop} {w : World} (B : Nat) (l m : List Pt) (v : Value) (ad : Addr) (c : Nat) (s y : Operand)
    (hgd : o.guard = none) (ho : o.op = .call { callee := .builtin .append, args := #[s, y], argTypes := #[33, 33] }) (hs : a.eval s = v) (hx : a.eval y = .slice (some ad) m.length c)
    (hown : Pts w B v l) (hc : ∀ j u, (cellsP m)[j]? = some u → w.cell? (ad.add j) = some u) (hl : l.length + m.length ≤ 10000000) (hb : B ≤ w.heap.size)
    (h : ∀ v' w', Pts w' B v' (l ++ m) → w.grownBy w' v.ownBlock → wpList Try.prog ops Q rest (a.put o.dst v') w') : wpList Try.prog ops Q (o :: rest) a w := by
  obtain ⟨i0, hi, hz0, hz1, hz2⟩ := info_parts infoPt
  refine wpList_append_own w hgd s y 33 ho B 80 i0 (.agg #[.int .i64 0, .int .i64 0]) 2 16 Try.underlying33 hi hz0 hz1 hz2 rfl (by decide) v l.length _ hs hown ad m.length c (cellsP m) hx (cellsP_len m) ?_ ?_ ?_ ?_ hb ?_
  · exact hc
  · intro u hu
    simp only [cellsP, List.mem_flatMap] at hu
    obtain ⟨f, _, hu⟩ := hu
    simp [pCells] at hu
    rcases hu with rfl | rfl <;> rfl
  · unfold maxLen; omega
  · omega
  · intro v' w' h1 h2 _
    refine h v' w' ?_ h2
    unfold Pts
    rw [cellsP_app]
    simpa using h1
/-- one point more -/
theorem app_pt {ops : Array Oper} {rest : List Oper} {o : Oper} {a : Act} {Q : Exit → Act → World → Prop} {w : World} (B : Nat) (l : List Pt) (f : Pt) (v : Value) (blk : Nat) (s y : Operand)
    (hgd : o.guard = none) (ho : o.op = .call { callee := .builtin .append, args := #[s, y], argTypes := #[33, 33] }) (hs : a.eval s = v) (hx : a.eval y = .slice (some ⟨blk, 0, none⟩) 1 1)
    (hown : Pts w B v l) (hc : Holds w blk (cP f) 80) (hl : l.length ≤ 1000000) (hb : B ≤ w.heap.size)
    (h : ∀ v' w', Pts w' B v' (l ++ [f]) → w.grownBy w' v.ownBlock → wpList Try.prog ops Q rest (a.put o.dst v') w') : wpList Try.prog ops Q (o :: rest) a w := by
  refine app_pts B l [f] v ⟨blk, 0, none⟩ 1 s y hgd ho hs hx hown (fun j u hj => ?_) (by simp; omega) hb h
  have hadd : (⟨blk, 0, none⟩ : Addr).add j = ⟨blk, j, none⟩ := by unfold Addr.add; split <;> simp_all
  rw [hadd]
  exact hc.cell (by rw [← hj]; simp [cP, cellsP, pCells])
theorem app_blockP (w : World) {B : Nat} {l : List Pt} {f : Pt} {v v' : Value} {w' : World} {blk : Nat} {ty : TypeId} (hown : Pts w B v l) (hc : Holds w blk (cP f) 80) (hl : l.length ≤ 1000000)
    (hr : (Builtin.append_ #[33, 33] ty #[v, .slice (some ⟨blk, 0, none⟩) 1 1]).run Try.prog w = .ok v' w') : v'.ownBlock = v.ownBlock ∨ v'.ownBlock = some w.heap.size := by
  obtain ⟨i0, hi, hz0, hz1, hz2⟩ := info_parts infoPt
  have hnews : ∀ j u, (pCells f)[j]? = some u → w.cell? ((⟨blk, 0, none⟩ : Addr).add j) = some u := fun j u hj => by
    have hadd : (⟨blk, 0, none⟩ : Addr).add j = ⟨blk, j, none⟩ := by unfold Addr.add; split <;> simp_all
    rw [hadd]
    exact hc.cell (by rw [← hj]; simp [cP, pCells])
  have hone : ∀ u ∈ pCells f, u.oneCell' = true := fun u hu => by simp [pCells] at hu; rcases hu with rfl | rfl <;> rfl
  have hown0 := hown
  obtain ⟨hlen, hcase⟩ := hown
  rcases hcase with ⟨rfl, hn⟩ | ⟨g, cap, cur, rfl, hbg, hg, hnc, hcm, hcs, htake⟩
  · have hr2 := run_append_nil (P := Try.prog) w 33 ty 80 i0 (.agg #[.int .i64 0, .int .i64 0]) Try.underlying33 hi hz0 ⟨blk, 0, none⟩ 1 1 (pCells f) (by simp [hz1, pCells]) hnews (by omega) (by omega) (by omega)
    rw [hr] at hr2
    injection hr2 with e1 e2
    right; rw [e1]; rfl
  · by_cases hroom : l.length + 1 ≤ cap
    · have hr2 := run_append_room (P := Try.prog) w 33 ty 80 i0 Try.underlying33 hi g l.length cap cur hg ⟨blk, 0, none⟩ 1 1 (pCells f) (by simp [hz1, pCells]) hnews hone hroom (by simp [hz1, hcs, pCells]; omega)
      rw [hr] at hr2
      injection hr2 with e1 e2
      left; rw [e1]; rfl
    · have hr2 := run_append_grow (P := Try.prog) w 33 ty 80 i0 (.agg #[.int .i64 0, .int .i64 0]) Try.underlying33 hi hz0 ⟨g, 0, none⟩ l.length cap _ (by rw [hz1]; exact hlen) (World.ownsRow.cells hown0 (g := g) rfl) ⟨blk, 0, none⟩ 1 1 (pCells f) (by simp [hz1, pCells]) hnews (by omega) (by omega) (growslice_fits (by omega) (by rw [hz2]; omega))
      rw [hr] at hr2
      injection hr2 with e1 e2
      right; rw [e1]; rfl
/-- one point more, and where the list lies then -/
theorem app_ptB {ops : Array Oper} {rest : List Oper} {o : Oper} {a : Act} {Q : Exit → Act → World → Prop} {w : World} (B : Nat) (l : List Pt) (f : Pt) (v : Value) (blk : Nat) (s y : Operand)
    (hgd : o.guard = none) (ho : o.op = .call { callee := .builtin .append, args := #[s, y], argTypes := #[33, 33] }) (hs : a.eval s = v) (hx : a.eval y = .slice (some ⟨blk, 0, none⟩) 1 1)
    (hown : Pts w B v l) (hc : Holds w blk (cP f) 80) (hl : l.length ≤ 1000000) (hb : B ≤ w.heap.size)
    (h : ∀ v' w', Pts w' B v' (l ++ [f]) → w.grownBy w' v.ownBlock → (v'.ownBlock = v.ownBlock ∨ v'.ownBlock = some w.heap.size) → wpList Try.prog ops Q rest (a.put o.dst v') w') : wpList Try.prog ops Q (o :: rest) a w := by
  refine wpList_plain hgd fun K hK => ?_
  obtain ⟨i0, hi, hz0, hz1, hz2⟩ := info_parts infoPt
  obtain ⟨v', w', hr, h2, h3, _⟩ := run_append_own (P := Try.prog) w B 33 o.type 80 i0 (.agg #[.int .i64 0, .int .i64 0]) 2 16 Try.underlying33 hi hz0 hz1 hz2 rfl (by decide) v l.length _ hown ⟨blk, 0, none⟩ 1 1 (pCells f) rfl
    (fun j u hj => by
      have hadd : (⟨blk, 0, none⟩ : Addr).add j = ⟨blk, j, none⟩ := by unfold Addr.add; split <;> simp_all
      rw [hadd]
      exact hc.cell (by rw [← hj]; simp [cP, pCells])) (fun u hu => by simp [pCells] at hu; rcases hu with rfl | rfl <;> rfl) (by unfold maxLen; omega) (by omega) hb
  have h4 := app_blockP w hown hc hl hr
  have h2' : Pts w' B v' (l ++ [f]) := by
    unfold Pts
    rw [cellsP_app]
    simpa [cellsP] using h2
  unfold Oper.wp execOp
  simp only [ho, resolve, invoke, builtin, Sem.run_bind, Sem.run_pure, Result.andThen_ok, List.map_toArray, List.map_cons, List.map_nil, hs, hx, hr]
  exact hK _ _ (h v' w' h2' h3 h4)
/-- nothing more -/
theorem app_noneP {ops : Array Oper} {rest : List Oper} {o : Oper} {a : Act} {Q : Exit → Act → World → Prop} {w : World} (B : Nat) (l : List Pt) (v : Value) (s y : Operand)
    (hgd : o.guard = none) (ho : o.op = .call { callee := .builtin .append, args := #[s, y], argTypes := #[33, 33] }) (hs : a.eval s = v) (hx : a.eval y = .slice none 0 0)
    (hown : Pts w B v l) (h : wpList Try.prog ops Q rest (a.put o.dst v) w) : wpList Try.prog ops Q (o :: rest) a w := by
  obtain ⟨i0, hi, hz0, hz1, hz2⟩ := info_parts infoPt
  exact wpList_append_own_none hgd s y 33 ho B 80 i0 2 Try.underlying33 hi v l.length _ hs hown hx h
theorem below_grownP {B : Nat} {a w w' : World} {v : Value} {l : List Pt} (hB : Below B a w) (h : Pts w B v l) (hg : w.grownBy w' v.ownBlock) (hs : B ≤ w.heap.size) : Below B a w' :=
  hB.grown hg hs fun k hk => (h.lt k hk).1
theorem sep_ofP {w w' : World} {B : Nat} {u v : Value} {l m : List Pt} (h : Pts w B u l) (h' : Pts w' w.heap.size v m) : u.ownBlock = none ∨ u.ownBlock ≠ v.ownBlock := by
  cases hu : u.ownBlock with
  | none => exact .inl rfl
  | some k =>
    right
    intro e
    have h1 := (h.lt k hu).2
    have h2 := (h'.lt k e.symm).1
    omega
theorem grow_transP {a b c : World} {row : Option Nat} (h : a.grownBy b row) (k : b.grownBy c row) : a.grownBy c row :=
  ⟨k.os.trans h.os, k.tape.trans h.tape, k.output.trans h.output, Nat.le_trans h.size k.size, fun i hi hne => (k.block i (Nat.lt_of_lt_of_le hi h.size) hne).trans (h.block i hi hne)⟩
theorem laws_eqPoint (a b : Int) (w : World) :
    Calls Try.prog 86 #[.agg #[.int .i64 a, .int .i64 b], .agg #[.int .i64 a, .int .i64 b]] w fun e w' => e = .returned (.bool true) ∧ Below w.heap.size w w' := by
  go_enter Try.func86, Try.ntmps86
  go_wp2_with fail
  go_ret
  exact ⟨rfl, by go_grown⟩
theorem laws_eqPointS (l : List Pt) (u v : Value) (B B' : Nat) (w : World) (hl : l.length ≤ 1000000) (hu : Pts w B u l) (hv : Pts w B' v l) :
    Calls Try.prog 23 #[u, v] w fun e w' => e = .returned (.bool true) ∧ Below w.heap.size w w' := by
  obtain ⟨p, c, rfl, _, hr⟩ := hu.view
  obtain ⟨p', c', rfl, _, hr'⟩ := hv.view
  have Hr := Lib.hid hr
  have Hr' := Lib.hid hr'
  clear hr hr' hu hv
  go_enter Try.func23, Try.ntmps23
  go_wp2_with fail
  go_loopw [5] (fun i wr => (∃ k : Nat, i = .int .i64 k ∧ k ≤ l.length) ∧ Below w.heap.size w wr) (fun i _ => l.length - (intOf i).toNat)
  case atStart => exact ⟨⟨0, rfl, by omega⟩, Below.refl _ _⟩
  case round =>
    obtain ⟨⟨k, rfl, hk⟩, hB⟩ := hrel
    by_cases hlt : k < l.length
    · obtain ⟨g, rfl, _, hg1, hc0, hc1, _⟩ := Hr.out k hlt
      obtain ⟨g', rfl, _, hg1', hc0', hc1', _⟩ := Hr'.out k hlt
      rcases hx : l[k] with ⟨xa, xb⟩
      rw [hx] at hc0 hc1 hc0' hc1'
      have q0 : ∀ x : Aft wr, x.w.cell? ⟨g, k * 2, none⟩ = some (.int .i64 xa) := fun x => x.cell (by have := hB.size; omega) ((hB.cell (p := ⟨g, k * 2, none⟩) hg1).trans hc0)
      have q1 : ∀ x : Aft wr, x.w.cell? ⟨g, k * 2 + 1, none⟩ = some (.int .i64 xb) := fun x => x.cell (by have := hB.size; omega) ((hB.cell (p := ⟨g, k * 2 + 1, none⟩) hg1).trans hc1)
      have q0' : ∀ x : Aft wr, x.w.cell? ⟨g', k * 2, none⟩ = some (.int .i64 xa) := fun x => x.cell (by have := hB.size; omega) ((hB.cell (p := ⟨g', k * 2, none⟩) hg1').trans hc0')
      have q1' : ∀ x : Aft wr, x.w.cell? ⟨g', k * 2 + 1, none⟩ = some (.int .i64 xb) := fun x => x.cell (by have := hB.size; omega) ((hB.cell (p := ⟨g', k * 2 + 1, none⟩) hg1').trans hc1')
      clear hc0 hc1 hc0' hc1' hx hg1 hg1'
      go_wp2_with fail
      refine region_aft (by kernel_rfl) (by kernel_rfl) ?_
      repeat go_big_quiet_step ((go_at_call 86; exact callsAft (laws_eqPoint _ _ _)))
      refine wpQuiet_nil ?_
      intro w1 hb1
      have hB1 : Below w.heap.size w w1 := Below.after hB hb1
      clear hb1 hB q0 q1 q0' q1'
      go_wp2_with fail
      go_roundw
      case rel => exact ⟨⟨k + 1, by go_num, by omega⟩, hB1⟩
      case measure => simp [intOf]; omega
    · go_wp2_with fail
      go_ret
      exact ⟨rfl, hB⟩
/-! marks: the numbers 1, 2, 3, .. through all fields -/
def marksP (n : Nat) : List Pt := (List.range n).map fun (i : Nat) => ⟨2 * (i : Int) + 1, 2 * (i : Int) + 2⟩
theorem marksP_len (n : Nat) : (marksP n).length = n := by simp [marksP]
theorem marksP_get (n k : Nat) (h : k < (marksP n).length) : (marksP n)[k] = ⟨2 * (k : Int) + 1, 2 * (k : Int) + 2⟩ := by simp [marksP]
def markAtP (l : List Pt) (k : Nat) : List Pt := marksP k ++ l.drop k
theorem markAtP_len (l : List Pt) (k : Nat) (h : k ≤ l.length) : (markAtP l k).length = l.length := by simp [markAtP, marksP_len]; omega
theorem markAtP_next (l : List Pt) (k : Nat) (h : k < l.length) : (markAtP l k).set k ⟨2 * (k : Int) + 1, 2 * (k : Int) + 2⟩ = markAtP l (k + 1) := by
  unfold markAtP
  rw [List.set_append_right _ _ (by rw [marksP_len]; exact Nat.le_refl _), marksP_len, Nat.sub_self, List.drop_eq_getElem_cons h, List.set_cons_zero]
  simp [marksP, List.range_succ]
theorem cellsP_set : ∀ (l : List Pt) (i : Nat) (f : Pt), i < l.length → cellsP (l.set i f) = ((cellsP l).set (i * 2) (.int .i64 f.x)).set (i * 2 + 1) (.int .i64 f.y)
  | [], i, f, h => by simp at h
  | g :: l, 0, f, h => by simp [cellsP, pCells]
  | g :: l, i + 1, f, h => by
    have ih := cellsP_set l i f (by simpa using h)
    have e : ∀ m : List Pt, cellsP (g :: m) = pCells g ++ cellsP m := fun m => rfl
    rw [List.set_cons_succ, e, e, ih]
    rw [List.set_append_right _ _ (by simp [pCells]; omega), List.set_append_right _ _ (by simp [pCells]; omega)]
    have f1 : (i + 1) * 2 - (pCells g).length = i * 2 := by simp [pCells]; omega
    have f2 : (i + 1) * 2 + 1 - (pCells g).length = i * 2 + 1 := by simp [pCells]; omega
    rw [f1, f2]
theorem laws_markPointS (l : List Pt) (u : Value) (B : Nat) (w : World) (hl : l.length ≤ 1000000) (hu : Pts w B u l) :
    Calls Try.prog 24 #[u, .int .i64 1] w fun e w' => e = .returned (.int .i64 (2 * (l.length : Int) + 1)) ∧ Pts w' B u (marksP l.length) ∧ w.grownBy w' u.ownBlock := by
  obtain ⟨p, c, rfl, _, hr⟩ := hu.view
  clear hr
  go_enter Try.func24, Try.ntmps24
  go_wp2_with fail
  go_loopw [1, 5] (fun m i wr => ∃ k : Nat, i = .int .i64 k ∧ m = .int .i64 (2 * (k : Int) + 1) ∧ k ≤ l.length ∧ Pts wr B (.slice p l.length c) (markAtP l k) ∧ w.grownBy wr (Value.slice p l.length c).ownBlock) (fun _ i _ => l.length - (intOf i).toNat)
  case atStart => exact ⟨0, rfl, rfl, by omega, by simpa [markAtP, marksP] using hu, ⟨rfl, rfl, rfl, Nat.le_refl _, fun _ _ _ => rfl⟩⟩
  case round =>
    clear hu
    obtain ⟨k, rfl, rfl, hk, hown, hg⟩ := hrel
    have hlen := markAtP_len l k hk
    have Hlen := Lib.hid hlen
    clear hlen
    by_cases hlt : k < l.length
    · obtain ⟨g, rfl, _, hg2, hc0, hc1, hfz⟩ := hown.read k (by rw [Hlen.out]; exact hlt)
      have hst : Pts ((wr.setCell ⟨g, k * 2, none⟩ (.int .i64 (2 * (k : Int) + 1))).setCell ⟨g, k * 2 + 1, none⟩ (.int .i64 (2 * (k : Int) + 2))) B (.slice (some ⟨g, 0, none⟩) l.length c) (markAtP l (k + 1)) ∧
          wr.grownBy ((wr.setCell ⟨g, k * 2, none⟩ (.int .i64 (2 * (k : Int) + 1))).setCell ⟨g, k * 2 + 1, none⟩ (.int .i64 (2 * (k : Int) + 2))) (some g) := by
        have ho : wr.ownsRow B 80 2 (.slice (some ⟨g, 0, none⟩) l.length c) l.length (cellsP (markAtP l k)) := by
          have := hown
          unfold Pts at this
          rwa [Hlen.out] at this
        obtain ⟨s1, s2⟩ := World.ownsRow.stored ho (k * 2) (.int .i64 (2 * (k : Int) + 1))
        obtain ⟨s3, s4⟩ := World.ownsRow.stored s1 (k * 2 + 1) (.int .i64 (2 * (k : Int) + 2))
        refine ⟨?_, grow_transP s2 s4⟩
        unfold Pts
        rw [markAtP_len l (k + 1) (by omega), ← markAtP_next l k hlt, cellsP_set _ _ _ (by rw [Hlen.out]; exact hlt)]
        exact s3
      have z0 := hfz (k * 2)
      have z1 := hfz (k * 2 + 1)
      have Hst := Lib.hid hst
      have Hg := Lib.hid hg
      clear hst hg hown hfz
      go_wp2_with fail
      go_roundw
      case rel => exact ⟨k + 1, by go_num, by go_num, by omega, Hst.out.1, grow_transP Hg.out Hst.out.2⟩
      case measure => simp [intOf]; omega
    · go_wp2_with fail
      go_ret
      obtain rfl : k = l.length := by omega
      exact ⟨rfl, by simpa [markAtP] using hown, hg⟩
theorem laws_heldPointS (n : Nat) (u : Value) (B : Nat) (w : World) (hl : n ≤ 1000000) (hu : Pts w B u (marksP n)) :
    Calls Try.prog 25 #[u, .int .i64 1] w fun e w' => e = .returned (.int .i64 (2 * (n : Int) + 1)) ∧ w = w' := by
  obtain ⟨p, c, rfl, _, hr⟩ := hu.view
  have hr2 : ∀ k, k < n → ∃ g, p = some ⟨g, 0, none⟩ ∧ w.cell? ⟨g, k * 2, none⟩ = some (.int .i64 (2 * (k : Int) + 1)) ∧ w.cell? ⟨g, k * 2 + 1, none⟩ = some (.int .i64 (2 * (k : Int) + 2)) := fun k hk => by
    obtain ⟨g, h1, _, _, h2, h3, _⟩ := hr k (by rw [marksP_len]; exact hk)
    rw [marksP_get] at h2 h3
    exact ⟨g, h1, h2, h3⟩
  rw [marksP_len]
  have Hr := Lib.hid hr2
  clear hr hr2 hu
  go_enter Try.func25, Try.ntmps25
  go_wp2_with fail
  go_loop [1, 5] (fun m i => ∃ k : Nat, i = .int .i64 k ∧ m = .int .i64 (2 * (k : Int) + 1) ∧ k ≤ n) (fun _ i => n - (intOf i).toNat)
  case atStart => exact ⟨0, rfl, rfl, by omega⟩
  case round =>
    obtain ⟨k, rfl, rfl, hk⟩ := hrel
    by_cases hlt : k < n
    · obtain ⟨g, rfl, hc0, hc1⟩ := Hr.out k hlt
      have e1 : 2 * (k : Int) + 1 + 1 = 2 * (k : Int) + 2 := by omega
      go_wp2_with fail
      go_round
      case rel => exact ⟨k + 1, by go_num, by go_num, by omega⟩
      case measure => simp [intOf]; omega
    · go_wp2_with fail
      go_ret
      obtain rfl : k = n := by omega
      exact ⟨rfl, rfl⟩
end Go.Proofs.Ytiblpagbloflhaa
