/- Lists of characters in memory: what a call that made one says of it; one more; reading it; two compared, one marked, one whose marks are held. -/
import Derived.Test.YtafcbaganjcnlaaBK
import Derived.Test.YtafcbaganjcnlaaD
import Derived.Laws.AppendOwn
import Derived.Laws.OwnMore
import Derived.Laws.AppendOwnNone
namespace Go.Proofs.Ytafcbaganjcnlaa
set_option linter.unusedVariables false
open Go.ChangeShapes Go.WideShapes Go.ChangeAt Go.RowKit

structure Kt where
  x : Int
  y : Int
deriving DecidableEq
def cK (f : Kt) : Array Value := #[.int .i64 f.x, .int .i64 f.y]
theorem infoKt : (Try.prog.info? 43).map (fun i => (i.zero, i.size, i.bytes)) = some (some (.agg #[.int .i64 0, .int .i64 0]), 2, 16) := by kernel_rfl
def kCells (f : Kt) : List Value := [.int .i64 f.x, .int .i64 f.y]
def cellsK (l : List Kt) : List Value := l.flatMap kCells
theorem cellsK_len : ∀ l : List Kt, (cellsK l).length = l.length * 2
  | [] => rfl
  | f :: l => by simp only [cellsK, List.flatMap_cons, List.length_append, List.length_cons] at *; rw [show (List.flatMap kCells l).length = l.length * 2 from cellsK_len l]; simp [kCells]; omega
theorem cellsK_app (l m : List Kt) : cellsK (l ++ m) = cellsK l ++ cellsK m := by simp [cellsK]
theorem cellsK_get : ∀ (l : List Kt) (i : Nat) (f : Kt), l[i]? = some f → (cellsK l)[i * 2]? = some (.int .i64 f.x) ∧ (cellsK l)[i * 2 + 1]? = some (.int .i64 f.y)
  | [], i, f, h => by simp at h
  | g :: l, 0, f, h => by simp at h; subst h; simp [cellsK, kCells]
  | g :: l, i + 1, f, h => by
    have := cellsK_get l i f (by simpa using h)
    have e : cellsK (g :: l) = kCells g ++ cellsK l := rfl
    rw [e]
    refine ⟨?_, ?_⟩
    · rw [List.getElem?_append_right (by simp [kCells]; omega)]; rw [← this.1]; congr 1; simp [kCells]; omega
    · rw [List.getElem?_append_right (by simp [kCells]; omega)]; rw [← this.2]; congr 1; simp [kCells]; omega

/-- the slice value v holds the characters l in memory of the call's own (from block B on) -/
def Kts (w : World) (B : Nat) (v : Value) (l : List Kt) : Prop := w.ownsRow B 43 2 v l.length (cellsK l)
theorem Kts.nil (w : World) (B : Nat) : Kts w B (.slice none 0 0) [] := World.ownsRow_nil _ _ _ _
theorem Kts.mono {w : World} {B B' : Nat} {v : Value} {l : List Kt} (h : Kts w B v l) (hB : B' ≤ B) : Kts w B' v l := by
  obtain ⟨h1, h2⟩ := h
  refine ⟨h1, ?_⟩
  rcases h2 with h2 | ⟨g, cap, cur, hv, hb, r⟩
  · exact .inl h2
  · exact .inr ⟨g, cap, cur, hv, by omega, r⟩
theorem Kts.alloc {w : World} {B : Nat} {v : Value} {l : List Kt} (h : Kts w B v l) (o : Obj) : Kts (w.alloc o) B v l := World.ownsRow.alloc h o
theorem Kts.kept {w w' : World} {B : Nat} {v : Value} {l : List Kt} {row : Option Nat} (h : Kts w B v l) (hg : w.grownBy w' row) (hne : v.ownBlock = none ∨ v.ownBlock ≠ row) : Kts w' B v l := World.ownsRow.kept h hg hne
theorem grownBy_of_belowK {w w' : World} (h : Below w.heap.size w w') : w.grownBy w' none := ⟨h.os, h.tape, h.output, h.size, fun k hk _ => h.block k hk⟩
theorem Kts.below {w w' : World} {B : Nat} {v : Value} {l : List Kt} (h : Kts w B v l) (hb : Below w.heap.size w w') : Kts w' B v l :=
  World.ownsRow.kept h (grownBy_of_belowK hb) (by cases hv : v.ownBlock <;> simp)
theorem Kts.drewN {w : World} {B : Nat} {v : Value} {l : List Kt} (h : Kts w B v l) (n : Nat) : Kts (w.drewN n) B v l := h
theorem Kts.lt {w : World} {B : Nat} {v : Value} {l : List Kt} (h : Kts w B v l) : ∀ k, v.ownBlock = some k → B ≤ k ∧ k < w.heap.size := World.ownsRow.lt h
/-- a literal of some points (none, too): one new block -/
theorem Kts.made (w : World) {B : Nat} (l : List Kt) (cs : Array Value) (hcs : cs.toList = cellsK l) (hB : B ≤ w.heap.size) (hl : l.length ≤ 1000) : Kts (w.alloc (.cells cs 43)) B (.slice (some ⟨w.heap.size, 0, none⟩) l.length l.length) l := by
  have := World.ownsRow_lit (e := 43) (size := 2) w cs l.length hB (by unfold maxLen; omega) (by rw [← Array.length_toList, hcs, cellsK_len])
  unfold Kts
  rw [← hcs]; exact this
theorem Kts.empty (w : World) {B b : Nat} (hb : b = w.heap.size) (hB : B ≤ w.heap.size) : Kts (w.alloc (.cells #[] 43)) B (.slice (some ⟨b, 0, none⟩) 0 0) [] := by
  subst hb; exact Kts.made w [] #[] rfl hB (by simp)
/-- how a list is read -/
theorem Kts.view {w : World} {B : Nat} {v : Value} {l : List Kt} (h : Kts w B v l) :
    ∃ (p : Option Addr) (cap : Nat), v = .slice p l.length cap ∧ l.length ≤ maxLen ∧ ∀ i (hi : i < l.length), ∃ g, p = some ⟨g, 0, none⟩ ∧ B ≤ g ∧ g < w.heap.size ∧
      w.cell? ⟨g, i * 2, none⟩ = some (.int .i64 l[i].x) ∧ w.cell? ⟨g, i * 2 + 1, none⟩ = some (.int .i64 l[i].y) ∧ ∀ j, w.frozen? ⟨g, j, none⟩ = false := by
  have hall := h
  obtain ⟨h1, h2⟩ := h
  rcases h2 with ⟨rfl, hn⟩ | ⟨g, cap, cur, rfl, hb, hh, h3, h4, h5, h6⟩
  · exact ⟨none, 0, by rw [hn], by unfold maxLen; omega, fun i hi => by omega⟩
  · refine ⟨some ⟨g, 0, none⟩, cap, rfl, by omega, fun i hi => ⟨g, rfl, hb, (Array.getElem?_eq_some_iff.1 hh).1, ?_⟩⟩
    obtain ⟨e1, e2⟩ := cellsK_get l i l[i] (by simp [hi])
    have key : ∀ j u, (cellsK l)[j]? = some u → w.cell? ⟨g, j, none⟩ = some u := fun j u hj => by
      have := World.ownsRow.cells hall (g := g) rfl j u hj
      have hadd : (⟨g, 0, none⟩ : Addr).add j = ⟨g, j, none⟩ := by unfold Addr.add; split <;> simp_all
      rwa [hadd] at this
    exact ⟨key _ _ e1, key _ _ e2, fun j => World.ownsRow.frozenAt hall j⟩
theorem Kts.read {w : World} {B n cap : Nat} {p : Option Addr} {l : List Kt} (h : Kts w B (.slice p n cap) l) :
    ∀ i (hi : i < l.length), ∃ g, p = some ⟨g, 0, none⟩ ∧ B ≤ g ∧ g < w.heap.size ∧ w.cell? ⟨g, i * 2, none⟩ = some (.int .i64 l[i].x) ∧ w.cell? ⟨g, i * 2 + 1, none⟩ = some (.int .i64 l[i].y) ∧ ∀ j, w.frozen? ⟨g, j, none⟩ = false := by
  obtain ⟨p', cap', he, _, hr⟩ := h.view
  injection he with e1 e2 e3
  subst e1
  exact hr
/-- some points more -/
theorem app_kts {ops : Array Oper} {rest : List Oper} {o : Oper} {a : Act} {Q : Exit → Act → World → Prop} {w : World} (B : Nat) (l m : List Kt) (v : Value) (ad : Addr) (c : Nat) (s y : Operand)
    (hgd : o.guard = none) (ho : o.op = .call { callee := .builtin .append, args := #[s, y], argTypes := #[34, 34] }) (hs : a.eval s = v) (hx : a.eval y = .slice (some ad) m.length c)
    (hown : Kts w B v l) (hc : ∀ j u, (cellsK m)[j]? = some u → w.cell? (ad.add j) = some u) (hl : l.length + m.length ≤ 10000000) (hb : B ≤ w.heap.size)
    (h : ∀ v' w', Kts w' B v' (l ++ m) → w.grownBy w' v.ownBlock → wpList Try.prog ops Q rest (a.put o.dst v') w') : wpList Try.prog ops Q (o :: rest) a w := by
  obtain ⟨i0, hi, hz0, hz1, hz2⟩ := info_parts infoKt
  refine wpList_append_own w hgd s y 34 ho B 43 i0 (.agg #[.int .i64 0, .int .i64 0]) 2 16 Try.underlying34 hi hz0 hz1 hz2 rfl (by decide) v l.length _ hs hown ad m.length c (cellsK m) hx (cellsK_len m) ?_ ?_ ?_ ?_ hb ?_
  · exact hc
  · intro u hu
    simp only [cellsK, List.mem_flatMap] at hu
    obtain ⟨f, _, hu⟩ := hu
    simp [kCells] at hu
    rcases hu with rfl | rfl <;> rfl
  · unfold maxLen; omega
  · omega
  · intro v' w' h1 h2 _
    refine h v' w' ?_ h2
    unfold Kts
    rw [cellsK_app]
    simpa using h1
/-- one point more -/
theorem app_kt {ops : Array Oper} {rest : List Oper} {o : Oper} {a : Act} {Q : Exit → Act → World → Prop} {w : World} (B : Nat) (l : List Kt) (f : Kt) (v : Value) (blk : Nat) (s y : Operand)
    (hgd : o.guard = none) (ho : o.op = .call { callee := .builtin .append, args := #[s, y], argTypes := #[34, 34] }) (hs : a.eval s = v) (hx : a.eval y = .slice (some ⟨blk, 0, none⟩) 1 1)
    (hown : Kts w B v l) (hc : Holds w blk (cK f) 43) (hl : l.length ≤ 1000000) (hb : B ≤ w.heap.size)
    (h : ∀ v' w', Kts w' B v' (l ++ [f]) → w.grownBy w' v.ownBlock → wpList Try.prog ops Q rest (a.put o.dst v') w') : wpList Try.prog ops Q (o :: rest) a w := by
  refine app_kts B l [f] v ⟨blk, 0, none⟩ 1 s y hgd ho hs hx hown (fun j u hj => ?_) (by simp; omega) hb h
  have hadd : (⟨blk, 0, none⟩ : Addr).add j = ⟨blk, j, none⟩ := by unfold Addr.add; split <;> simp_all
  rw [hadd]
  exact hc.cell (by rw [← hj]; simp [cK, cellsK, kCells])
theorem app_blockK (w : World) {B : Nat} {l : List Kt} {f : Kt} {v v' : Value} {w' : World} {blk : Nat} {ty : TypeId} (hown : Kts w B v l) (hc : Holds w blk (cK f) 43) (hl : l.length ≤ 1000000)
    (hr : (Builtin.append_ #[34, 34] ty #[v, .slice (some ⟨blk, 0, none⟩) 1 1]).run Try.prog w = .ok v' w') : v'.ownBlock = v.ownBlock ∨ v'.ownBlock = some w.heap.size := by
  obtain ⟨i0, hi, hz0, hz1, hz2⟩ := info_parts infoKt
  have hnews : ∀ j u, (kCells f)[j]? = some u → w.cell? ((⟨blk, 0, none⟩ : Addr).add j) = some u := fun j u hj => by
    have hadd : (⟨blk, 0, none⟩ : Addr).add j = ⟨blk, j, none⟩ := by unfold Addr.add; split <;> simp_all
    rw [hadd]
    exact hc.cell (by rw [← hj]; simp [cK, kCells])
  have hone : ∀ u ∈ kCells f, u.oneCell' = true := fun u hu => by simp [kCells] at hu; rcases hu with rfl | rfl <;> rfl
  have hown0 := hown
  obtain ⟨hlen, hcase⟩ := hown
  rcases hcase with ⟨rfl, hn⟩ | ⟨g, cap, cur, rfl, hbg, hg, hnc, hcm, hcs, htake⟩
  · have hr2 := run_append_nil (P := Try.prog) w 34 ty 43 i0 (.agg #[.int .i64 0, .int .i64 0]) Try.underlying34 hi hz0 ⟨blk, 0, none⟩ 1 1 (kCells f) (by simp [hz1, kCells]) hnews (by omega) (by omega) (by omega)
    rw [hr] at hr2
    injection hr2 with e1 e2
    right; rw [e1]; rfl
  · by_cases hroom : l.length + 1 ≤ cap
    · have hr2 := run_append_room (P := Try.prog) w 34 ty 43 i0 Try.underlying34 hi g l.length cap cur hg ⟨blk, 0, none⟩ 1 1 (kCells f) (by simp [hz1, kCells]) hnews hone hroom (by simp [hz1, hcs, kCells]; omega)
      rw [hr] at hr2
      injection hr2 with e1 e2
      left; rw [e1]; rfl
    · have hr2 := run_append_grow (P := Try.prog) w 34 ty 43 i0 (.agg #[.int .i64 0, .int .i64 0]) Try.underlying34 hi hz0 ⟨g, 0, none⟩ l.length cap _ (by rw [hz1]; exact hlen) (World.ownsRow.cells hown0 (g := g) rfl) ⟨blk, 0, none⟩ 1 1 (kCells f) (by simp [hz1, kCells]) hnews (by omega) (by omega) (growslice_fits (by omega) (by rw [hz2]; omega))
      rw [hr] at hr2
      injection hr2 with e1 e2
      right; rw [e1]; rfl
/-- one point more, and where the list lies then -/
theorem app_ktB {ops : Array Oper} {rest : List Oper} {o : Oper} {a : Act} {Q : Exit → Act → World → Prop} {w : World} (B : Nat) (l : List Kt) (f : Kt) (v : Value) (blk : Nat) (s y : Operand)
    (hgd : o.guard = none) (ho : o.op = .call { callee := .builtin .append, args := #[s, y], argTypes := #[34, 34] }) (hs : a.eval s = v) (hx : a.eval y = .slice (some ⟨blk, 0, none⟩) 1 1)
    (hown : Kts w B v l) (hc : Holds w blk (cK f) 43) (hl : l.length ≤ 1000000) (hb : B ≤ w.heap.size)
    (h : ∀ v' w', Kts w' B v' (l ++ [f]) → w.grownBy w' v.ownBlock → (v'.ownBlock = v.ownBlock ∨ v'.ownBlock = some w.heap.size) → wpList Try.prog ops Q rest (a.put o.dst v') w') : wpList Try.prog ops Q (o :: rest) a w := by
  refine wpList_plain hgd fun K hK => ?_
  obtain ⟨i0, hi, hz0, hz1, hz2⟩ := info_parts infoKt
  obtain ⟨v', w', hr, h2, h3, _⟩ := run_append_own (P := Try.prog) w B 34 o.type 43 i0 (.agg #[.int .i64 0, .int .i64 0]) 2 16 Try.underlying34 hi hz0 hz1 hz2 rfl (by decide) v l.length _ hown ⟨blk, 0, none⟩ 1 1 (kCells f) rfl
    (fun j u hj => by
      have hadd : (⟨blk, 0, none⟩ : Addr).add j = ⟨blk, j, none⟩ := by unfold Addr.add; split <;> simp_all
      rw [hadd]
      exact hc.cell (by rw [← hj]; simp [cK, kCells])) (fun u hu => by simp [kCells] at hu; rcases hu with rfl | rfl <;> rfl) (by unfold maxLen; omega) (by omega) hb
  have h4 := app_blockK w hown hc hl hr
  have h2' : Kts w' B v' (l ++ [f]) := by
    unfold Kts
    rw [cellsK_app]
    simpa [cellsK] using h2
  unfold Oper.wp execOp
  simp only [ho, resolve, invoke, builtin, Sem.run_bind, Sem.run_pure, Result.andThen_ok, List.map_toArray, List.map_cons, List.map_nil, hs, hx, hr]
  exact hK _ _ (h v' w' h2' h3 h4)
/-- nothing more -/
theorem app_noneK {ops : Array Oper} {rest : List Oper} {o : Oper} {a : Act} {Q : Exit → Act → World → Prop} {w : World} (B : Nat) (l : List Kt) (v : Value) (s y : Operand)
    (hgd : o.guard = none) (ho : o.op = .call { callee := .builtin .append, args := #[s, y], argTypes := #[34, 34] }) (hs : a.eval s = v) (hx : a.eval y = .slice none 0 0)
    (hown : Kts w B v l) (h : wpList Try.prog ops Q rest (a.put o.dst v) w) : wpList Try.prog ops Q (o :: rest) a w := by
  obtain ⟨i0, hi, hz0, hz1, hz2⟩ := info_parts infoKt
  exact wpList_append_own_none hgd s y 34 ho B 43 i0 2 Try.underlying34 hi v l.length _ hs hown hx h
theorem below_grownK {B : Nat} {a w w' : World} {v : Value} {l : List Kt} (hB : Below B a w) (h : Kts w B v l) (hg : w.grownBy w' v.ownBlock) (hs : B ≤ w.heap.size) : Below B a w' :=
  hB.grown hg hs fun k hk => (h.lt k hk).1
theorem sep_ofK {w w' : World} {B : Nat} {u v : Value} {l m : List Kt} (h : Kts w B u l) (h' : Kts w' w.heap.size v m) : u.ownBlock = none ∨ u.ownBlock ≠ v.ownBlock := by
  cases hu : u.ownBlock with
  | none => exact .inl rfl
  | some k =>
    right
    intro e
    have h1 := (h.lt k hu).2
    have h2 := (h'.lt k e.symm).1
    omega
theorem grow_transK {a b c : World} {row : Option Nat} (h : a.grownBy b row) (k : b.grownBy c row) : a.grownBy c row :=
  ⟨k.os.trans h.os, k.tape.trans h.tape, k.output.trans h.output, Nat.le_trans h.size k.size, fun i hi hne => (k.block i (Nat.lt_of_lt_of_le hi h.size) hne).trans (h.block i hi hne)⟩
theorem laws_eqCharacter (a b : Int) (w : World) :
    Calls Try.prog 60 #[.agg #[.int .i64 a, .int .i64 b], .agg #[.int .i64 a, .int .i64 b]] w fun e w' => e = .returned (.bool true) ∧ Below w.heap.size w w' := by
  go_enter Try.func60, Try.ntmps60
  go_wp2_with fail
  go_ret
  exact ⟨rfl, by go_grown⟩
theorem laws_eqCharacterS (l : List Kt) (u v : Value) (B B' : Nat) (w : World) (hl : l.length ≤ 1000000) (hu : Kts w B u l) (hv : Kts w B' v l) :
    Calls Try.prog 28 #[u, v] w fun e w' => e = .returned (.bool true) ∧ Below w.heap.size w w' := by
  obtain ⟨p, c, rfl, _, hr⟩ := hu.view
  obtain ⟨p', c', rfl, _, hr'⟩ := hv.view
  have Hr := Lib.hid hr
  have Hr' := Lib.hid hr'
  clear hr hr' hu hv
  go_enter Try.func28, Try.ntmps28
  go_wp2_with fail
  go_loopw [5] (fun i wr => (∃ k : Nat, i = .int .i64 k ∧ k ≤ l.length) ∧ Below w.heap.size w wr) (fun i _ => l.length - (intOf i).toNat)
  case atStart => exact ⟨⟨0, rfl, by omega⟩, Below.refl _ _⟩
  case round =>
    obtain ⟨⟨k, rfl, hk⟩, hB⟩ := hrel
    by_cases hlt : k < l.length
    · obtain ⟨g, rfl, _, hg1, hc0, hc1, _⟩ := Hr.out k hlt
      obtain ⟨g', rfl, _, hg1', hc0', hc1', _⟩ := Hr'.out k hlt
      rcases hx : l[k] with ⟨xa, xb⟩
      rw [hx] at hc0 hc1 hc0' hc1'
      have q0 : ∀ x : Aft wr, x.w.cell? ⟨g, k * 2, none⟩ = some (.int .i64 xa) := fun x => x.cell (by have := hB.size; omega) ((hB.cell (p := ⟨g, k * 2, none⟩) hg1).trans hc0)
      have q1 : ∀ x : Aft wr, x.w.cell? ⟨g, k * 2 + 1, none⟩ = some (.int .i64 xb) := fun x => x.cell (by have := hB.size; omega) ((hB.cell (p := ⟨g, k * 2 + 1, none⟩) hg1).trans hc1)
      have q0' : ∀ x : Aft wr, x.w.cell? ⟨g', k * 2, none⟩ = some (.int .i64 xa) := fun x => x.cell (by have := hB.size; omega) ((hB.cell (p := ⟨g', k * 2, none⟩) hg1').trans hc0')
      have q1' : ∀ x : Aft wr, x.w.cell? ⟨g', k * 2 + 1, none⟩ = some (.int .i64 xb) := fun x => x.cell (by have := hB.size; omega) ((hB.cell (p := ⟨g', k * 2 + 1, none⟩) hg1').trans hc1')
      clear hc0 hc1 hc0' hc1' hx hg1 hg1'
      go_wp2_with fail
      refine region_aft (by kernel_rfl) (by kernel_rfl) ?_
      repeat go_big_quiet_step ((go_at_call 60; exact callsAft (laws_eqCharacter _ _ _)))
      refine wpQuiet_nil ?_
      intro w1 hb1
      have hB1 : Below w.heap.size w w1 := Below.after hB hb1
      clear hb1 hB q0 q1 q0' q1'
      go_wp2_with fail
      go_roundw
      case rel => exact ⟨⟨k + 1, by go_num, by omega⟩, hB1⟩
      case measure => simp [intOf]; omega
    · go_wp2_with fail
      go_ret
      exact ⟨rfl, hB⟩
/-! marks: the numbers 1, 2, 3, .. through all fields -/
def marksK (n : Nat) : List Kt := (List.range n).map fun (i : Nat) => ⟨2 * (i : Int) + 1, 2 * (i : Int) + 2⟩
theorem marksK_len (n : Nat) : (marksK n).length = n := by simp [marksK]
theorem marksK_get (n k : Nat) (h : k < (marksK n).length) : (marksK n)[k] = ⟨2 * (k : Int) + 1, 2 * (k : Int) + 2⟩ := by simp [marksK]
def markAtK (l : List Kt) (k : Nat) : List Kt := marksK k ++ l.drop k
theorem markAtK_len (l : List Kt) (k : Nat) (h : k ≤ l.length) : (markAtK l k).length = l.length := by simp [markAtK, marksK_len]; omega
theorem markAtK_next (l : List Kt) (k : Nat) (h : k < l.length) : (markAtK l k).set k ⟨2 * (k : Int) + 1, 2 * (k : Int) + 2⟩ = markAtK l (k + 1) := by
  unfold markAtK
  rw [List.set_append_right _ _ (by rw [marksK_len]; exact Nat.le_refl _), marksK_len, Nat.sub_self, List.drop_eq_getElem_cons h, List.set_cons_zero]
  simp [marksK, List.range_succ]
theorem cellsK_set : ∀ (l : List Kt) (i : Nat) (f : Kt), i < l.length → cellsK (l.set i f) = ((cellsK l).set (i * 2) (.int .i64 f.x)).set (i * 2 + 1) (.int .i64 f.y)
  | [], i, f, h => by simp at h
  | g :: l, 0, f, h => by simp [cellsK, kCells]
  | g :: l, i + 1, f, h => by
    have ih := cellsK_set l i f (by simpa using h)
    have e : ∀ m : List Kt, cellsK (g :: m) = kCells g ++ cellsK m := fun m => rfl
    rw [List.set_cons_succ, e, e, ih]
    rw [List.set_append_right _ _ (by simp [kCells]; omega), List.set_append_right _ _ (by simp [kCells]; omega)]
    have f1 : (i + 1) * 2 - (kCells g).length = i * 2 := by simp [kCells]; omega
    have f2 : (i + 1) * 2 + 1 - (kCells g).length = i * 2 + 1 := by simp [kCells]; omega
    rw [f1, f2]
theorem laws_markCharacterS (l : List Kt) (u : Value) (B : Nat) (w : World) (hl : l.length ≤ 1000000) (hu : Kts w B u l) :
    Calls Try.prog 29 #[u, .int .i64 1] w fun e w' => e = .returned (.int .i64 (2 * (l.length : Int) + 1)) ∧ Kts w' B u (marksK l.length) ∧ w.grownBy w' u.ownBlock := by
  obtain ⟨p, c, rfl, _, hr⟩ := hu.view
  clear hr
  go_enter Try.func29, Try.ntmps29
  go_wp2_with fail
  go_loopw [1, 5] (fun m i wr => ∃ k : Nat, i = .int .i64 k ∧ m = .int .i64 (2 * (k : Int) + 1) ∧ k ≤ l.length ∧ Kts wr B (.slice p l.length c) (markAtK l k) ∧ w.grownBy wr (Value.slice p l.length c).ownBlock) (fun _ i _ => l.length - (intOf i).toNat)
  case atStart => exact ⟨0, rfl, rfl, by omega, by simpa [markAtK, marksK] using hu, ⟨rfl, rfl, rfl, Nat.le_refl _, fun _ _ _ => rfl⟩⟩
  case round =>
    clear hu
    obtain ⟨k, rfl, rfl, hk, hown, hg⟩ := hrel
    have hlen := markAtK_len l k hk
    have Hlen := Lib.hid hlen
    clear hlen
    by_cases hlt : k < l.length
    · obtain ⟨g, rfl, _, hg2, hc0, hc1, hfz⟩ := hown.read k (by rw [Hlen.out]; exact hlt)
      have hst : Kts ((wr.setCell ⟨g, k * 2, none⟩ (.int .i64 (2 * (k : Int) + 1))).setCell ⟨g, k * 2 + 1, none⟩ (.int .i64 (2 * (k : Int) + 2))) B (.slice (some ⟨g, 0, none⟩) l.length c) (markAtK l (k + 1)) ∧
          wr.grownBy ((wr.setCell ⟨g, k * 2, none⟩ (.int .i64 (2 * (k : Int) + 1))).setCell ⟨g, k * 2 + 1, none⟩ (.int .i64 (2 * (k : Int) + 2))) (some g) := by
        have ho : wr.ownsRow B 43 2 (.slice (some ⟨g, 0, none⟩) l.length c) l.length (cellsK (markAtK l k)) := by
          have := hown
          unfold Kts at this
          rwa [Hlen.out] at this
        obtain ⟨s1, s2⟩ := World.ownsRow.stored ho (k * 2) (.int .i64 (2 * (k : Int) + 1))
        obtain ⟨s3, s4⟩ := World.ownsRow.stored s1 (k * 2 + 1) (.int .i64 (2 * (k : Int) + 2))
        refine ⟨?_, grow_transK s2 s4⟩
        unfold Kts
        rw [markAtK_len l (k + 1) (by omega), ← markAtK_next l k hlt, cellsK_set _ _ _ (by rw [Hlen.out]; exact hlt)]
        exact s3
      have z0 := hfz (k * 2)
      have z1 := hfz (k * 2 + 1)
      have Hst := Lib.hid hst
      have Hg := Lib.hid hg
      clear hst hg hown hfz
      go_wp2_with fail
      go_roundw
      case rel => exact ⟨k + 1, by go_num, by go_num, by omega, Hst.out.1, grow_transK Hg.out Hst.out.2⟩
      case measure => simp [intOf]; omega
    · go_wp2_with fail
      go_ret
      obtain rfl : k = l.length := by omega
      exact ⟨rfl, by simpa [markAtK] using hown, hg⟩
theorem laws_heldCharacterS (n : Nat) (u : Value) (B : Nat) (w : World) (hl : n ≤ 1000000) (hu : Kts w B u (marksK n)) :
    Calls Try.prog 30 #[u, .int .i64 1] w fun e w' => e = .returned (.int .i64 (2 * (n : Int) + 1)) ∧ w = w' := by
  obtain ⟨p, c, rfl, _, hr⟩ := hu.view
  have hr2 : ∀ k, k < n → ∃ g, p = some ⟨g, 0, none⟩ ∧ w.cell? ⟨g, k * 2, none⟩ = some (.int .i64 (2 * (k : Int) + 1)) ∧ w.cell? ⟨g, k * 2 + 1, none⟩ = some (.int .i64 (2 * (k : Int) + 2)) := fun k hk => by
    obtain ⟨g, h1, _, _, h2, h3, _⟩ := hr k (by rw [marksK_len]; exact hk)
    rw [marksK_get] at h2 h3
    exact ⟨g, h1, h2, h3⟩
  rw [marksK_len]
  have Hr := Lib.hid hr2
  clear hr hr2 hu
  go_enter Try.func30, Try.ntmps30
  go_wp2_with fail
  go_loop [1, 5] (fun m i => ∃ k : Nat, i = .int .i64 k ∧ m = .int .i64 (2 * (k : Int) + 1) ∧ k ≤ n) (fun _ i => n - (intOf i).toNat)
  case atStart => exact ⟨0, rfl, rfl, by omega⟩
  case round =>
    obtain ⟨k, rfl, rfl, hk⟩ := hrel
    by_cases hlt : k < n
    · obtain ⟨g, rfl, hc0, hc1⟩ := Hr.out k hlt
      have e1 : 2 * (k : Int) + 1 + 1 = 2 * (k : Int) + 2 := by omega
      go_wp2_with fail
      go_round
      case rel => exact ⟨k + 1, by go_num, by go_num, by omega⟩
      case measure => simp [intOf]; omega
    · go_wp2_with fail
      go_ret
      obtain rfl : k = n := by omega
      exact ⟨rfl, rfl⟩
end Go.Proofs.Ytafcbaganjcnlaa
