/- Lists of integers in memory: what a call that made one says of it; one more element; reading it. -/
import Derived.Test.YtdonpiihjoihcaaB
import Derived.Laws.AppendOwn
import Derived.Laws.OwnMore
import Derived.Laws.AppendOwnNone
namespace Go.Proofs.Ytdonpiihjoihcaa
set_option linter.unusedVariables false
open Go.ChangeShapes Go.WideShapes Go.ChangeAt Go.RowKit

theorem infoInt : (Try.prog.info? 3).map (fun i => (i.zero, i.size, i.bytes)) = some (some (.int .i64 0), 1, 8) := by kernel_rfl

/-- the slice value v holds the integers l in memory of the call's own (from block B on) -/
def Ints (w : World) (B : Nat) (v : Value) (l : List Int) : Prop := w.ownsRow B 3 1 v l.length (l.map (Value.int .i64))

theorem Ints.nil (w : World) (B : Nat) : Ints w B (.slice none 0 0) [] := World.ownsRow_nil _ _ _ _
theorem Ints.mono {w : World} {B B' : Nat} {v : Value} {l : List Int} (h : Ints w B v l) (hB : B' ≤ B) : Ints w B' v l := by
  obtain ⟨h1, h2⟩ := h
  refine ⟨h1, ?_⟩
  rcases h2 with h2 | ⟨g, cap, cur, hv, hb, r⟩
  · exact .inl h2
  · exact .inr ⟨g, cap, cur, hv, by omega, r⟩
theorem Ints.alloc {w : World} {B : Nat} {v : Value} {l : List Int} (h : Ints w B v l) (o : Obj) : Ints (w.alloc o) B v l := World.ownsRow.alloc h o
theorem Ints.kept {w w' : World} {B : Nat} {v : Value} {l : List Int} {row : Option Nat} (h : Ints w B v l) (hg : w.grownBy w' row) (hne : v.ownBlock = none ∨ v.ownBlock ≠ row) : Ints w' B v l := World.ownsRow.kept h hg hne
theorem grownBy_of_below {w w' : World} (h : Below w.heap.size w w') : w.grownBy w' none := ⟨h.os, h.tape, h.output, h.size, fun k hk _ => h.block k hk⟩
/-- a call that leaves what was there alone keeps every list -/
theorem Ints.below {w w' : World} {B : Nat} {v : Value} {l : List Int} (h : Ints w B v l) (hb : Below w.heap.size w w') : Ints w' B v l :=
  World.ownsRow.kept h (grownBy_of_below hb) (by cases hv : v.ownBlock <;> simp)
theorem Ints.drewN {w : World} {B : Nat} {v : Value} {l : List Int} (h : Ints w B v l) (n : Nat) : Ints (w.drewN n) B v l := h
theorem Ints.lt {w : World} {B : Nat} {v : Value} {l : List Int} (h : Ints w B v l) : ∀ k, v.ownBlock = some k → B ≤ k ∧ k < w.heap.size := World.ownsRow.lt h
/-- a literal of some elements (none, too): one new block -/
theorem Ints.made (w : World) {B : Nat} (l : List Int) (cs : Array Value) (hcs : cs.toList = l.map (Value.int .i64)) (hB : B ≤ w.heap.size) (hl : l.length ≤ 1000) : Ints (w.alloc (.cells cs 3)) B (.slice (some ⟨w.heap.size, 0, none⟩) l.length l.length) l := by
  have := World.ownsRow_lit (e := 3) (size := 1) w cs l.length hB (by unfold maxLen; omega) (by rw [← Array.length_toList, hcs]; simp)
  unfold Ints
  rw [← hcs]; exact this

/-- how a list is read -/
theorem Ints.view {w : World} {B : Nat} {v : Value} {l : List Int} (h : Ints w B v l) :
    ∃ (p : Option Addr) (cap : Nat), v = .slice p l.length cap ∧ l.length ≤ maxLen ∧ ∀ i (hi : i < l.length), ∃ g, p = some ⟨g, 0, none⟩ ∧ B ≤ g ∧ g < w.heap.size ∧ w.cell? ⟨g, i, none⟩ = some (.int .i64 l[i]) ∧ w.frozen? ⟨g, i, none⟩ = false := by
  have hall := h
  obtain ⟨h1, h2⟩ := h
  rcases h2 with ⟨rfl, hn⟩ | ⟨g, cap, cur, rfl, hb, hh, h3, h4, h5, h6⟩
  · exact ⟨none, 0, by rw [hn], by unfold maxLen; omega, fun i hi => by omega⟩
  · refine ⟨some ⟨g, 0, none⟩, cap, rfl, by omega, fun i hi => ⟨g, rfl, hb, (Array.getElem?_eq_some_iff.1 hh).1, ?_, ?_⟩⟩
    · have := World.ownsRow.cellAt hall i (by omega)
      rw [this]; simp [hi]
    · exact World.ownsRow.frozenAt hall i
theorem Ints.read {w : World} {B n cap : Nat} {p : Option Addr} {l : List Int} (h : Ints w B (.slice p n cap) l) :
    ∀ i (hi : i < l.length), ∃ g, p = some ⟨g, 0, none⟩ ∧ B ≤ g ∧ g < w.heap.size ∧ w.cell? ⟨g, i, none⟩ = some (.int .i64 l[i]) ∧ w.frozen? ⟨g, i, none⟩ = false := by
  obtain ⟨p', cap', he, _, hr⟩ := h.view
  injection he with e1 e2 e3
  subst e1
  exact hr
theorem Ints.parts {w : World} {B : Nat} {v : Value} {l : List Int} (h : Ints w B v l) :
    (v = .slice none 0 0 ∧ l = []) ∨ ∃ (g cap : Nat), v = .slice (some ⟨g, 0, none⟩) l.length cap ∧ l.length ≤ cap ∧ cap ≤ maxLen ∧ B ≤ g ∧ g < w.heap.size ∧ ∀ i (hi : i < l.length), w.cell? ⟨g, i, none⟩ = some (.int .i64 l[i]) := by
  have hall := h
  obtain ⟨h1, h2⟩ := h
  rcases h2 with ⟨rfl, hn⟩ | ⟨g, cap, cur, rfl, hb, hh, h3, h4, h5, h6⟩
  · exact .inl ⟨rfl, List.eq_nil_of_length_eq_zero hn⟩
  · exact .inr ⟨g, cap, rfl, h3, h4, hb, (Array.getElem?_eq_some_iff.1 hh).1, fun i hi => by rw [World.ownsRow.cellAt hall i (by omega)]; simp [hi]⟩
theorem app_block (w : World) {B : Nat} {l : List Int} {x : Int} {v v' : Value} {w' : World} {blk : Nat} {ty : TypeId} (hown : Ints w B v l) (hc : w.cell? ⟨blk, 0, none⟩ = some (.int .i64 x)) (hl : l.length ≤ 1000000000)
    (hr : (Builtin.append_ #[74, 74] ty #[v, .slice (some ⟨blk, 0, none⟩) 1 1]).run Try.prog w = .ok v' w') : v'.ownBlock = v.ownBlock ∨ v'.ownBlock = some w.heap.size := by
  obtain ⟨i0, hi, hz0, hz1, hz2⟩ := info_parts infoInt
  have hnews : ∀ j u, [Value.int .i64 x][j]? = some u → w.cell? ((⟨blk, 0, none⟩ : Addr).add j) = some u := fun j u hj => by
    match j, hj with
    | 0, hj => simp at hj; subst hj; simpa [Addr.add] using hc
  have hone : ∀ u ∈ [Value.int .i64 x], u.oneCell' = true := fun u hu => by simp at hu; subst hu; rfl
  have hown0 := hown
  obtain ⟨hlen, hcase⟩ := hown
  rcases hcase with ⟨rfl, hn⟩ | ⟨g, cap, cur, rfl, hbg, hg, hnc, hcm, hcs, htake⟩
  · have hr2 := run_append_nil (P := Try.prog) w 74 ty 3 i0 (.int .i64 0) Try.underlying74 hi hz0 ⟨blk, 0, none⟩ 1 1 [.int .i64 x] (by simp [hz1]) hnews (by omega) (by omega) (by omega)
    rw [hr] at hr2
    injection hr2 with e1 e2
    right; rw [e1]; rfl
  · by_cases hroom : l.length + 1 ≤ cap
    · have hr2 := run_append_room (P := Try.prog) w 74 ty 3 i0 Try.underlying74 hi g l.length cap cur hg ⟨blk, 0, none⟩ 1 1 [.int .i64 x] (by simp [hz1]) hnews hone hroom (by simp [hz1, hcs]; omega)
      rw [hr] at hr2
      injection hr2 with e1 e2
      left; rw [e1]; rfl
    · have hr2 := run_append_grow (P := Try.prog) w 74 ty 3 i0 (.int .i64 0) Try.underlying74 hi hz0 ⟨g, 0, none⟩ l.length cap _ (by rw [hz1]; exact hlen) (World.ownsRow.cells hown0 (g := g) rfl) ⟨blk, 0, none⟩ 1 1 [.int .i64 x] (by simp [hz1]) hnews (by omega) (by omega) (growslice_fits (by omega) (by rw [hz2]; omega))
      rw [hr] at hr2
      injection hr2 with e1 e2
      right; rw [e1]; rfl
theorem app_run (w : World) {B : Nat} {l : List Int} {x : Int} {v : Value} {blk : Nat} (ty : TypeId) (hown : Ints w B v l) (hc : w.cell? ⟨blk, 0, none⟩ = some (.int .i64 x)) (hl : l.length ≤ 1000000000) (hb : B ≤ w.heap.size) :
    ∃ v' w', (Builtin.append_ #[74, 74] ty #[v, .slice (some ⟨blk, 0, none⟩) 1 1]).run Try.prog w = .ok v' w' ∧ Ints w' B v' (l ++ [x]) ∧ w.grownBy w' v.ownBlock ∧ (v'.ownBlock = v.ownBlock ∨ v'.ownBlock = some w.heap.size) := by
  obtain ⟨i0, hi, hz0, hz1, hz2⟩ := info_parts infoInt
  obtain ⟨v', w', hr, h2, h3, _⟩ := run_append_own (P := Try.prog) w B 74 ty 3 i0 (.int .i64 0) 1 8 Try.underlying74 hi hz0 hz1 hz2 rfl (by decide) v l.length _ hown ⟨blk, 0, none⟩ 1 1 [.int .i64 x] rfl
    (fun j u hj => by
      match j, hj with
      | 0, hj => simp at hj; subst hj; simpa [Addr.add] using hc) (fun u hu => by simp at hu; subst hu; rfl) (by unfold maxLen; omega) (by omega) hb
  exact ⟨v', w', hr, by unfold Ints; simpa using h2, h3, app_block w hown hc hl hr⟩
/-- one element more -/
theorem app_int {ops : Array Oper} {rest : List Oper} {o : Oper} {a : Act} {Q : Exit → Act → World → Prop} {w : World} (B : Nat) (l : List Int) (x : Int) (v : Value) (blk : Nat) (s y : Operand)
    (hgd : o.guard = none) (ho : o.op = .call { callee := .builtin .append, args := #[s, y], argTypes := #[74, 74] }) (hs : a.eval s = v) (hx : a.eval y = .slice (some ⟨blk, 0, none⟩) 1 1)
    (hown : Ints w B v l) (hc : w.cell? ⟨blk, 0, none⟩ = some (.int .i64 x)) (hl : l.length ≤ 1000000000) (hb : B ≤ w.heap.size)
    (h : ∀ v' w', Ints w' B v' (l ++ [x]) → w.grownBy w' v.ownBlock → (v'.ownBlock = v.ownBlock ∨ v'.ownBlock = some w.heap.size) → wpList Try.prog ops Q rest (a.put o.dst v') w') : wpList Try.prog ops Q (o :: rest) a w := by
  refine wpList_plain hgd fun K hK => ?_
  obtain ⟨v', w', hr, h2, h3, h4⟩ := app_run w o.type hown hc hl hb
  unfold Oper.wp execOp
  simp only [ho, resolve, invoke, builtin, Sem.run_bind, Sem.run_pure, Result.andThen_ok, List.map_toArray, List.map_cons, List.map_nil, hs, hx, hr]
  exact hK _ _ (h v' w' h2 h3 h4)
/-- another list stays as it is while one is appended to -/
theorem Ints.beside {w w' : World} {B : Nat} {u v v' : Value} {l : List Int} (h : Ints w B u l) (hne : u.ownBlock = none ∨ u.ownBlock ≠ v.ownBlock) (hg : w.grownBy w' v.ownBlock) (hv : v'.ownBlock = v.ownBlock ∨ v'.ownBlock = some w.heap.size) :
    Ints w' B u l ∧ (u.ownBlock = none ∨ u.ownBlock ≠ v'.ownBlock) := by
  refine ⟨h.kept hg hne, ?_⟩
  rcases hv with hv | hv
  · rw [hv]; exact hne
  · rw [hv]
    cases hu : u.ownBlock with
    | none => exact .inl rfl
    | some k =>
      right
      intro e
      have := (h.lt k hu).2
      injection e with e
      omega
/-- the elements of another list more -/
theorem app_ints {ops : Array Oper} {rest : List Oper} {o : Oper} {a : Act} {Q : Exit → Act → World → Prop} {w : World} (B : Nat) (l m : List Int) (v : Value) (ad : Addr) (c : Nat) (s y : Operand)
    (hgd : o.guard = none) (ho : o.op = .call { callee := .builtin .append, args := #[s, y], argTypes := #[74, 74] }) (hs : a.eval s = v) (hx : a.eval y = .slice (some ad) m.length c)
    (hown : Ints w B v l) (hc : ∀ i (hi : i < m.length), w.cell? (ad.add i) = some (.int .i64 m[i])) (hl : l.length + m.length ≤ 1000000000) (hb : B ≤ w.heap.size)
    (h : ∀ v' w', Ints w' B v' (l ++ m) → w.grownBy w' v.ownBlock → wpList Try.prog ops Q rest (a.put o.dst v') w') : wpList Try.prog ops Q (o :: rest) a w := by
  obtain ⟨i0, hi, hz0, hz1, hz2⟩ := info_parts infoInt
  refine wpList_append_own w hgd s y 74 ho B 3 i0 (.int .i64 0) 1 8 Try.underlying74 hi hz0 hz1 hz2 rfl (by decide) v l.length _ hs hown ad m.length c (m.map (Value.int .i64)) hx (by simp) ?_ ?_ ?_ ?_ hb ?_
  · intro j u hj
    obtain ⟨hj1, hj2⟩ := List.getElem?_eq_some_iff.1 hj
    rw [hc j (by simpa using hj1), ← hj2]; simp
  · intro u hu
    obtain ⟨x, _, rfl⟩ := List.mem_map.1 hu
    rfl
  · unfold maxLen; omega
  · omega
  · intro v' w' h1 h2 _
    refine h v' w' ?_ h2
    unfold Ints
    simpa using h1
theorem app_none {ops : Array Oper} {rest : List Oper} {o : Oper} {a : Act} {Q : Exit → Act → World → Prop} {w : World} (B : Nat) (l : List Int) (v : Value) (s y : Operand)
    (hgd : o.guard = none) (ho : o.op = .call { callee := .builtin .append, args := #[s, y], argTypes := #[74, 74] }) (hs : a.eval s = v) (hx : a.eval y = .slice none 0 0)
    (hown : Ints w B v l) (h : wpList Try.prog ops Q rest (a.put o.dst v) w) : wpList Try.prog ops Q (o :: rest) a w := by
  obtain ⟨i0, hi, hz0, hz1, hz2⟩ := info_parts infoInt
  exact wpList_append_own_none hgd s y 74 ho B 3 i0 1 Try.underlying74 hi v l.length _ hs hown hx h
theorem below_grown {B : Nat} {a w w' : World} {v : Value} {l : List Int} (hB : Below B a w) (h : Ints w B v l) (hg : w.grownBy w' v.ownBlock) (hs : B ≤ w.heap.size) : Below B a w' :=
  hB.grown hg hs fun k hk => (h.lt k hk).1
end Go.Proofs.Ytdonpiihjoihcaa
