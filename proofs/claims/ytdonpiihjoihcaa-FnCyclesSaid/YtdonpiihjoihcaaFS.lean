/- Lists of forms in memory: what a call that made one says of it; one more element; reading it; two compared, one marked, one whose marks are held. -/
import Derived.Test.YtdonpiihjoihcaaCE
import Derived.Laws.AppendOwn
import Derived.Laws.OwnMore
import Derived.Laws.AppendOwnNone
namespace Go.Proofs.Ytdonpiihjoihcaa
set_option linter.unusedVariables false
open Go.ChangeShapes Go.WideShapes Go.ChangeAt Go.RowKit

theorem infoFm : (Try.prog.info? 28).map (fun i => (i.zero, i.size, i.bytes)) = some (some (.agg #[.int .i64 0, .int .i64 0, .int .i64 0]), 3, 24) := by kernel_rfl
def fCells (f : Fm) : List Value := [.int .i64 f.a, .int .i64 f.b, .int .i64 f.c]
def cellsL (l : List Fm) : List Value := l.flatMap fCells
theorem cellsL_len : ∀ l : List Fm, (cellsL l).length = l.length * 3
  | [] => rfl
  | f :: l => by simp only [cellsL, List.flatMap_cons, List.length_append, List.length_cons] at *; rw [show (List.flatMap fCells l).length = l.length * 3 from cellsL_len l]; simp [fCells]; omega
theorem cellsL_app (l m : List Fm) : cellsL (l ++ m) = cellsL l ++ cellsL m := by simp [cellsL]
theorem cellsL_get : ∀ (l : List Fm) (i : Nat) (f : Fm), l[i]? = some f → (cellsL l)[i * 3]? = some (.int .i64 f.a) ∧ (cellsL l)[i * 3 + 1]? = some (.int .i64 f.b) ∧ (cellsL l)[i * 3 + 2]? = some (.int .i64 f.c)
  | [], i, f, h => by simp at h
  | g :: l, 0, f, h => by simp at h; subst h; simp [cellsL, fCells]
  | g :: l, i + 1, f, h => by
    have := cellsL_get l i f (by simpa using h)
    have e : cellsL (g :: l) = fCells g ++ cellsL l := rfl
    rw [e]
    refine ⟨?_, ?_, ?_⟩
    · rw [List.getElem?_append_right (by simp [fCells]; omega)]; rw [← this.1]; congr 1; simp [fCells]; omega
    · rw [List.getElem?_append_right (by simp [fCells]; omega)]; rw [← this.2.1]; congr 1; simp [fCells]; omega
    · rw [List.getElem?_append_right (by simp [fCells]; omega)]; rw [← this.2.2]; congr 1; simp [fCells]; omega

/-- the slice value v holds the forms l in memory of the call's own (from block B on) -/
def Fms (w : World) (B : Nat) (v : Value) (l : List Fm) : Prop := w.ownsRow B 28 3 v l.length (cellsL l)
theorem Fms.nil (w : World) (B : Nat) : Fms w B (.slice none 0 0) [] := World.ownsRow_nil _ _ _ _
theorem Fms.mono {w : World} {B B' : Nat} {v : Value} {l : List Fm} (h : Fms w B v l) (hB : B' ≤ B) : Fms w B' v l := by
  obtain ⟨h1, h2⟩ := h
  refine ⟨h1, ?_⟩
  rcases h2 with h2 | ⟨g, cap, cur, hv, hb, r⟩
  · exact .inl h2
  · exact .inr ⟨g, cap, cur, hv, by omega, r⟩
theorem Fms.alloc {w : World} {B : Nat} {v : Value} {l : List Fm} (h : Fms w B v l) (o : Obj) : Fms (w.alloc o) B v l := World.ownsRow.alloc h o
theorem Fms.kept {w w' : World} {B : Nat} {v : Value} {l : List Fm} {row : Option Nat} (h : Fms w B v l) (hg : w.grownBy w' row) (hne : v.ownBlock = none ∨ v.ownBlock ≠ row) : Fms w' B v l := World.ownsRow.kept h hg hne
theorem grownBy_of_below' {w w' : World} (h : Below w.heap.size w w') : w.grownBy w' none := ⟨h.os, h.tape, h.output, h.size, fun k hk _ => h.block k hk⟩
theorem Fms.below {w w' : World} {B : Nat} {v : Value} {l : List Fm} (h : Fms w B v l) (hb : Below w.heap.size w w') : Fms w' B v l :=
  World.ownsRow.kept h (grownBy_of_below' hb) (by cases hv : v.ownBlock <;> simp)
theorem Fms.drewN {w : World} {B : Nat} {v : Value} {l : List Fm} (h : Fms w B v l) (n : Nat) : Fms (w.drewN n) B v l := h
theorem Fms.lt {w : World} {B : Nat} {v : Value} {l : List Fm} (h : Fms w B v l) : ∀ k, v.ownBlock = some k → B ≤ k ∧ k < w.heap.size := World.ownsRow.lt h
/-- a literal of some forms (none, too): one new block -/
theorem Fms.made (w : World) {B : Nat} (l : List Fm) (cs : Array Value) (hcs : cs.toList = cellsL l) (hB : B ≤ w.heap.size) (hl : l.length ≤ 1000) : Fms (w.alloc (.cells cs 28)) B (.slice (some ⟨w.heap.size, 0, none⟩) l.length l.length) l := by
  have := World.ownsRow_lit (e := 28) (size := 3) w cs l.length hB (by unfold maxLen; omega) (by rw [← Array.length_toList, hcs, cellsL_len])
  unfold Fms
  rw [← hcs]; exact this
/-- how a list is read -/
theorem Fms.view {w : World} {B : Nat} {v : Value} {l : List Fm} (h : Fms w B v l) :
    ∃ (p : Option Addr) (cap : Nat), v = .slice p l.length cap ∧ l.length ≤ maxLen ∧ ∀ i (hi : i < l.length), ∃ g, p = some ⟨g, 0, none⟩ ∧ B ≤ g ∧ g < w.heap.size ∧
      w.cell? ⟨g, i * 3, none⟩ = some (.int .i64 l[i].a) ∧ w.cell? ⟨g, i * 3 + 1, none⟩ = some (.int .i64 l[i].b) ∧ w.cell? ⟨g, i * 3 + 2, none⟩ = some (.int .i64 l[i].c) ∧ ∀ j, w.frozen? ⟨g, j, none⟩ = false := by
  have hall := h
  obtain ⟨h1, h2⟩ := h
  rcases h2 with ⟨rfl, hn⟩ | ⟨g, cap, cur, rfl, hb, hh, h3, h4, h5, h6⟩
  · exact ⟨none, 0, by rw [hn], by unfold maxLen; omega, fun i hi => by omega⟩
  · refine ⟨some ⟨g, 0, none⟩, cap, rfl, by omega, fun i hi => ⟨g, rfl, hb, (Array.getElem?_eq_some_iff.1 hh).1, ?_⟩⟩
    obtain ⟨e1, e2, e3⟩ := cellsL_get l i l[i] (by simp [hi])
    have key : ∀ j u, (cellsL l)[j]? = some u → w.cell? ⟨g, j, none⟩ = some u := fun j u hj => by
      have := World.ownsRow.cells hall (g := g) rfl j u hj
      have hadd : (⟨g, 0, none⟩ : Addr).add j = ⟨g, j, none⟩ := by unfold Addr.add; split <;> simp_all
      rwa [hadd] at this
    exact ⟨key _ _ e1, key _ _ e2, key _ _ e3, fun j => World.ownsRow.frozenAt hall j⟩
/-- one form more -/
theorem app_fm {ops : Array Oper} {rest : List Oper} {o : Oper} {a : Act} {Q : Exit → Act → World → Prop} {w : World} (B : Nat) (l : List Fm) (f : Fm) (v : Value) (blk : Nat) (s y : Operand)
    (hgd : o.guard = none) (ho : o.op = .call { callee := .builtin .append, args := #[s, y], argTypes := #[46, 46] }) (hs : a.eval s = v) (hx : a.eval y = .slice (some ⟨blk, 0, none⟩) 1 1)
    (hown : Fms w B v l) (hc : Holds w blk (cF f) 28) (hl : l.length ≤ 1000000) (hb : B ≤ w.heap.size)
    (h : ∀ v' w', Fms w' B v' (l ++ [f]) → w.grownBy w' v.ownBlock → wpList Try.prog ops Q rest (a.put o.dst v') w') : wpList Try.prog ops Q (o :: rest) a w := by
  obtain ⟨i0, hi, hz0, hz1, hz2⟩ := info_parts infoFm
  refine wpList_append_own w hgd s y 46 ho B 28 i0 (.agg #[.int .i64 0, .int .i64 0, .int .i64 0]) 3 24 Try.underlying46 hi hz0 hz1 hz2 rfl (by decide) v l.length _ hs hown ⟨blk, 0, none⟩ 1 1 (fCells f) hx (by simp [fCells]) ?_ ?_ ?_ ?_ hb ?_
  · intro j u hj
    have hadd : (⟨blk, 0, none⟩ : Addr).add j = ⟨blk, j, none⟩ := by unfold Addr.add; split <;> simp_all
    rw [hadd]
    exact hc.cell (by rw [← hj]; simp [cF, fCells])
  · intro u hu
    simp [fCells] at hu
    rcases hu with rfl | rfl | rfl <;> rfl
  · unfold maxLen; omega
  · omega
  · intro v' w' h1 h2 _
    refine h v' w' ?_ h2
    unfold Fms
    rw [cellsL_app]
    simpa [cellsL] using h1
theorem below_grownF {B : Nat} {a w w' : World} {v : Value} {l : List Fm} (hB : Below B a w) (h : Fms w B v l) (hg : w.grownBy w' v.ownBlock) (hs : B ≤ w.heap.size) : Below B a w' :=
  hB.grown hg hs fun k hk => (h.lt k hk).1
theorem sep_ofF {w w' : World} {B : Nat} {u v : Value} {l m : List Fm} (h : Fms w B u l) (h' : Fms w' w.heap.size v m) : u.ownBlock = none ∨ u.ownBlock ≠ v.ownBlock := by
  cases hu : u.ownBlock with
  | none => exact .inl rfl
  | some k =>
    right
    intro e
    have h1 := (h.lt k hu).2
    have h2 := (h'.lt k e.symm).1
    omega
theorem grow_transF {a b c : World} {row : Option Nat} (h : a.grownBy b row) (k : b.grownBy c row) : a.grownBy c row :=
  ⟨k.os.trans h.os, k.tape.trans h.tape, k.output.trans h.output, Nat.le_trans h.size k.size, fun i hi hne => (k.block i (Nat.lt_of_lt_of_le hi h.size) hne).trans (h.block i hi hne)⟩
theorem laws_eqFormS (l : List Fm) (u v : Value) (B B' : Nat) (w : World) (hl : l.length ≤ 1000000) (hu : Fms w B u l) (hv : Fms w B' v l) :
    Calls Try.prog 41 #[u, v] w fun e w' => e = .returned (.bool true) ∧ Below w.heap.size w w' := by
  obtain ⟨p, c, rfl, _, hr⟩ := hu.view
  obtain ⟨p', c', rfl, _, hr'⟩ := hv.view
  have Hr := Lib.hid hr
  have Hr' := Lib.hid hr'
  clear hr hr' hu hv
  go_enter Try.func41, Try.ntmps41
  go_wp2_with fail
  go_loopw [5] (fun i wr => (∃ k : Nat, i = .int .i64 k ∧ k ≤ l.length) ∧ Below w.heap.size w wr) (fun i _ => l.length - (intOf i).toNat)
  case atStart => exact ⟨⟨0, rfl, by omega⟩, Below.refl _ _⟩
  case round =>
    obtain ⟨⟨k, rfl, hk⟩, hB⟩ := hrel
    by_cases hlt : k < l.length
    · obtain ⟨g, rfl, _, hg1, hc0, hc1, hc2, _⟩ := Hr.out k hlt
      obtain ⟨g', rfl, _, hg1', hc0', hc1', hc2', _⟩ := Hr'.out k hlt
      rcases hx : l[k] with ⟨xa, xb, xc⟩
      rw [hx] at hc0 hc1 hc2 hc0' hc1' hc2'
      have q0 : ∀ x : Aft wr, x.w.cell? ⟨g, k * 3, none⟩ = some (.int .i64 xa) := fun x => x.cell (by have := hB.size; omega) ((hB.cell (p := ⟨g, k * 3, none⟩) hg1).trans hc0)
      have q1 : ∀ x : Aft wr, x.w.cell? ⟨g, k * 3 + 1, none⟩ = some (.int .i64 xb) := fun x => x.cell (by have := hB.size; omega) ((hB.cell (p := ⟨g, k * 3 + 1, none⟩) hg1).trans hc1)
      have q2 : ∀ x : Aft wr, x.w.cell? ⟨g, k * 3 + 2, none⟩ = some (.int .i64 xc) := fun x => x.cell (by have := hB.size; omega) ((hB.cell (p := ⟨g, k * 3 + 2, none⟩) hg1).trans hc2)
      have q0' : ∀ x : Aft wr, x.w.cell? ⟨g', k * 3, none⟩ = some (.int .i64 xa) := fun x => x.cell (by have := hB.size; omega) ((hB.cell (p := ⟨g', k * 3, none⟩) hg1').trans hc0')
      have q1' : ∀ x : Aft wr, x.w.cell? ⟨g', k * 3 + 1, none⟩ = some (.int .i64 xb) := fun x => x.cell (by have := hB.size; omega) ((hB.cell (p := ⟨g', k * 3 + 1, none⟩) hg1').trans hc1')
      have q2' : ∀ x : Aft wr, x.w.cell? ⟨g', k * 3 + 2, none⟩ = some (.int .i64 xc) := fun x => x.cell (by have := hB.size; omega) ((hB.cell (p := ⟨g', k * 3 + 2, none⟩) hg1').trans hc2')
      clear hc0 hc1 hc2 hc0' hc1' hc2' hx hg1 hg1'
      go_wp2_with fail
      refine region_aft (by kernel_rfl) (by kernel_rfl) ?_
      repeat go_big_quiet_step ((go_at_call 89; exact callsAft (laws_eqForm _ _ _ _)))
      refine wpQuiet_nil ?_
      intro w1 hb1
      have hB1 : Below w.heap.size w w1 := Below.after hB hb1
      clear hb1 hB q0 q1 q2 q0' q1' q2'
      go_wp2_with fail
      go_roundw
      case rel => exact ⟨⟨k + 1, by go_num, by omega⟩, hB1⟩
      case measure => simp [intOf]; omega
    · go_wp2_with fail
      go_ret
      exact ⟨rfl, hB⟩
/-! marks: the numbers 1, 2, 3, .. through all fields -/
def marksF (n : Nat) : List Fm := (List.range n).map fun (i : Nat) => ⟨3 * (i : Int) + 1, 3 * (i : Int) + 2, 3 * (i : Int) + 3⟩
theorem marksF_len (n : Nat) : (marksF n).length = n := by simp [marksF]
theorem marksF_get (n k : Nat) (h : k < (marksF n).length) : (marksF n)[k] = ⟨3 * (k : Int) + 1, 3 * (k : Int) + 2, 3 * (k : Int) + 3⟩ := by simp [marksF]
def markAtF (l : List Fm) (k : Nat) : List Fm := marksF k ++ l.drop k
theorem markAtF_len (l : List Fm) (k : Nat) (h : k ≤ l.length) : (markAtF l k).length = l.length := by simp [markAtF, marksF_len]; omega
theorem markAtF_next (l : List Fm) (k : Nat) (h : k < l.length) : (markAtF l k).set k ⟨3 * (k : Int) + 1, 3 * (k : Int) + 2, 3 * (k : Int) + 3⟩ = markAtF l (k + 1) := by
  unfold markAtF
  rw [List.set_append_right _ _ (by rw [marksF_len]; exact Nat.le_refl _), marksF_len, Nat.sub_self, List.drop_eq_getElem_cons h, List.set_cons_zero]
  simp [marksF, List.range_succ]
theorem cellsL_set : ∀ (l : List Fm) (i : Nat) (f : Fm), i < l.length → cellsL (l.set i f) = (((cellsL l).set (i * 3) (.int .i64 f.a)).set (i * 3 + 1) (.int .i64 f.b)).set (i * 3 + 2) (.int .i64 f.c)
  | [], i, f, h => by simp at h
  | g :: l, 0, f, h => by simp [cellsL, fCells]
  | g :: l, i + 1, f, h => by
    have ih := cellsL_set l i f (by simpa using h)
    have e : ∀ m : List Fm, cellsL (g :: m) = fCells g ++ cellsL m := fun m => rfl
    rw [List.set_cons_succ, e, e, ih]
    rw [List.set_append_right _ _ (by simp [fCells]; omega), List.set_append_right _ _ (by simp [fCells]; omega), List.set_append_right _ _ (by simp [fCells]; omega)]
    have f1 : (i + 1) * 3 - (fCells g).length = i * 3 := by simp [fCells]; omega
    have f2 : (i + 1) * 3 + 1 - (fCells g).length = i * 3 + 1 := by simp [fCells]; omega
    have f3 : (i + 1) * 3 + 2 - (fCells g).length = i * 3 + 2 := by simp [fCells]; omega
    rw [f1, f2, f3]
theorem Fms.read {w : World} {B n cap : Nat} {p : Option Addr} {l : List Fm} (h : Fms w B (.slice p n cap) l) :
    ∀ i (hi : i < l.length), ∃ g, p = some ⟨g, 0, none⟩ ∧ B ≤ g ∧ g < w.heap.size ∧ w.cell? ⟨g, i * 3, none⟩ = some (.int .i64 l[i].a) ∧ w.cell? ⟨g, i * 3 + 1, none⟩ = some (.int .i64 l[i].b) ∧ w.cell? ⟨g, i * 3 + 2, none⟩ = some (.int .i64 l[i].c) ∧ ∀ j, w.frozen? ⟨g, j, none⟩ = false := by
  obtain ⟨p', cap', he, _, hr⟩ := h.view
  injection he with e1 e2 e3
  subst e1
  exact hr
theorem laws_markFormS (l : List Fm) (u : Value) (B : Nat) (w : World) (hl : l.length ≤ 1000000) (hu : Fms w B u l) :
    Calls Try.prog 42 #[u, .int .i64 1] w fun e w' => e = .returned (.int .i64 (3 * (l.length : Int) + 1)) ∧ Fms w' B u (marksF l.length) ∧ w.grownBy w' u.ownBlock := by
  obtain ⟨p, c, rfl, _, hr⟩ := hu.view
  clear hr
  go_enter Try.func42, Try.ntmps42
  go_wp2_with fail
  go_loopw [1, 5] (fun m i wr => ∃ k : Nat, i = .int .i64 k ∧ m = .int .i64 (3 * (k : Int) + 1) ∧ k ≤ l.length ∧ Fms wr B (.slice p l.length c) (markAtF l k) ∧ w.grownBy wr (Value.slice p l.length c).ownBlock) (fun _ i _ => l.length - (intOf i).toNat)
  case atStart => exact ⟨0, rfl, rfl, by omega, by simpa [markAtF, marksF] using hu, ⟨rfl, rfl, rfl, Nat.le_refl _, fun _ _ _ => rfl⟩⟩
  case round =>
    clear hu
    obtain ⟨k, rfl, rfl, hk, hown, hg⟩ := hrel
    have hlen := markAtF_len l k hk
    have Hlen := Lib.hid hlen
    clear hlen
    by_cases hlt : k < l.length
    · obtain ⟨g, rfl, _, hg2, hc0, hc1, hc2, hfz⟩ := hown.read k (by rw [Hlen.out]; exact hlt)
      have hst : Fms (((wr.setCell ⟨g, k * 3, none⟩ (.int .i64 (3 * (k : Int) + 1))).setCell ⟨g, k * 3 + 1, none⟩ (.int .i64 (3 * (k : Int) + 2))).setCell ⟨g, k * 3 + 2, none⟩ (.int .i64 (3 * (k : Int) + 3))) B (.slice (some ⟨g, 0, none⟩) l.length c) (markAtF l (k + 1)) ∧
          wr.grownBy (((wr.setCell ⟨g, k * 3, none⟩ (.int .i64 (3 * (k : Int) + 1))).setCell ⟨g, k * 3 + 1, none⟩ (.int .i64 (3 * (k : Int) + 2))).setCell ⟨g, k * 3 + 2, none⟩ (.int .i64 (3 * (k : Int) + 3))) (some g) := by
        have ho : wr.ownsRow B 28 3 (.slice (some ⟨g, 0, none⟩) l.length c) l.length (cellsL (markAtF l k)) := by
          have := hown
          unfold Fms at this
          rwa [Hlen.out] at this
        obtain ⟨s1, s2⟩ := World.ownsRow.stored ho (k * 3) (.int .i64 (3 * (k : Int) + 1))
        obtain ⟨s3, s4⟩ := World.ownsRow.stored s1 (k * 3 + 1) (.int .i64 (3 * (k : Int) + 2))
        obtain ⟨s5, s6⟩ := World.ownsRow.stored s3 (k * 3 + 2) (.int .i64 (3 * (k : Int) + 3))
        refine ⟨?_, grow_transF (grow_transF s2 s4) s6⟩
        unfold Fms
        rw [markAtF_len l (k + 1) (by omega), ← markAtF_next l k hlt, cellsL_set _ _ _ (by rw [Hlen.out]; exact hlt)]
        exact s5
      have z0 := hfz (k * 3)
      have z1 := hfz (k * 3 + 1)
      have z2 := hfz (k * 3 + 2)
      have Hst := Lib.hid hst
      have Hg := Lib.hid hg
      clear hst hg hown hfz
      go_wp2_with fail
      go_roundw
      case rel => exact ⟨k + 1, by go_num, by go_num, by omega, Hst.out.1, grow_transF Hg.out Hst.out.2⟩
      case measure => simp [intOf]; omega
    · go_wp2_with fail
      go_ret
      obtain rfl : k = l.length := by omega
      exact ⟨rfl, by simpa [markAtF] using hown, hg⟩
theorem laws_heldFormS (n : Nat) (u : Value) (B : Nat) (w : World) (hl : n ≤ 1000000) (hu : Fms w B u (marksF n)) :
    Calls Try.prog 43 #[u, .int .i64 1] w fun e w' => e = .returned (.int .i64 (3 * (n : Int) + 1)) ∧ w = w' := by
  obtain ⟨p, c, rfl, _, hr⟩ := hu.view
  have hr2 : ∀ k, k < n → ∃ g, p = some ⟨g, 0, none⟩ ∧ w.cell? ⟨g, k * 3, none⟩ = some (.int .i64 (3 * (k : Int) + 1)) ∧ w.cell? ⟨g, k * 3 + 1, none⟩ = some (.int .i64 (3 * (k : Int) + 2)) ∧ w.cell? ⟨g, k * 3 + 2, none⟩ = some (.int .i64 (3 * (k : Int) + 3)) := fun k hk => by
    obtain ⟨g, h1, _, _, h2, h3, h4, _⟩ := hr k (by rw [marksF_len]; exact hk)
    rw [marksF_get] at h2 h3 h4
    exact ⟨g, h1, h2, h3, h4⟩
  rw [marksF_len]
  have Hr := Lib.hid hr2
  clear hr hr2 hu
  go_enter Try.func43, Try.ntmps43
  go_wp2_with fail
  go_loop [1, 5] (fun m i => ∃ k : Nat, i = .int .i64 k ∧ m = .int .i64 (3 * (k : Int) + 1) ∧ k ≤ n) (fun _ i => n - (intOf i).toNat)
  case atStart => exact ⟨0, rfl, rfl, by omega⟩
  case round =>
    obtain ⟨k, rfl, rfl, hk⟩ := hrel
    by_cases hlt : k < n
    · obtain ⟨g, rfl, hc0, hc1, hc2⟩ := Hr.out k hlt
      have e1 : 3 * (k : Int) + 1 + 1 = 3 * (k : Int) + 2 := by omega
      have e2 : 3 * (k : Int) + 2 + 1 = 3 * (k : Int) + 3 := by omega
      go_wp2_with fail
      go_round
      case rel => exact ⟨k + 1, by go_num, by go_num, by omega⟩
      case measure => simp [intOf]; omega
    · go_wp2_with fail
      go_ret
      obtain rfl : k = n := by omega
      exact ⟨rfl, rfl⟩
end Go.Proofs.Ytdonpiihjoihcaa
