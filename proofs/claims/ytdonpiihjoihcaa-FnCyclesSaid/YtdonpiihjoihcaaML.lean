/- Maps whose keys are forms, of bools and of ints: what is read of them, and one store more. -/
import Derived.Test.YtdonpiihjoihcaaMF
import Derived.Test.YtdonpiihjoihcaaCY
import Derived.WalkArith
namespace Go.Proofs.Ytdonpiihjoihcaa
set_option linter.unusedVariables false
set_option maxRecDepth 100000
open Go.ChangeShapes Go.WideShapes Go.ChangeAt Go.RowKit Go.Maps Go.WideMaps

def wfF (f : Fm) : Prop := wfI f.a ∧ wfI f.b ∧ wfI f.c
def agFm (f : Fm) : Value := .agg #[.int .i64 f.a, .int .i64 f.b, .int .i64 f.c]
noncomputable def fk (f : Fm) : Lit := (keyOf Try.prog 28 (agFm f)).getD (.bool false)
theorem fk_eq {f : Fm} (h : wfF f) : keyOf Try.prog 28 (agFm f) = some (fk f) := by
  obtain ⟨l, hl⟩ := keyOf_ex h.1 h.2.1 h.2.2
  unfold fk
  have : keyOf Try.prog 28 (agFm f) = some l := hl
  rw [this]; rfl
theorem fk_inj {f g : Fm} (hf : wfF f) (hg : wfF g) (h : fk f = fk g) : f = g := by
  have h1 := fk_eq hf
  have h2 := fk_eq hg
  rw [h] at h1
  have h3 := mfKey.inj h1 h2
  rcases f with ⟨a, b, c⟩
  rcases g with ⟨x, y, z⟩
  simp [agFm] at h3
  simp [h3]
theorem wfF_of {f : Fm} (h : good3 f.a f.b f.c = true) : wfF f := by
  obtain ⟨h1, h2, h3⟩ := good3_iff.1 h
  exact ⟨WalkArith.wf_i64 (by omega), WalkArith.wf_i64 (by omega), WalkArith.wf_i64 (by omega)⟩
abbrev DW := DataW Unit
/-- block b is a map of at most n forms that tells S of every form -/
def SeenF (w : World) (b n : Nat) (S : Fm → Bool) : Prop := ∃ D : DW, w.ownsMap Try.prog 28 (plainElem Try.prog 4) b n D ∧ IsMap D ∧ ∀ f, wfF f → D.atKey (fk f) (.lit (.bool false)) = .lit (.bool (S f))
theorem zeroB (w : World) : (zeroValue 4).run Try.prog w = .ok (.bool false) w := by kernel_rfl
theorem zeroI (w : World) : (zeroValue 3).run Try.prog w = .ok (.int .i64 0) w := by kernel_rfl
theorem plainB_inv {v : Value} {z : DW × List MemPlace} (h : plainElem Try.prog 4 v = some z) : ∃ x, v = .bool x ∧ z = (.lit (.bool x), []) := by
  unfold plainElem at h
  rw [Try.underlying4] at h
  cases v <;> simp at h
  rename_i x
  exact ⟨x, rfl, h.symm⟩
theorem SeenF.made (w : World) : SeenF (w.alloc (.map #[] 0)) w.heap.size 0 (fun _ => false) := ⟨_, World.ownsMap_made w _ _ _, ⟨[], rfl⟩, fun f _ => rfl⟩
theorem SeenF.at {w : World} {b n : Nat} {S : Fm → Bool} (h : SeenF w b n S) {w' : World} {row : Option Nat} (hg : w.grownBy w' row) (hne : some b ≠ row) : SeenF w' b n S := by
  obtain ⟨D, h1, h2⟩ := h; exact ⟨D, h1.kept hg hne, h2⟩
theorem SeenF.mono {w : World} {b n n' : Nat} {S : Fm → Bool} (h : SeenF w b n S) (hn : n ≤ n') : SeenF w b n' S := by
  obtain ⟨D, h1, h2⟩ := h; exact ⟨D, h1.mono hn, h2⟩
theorem SeenF.lt {w : World} {b n : Nat} {S : Fm → Bool} (h : SeenF w b n S) : b < w.heap.size := by
  obtain ⟨D, h1, h2⟩ := h; exact h1.lt
theorem SeenF.below {w w' : World} {b n : Nat} {S : Fm → Bool} (h : SeenF w b n S) (hb : Below w.heap.size w w') : SeenF w' b n S :=
  h.at (row := none) ⟨hb.os, hb.tape, hb.output, hb.size, fun k hk _ => hb.block k hk⟩ (by simp)
theorem SeenF.alloc {w : World} {b n : Nat} {S : Fm → Bool} (h : SeenF w b n S) (o : Obj) : SeenF (w.alloc o) b n S := by
  obtain ⟨D, h1, h2⟩ := h; exact ⟨D, h1.alloc o, h2⟩
theorem SeenF.same {w : World} {b n : Nat} {S S' : Fm → Bool} (h : SeenF w b n S) (e : ∀ f, wfF f → S f = S' f) : SeenF w b n S' := by
  obtain ⟨D, h1, h2, h3⟩ := h
  exact ⟨D, h1, h2, fun f hf => by rw [h3 f hf, e f hf]⟩
section
variable {ops : Array Oper} {rest : List Oper} {o : Oper} {a : Act} {Q : Exit → Act → World → Prop} {w : World}
theorem look_seen (f : Fm) (b n : Nat) (S : Fm → Bool) (v : Bool) (hgd : o.guard = none) (m x : Operand) (hop : o.op = Op.lookup 111 m x false) (hm : a.eval m = .map (some b)) (hx : a.eval x = agFm f)
    (h : SeenF w b n S) (hf : wfF f) (hv : S f = v) (hK : wpList Try.prog ops Q rest (a.put o.dst (.bool v)) w) : wpList Try.prog ops Q (o :: rest) a w := by
  refine wpList_plain hgd fun K' hK' => ?_
  obtain ⟨D, h1, h2, h3⟩ := h
  obtain ⟨u, ps, hrun, hu⟩ := h1.lookup mfKey Try.underlying111 (zeroB w) (plainElem_bool Try.underlying4 false) (fk_eq hf)
  rw [h3 f hf] at hu
  obtain ⟨x', rfl, he⟩ := plainB_inv hu
  simp at he
  obtain ⟨he, _⟩ := he
  subst he
  unfold Oper.wp
  simp [execOp, hop, hm, hx, hrun, Result.andThen]
  rw [hv]
  exact hK' _ _ hK
theorem put_seen (f : Fm) (b n : Nat) (S : Fm → Bool) (hgd : o.guard = none) (m x v : Operand) (hop : o.op = Op.mapUpdate 111 m x v) (hm : a.eval m = .map (some b)) (hx : a.eval x = agFm f) (hv : a.eval v = .bool true)
    (h : SeenF w b n S) (hn : n ≤ 100000000) (hf : wfF f) (hK : ∀ w', SeenF w' b (n + 1) (fun g => decide (g = f) || S g) → w.grownBy w' (some b) → wpList Try.prog ops Q rest (a.put o.dst undef) w') : wpList Try.prog ops Q (o :: rest) a w := by
  obtain ⟨D, h1, h2, h3⟩ := h
  refine wpList_mapUpdate_own w hgd m x v 111 hop 28 4 mfKey Try.underlying111 _ b n D hm h1 (by unfold maxLen; omega) _ _ (fk f) hx hv (fk_eq hf) (.lit (.bool true)) [] (plainElem_bool Try.underlying4 true) ?_
  intro w' h4 h5
  refine hK w' ⟨_, h4, h2.put _ _, fun g hg => ?_⟩ h5
  by_cases hgf : g = f
  · subst hgf
    rw [atKey_put_same h2 (mfKey.key (fk_eq hf))]
    simp
  · rw [atKey_put_other (fun e => hgf (fk_inj hg hf e)), h3 g hg]
    simp [hgf]
end
/-- block b is a map of at most n forms that numbers every form as S does -/
def NumF (w : World) (b n : Nat) (S : Fm → Int) : Prop := ∃ D : DW, w.ownsMap Try.prog 28 (plainElem Try.prog 3) b n D ∧ IsMap D ∧ ∀ f, wfF f → D.atKey (fk f) (.lit (.int .i64 0)) = .lit (.int .i64 (S f))
theorem NumF.made (w : World) : NumF (w.alloc (.map #[] 0)) w.heap.size 0 (fun _ => 0) := ⟨_, World.ownsMap_made w _ _ _, ⟨[], rfl⟩, fun f _ => rfl⟩
theorem NumF.at {w : World} {b n : Nat} {S : Fm → Int} (h : NumF w b n S) {w' : World} {row : Option Nat} (hg : w.grownBy w' row) (hne : some b ≠ row) : NumF w' b n S := by
  obtain ⟨D, h1, h2⟩ := h; exact ⟨D, h1.kept hg hne, h2⟩
theorem NumF.mono {w : World} {b n n' : Nat} {S : Fm → Int} (h : NumF w b n S) (hn : n ≤ n') : NumF w b n' S := by
  obtain ⟨D, h1, h2⟩ := h; exact ⟨D, h1.mono hn, h2⟩
theorem NumF.lt {w : World} {b n : Nat} {S : Fm → Int} (h : NumF w b n S) : b < w.heap.size := by
  obtain ⟨D, h1, h2⟩ := h; exact h1.lt
theorem NumF.below {w w' : World} {b n : Nat} {S : Fm → Int} (h : NumF w b n S) (hb : Below w.heap.size w w') : NumF w' b n S :=
  h.at (row := none) ⟨hb.os, hb.tape, hb.output, hb.size, fun k hk _ => hb.block k hk⟩ (by simp)
theorem NumF.alloc {w : World} {b n : Nat} {S : Fm → Int} (h : NumF w b n S) (o : Obj) : NumF (w.alloc o) b n S := by
  obtain ⟨D, h1, h2⟩ := h; exact ⟨D, h1.alloc o, h2⟩
section
variable {ops : Array Oper} {rest : List Oper} {o : Oper} {a : Act} {Q : Exit → Act → World → Prop} {w : World}
theorem look_num (f : Fm) (b n : Nat) (S : Fm → Int) (v : Int) (hgd : o.guard = none) (m x : Operand) (hop : o.op = Op.lookup 86 m x false) (hm : a.eval m = .map (some b)) (hx : a.eval x = agFm f)
    (h : NumF w b n S) (hf : wfF f) (hv : S f = v) (hK : wpList Try.prog ops Q rest (a.put o.dst (.int .i64 v)) w) : wpList Try.prog ops Q (o :: rest) a w := by
  refine wpList_plain hgd fun K' hK' => ?_
  obtain ⟨D, h1, h2, h3⟩ := h
  obtain ⟨c, hrun, hat, hwc⟩ := h1.lookup_int mfKey Try.underlying86 Try.underlying3 (zeroI w) (fk_eq hf)
  rw [h3 f hf] at hat
  have he : S f = c := by injection hat with hat; injection hat
  unfold Oper.wp
  simp [execOp, hop, hm, hx, hrun, Result.andThen]
  rw [← he, hv]
  exact hK' _ _ hK
theorem put_num (f : Fm) (c : Int) (b n : Nat) (S : Fm → Int) (hgd : o.guard = none) (m x v : Operand) (hop : o.op = Op.mapUpdate 86 m x v) (hm : a.eval m = .map (some b)) (hx : a.eval x = agFm f) (hv : a.eval v = .int .i64 c)
    (h : NumF w b n S) (hn : n ≤ 100000000) (hf : wfF f) (hc : (Lit.int .i64 c).wf = true) (hK : ∀ w', NumF w' b (n + 1) (fun g => if g = f then c else S g) → w.grownBy w' (some b) → wpList Try.prog ops Q rest (a.put o.dst undef) w') : wpList Try.prog ops Q (o :: rest) a w := by
  obtain ⟨D, h1, h2, h3⟩ := h
  refine wpList_mapUpdate_own w hgd m x v 86 hop 28 3 mfKey Try.underlying86 _ b n D hm h1 (by unfold maxLen; omega) _ _ (fk f) hx hv (fk_eq hf) (.lit (.int .i64 c)) [] (plainElem_int Try.underlying3 hc) ?_
  intro w' h4 h5
  refine hK w' ⟨_, h4, h2.put _ _, fun g hg => ?_⟩ h5
  by_cases hgf : g = f
  · subst hgf
    rw [atKey_put_same h2 (mfKey.key (fk_eq hf))]
    simp
  · rw [atKey_put_other (fun e => hgf (fk_inj hg hf e)), h3 g hg]
    simp [hgf]
end
end Go.Proofs.Ytdonpiihjoihcaa
