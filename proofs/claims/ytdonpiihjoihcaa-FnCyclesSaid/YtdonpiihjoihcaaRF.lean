/- Regions that draw their order and store whole structs into blocks of their own: one walk in the order of the text serves every order. No condition. -/
import Derived.Test.YtdonpiihjoihcaaBK
namespace Go.Proofs.Ytdonpiihjoihcaa
open Go.RowKit
set_option linter.unusedVariables false

/-! a world behind W in which the blocks of X may have been written -/
structure BelowX (X : List Nat) (W w' : World) : Prop where
  os : w'.os = W.os
  tape : w'.tape = W.tape
  output : w'.output = W.output
  size : W.heap.size ≤ w'.heap.size
  block : ∀ k, k < W.heap.size → k ∉ X → w'.heap[k]? = W.heap[k]?
theorem BelowX.refl (X : List Nat) (W : World) : BelowX X W W := ⟨rfl, rfl, rfl, Nat.le_refl _, fun _ _ _ => rfl⟩
theorem BelowX.mono {X Y : List Nat} {W w' : World} (h : BelowX X W w') (hs : ∀ k, k ∈ X → k ∈ Y) : BelowX Y W w' :=
  ⟨h.os, h.tape, h.output, h.size, fun k hk hn => h.block k hk fun hx => hn (hs k hx)⟩
theorem BelowX.step {X : List Nat} {W w w' : World} (h : BelowX X W w) (hb : Below w.heap.size w w') : BelowX X W w' :=
  ⟨hb.os.trans h.os, hb.tape.trans h.tape, hb.output.trans h.output, Nat.le_trans h.size hb.size, fun k hk hn => (hb.block k (Nat.lt_of_lt_of_le hk h.size)).trans (h.block k hk hn)⟩
theorem BelowX.store {X : List Nat} {b : Nat} {W w w' : World} (h : BelowX X W w) (hb : BelowX [b] w w') : BelowX (b :: X) W w' :=
  ⟨hb.os.trans h.os, hb.tape.trans h.tape, hb.output.trans h.output, Nat.le_trans h.size hb.size, fun k hk hn => (hb.block k (Nat.lt_of_lt_of_le hk h.size) (fun e => hn (by simp at e; simp [e]))).trans (h.block k hk (fun e => hn (by simp [e])))⟩
theorem BelowX.set {b j : Nat} {v : Value} {w w' : World} (h : BelowX [b] w w') : BelowX [b] w (w'.setCell ⟨b, j, none⟩ v) := by
  refine ⟨h.os, h.tape, h.output, ?_, fun k hk hn => ?_⟩
  · have : (w'.setCell ⟨b, j, none⟩ v).heap.size = w'.heap.size := by simp [World.setCell]
    rw [this]; exact h.size
  · rw [← h.block k hk hn]
    unfold World.setCell
    simp only [Array.getElem?_modify]
    rw [if_neg (fun e => hn (by simp [e]))]
theorem BelowX.below {X : List Nat} {B : Nat} {a W w' : World} (h : BelowX X W w') (ha : Below B a W) (hB : B ≤ W.heap.size) (hX : ∀ k, k ∈ X → B ≤ k) : Below B a w' :=
  ⟨h.os.trans ha.os, h.tape.trans ha.tape, h.output.trans ha.output, Nat.le_trans ha.size h.size, fun k hk => (h.block k (by omega) (fun e => by have := hX k e; omega)).trans (ha.block k hk)⟩
theorem Holds.belowX {X : List Nat} {W w : World} {b : Nat} {cs : Array Value} {ty : TypeId} (h : Holds W b cs ty) (hb : BelowX X W w) (hn : b ∉ X) : Holds w b cs ty := (hb.block b h.lt hn).trans h
def AftX (W : World) (X : List Nat) : Type := {w' : World // BelowX X W w'}
def AftX.w {W : World} {X : List Nat} (x : AftX W X) : World := x.1
instance {W : World} {X : List Nat} : Nonempty (AftX W X) := ⟨⟨W, BelowX.refl _ _⟩⟩
theorem AftX.holds {W : World} {X : List Nat} (x : AftX W X) {b : Nat} {cs : Array Value} {ty : TypeId} (h : Holds W b cs ty) (hn : b ∉ X) : Holds x.w b cs ty := h.belowX x.2 hn
theorem AftX.cell {W : World} {b j : Nat} {cs : Array Value} {ty : TypeId} {v : Value} (h : Holds W b cs ty) (hj : cs[j]? = some v) : ∀ (X : List Nat) (x : AftX W X), b ∉ X → x.w.cell? ⟨b, j, none⟩ = some v :=
  fun X x hn => (x.holds h hn).cell hj
theorem AftX.free {W : World} {b j : Nat} {cs : Array Value} {ty : TypeId} (h : Holds W b cs ty) : ∀ (X : List Nat) (x : AftX W X), b ∉ X → x.w.frozen? ⟨b, j, none⟩ = false :=
  fun X x hn => (x.holds h hn).free

/-! the stores of the region: operation, block, type, what the block holds behind it -/
abbrev Sto := Nat × Nat × TypeId × Array Value
section
variable {P : Program} {ops : Array Oper} {md : Region.Mode} {W : World} {sts : List Sto}
/-- what operation number i may find written -/
def otherX (md : Region.Mode) (ops : Array Oper) (sts : List Sto) (i : Nat) : List Nat := (sts.filter fun s => s.1 != i && !Region.waitsFor md ops s.1 i).map fun s => s.2.1
def storeOf (sts : List Sto) (i : Nat) : Option Sto := sts.find? fun s => s.1 == i
def flowUpon (P : Program) (w : World) (v : Value) (s : Option Sto) : Result Next → Prop
  | .ok (.value u) w' => s = none ∧ w' = w ∧ u = v
  | .ok .skip w' => v = undef ∧ match s with
    | none => w' = w
    | some s => Holds w' s.2.1 s.2.2.2 s.2.2.1 ∧ BelowX [s.2.1] w w'
  | .ok (.enter f args) w' => s = none ∧ w' = w ∧ Calls P f args w (fun e w'' => e = .returned v ∧ Below w.heap.size w w'')
  | _ => False
def flowAt (P : Program) (o : Oper) (a : Act) (W : World) (X : List Nat) (s : Option Sto) (v : Value) : Prop := ∀ x : AftX W X, flowUpon P x.w v s ((execOp a.eval o).run P x.w)
def wpFlow (P : Program) (md : Region.Mode) (ops : Array Oper) (W : World) (sts : List Sto) (Q : Act → Prop) : Nat → List Oper → Act → Prop
  | _, [], a => Q a
  | k, o :: rest, a => if Region.wanted o (yielded ops a.tmps) then (∃ v, flowAt P o a W (otherX md ops sts k) (storeOf sts k) v ∧ wpFlow P md ops W sts Q (k + 1) rest (a.put o.dst v)) else (storeOf sts k = none ∧ wpFlow P md ops W sts Q (k + 1) rest (a.put o.dst undef))
theorem wpFlow_nil {Q : Act → Prop} {k : Nat} {a : Act} (h : Q a) : wpFlow P md ops W sts Q k [] a := h
/-- an operation that reads or reckons or calls -/
theorem wpFlow_step {Q : Act → Prop} {k : Nat} {a : Act} {o : Oper} {rest : List Oper} (X : List Nat) (hX : otherX md ops sts k = X) (hs : storeOf sts k = none)
    (h : ∀ K : Act → Prop, (∀ a, wpFlow P md ops W sts Q (k + 1) rest a → K a) → if Region.wanted o (yielded ops a.tmps) = true then (∃ v, (∀ x : AftX W X, o.quietAt P a (fun w'' => Below x.w.heap.size x.w w'') x.w v) ∧ K (a.put o.dst v)) else K (a.put o.dst undef)) : wpFlow P md ops W sts Q k (o :: rest) a := by
  subst hX
  have h1 := h _ (fun _ h => h)
  unfold wpFlow
  split
  · rename_i hw
    rw [if_pos hw] at h1
    obtain ⟨v, h2, h3⟩ := h1
    refine ⟨v, fun x => ?_, h3⟩
    have h4 := h2 x
    rw [hs]
    unfold Oper.quietAt at h4
    generalize (execOp a.eval o).run P x.w = r at *
    cases r with
    | ok n w' =>
      cases n <;> simp only [Oper.quietUpon, flowUpon] at h4 ⊢ <;> first | exact ⟨trivial, h4⟩ | exact ⟨h4.2, h4.1⟩ | exact h4
    | halt z w' => simp only [Oper.quietUpon] at h4
  · rename_i hw
    rw [if_neg hw] at h1
    exact ⟨hs, h1⟩
/-- a store -/
theorem wpFlow_store {Q : Act → Prop} {k : Nat} {a : Act} {o : Oper} {rest : List Oper} (X : List Nat) (s : Sto) (hX : otherX md ops sts k = X) (hs : storeOf sts k = some s) (hg : o.guard = none)
    (h : ∀ x : AftX W X, ∃ w', (execOp a.eval o).run P x.w = .ok .skip w' ∧ Holds w' s.2.1 s.2.2.2 s.2.2.1 ∧ BelowX [s.2.1] x.w w')
    (hn : wpFlow P md ops W sts Q (k + 1) rest (a.put o.dst undef)) : wpFlow P md ops W sts Q k (o :: rest) a := by
  subst hX
  unfold wpFlow
  rw [if_pos (by simp [Region.wanted, hg])]
  refine ⟨undef, fun x => ?_, hn⟩
  obtain ⟨w', h1, h2, h3⟩ := h x
  rw [h1, hs]
  exact ⟨rfl, h2, h3⟩

def fOp (P : Program) (md : Region.Mode) (ops : Array Oper) (W : World) (sts : List Sto) (i : Nat) (K : Act → Prop) (a : Act) : Prop :=
  match ops[i]? with
  | none => K a
  | some o => if Region.wanted o (yielded ops a.tmps) then (∃ v, flowAt P o a W (otherX md ops sts i) (storeOf sts i) v ∧ K (a.put o.dst v)) else (storeOf sts i = none ∧ K (a.put o.dst undef))
theorem fOp_mono {i : Nat} {a : Act} {K K' : Act → Prop} (h : ∀ a, K a → K' a) (hh : fOp P md ops W sts i K a) : fOp P md ops W sts i K' a := by
  unfold fOp at *
  split
  · exact h _ (by simpa [*] using hh)
  · rename_i o ho
    simp only [ho] at hh
    split
    · rename_i hw
      simp only [hw, if_true] at hh
      obtain ⟨v, h1, h2⟩ := hh
      exact ⟨v, h1, h _ h2⟩
    · rename_i hw; simp only [hw] at hh; exact ⟨hh.1, h _ hh.2⟩
def YieldsF (P : Program) (md : Region.Mode) (ops : Array Oper) (W : World) (sts : List Sto) (i : Nat) (o : Oper) (v : Value) (a : Act) : Prop :=
  (Region.wanted o (yielded ops a.tmps) = true ∧ flowAt P o a W (otherX md ops sts i) (storeOf sts i) v) ∨ (Region.wanted o (yielded ops a.tmps) = false ∧ storeOf sts i = none ∧ v = undef)
theorem YieldsF.fOp {i : Nat} {o : Oper} {v : Value} {a : Act} (hi : ops[i]? = some o) (hy : YieldsF P md ops W sts i o v a) {K : Act → Prop} (h : K (a.put o.dst v)) : fOp P md ops W sts i K a := by
  unfold Go.Proofs.Ytdonpiihjoihcaa.fOp
  simp only [hi]
  rcases hy with ⟨hw, hv⟩ | ⟨hw, hs, rfl⟩
  · simp only [hw, if_true]; exact ⟨v, hv, h⟩
  · simp only [hw, Bool.false_eq_true, if_false]; exact ⟨hs, h⟩
theorem YieldsF.of_same {i : Nat} {o : Oper} {v : Value} {a a' : Act} (hy : YieldsF P md ops W sts i o v a) (he : execOp a'.eval o = execOp a.eval o)
    (hw : Region.wanted o (yielded ops a'.tmps) = Region.wanted o (yielded ops a.tmps)) : YieldsF P md ops W sts i o v a' := by
  unfold YieldsF flowAt at *
  rw [he, hw]
  exact hy
theorem yieldsF_of_fOp {i : Nat} {o : Oper} {a : Act} {K : Act → Prop} (hi : ops[i]? = some o) (h : fOp P md ops W sts i K a) : ∃ v, YieldsF P md ops W sts i o v a ∧ K (a.put o.dst v) := by
  unfold fOp at h
  simp only [hi] at h
  by_cases hw : Region.wanted o (yielded ops a.tmps) = true
  · simp only [hw, if_true] at h
    obtain ⟨v, h1, h2⟩ := h
    exact ⟨v, .inl ⟨hw, h1⟩, h2⟩
  · simp only [hw] at h
    exact ⟨undef, .inr ⟨by simpa using hw, h.1, rfl⟩, h.2⟩
theorem fOp_put {i j : Nat} {oi oj : Oper} {v : Value} (hj : ops[j]? = some oj) (hap : oi.apart ops oj = true)
    (hsi : ∀ cs b, oi.op ≠ .select cs b) (hsj : ∀ cs b, oj.op ≠ .select cs b) {K : Act → Prop} {a : Act}
    (hy : YieldsF P md ops W sts i oi v a) (h : fOp P md ops W sts j K (a.put oi.dst v)) :
    fOp P md ops W sts j (fun a' => YieldsF P md ops W sts i oi v a' ∧ K (a'.put oi.dst v)) a := by
  obtain ⟨h1, h2, h3⟩ := Oper.apart_spec hap
  have keep : ∀ (a : Act), YieldsF P md ops W sts i oi v a → ∀ u, YieldsF P md ops W sts i oi v (a.put oj.dst u) := fun a hy u =>
    hy.of_same (execOp_put oi hsi a oj.dst u h3) (wanted_put oi a oj.dst u h3)
  unfold fOp at *
  simp only [hj] at *
  rw [wanted_put oj a oi.dst v h1] at h
  split
  · rename_i hw
    simp only [hw, if_true] at h
    obtain ⟨u, hu, hn⟩ := h
    refine ⟨u, ?_, keep a hy u, by rw [← Act.put_comm a v u h2]; exact hn⟩
    unfold flowAt at *
    rwa [execOp_put oj hsj a oi.dst v h1] at hu
  · rename_i hw
    simp only [hw] at h
    exact ⟨h.1, keep a hy _, by rw [← Act.put_comm a v undef h2]; exact h.2⟩
def wpAnyF (P : Program) (md : Region.Mode) (ops : Array Oper) (W : World) (sts : List Sto) (L : Array Bool → Act → Prop) : Nat → Array Bool → Act → Prop
  | 0, listed, a => Region.ready md ops listed = [] ∧ L listed a
  | f + 1, listed, a => Region.ready md ops listed ≠ [] ∧ ∀ i ∈ Region.ready md ops listed, fOp P md ops W sts i (wpAnyF P md ops W sts L f (listed.setIfInBounds i true)) a
theorem wpAnyF_first {L : Array Bool → Act → Prop} {i : Nat} {oi : Oper} {v : Value} (hi : ops[i]? = some oi) (hsel : ∀ (j : Nat) (o : Oper) cs b, ops[j]? = some o → o.op ≠ .select cs b) :
    ∀ (fuel : Nat) (listed : Array Bool) (a : Act),
      (∀ j oj, ops[j]? = some oj → j ≠ i → listed.getD j true = false → (∀ e ∈ oj.after, Region.binds md e = true → e.on ≠ i) → oi.apart ops oj = true) →
      i ∈ Region.ready md ops listed → YieldsF P md ops W sts i oi v a →
      wpAnyF P md ops W sts L fuel (listed.setIfInBounds i true) (a.put oi.dst v) → wpAnyF P md ops W sts L (fuel + 1) listed a := by
  intro fuel
  induction fuel with
  | zero =>
    intro listed a _ hr hy H
    refine ⟨fun h => (by rw [h] at hr; cases hr), fun j hj => ?_⟩
    by_cases hji : j = i
    · subst hji; exact hy.fOp hi H
    · have := ready_mono hj hji
      rw [H.1] at this
      cases this
  | succ fuel ih =>
    intro listed a hfree hr hy H
    refine ⟨fun h => (by rw [h] at hr; cases hr), fun j hj => ?_⟩
    by_cases hji : j = i
    · subst hji; exact hy.fOp hi H
    · have h1 := H.2 j (ready_mono hj hji)
      obtain ⟨hjun, oj, hoj, hall⟩ := mem_ready.1 hj
      have hnot : ∀ e ∈ oj.after, Region.binds md e = true → e.on ≠ i := fun e he hb heq => by
        have h1 := hall e he hb
        rw [heq, getD_both (mem_ready.1 hr).1] at h1
        cases h1
      have h2 := fOp_put hoj (hfree j oj hoj hji hjun hnot) (fun cs b => hsel i oi cs b hi) (fun cs b => hsel j oj cs b hoj) hy h1
      have hfree' : ∀ k ok, ops[k]? = some ok → k ≠ i → (listed.setIfInBounds j true).getD k true = false →
          (∀ e ∈ ok.after, Region.binds md e = true → e.on ≠ i) → oi.apart ops ok = true := fun k ok hk hki hun hno => by
        refine hfree k ok hk hki ?_ hno
        by_cases hjk : j = k
        · subst hjk; exact hjun
        · rw [getD_set_ne true hjk] at hun; exact hun
      refine fOp_mono (fun a' h3 => ih (listed.setIfInBounds j true) a' hfree' (ready_mono hr (Ne.symm hji)) h3.1 ?_) h2
      rw [Array.setIfInBounds_comm _ _ hji]
      exact h3.2
/-- all in the order of the text; at the end nothing is left, and all stores have been made -/
def flowB (md : Region.Mode) (ops : Array Oper) (js : List Nat) : Nat → Nat → Array Bool → Bool
  | 0, _, listed => (Region.ready md ops listed).isEmpty && js.all fun j => listed.getD j false
  | g + 1, k, listed => (Region.ready md ops listed).contains k && Region.free md ops listed k && flowB md ops js g (k + 1) (listed.setIfInBounds k true)
theorem wpAnyF_lex {Lq : Act → Prop} (hsel : Region.noSelect ops = true) :
    ∀ (l : List Oper) (k : Nat) (listed : Array Bool) (a : Act), (∀ j : Nat, l[j]? = ops[k + j]?) → flowB md ops (sts.map (·.1)) l.length k listed = true → wpFlow P md ops W sts Lq k l a →
    wpAnyF P md ops W sts (fun listed' a' => (∀ s ∈ sts, listed'.getD s.1 false = true) ∧ Lq a') l.length listed a
  | [], k, listed, a, _, hB, h => by
    simp only [List.length_nil, flowB, Bool.and_eq_true, List.isEmpty_iff] at hB
    exact ⟨hB.1, fun s hs => List.all_eq_true.1 hB.2 s.1 (List.mem_map_of_mem hs), h⟩
  | o :: l, k, listed, a, hl, hB, h => by
    have h0 : ops[k]? = some o := by simpa using (hl 0).symm
    simp only [List.length_cons, flowB, Bool.and_eq_true] at hB
    obtain ⟨⟨hr, hf⟩, hB'⟩ := hB
    have hst : fOp P md ops W sts k (wpFlow P md ops W sts Lq (k + 1) l) a := by unfold fOp; simp only [h0]; exact h
    obtain ⟨v, hy, hK⟩ := yieldsF_of_fOp h0 hst
    exact wpAnyF_first h0 (Region.noSelect_spec hsel) l.length listed a (Region.free_spec h0 hf) (by simpa using hr) hy
      (wpAnyF_lex hsel l (k + 1) _ _ (fun j => by have := hl (j + 1); simpa [Nat.add_assoc, Nat.add_comm 1 j] using this) hB' hK)
/-- the memory along an order -/
structure FlowInv (md : Region.Mode) (ops : Array Oper) (W : World) (sts : List Sto) (listed : Array Bool) (w : World) : Prop where
  closed : ∀ j oj, ops[j]? = some oj → listed.getD j false = true → ∀ e ∈ oj.after, Region.binds md e = true → listed.getD e.on false = true
  below : BelowX ((sts.filter fun s => listed.getD s.1 false).map fun s => s.2.1) W w
  held : ∀ s ∈ sts, listed.getD s.1 false = true → Holds w s.2.1 s.2.2.2 s.2.2.1
theorem closed_set {listed : Array Bool} {i : Nat} (hc : ∀ j oj, ops[j]? = some oj → listed.getD j false = true → ∀ e ∈ oj.after, Region.binds md e = true → listed.getD e.on false = true) (hi : i ∈ Region.ready md ops listed) :
    ∀ j oj, ops[j]? = some oj → (listed.setIfInBounds i true).getD j false = true → ∀ e ∈ oj.after, Region.binds md e = true → (listed.setIfInBounds i true).getD e.on false = true := by
  obtain ⟨_, oi, hoi, hall⟩ := mem_ready.1 hi
  intro j oj hj hl e he hb
  by_cases hij : i = j
  · subst hij
    have : oj = oi := Option.some.inj (hj.symm.trans hoi)
    subst this
    exact getD_set_true (hall e he hb)
  · rw [getD_set_ne false hij] at hl
    exact getD_set_true (hc j oj hj hl e he hb)
theorem getD_set_self {listed : Array Bool} {i : Nat} (h : listed.getD i true = false) : (listed.setIfInBounds i true).getD i false = true := by
  have : i < listed.size := by
    refine Nat.lt_of_not_le fun hge => ?_
    simp [Array.getElem?_eq_none hge] at h
  simp [this]
theorem wpAny_of_flow {Lq : Act → Prop} {Q' : Exit → Act → World → Prop} (hinW : ∀ s ∈ sts, s.2.1 < W.heap.size) (hone : ∀ s ∈ sts, ∀ t ∈ sts, s.1 ≠ t.1 → s.2.1 ≠ t.2.1) (hfun : ∀ s ∈ sts, ∀ t ∈ sts, s.1 = t.1 → s = t)
    (hQ : ∀ a w, BelowX (sts.map fun s => s.2.1) W w → (∀ s ∈ sts, Holds w s.2.1 s.2.2.2 s.2.2.1) → Lq a → Q' .normal a w) :
    ∀ (fuel : Nat) (listed : Array Bool) (a : Act) (w : World), FlowInv md ops W sts listed w →
      wpAnyF P md ops W sts (fun listed' a' => (∀ s ∈ sts, listed'.getD s.1 false = true) ∧ Lq a') fuel listed a → wpAny P md ops Q' fuel listed a w := by
  intro fuel
  induction fuel with
  | zero =>
    intro listed a w inv h
    refine ⟨h.1, hQ a w (inv.below.mono fun k hk => ?_) (fun s hs => inv.held s hs (h.2.1 s hs)) h.2.2⟩
    obtain ⟨s, hs, rfl⟩ := List.mem_map.1 hk
    exact List.mem_map_of_mem (List.mem_filter.1 hs).1
  | succ fuel ih =>
    intro listed a w inv h
    refine ⟨fun h0 => absurd h0 h.1, fun i hi => ?_⟩
    have hf := h.2 i hi
    obtain ⟨hun, oi, hoi, hall⟩ := mem_ready.1 hi
    have hx : BelowX (otherX md ops sts i) W w := inv.below.mono fun k hk => by
      obtain ⟨s, hs, rfl⟩ := List.mem_map.1 hk
      obtain ⟨hs1, hs2⟩ := List.mem_filter.1 hs
      refine List.mem_map_of_mem (List.mem_filter.2 ⟨hs1, ?_⟩)
      simp only [Bool.and_eq_true, bne_iff_ne, ne_eq, Bool.not_eq_true']
      refine ⟨fun e => ?_, ?_⟩
      · rw [e, getD_both hun] at hs2; cases hs2
      · cases hwt : Region.waitsFor md ops s.1 i with
        | false => rfl
        | true =>
          obtain ⟨os, hos, e, he, hb, hon⟩ := Region.waitsFor_spec hwt
          have h5 := inv.closed s.1 os hos hs2 e he hb
          rw [hon, getD_both hun] at h5; cases h5
    -- behind an operation that stores nothing
    have plain : storeOf sts i = none → ∀ w', Below w.heap.size w w' → FlowInv md ops W sts (listed.setIfInBounds i true) w' := by
      intro hs w' hb
      have hne : ∀ s ∈ sts, s.1 ≠ i := fun s hs1 e => by
        have := List.find?_eq_none.1 hs s hs1
        simp [e] at this
      refine ⟨closed_set inv.closed hi, (inv.below.step hb).mono fun k hk => ?_, fun s hs1 hl => ?_⟩
      · obtain ⟨s, hs2, rfl⟩ := List.mem_map.1 hk
        obtain ⟨hs3, hs4⟩ := List.mem_filter.1 hs2
        exact List.mem_map_of_mem (List.mem_filter.2 ⟨hs3, getD_set_true hs4⟩)
      · rw [getD_set_ne false (fun e => hne s hs1 e.symm)] at hl
        exact (inv.held s hs1 hl).below hb
    unfold fOp at hf
    unfold wpOp
    simp only [hoi] at hf ⊢
    split
    · rename_i hw
      simp only [hw, if_true] at hf
      obtain ⟨v, h1, h2⟩ := hf
      have h3 := h1 ⟨w, hx⟩
      left
      unfold Oper.wp
      have e0 : AftX.w (⟨w, hx⟩ : AftX W (otherX md ops sts i)) = w := rfl
      rw [e0] at h3
      generalize (execOp a.eval oi).run P w = r at *
      cases r with
      | ok n w' =>
        cases n <;> simp only [flowUpon] at h3 <;> simp only [Oper.upon]
        case value u =>
          obtain ⟨hs, e1, e2⟩ := h3
          subst e1 e2
          exact ih _ _ _ (plain hs _ (Below.refl _ _)) h2
        case skip =>
          obtain ⟨e1, h4⟩ := h3
          subst e1
          cases hs : storeOf sts i with
          | none =>
            rw [hs] at h4
            simp only at h4
            subst h4
            exact ih _ _ _ (plain hs _ (Below.refl _ _)) h2
          | some s =>
            rw [hs] at h4
            obtain ⟨h5, h6⟩ := h4
            have hsi : s.1 = i := by have := List.find?_some hs; simpa using this
            have hsm : s ∈ sts := List.mem_of_find?_eq_some hs
            refine ih _ _ _ ⟨closed_set inv.closed hi, (inv.below.store h6).mono fun k hk => ?_, fun t ht hl => ?_⟩ h2
            · rcases List.mem_cons.1 hk with rfl | hk
              · exact List.mem_map_of_mem (List.mem_filter.2 ⟨hsm, by rw [hsi]; exact getD_set_self hun⟩)
              · obtain ⟨t, ht, rfl⟩ := List.mem_map.1 hk
                obtain ⟨ht1, ht2⟩ := List.mem_filter.1 ht
                exact List.mem_map_of_mem (List.mem_filter.2 ⟨ht1, getD_set_true ht2⟩)
            · by_cases hts : t.1 = s.1
              · rw [hfun t ht s hsm hts]; exact h5
              · rw [getD_set_ne false (fun e => hts (by rw [← e, hsi]))] at hl
                exact (inv.held t ht hl).belowX h6 (by simpa using hone t ht s hsm hts)
        case enter f args =>
          obtain ⟨hs, e1, hc⟩ := h3
          subst e1
          exact hc.mono fun e w'' ⟨he, hw''⟩ => by subst he; exact ih _ _ _ (plain hs _ hw'') h2
      | halt z w' => simp only [flowUpon] at h3
    · rename_i hw
      simp only [hw] at hf
      exact ih _ _ _ (plain hf.1 _ (Below.refl _ _)) hf.2
theorem region_flow {id : Nat} {Q : Exit → Act → World → Prop} {a : Act} {l : List Oper} (sts : List Sto) (js : List Nat) (hm : P.follows .mixedOrders = true) (hB : (Region.noSelect l.toArray && flowB .any l.toArray js l.length 0 (Array.replicate l.toArray.size false)) = true) (hjs : sts.map (·.1) = js)
    (hinW : ∀ s ∈ sts, s.2.1 < W.heap.size) (hone : ∀ s ∈ sts, ∀ t ∈ sts, s.1 ≠ t.1 → s.2.1 ≠ t.2.1) (hfun : ∀ s ∈ sts, ∀ t ∈ sts, s.1 = t.1 → s = t)
    (h : wpFlow P .any l.toArray W sts (fun a' => ∀ w', BelowX (sts.map fun s => s.2.1) W w' → (∀ s ∈ sts, Holds w' s.2.1 s.2.2.2 s.2.2.1) → Q .normal a' w') 0 l a) : (Code.region id l.toArray true).wp P Q a W := by
  simp only [Bool.and_eq_true] at hB
  refine wp_region_any hm ?_
  have H := wpAnyF_lex (P := P) (md := .any) (W := W) (sts := sts) (ops := l.toArray) hB.1 l 0 (Array.replicate l.toArray.size false) a (fun j => by simp) (by rw [hjs]; exact hB.2) h
  refine wpAny_of_flow (md := .any) (Lq := fun a' => ∀ w', BelowX (sts.map fun s => s.2.1) W w' → (∀ s ∈ sts, Holds w' s.2.1 s.2.2.2 s.2.2.1) → Q .normal a' w') hinW hone hfun (fun a w h1 h2 h3 => h3 w h1 h2) _ _ _ _ ?_ (by simpa using H)
  refine ⟨fun j oj _ hl => (by rw [getD_replicate_false] at hl; cases hl), ?_, fun s _ hl => (by rw [getD_replicate_false] at hl; cases hl)⟩
  exact ⟨rfl, rfl, rfl, Nat.le_refl _, fun _ _ _ => rfl⟩
/-- two stores -/
theorem region_flow2 {id : Nat} {Q : Exit → Act → World → Prop} {a : Act} {l : List Oper} (i1 b1 : Nat) (t1 : TypeId) (c1 : Array Value) (i2 b2 : Nat) (t2 : TypeId) (c2 : Array Value) (hm : P.follows .mixedOrders = true)
    (hB : (Region.noSelect l.toArray && flowB .any l.toArray [i1, i2] l.length 0 (Array.replicate l.toArray.size false)) = true) (h1 : b1 < W.heap.size) (h2 : b2 < W.heap.size) (hne : b1 ≠ b2) (hni : i1 ≠ i2)
    (h : wpFlow P .any l.toArray W [(i1, b1, t1, c1), (i2, b2, t2, c2)] (fun a' => ∀ w', BelowX [b1, b2] W w' → Holds w' b1 c1 t1 → Holds w' b2 c2 t2 → Q .normal a' w') 0 l a) : (Code.region id l.toArray true).wp P Q a W := by
  refine region_flow [(i1, b1, t1, c1), (i2, b2, t2, c2)] [i1, i2] hm hB rfl ?_ ?_ ?_ ?_
  · intro s hs
    simp only [List.mem_cons, List.not_mem_nil, or_false] at hs
    rcases hs with rfl | rfl
    · exact h1
    · exact h2
  · intro s hs t ht hst
    simp only [List.mem_cons, List.not_mem_nil, or_false] at hs ht
    rcases hs with rfl | rfl <;> rcases ht with rfl | rfl
    · exact absurd rfl hst
    · exact hne
    · exact hne.symm
    · exact absurd rfl hst
  · intro s hs t ht hst
    simp only [List.mem_cons, List.not_mem_nil, or_false] at hs ht
    rcases hs with rfl | rfl <;> rcases ht with rfl | rfl
    · rfl
    · exact absurd hst hni
    · exact absurd hst.symm hni
    · rfl
  · have key : ∀ (k : Nat) (m : List Oper) (a : Act), wpFlow P .any l.toArray W [(i1, b1, t1, c1), (i2, b2, t2, c2)] (fun a' => ∀ w', BelowX [b1, b2] W w' → Holds w' b1 c1 t1 → Holds w' b2 c2 t2 → Q .normal a' w') k m a →
        wpFlow P .any l.toArray W [(i1, b1, t1, c1), (i2, b2, t2, c2)] (fun a' => ∀ w', BelowX (List.map (fun s => s.2.1) [(i1, b1, t1, c1), (i2, b2, t2, c2)]) W w' → (∀ s ∈ [(i1, b1, t1, c1), (i2, b2, t2, c2)], Holds w' s.2.1 s.2.2.2 s.2.2.1) → Q .normal a' w') k m a := by
      intro k m
      induction m generalizing k with
      | nil => intro a h w' hb hs; exact h w' hb (hs _ (List.mem_cons_self ..)) (hs (i2, b2, t2, c2) (by simp))
      | cons o rest ih =>
        intro a h
        unfold wpFlow at h ⊢
        split
        · rename_i hw
          rw [if_pos hw] at h
          obtain ⟨v, h3, h4⟩ := h
          exact ⟨v, h3, ih _ _ h4⟩
        · rename_i hw
          rw [if_neg hw] at h
          exact ⟨h.1, ih _ _ h.2⟩
    exact key _ _ _ h
theorem BelowX.run3 {w : World} {b : Nat} {p q r : Value} : BelowX [b] w (((w.setCell ⟨b, 0, none⟩ p).setCell ⟨b, 1, none⟩ q).setCell ⟨b, 2, none⟩ r) := (((BelowX.refl [b] w).set).set).set
theorem BelowX.run4 {w : World} {b : Nat} {p q r s : Value} : BelowX [b] w ((((w.setCell ⟨b, 0, none⟩ p).setCell ⟨b, 1, none⟩ q).setCell ⟨b, 2, none⟩ r).setCell ⟨b, 3, none⟩ s) := ((((BelowX.refl [b] w).set).set).set).set
theorem BelowX.run2 {w : World} {b : Nat} {p q : Value} : BelowX [b] w ((w.setCell ⟨b, 0, none⟩ p).setCell ⟨b, 1, none⟩ q) := ((BelowX.refl [b] w).set).set
end
end Go.Proofs.Ytdonpiihjoihcaa
