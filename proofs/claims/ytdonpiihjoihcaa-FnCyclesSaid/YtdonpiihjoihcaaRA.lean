/- Regions that draw their order and hold one new variable beside reads and calls: one walk in the order of the text serves every order, whatever block the variable gets. No condition. -/
import Derived.Test.YtdonpiihjoihcaaRQ
namespace Go.Proofs.Ytdonpiihjoihcaa
open Go.RowKit
set_option linter.unusedVariables false

section
variable {P : Program} {ops : Array Oper} {md : Region.Mode} {W : World}

/-- one value in every world behind W; a call keeps what is there when it begins -/
def mildAt (P : Program) (o : Oper) (a : Act) (W : World) (v : Value) : Prop := ∀ x : Aft W, o.quietAt P a (fun w'' => Below x.w.heap.size x.w w'') x.w v
def mild (P : Program) (o : Oper) (a : Act) (W : World) (next : Act → Prop) : Prop := ∃ v, mildAt P o a W v ∧ next (a.put o.dst v)
def wpMild (P : Program) (ops : Array Oper) (W : World) (Q : Act → Prop) : List Oper → Act → Prop
  | [], a => Q a
  | o :: rest, a => if Region.wanted o (yielded ops a.tmps) then mild P o a W (wpMild P ops W Q rest) else wpMild P ops W Q rest (a.put o.dst undef)
theorem wpMild_nil {Q : Act → Prop} {a : Act} (h : Q a) : wpMild P ops W Q [] a := h
theorem wpMild_step {Q : Act → Prop} {a : Act} {o : Oper} {rest : List Oper}
    (h : ∀ K : Act → Prop, (∀ a, wpMild P ops W Q rest a → K a) → if Region.wanted o (yielded ops a.tmps) = true then (∃ v, (∀ x : Aft W, o.quietAt P a (fun w'' => Below x.w.heap.size x.w w'') x.w v) ∧ K (a.put o.dst v)) else K (a.put o.dst undef)) : wpMild P ops W Q (o :: rest) a :=
  h _ (fun _ h => h)
def mOp (P : Program) (ops : Array Oper) (W : World) (i : Nat) (K : Act → Prop) (a : Act) : Prop :=
  match ops[i]? with
  | none => K a
  | some o => if Region.wanted o (yielded ops a.tmps) then mild P o a W K else K (a.put o.dst undef)
theorem mild_mono {o : Oper} {a : Act} {K K' : Act → Prop} (h : ∀ a, K a → K' a) (hh : mild P o a W K) : mild P o a W K' :=
  let ⟨v, h1, h2⟩ := hh
  ⟨v, h1, h _ h2⟩
theorem mOp_mono {i : Nat} {a : Act} {K K' : Act → Prop} (h : ∀ a, K a → K' a) (hh : mOp P ops W i K a) : mOp P ops W i K' a := by
  unfold mOp at *
  split
  · exact h _ (by simpa [*] using hh)
  · rename_i o ho
    simp only [ho] at hh
    split
    · rename_i hw; simp only [hw, if_true] at hh; exact mild_mono h hh
    · rename_i hw; simp only [hw] at hh; exact h _ hh
theorem wpOp_of_mOp {i : Nat} {a : Act} {K : Act → Prop} {K' : Act → World → Prop} {Q' : Exit → Act → World → Prop} (x : Aft W) (h : ∀ a w', Below x.w.heap.size x.w w' → K a → K' a w') (hh : mOp P ops W i K a) : wpOp P ops Q' i K' a x.w := by
  unfold mOp at hh
  unfold wpOp
  split
  · rename_i ho; simp only [ho] at hh; exact h _ _ (Below.refl _ _) hh
  · rename_i o ho
    simp only [ho] at hh
    split
    · rename_i hw
      simp only [hw, if_true] at hh
      left
      obtain ⟨v, h1, h2⟩ := hh
      have h3 := h1 x
      unfold Oper.quietAt at h3
      unfold Oper.wp
      generalize (execOp a.eval o).run P x.w = r at *
      cases r with
      | ok n w' =>
        cases n <;> simp only [Oper.quietUpon] at h3 <;> simp only [Oper.upon]
        case value u =>
          obtain ⟨e1, e2⟩ := h3
          rw [e1, e2]
          exact h _ _ (Below.refl _ _) h2
        case skip =>
          obtain ⟨e1, e2⟩ := h3
          rw [e1, ← e2]
          exact h _ _ (Below.refl _ _) h2
        case enter f args =>
          obtain ⟨e1, hc⟩ := h3
          rw [e1]
          exact hc.mono fun e w'' ⟨he, hw''⟩ => by subst he; exact h _ _ hw'' h2
      | halt z w' => simp only [Oper.quietUpon] at h3
    · rename_i hw; simp only [hw] at hh; exact h _ _ (Below.refl _ _) hh
def YieldsM (P : Program) (ops : Array Oper) (W : World) (o : Oper) (v : Value) (a : Act) : Prop :=
  (Region.wanted o (yielded ops a.tmps) = true ∧ mildAt P o a W v) ∨ (Region.wanted o (yielded ops a.tmps) = false ∧ v = undef)
theorem YieldsM.mOp {i : Nat} {o : Oper} {v : Value} {a : Act} (hi : ops[i]? = some o) (hy : YieldsM P ops W o v a) {K : Act → Prop} (h : K (a.put o.dst v)) : mOp P ops W i K a := by
  unfold Go.Proofs.Ytdonpiihjoihcaa.mOp
  simp only [hi]
  rcases hy with ⟨hw, hv⟩ | ⟨hw, rfl⟩
  · simp only [hw, if_true]; exact ⟨v, hv, h⟩
  · simp only [hw, Bool.false_eq_true, if_false]; exact h
theorem YieldsM.of_same {o : Oper} {v : Value} {a a' : Act} (hy : YieldsM P ops W o v a) (he : execOp a'.eval o = execOp a.eval o)
    (hw : Region.wanted o (yielded ops a'.tmps) = Region.wanted o (yielded ops a.tmps)) : YieldsM P ops W o v a' := by
  unfold YieldsM mildAt Oper.quietAt at *
  rw [he, hw]
  exact hy
theorem yieldsM_of_mOp {i : Nat} {o : Oper} {a : Act} {K : Act → Prop} (hi : ops[i]? = some o) (h : mOp P ops W i K a) : ∃ v, YieldsM P ops W o v a ∧ K (a.put o.dst v) := by
  unfold mOp at h
  simp only [hi] at h
  by_cases hw : Region.wanted o (yielded ops a.tmps) = true
  · simp only [hw, if_true] at h
    obtain ⟨v, h1, h2⟩ := h
    exact ⟨v, .inl ⟨hw, h1⟩, h2⟩
  · simp only [hw] at h
    exact ⟨undef, .inr ⟨by simpa using hw, rfl⟩, h⟩
theorem mOp_put {j : Nat} {oi oj : Oper} {v : Value} (hj : ops[j]? = some oj) (hap : oi.apart ops oj = true)
    (hsi : ∀ cs b, oi.op ≠ .select cs b) (hsj : ∀ cs b, oj.op ≠ .select cs b) {K : Act → Prop} {a : Act}
    (hy : YieldsM P ops W oi v a) (h : mOp P ops W j K (a.put oi.dst v)) :
    mOp P ops W j (fun a' => YieldsM P ops W oi v a' ∧ K (a'.put oi.dst v)) a := by
  obtain ⟨h1, h2, h3⟩ := Oper.apart_spec hap
  have keep : ∀ (a : Act), YieldsM P ops W oi v a → ∀ u, YieldsM P ops W oi v (a.put oj.dst u) := fun a hy u =>
    hy.of_same (execOp_put oi hsi a oj.dst u h3) (wanted_put oi a oj.dst u h3)
  unfold mOp at *
  simp only [hj] at *
  rw [wanted_put oj a oi.dst v h1] at h
  split
  · rename_i hw
    simp only [hw, if_true] at h
    obtain ⟨u, hu, hn⟩ := h
    refine ⟨u, fun x => ?_, keep a hy u, by rw [← Act.put_comm a v u h2]; exact hn⟩
    have := hu x
    unfold Oper.quietAt at *
    rwa [execOp_put oj hsj a oi.dst v h1] at this
  · rename_i hw
    simp only [hw] at h
    exact ⟨keep a hy _, by rw [← Act.put_comm a v undef h2]; exact h⟩
/-- the other way: a slot that operation number i does not touch is written -/
theorem mOp_over {i : Nat} {oi oj : Oper} {u : Value} (hi : ops[i]? = some oi) (hap : oj.apart ops oi = true) (hsi : ∀ cs b, oi.op ≠ .select cs b) {K : Act → Prop} {a : Act}
    (h : mOp P ops W i K a) : mOp P ops W i (fun a' => ∃ a0, a' = a0.put oj.dst u ∧ K a0) (a.put oj.dst u) := by
  obtain ⟨h1, h2, h3⟩ := Oper.apart_spec hap
  unfold mOp at *
  simp only [hi] at *
  rw [wanted_put oi a oj.dst u h1]
  split
  · rename_i hw
    simp only [hw, if_true] at h
    obtain ⟨v, hv, hn⟩ := h
    refine ⟨v, fun x => ?_, _, Act.put_comm a u v h2, hn⟩
    have := hv x
    unfold Oper.quietAt at *
    rwa [execOp_put oi hsi a oj.dst u h1]
  · rename_i hw
    simp only [hw] at h
    exact ⟨_, Act.put_comm a u undef h2, h⟩

def wpAnyM (P : Program) (md : Region.Mode) (ops : Array Oper) (W : World) (n : Nat) (L : Array Bool → Act → Prop) : Nat → Array Bool → Act → Prop
  | 0, listed, a => L listed a
  | f + 1, listed, a =>
    Region.ready md ops listed ≠ [] ∧ ∀ i ∈ Region.ready md ops listed, i < n ∧ mOp P ops W i (wpAnyM P md ops W n L f (listed.setIfInBounds i true)) a
theorem wpAnyM_first {n i : Nat} {oi : Oper} {v : Value} {L : Array Bool → Act → Prop} (hi : ops[i]? = some oi) (hsel : ∀ (j : Nat) (o : Oper) cs b, ops[j]? = some o → o.op ≠ .select cs b)
    (hs : Region.sinkB md ops n = true) (hc : Region.chainB md ops n = true) (hn : n < ops.size) (hin : i < n)
    (hdone : ∀ listed a, L listed a → ∀ j ∈ Region.ready md ops listed, n ≤ j) :
    ∀ (f : Nat) (listed : Array Bool) (a : Act), HeadInv md ops n listed →
      (∀ j oj, ops[j]? = some oj → j ≠ i → listed.getD j true = false → (∀ e ∈ oj.after, Region.binds md e = true → e.on ≠ i) → oi.apart ops oj = true) →
      i ∈ Region.ready md ops listed → YieldsM P ops W oi v a →
      wpAnyM P md ops W n L f (listed.setIfInBounds i true) (a.put oi.dst v) → wpAnyM P md ops W n L (f + 1) listed a := by
  intro f
  induction f with
  | zero =>
    intro listed a inv _ hr hy H
    have hun := (mem_ready.1 hr).1
    refine ⟨fun h => (by rw [h] at hr; cases hr), fun j hj => ?_⟩
    have hjn : j < n := by
      rcases Nat.lt_or_ge j n with h | h
      · exact h
      · exact absurd hj (tail_waits hs hc hn inv _ i rfl hin hun j h)
    refine ⟨hjn, ?_⟩
    by_cases hji : j = i
    · subst hji; exact hy.mOp hi H
    · have := hdone _ _ H j (ready_mono hj hji)
      omega
  | succ f ih =>
    intro listed a inv hfree hr hy H
    have hun := (mem_ready.1 hr).1
    refine ⟨fun h => (by rw [h] at hr; cases hr), fun j hj => ?_⟩
    have hjn : j < n := by
      rcases Nat.lt_or_ge j n with h | h
      · exact h
      · exact absurd hj (tail_waits hs hc hn inv _ i rfl hin hun j h)
    refine ⟨hjn, ?_⟩
    by_cases hji : j = i
    · subst hji; exact hy.mOp hi H
    · have h1 := (H.2 j (ready_mono hj hji)).2
      obtain ⟨hjun, oj, hoj, hall⟩ := mem_ready.1 hj
      have hnot : ∀ e ∈ oj.after, Region.binds md e = true → e.on ≠ i := fun e he hb heq => by
        have h1 := hall e he hb
        rw [heq, getD_both hun] at h1
        cases h1
      have h2 := mOp_put hoj (hfree j oj hoj hji hjun hnot) (fun cs b => hsel i oi cs b hi) (fun cs b => hsel j oj cs b hoj) hy h1
      have hfree' : ∀ k ok, ops[k]? = some ok → k ≠ i → (listed.setIfInBounds j true).getD k true = false →
          (∀ e ∈ ok.after, Region.binds md e = true → e.on ≠ i) → oi.apart ops ok = true := fun k ok hk hki hun hno => by
        refine hfree k ok hk hki ?_ hno
        by_cases hjk : j = k
        · subst hjk; exact hjun
        · rw [getD_set_ne true hjk] at hun; exact hun
      refine mOp_mono (fun a' h3 => ih (listed.setIfInBounds j true) a' (inv.set hj hjn) hfree' (ready_mono hr (Ne.symm hji)) h3.1 ?_) h2
      rw [Array.setIfInBounds_comm _ _ hji]
      exact h3.2
/-- the head in the order of the text, then the tail from n on in one order -/
def lexHeadA (md : Region.Mode) (ops : Array Oper) (g n : Nat) : Nat → Nat → Array Bool → Bool
  | 0, _, listed => Region.seqB md ops g n listed
  | f + 1, k, listed => (Region.ready md ops listed).contains k && Region.free md ops listed k && lexHeadA md ops g n f (k + 1) (listed.setIfInBounds k true)
theorem wpAnyM_lex {n g : Nat} {Lq : Act → Prop} (hsel : Region.noSelect ops = true) (hs : Region.sinkB md ops n = true) (hc : Region.chainB md ops n = true) (hn : n < ops.size) :
    ∀ (l : List Oper) (k : Nat) (listed : Array Bool) (a : Act), (∀ j, j < l.length → l[j]? = ops[k + j]?) → k + l.length ≤ n → HeadInv md ops n listed →
    lexHeadA md ops g n l.length k listed = true → wpMild P ops W Lq l a →
    wpAnyM P md ops W n (fun listed' a' => Region.seqB md ops g n listed' = true ∧ Lq a') l.length listed a
  | [], k, listed, a, _, hk, _, hB, h => ⟨by simpa [lexHeadA] using hB, h⟩
  | o :: l, k, listed, a, hl, hk, inv, hB, h => by
    have h0 : ops[k]? = some o := by simpa using (hl 0 (by simp)).symm
    simp only [List.length_cons, lexHeadA, Bool.and_eq_true] at hB
    obtain ⟨⟨hr, hf⟩, hB'⟩ := hB
    have hkn : k < n := by simp only [List.length_cons] at hk; omega
    have hr' : k ∈ Region.ready md ops listed := by simpa using hr
    have hst : mOp P ops W k (wpMild P ops W Lq l) a := by unfold mOp; simp only [h0]; exact h
    obtain ⟨v, hy, hK⟩ := yieldsM_of_mOp h0 hst
    exact wpAnyM_first h0 (Region.noSelect_spec hsel) hs hc hn hkn (fun listed' a' hL => seqB_ready hL.1) l.length listed a inv (Region.free_spec h0 hf) hr' hy
      (wpAnyM_lex hsel hs hc hn l (k + 1) _ _ (fun j hj => by have := hl (j + 1) (by simp; omega); simpa [Nat.add_assoc, Nat.add_comm 1 j] using this) (by simp only [List.length_cons] at hk; omega) (inv.set hr' hkn) hB' hK)

/-- a slot that the head does not touch is written in between -/
theorem wpAnyM_over {n j : Nat} {oj : Oper} {u : Value} {L : Array Bool → Act → Prop} (hsel : ∀ (j : Nat) (o : Oper) cs b, ops[j]? = some o → o.op ≠ .select cs b)
    (hap : ∀ i oi, i < n → i ≠ j → ops[i]? = some oi → oj.apart ops oi = true) :
    ∀ (f : Nat) (listed : Array Bool) (a : Act), listed.getD j false = true → wpAnyM P md ops W n L f listed a →
      wpAnyM P md ops W n (fun listed' a' => ∃ a0, a' = a0.put oj.dst u ∧ L listed' a0) f listed (a.put oj.dst u)
  | 0, listed, a, _, h => ⟨a, rfl, h⟩
  | f + 1, listed, a, hl, h => by
    refine ⟨h.1, fun i hi => ⟨(h.2 i hi).1, ?_⟩⟩
    obtain ⟨hun, oi, hoi, _⟩ := mem_ready.1 hi
    have hij : i ≠ j := fun e => by rw [e] at hun; rw [getD_both hun] at hl; cases hl
    refine mOp_mono (fun a' h' => ?_) (mOp_over (u := u) hoi (hap i oi (h.2 i hi).1 hij hoi) (fun cs b => hsel i oi cs b hoi) (h.2 i hi).2)
    obtain ⟨a0, e, h0⟩ := h'
    subst e
    exact wpAnyM_over hsel hap f _ a0 (getD_set_true hl) h0
theorem wpAny_of_headM {n g : Nat} {L : Array Bool → Act → Prop} {Q' : Exit → Act → World → Prop} {W1 : World} (h1 : Below W.heap.size W W1)
    (hL : ∀ listed a w, Below W1.heap.size W1 w → L listed a → wpAny P md ops Q' g listed a w) :
    ∀ (f : Nat) (listed : Array Bool) (a : Act) (w : World), Below W1.heap.size W1 w → wpAnyM P md ops W n L f listed a → wpAny P md ops Q' (f + g) listed a w
  | 0, listed, a, w, hw, h => by rw [Nat.zero_add]; exact hL _ _ _ hw h
  | f + 1, listed, a, w, hw, h => by
    rw [show f + 1 + g = (f + g) + 1 by omega]
    refine ⟨fun h0 => absurd h0 h.1, fun i hi => ?_⟩
    have hx : Below W.heap.size W w := h1.trans (hw.mono h1.size)
    exact wpOp_of_mOp (⟨w, hx⟩ : Aft W) (fun a' w' hw' h' => wpAny_of_headM h1 hL f _ a' w' (hw.trans (Below.mono hw' hw.size)) h') (h.2 i hi).2
/-- where the new variable is made -/
theorem wpAny_alloc {j g : Nat} {oj : Oper} {ty : TypeId} {z : Array Value} {Lq : Act → Prop} {Q' : Exit → Act → World → Prop} (hoj : ops[j]? = some oj) (hgd : oj.guard = none) (haf : oj.after = #[])
    (hal : ∀ (a : Act) (w : World), (execOp a.eval oj).run P w = .ok (.value (.pointer (some ⟨w.heap.size, 0, none⟩))) (w.alloc (.cells z ty)))
    (hsel : ∀ (j : Nat) (o : Oper) cs b, ops[j]? = some o → o.op ≠ .select cs b)
    (hap : ∀ i oi, i < j + 1 → i ≠ j → ops[i]? = some oi → oj.apart ops oi = true) (hwait : Region.waitsFor md ops (j + 1) j = true)
    (hL : ∀ (k : Nat) listed a w, W.heap.size ≤ k → k < w.heap.size → w.heap[k]? = some (.cells z ty (0, 0)) → Below W.heap.size W w → Region.seqB md ops g (j + 1) listed = true → Lq a → wpAny P md ops Q' g listed (a.put oj.dst (.pointer (some ⟨k, 0, none⟩))) w) :
    ∀ (f : Nat) (listed : Array Bool) (a : Act) (w : World), listed.getD j true = false → Below W.heap.size W w →
      wpAnyM P md ops W (j + 1) (fun listed' a' => Region.seqB md ops g (j + 1) listed' = true ∧ Lq a') f (listed.setIfInBounds j true) a → wpAny P md ops Q' (f + 1 + g) listed a w := by
  have made : ∀ (f : Nat) (listed : Array Bool) (a : Act) (w : World), Below W.heap.size W w → listed.getD j true = false →
      wpAnyM P md ops W (j + 1) (fun listed' a' => Region.seqB md ops g (j + 1) listed' = true ∧ Lq a') f (listed.setIfInBounds j true) a →
      wpOp P ops Q' j (wpAny P md ops Q' (f + g) (listed.setIfInBounds j true)) a w := by
    intro f listed a w hw hun h
    have hB1 : Below W.heap.size W (w.alloc (.cells z ty)) := hw.alloc hw.size _
    have hlj : (listed.setIfInBounds j true).getD j false = true := by
      have : j < listed.size := by
        refine Nat.lt_of_not_le fun hge => ?_
        simp [Array.getElem?_eq_none hge] at hun
      simp [this]
    have h2 := wpAnyM_over (u := .pointer (some ⟨w.heap.size, 0, none⟩)) (oj := oj) hsel hap f _ a hlj h
    have h3 := wpAny_of_headM (P := P) (md := md) (ops := ops) (g := g) (Q' := Q') hB1 (fun listed' a' w' hw' hl' => by
      obtain ⟨a0, e, hs, hq⟩ := hl'
      subst e
      have hsz : w.heap.size < w'.heap.size := Nat.lt_of_lt_of_le (by simp) hw'.size
      exact hL w.heap.size _ a0 w' hw.size hsz (by rw [hw'.block _ (by simp)]; exact heap_alloc_new w _) (hB1.trans (hw'.mono hB1.size)) hs hq) f _ _ _ (Below.refl _ _) h2
    unfold wpOp
    simp only [hoj]
    rw [if_pos (by simp [Region.wanted, hgd])]
    left
    unfold Oper.wp
    rw [hal]
    exact h3
  intro f
  induction f with
  | zero =>
    intro listed a w hun hw h
    have hj : j ∈ Region.ready md ops listed := mem_ready.2 ⟨hun, oj, hoj, by rw [haf]; simp⟩
    rw [show 0 + 1 + g = g + 1 by omega]
    refine ⟨fun h0 => (by rw [h0] at hj; cases hj), fun i hi => ?_⟩
    by_cases hij : i = j
    · subst hij; have := made 0 listed a w hw hun h; rwa [Nat.zero_add] at this
    · exfalso
      have hr := ready_mono hi hij
      obtain ⟨hs, _⟩ := h
      have hin : i = j + 1 := by
        cases g with
        | zero => simp only [Region.seqB, List.isEmpty_iff] at hs; rw [hs] at hr; cases hr
        | succ g =>
          simp only [Region.seqB, Bool.and_eq_true, decide_eq_true_eq] at hs
          rw [hs.1] at hr
          simpa using hr
      subst hin
      obtain ⟨_, o, ho, hall⟩ := mem_ready.1 hi
      obtain ⟨o', ho', e, he, hb, hon⟩ := Region.waitsFor_spec hwait
      have : o' = o := Option.some.inj (ho'.symm.trans ho)
      subst this
      have h4 := hall e he hb
      rw [hon, getD_both hun] at h4
      cases h4
  | succ f ih =>
    intro listed a w hun hw h
    have hj : j ∈ Region.ready md ops listed := mem_ready.2 ⟨hun, oj, hoj, by rw [haf]; simp⟩
    rw [show f + 1 + 1 + g = (f + 1 + g) + 1 by omega]
    refine ⟨fun h0 => (by rw [h0] at hj; cases hj), fun i hi => ?_⟩
    by_cases hij : i = j
    · subst hij; exact made (f + 1) listed a w hw hun h
    · have hr := ready_mono hi hij
      have h1 := (h.2 i hr).2
      refine wpOp_of_mOp (⟨w, hw⟩ : Aft W) (fun a' w' hw' h' => ?_) h1
      refine ih _ _ _ (by rw [getD_set_ne true hij]; exact hun) (hw.trans (Below.mono hw' hw.size)) ?_
      rw [Array.setIfInBounds_comm _ _ hij]
      exact h'
/-- the Bool of a region with one new variable, its operation number j, right ahead of the tail -/
def allocB (md : Region.Mode) (ops : Array Oper) (j : Nat) : Bool :=
  Region.noSelect ops && decide (j + 1 < ops.size) && Region.sinkB md ops (j + 1) && Region.chainB md ops (j + 1) && Region.waitsFor md ops (j + 1) j &&
    (match ops[j]? with
     | some o => o.after.isEmpty && o.guard.isNone && (List.range j).all (fun i => match ops[i]? with | some oi => o.apart ops oi | none => true)
     | none => false) &&
    lexHeadA md ops (ops.size - (j + 1)) (j + 1) j 0 ((Array.replicate ops.size false).setIfInBounds j true)
theorem any_aft_alloc {Q : Exit → Act → World → Prop} {a : Act} {l : List Oper} (j : Nat) (oj : Oper) (ty : TypeId) (z : Array Value) (hB : allocB .any l.toArray j = true) (hoj : l[j]? = some oj)
    (hal : ∀ (a : Act) (w : World), (execOp a.eval oj).run P w = .ok (.value (.pointer (some ⟨w.heap.size, 0, none⟩))) (w.alloc (.cells z ty)))
    (h : wpMild P l.toArray W (fun a' => ∀ (k : Nat) (w' : World), W.heap.size ≤ k → k < w'.heap.size → w'.heap[k]? = some (.cells z ty (0, 0)) → Below W.heap.size W w' →
      wpList P l.toArray Q (l.drop (j + 1)) (a'.put oj.dst (.pointer (some ⟨k, 0, none⟩))) w') (l.take j) a) : wpAny P .any l.toArray Q l.toArray.size (Array.replicate l.toArray.size false) a { W with drawn := W.drawn + 1 } := by
  have hoj' : l.toArray[j]? = some oj := by simpa using hoj
  simp only [allocB, Bool.and_eq_true, decide_eq_true_eq, hoj'] at hB
  obtain ⟨⟨⟨⟨⟨⟨hsel, hn⟩, hs⟩, hc⟩, hwait⟩, ⟨haf, hgd⟩, hap⟩, hlex⟩ := hB
  have hn' : j + 1 < l.length := by simpa using hn
  have htl : (l.take j).length = j := by simp; omega
  have hdl : (l.drop (j + 1)).length = l.toArray.size - (j + 1) := by simp
  have haf' : oj.after = #[] := by simpa using haf
  have hgd' : oj.guard = none := by simpa using hgd
  have hap' : ∀ i oi, i < j + 1 → i ≠ j → l.toArray[i]? = some oi → oj.apart l.toArray oi = true := fun i oi hi hne ho => by
    have := List.all_eq_true.1 hap i (List.mem_range.2 (by omega))
    simpa [ho] using this
  have inv0 : HeadInv .any l.toArray (j + 1) ((Array.replicate l.toArray.size false).setIfInBounds j true) := by
    refine ⟨by simp, fun k ok hk hl e he hb => ?_, fun t ht htl => ?_⟩
    · by_cases hkj : j = k
      · subst hkj
        have : ok = oj := Option.some.inj (hk.symm.trans hoj')
        subst this
        rw [haf'] at he; simp at he
      · rw [getD_set_ne false hkj, getD_replicate_false] at hl; cases hl
    · rw [getD_set_ne true (by omega)]
      exact getD_in (by simpa using htl) (getD_replicate_false _ _)
  have H := wpAnyM_lex (P := P) (md := .any) (W := W) (g := l.toArray.size - (j + 1)) hsel hs hc hn (l.take j) 0 _ a (fun i hi => by
    have hi' : i < j := by rw [htl] at hi; exact hi
    simp [hi']) (by rw [htl]; omega) inv0 (by rw [htl]; exact hlex) h
  have := wpAny_alloc (P := P) (md := .any) (W := W) (Q' := Q) (g := l.toArray.size - (j + 1)) hoj' hgd' haf' hal (Region.noSelect_spec hsel) hap' hwait (fun k listed a' w' hk1 hk2 hk3 hb hseq hq => by
    have h5 := wpAny_of_seq (md := .any) (Q' := Q) (l.drop (j + 1)) (j + 1) listed _ w' (fun i => by simp [List.getElem?_drop]) (by rw [hdl]; exact hseq) (hq k w' hk1 hk2 hk3 hb)
    rwa [hdl] at h5) (l.take j).length (Array.replicate l.toArray.size false) a _ (getD_in (by simp; omega) (getD_replicate_false _ _)) (below_drew1 W) H
  rw [htl, show j + 1 + (l.toArray.size - (j + 1)) = l.toArray.size by omega] at this
  exact this
theorem region_aft_alloc {id : Nat} {Q : Exit → Act → World → Prop} {a : Act} {l : List Oper} (j : Nat) (oj : Oper) (ty : TypeId) (z : Array Value) (hm : P.follows .mixedOrders = true) (hB : allocB .any l.toArray j = true) (hoj : l[j]? = some oj)
    (hal : ∀ (a : Act) (w : World), (execOp a.eval oj).run P w = .ok (.value (.pointer (some ⟨w.heap.size, 0, none⟩))) (w.alloc (.cells z ty)))
    (h : wpMild P l.toArray W (fun a' => ∀ (k : Nat) (w' : World), W.heap.size ≤ k → k < w'.heap.size → w'.heap[k]? = some (.cells z ty (0, 0)) → Below W.heap.size W w' →
      wpList P l.toArray Q (l.drop (j + 1)) (a'.put oj.dst (.pointer (some ⟨k, 0, none⟩))) w') (l.take j) a) : (Code.region id l.toArray true).wp P Q a W :=
  wp_region_any hm (any_aft_alloc j oj ty z hB hoj hal h)

end
end Go.Proofs.Ytdonpiihjoihcaa
