/- Regions with one new variable, and an extract that may come behind the first store. No condition. -/
import Derived.Test.YtdonpiihjoihcaaRA
namespace Go.Proofs.Ytdonpiihjoihcaa
open Go.RowKit
set_option linter.unusedVariables false

section
variable {P : Program} {md : Region.Mode} {W : World}
/-- an extract yields in whatever world, or stands still -/
theorem extract_any {o : Oper} {x : Operand} {n : Nat} (hop : o.op = .extract x n) (a : Act) :
    (∃ v, ∀ w, (execOp a.eval o).run P w = .ok (.value v) w) ∨ (∀ w, ¬ o.asks P a w ∧ ∃ h, (execOp a.eval o).run P w = .halt (.stuck h) w) := by
  unfold Oper.asks execOp
  simp only [hop]
  cases hx : a.eval x with
  | tuple vs =>
    cases hv : vs[n]? with
    | some v => left; exact ⟨v, fun w => by simp [Instr.extract, hv]⟩
    | none =>
      right; intro w
      simp only [Instr.extract, hv]
      exact ⟨fun h => by have h1 : noRoomEvent ∈ (#[] : Array Event) := h.1
                         simp at h1, _, rfl⟩
  | _ =>
    right; intro w
    simp only [Instr.extract]
    exact ⟨fun h => by have h1 : noRoomEvent ∈ (#[] : Array Event) := h.1
                       simp at h1, _, rfl⟩

/-- two operations that differ in what they wait for alone -/
def likeB (o o' : Oper) : Prop := o'.dst = o.dst ∧ o'.op = o.op ∧ o'.type = o.type ∧ o'.guard = o.guard
theorem exec_like {o o' : Oper} (h : likeB o o') (a : Act) : execOp a.eval o' = execOp a.eval o := by
  obtain ⟨_, h2, h3, _⟩ := h
  unfold execOp
  rw [h2, h3]
theorem wp_like {o o' : Oper} (h : likeB o o') {a : Act} {w : World} {K : Act → World → Prop} {Q : Exit → Act → World → Prop} (hh : o'.wp P a w K Q ∨ (o'.asks P a w ∧ LetsOut Q)) : o.wp P a w K Q ∨ (o.asks P a w ∧ LetsOut Q) := by
  have e := exec_like h a
  have hd := h.1
  unfold Oper.wp Oper.asks at *
  rw [e] at hh
  unfold Oper.upon at *
  rw [hd] at hh
  exact hh
def likeL (ops ops' : Array Oper) : Prop := ∀ k : Nat, (ops[k]? = none ∧ ops'[k]? = none) ∨ ∃ o o', ops[k]? = some o ∧ ops'[k]? = some o' ∧ likeB o o'
theorem yielded_like {ops ops' : Array Oper} (h : likeL ops ops') (t : Array Value) : yielded ops' t = yielded ops t := by
  funext k
  unfold yielded
  rcases h k with ⟨h1, h2⟩ | ⟨o, o', h1, h2, h3⟩
  · rw [h1, h2]
  · rw [h1, h2]; simp only [Option.bind_some, h3.1]
theorem wanted_like {o o' : Oper} (h : likeB o o') (f : Nat → Option Bool) : Region.wanted o' f = Region.wanted o f := by
  unfold Region.wanted; rw [h.2.2.2]
theorem wpOp_like {ops ops' : Array Oper} (h : likeL ops ops') {i : Nat} {K : Act → World → Prop} {Q : Exit → Act → World → Prop} {a : Act} {w : World} (hh : wpOp P ops' Q i K a w) : wpOp P ops Q i K a w := by
  unfold wpOp at *
  rw [yielded_like h] at hh
  rcases h i with ⟨h1, h2⟩ | ⟨o, o', h1, h2, h3⟩
  · simp only [h1, h2] at hh ⊢; exact hh
  · simp only [h1, h2, wanted_like h3, h3.1] at hh ⊢
    split
    · rename_i hw; rw [if_pos hw] at hh; exact wp_like h3 hh
    · rename_i hw; rw [if_neg hw] at hh; exact hh

/-- 'ops'' is 'ops' with one edge more: operation t waits for the extract i: whatever holds of its orders holds of all -/
theorem wpAny_late {ops ops' : Array Oper} {i t : Nat} {oi ot ot' : Oper} {x : Operand} {n : Nat} {Q : Exit → Act → World → Prop} (hs : Region.noSelect ops = true) (hlike : likeL ops ops')
    (hi : ops[i]? = some oi) (hi' : ops'[i]? = some oi) (hop : oi.op = .extract x n) (hgd : oi.guard = none) (hne : i ≠ t)
    (heq : ∀ k, k ≠ t → ops'[k]? = ops[k]?) (ht : ops[t]? = some ot) (ht' : ops'[t]? = some ot') (haf : ∀ e, e ∈ ot'.after ↔ (e ∈ ot.after ∨ e = ⟨i, .data⟩)) (hb : Region.binds md ⟨i, .data⟩ = true)
    (hfree : ∀ j oj, ops[j]? = some oj → j ≠ i → (∀ e ∈ oj.after, Region.binds md e = true → e.on ≠ i) → (∀ e ∈ oi.after, Region.binds md e = true → e.on ≠ j) → oi.apart ops oj = true)
    (hdeps : ∀ e ∈ oi.after, Region.binds md e = true → ∃ e' ∈ ot.after, Region.binds md e' = true ∧ e'.on = e.on)
    (hQ : ∀ c a v w, Q (.panic c) (a.put oi.dst v) w → Q (.panic c) a w) :
    ∀ (fuel : Nat) (listed : Array Bool) (a : Act) (w : World), listed.size = ops.size → wpAny P md ops' Q fuel listed a w → wpAny P md ops Q fuel listed a w := by
  have sub : ∀ (listed : Array Bool) (k : Nat), k ∈ Region.ready md ops' listed → k ∈ Region.ready md ops listed := by
    intro listed k hk
    obtain ⟨hun, o', ho', hall⟩ := mem_ready.1 hk
    by_cases hkt : k = t
    · subst hkt
      have : o' = ot' := Option.some.inj (ho'.symm.trans ht')
      subst this
      exact mem_ready.2 ⟨hun, ot, ht, fun e he => hall e ((haf e).2 (.inl he))⟩
    · exact mem_ready.2 ⟨hun, o', (heq k hkt) ▸ ho', hall⟩
  have up : ∀ (listed : Array Bool) (k : Nat), listed.size = ops.size → i ∉ Region.ready md ops listed → k ∈ Region.ready md ops listed → k ∈ Region.ready md ops' listed := by
    intro listed k hsz hni hk
    obtain ⟨hun, o, ho, hall⟩ := mem_ready.1 hk
    by_cases hkt : k = t
    · subst hkt
      have : o = ot := Option.some.inj (ho.symm.trans ht)
      subst this
      have hli : listed.getD i false = true := by
        cases hl : listed.getD i false with
        | true => rfl
        | false =>
          exfalso
          have hil : i < listed.size := by rw [hsz]; exact (Array.getElem?_eq_some_iff.1 hi).1
          refine hni (mem_ready.2 ⟨getD_in hil hl, oi, hi, fun e he hbe => ?_⟩)
          obtain ⟨e', he', hbe', hon⟩ := hdeps e he hbe
          rw [← hon]; exact hall e' he' hbe'
      refine mem_ready.2 ⟨hun, ot', ht', fun e he hbe => ?_⟩
      rcases (haf e).1 he with h1 | h1
      · exact hall e h1 hbe
      · rw [h1]; exact hli
    · exact mem_ready.2 ⟨hun, o, (heq k hkt).symm ▸ ho, hall⟩
  have iup : ∀ (listed : Array Bool), i ∈ Region.ready md ops listed → i ∈ Region.ready md ops' listed := by
    intro listed hk
    obtain ⟨hun, o, ho, hall⟩ := mem_ready.1 hk
    exact mem_ready.2 ⟨hun, o, (heq i hne).symm ▸ ho, hall⟩
  intro fuel
  induction fuel with
  | zero =>
    intro listed a w hsz h
    refine ⟨?_, h.2⟩
    refine List.eq_nil_iff_forall_not_mem.2 fun k hk => ?_
    by_cases hir : i ∈ Region.ready md ops listed
    · have := iup listed hir; rw [h.1] at this; cases this
    · have := up listed k hsz hir hk; rw [h.1] at this; cases this
  | succ fuel ih =>
    intro listed a w hsz h
    by_cases hir : i ∈ Region.ready md ops listed
    · have h1 := h.2 i (iup listed hir)
      have hw : ∀ f, Region.wanted oi f = true := fun f => by simp [Region.wanted, hgd]
      unfold wpOp at h1
      simp only [hi', hw, if_true] at h1
      rcases extract_any (P := P) hop a with ⟨v, hv⟩ | hst
      · have hy : Yields P ops oi v a := .inl ⟨hw _, hv⟩
        refine wpAny_first hi (Region.noSelect_spec hs) (fun c a w => hQ c a v w) fuel listed a w (fun j oj hj hji hun hno => hfree j oj hj hji hno (fun e he hbe hon => by
          obtain ⟨_, o2, ho2, hall2⟩ := mem_ready.1 hir
          have : o2 = oi := Option.some.inj (ho2.symm.trans hi)
          subst this
          have h5 := hall2 e he hbe
          rw [hon, getD_both hun] at h5
          cases h5)) hir hy ?_
        refine ih _ _ _ (by simp [hsz]) ?_
        rcases h1 with h1 | h1
        · unfold Oper.wp at h1; rw [hv] at h1; exact h1
        · exfalso
          have h2 := h1.1.1
          have h3 := h1.1
          unfold Oper.asks execOp at h3
          simp only [hop] at h3
          have hv' := hv w
          unfold execOp at hv'
          simp only [hop] at hv'
          cases hx : a.eval x with
          | tuple vs =>
            rw [hx] at h3 hv'
            cases hvn : vs[n]? with
            | some u => simp only [Instr.extract, hvn] at h3; have h4 : noRoomEvent ∈ (#[] : Array Event) := h3.1; simp at h4
            | none => simp only [Instr.extract, hvn] at h3; have h4 : noRoomEvent ∈ (#[] : Array Event) := h3.1; simp at h4
          | _ => rw [hx] at h3; simp only [Instr.extract] at h3; have h4 : noRoomEvent ∈ (#[] : Array Event) := h3.1; simp at h4
      · exfalso
        obtain ⟨hna, hh, hrun⟩ := hst w
        rcases h1 with h1 | h1
        · unfold Oper.wp at h1; rw [hrun] at h1; exact h1
        · exact hna h1.1
    · refine ⟨fun h0 => h.1 ?_, fun k hk => ?_⟩
      · refine List.eq_nil_iff_forall_not_mem.2 fun k hk => ?_
        have := sub listed k hk; rw [h0] at this; cases this
      · exact wpOp_mono (fun a' w' h' => ih _ _ _ (by simp [hsz]) h') (wpOp_like hlike (h.2 k (up listed k hsz hir hk)))
theorem likeB.symm {o o' : Oper} (h : likeB o o') : likeB o' o := ⟨h.1.symm, h.2.1.symm, h.2.2.1.symm, h.2.2.2.symm⟩
theorem likeL.symm {ops ops' : Array Oper} (h : likeL ops ops') : likeL ops' ops := fun k => by
  rcases h k with ⟨h1, h2⟩ | ⟨o, o', h1, h2, h3⟩
  · exact .inl ⟨h2, h1⟩
  · exact .inr ⟨o', o, h2, h1, h3.symm⟩
theorem wpList_like {ops ops' : Array Oper} (h : likeL ops ops') {Q : Exit → Act → World → Prop} : ∀ (m m' : List Oper), (∀ k : Nat, (m[k]? = none ∧ m'[k]? = none) ∨ ∃ o o', m[k]? = some o ∧ m'[k]? = some o' ∧ likeB o o') →
    ∀ (a : Act) (w : World), wpList P ops' Q m' a w → wpList P ops Q m a w
  | [], m', hk, a, w, hh => by
    have : m' = [] := by
      rcases hk 0 with ⟨_, h2⟩ | ⟨o, o', h1, _⟩
      · cases m' with
        | nil => rfl
        | cons => simp at h2
      · simp at h1
    subst this; exact hh
  | o :: m, m', hk, a, w, hh => by
    obtain ⟨o', m'', e, hlo⟩ : ∃ o' m'', m' = o' :: m'' ∧ likeB o o' := by
      rcases hk 0 with ⟨h1, _⟩ | ⟨p, p', h1, h2, h3⟩
      · simp at h1
      · cases m' with
        | nil => simp at h2
        | cons q r => simp at h1 h2; subst h1 h2; exact ⟨q, r, rfl, h3⟩
    subst e
    have ih := wpList_like (Q := Q) h m m'' (fun k => by simpa using hk (k + 1))
    rw [wpList] at hh ⊢
    rw [yielded_like h, wanted_like hlo, hlo.1] at hh
    split
    · rename_i hw
      rw [if_pos hw] at hh
      rcases wp_like hlo hh with h1 | h1
      · left; exact Oper.wp_mono (fun a w => ih a w) h1
      · exact .inr h1
    · rename_i hw
      rw [if_neg hw] at hh
      exact ih _ _ hh
theorem wpMild_like {ops ops' : Array Oper} (h : likeL ops ops') {Q Q' : Act → Prop} (hQ : ∀ a, Q a → Q' a) : ∀ (m : List Oper) (a : Act), wpMild P ops W Q m a → wpMild P ops' W Q' m a
  | [], a, hh => hQ a hh
  | o :: m, a, hh => by
    unfold wpMild at *
    rw [yielded_like h]
    split
    · rename_i hw; rw [if_pos hw] at hh; exact mild_mono (fun a h' => wpMild_like h hQ m a h') hh
    · rename_i hw; rw [if_neg hw] at hh; exact wpMild_like h hQ m _ hh
/-- the Bool: extract i may come behind the first store t -/
def lateB (md : Region.Mode) (l : List Oper) (j i t : Nat) : Bool :=
  match l[i]?, l[t]? with
  | some oi, some ot =>
    (match oi.op with | .extract _ _ => true | _ => false) && oi.guard.isNone && decide (i < t) && decide (j < t) && Region.noSelect l.toArray && Region.binds md ⟨i, .data⟩ &&
      (List.range l.length).all (fun k => k == i || match l[k]? with
        | some ok => ok.after.any (fun e => Region.binds md e && e.on == i) || oi.after.any (fun e => Region.binds md e && e.on == k) || oi.apart l.toArray ok
        | none => true) &&
      oi.after.all (fun e => !Region.binds md e || ot.after.any (fun e' => Region.binds md e' && e'.on == e.on)) &&
      allocB md (l.set t { ot with after := ot.after.push ⟨i, .data⟩ }).toArray j
  | _, _ => false
theorem region_aft_alloc_late {id : Nat} {Q : Exit → Act → World → Prop} {a : Act} {l : List Oper} (j i t : Nat) (oj : Oper) (ty : TypeId) (z : Array Value) (hm : P.follows .mixedOrders = true) (hB : lateB .any l j i t = true) (hoj : l[j]? = some oj)
    (hal : ∀ (a : Act) (w : World), (execOp a.eval oj).run P w = .ok (.value (.pointer (some ⟨w.heap.size, 0, none⟩))) (w.alloc (.cells z ty)))
    (hQ : ∀ c a (d : Nat) v w, Q (.panic c) (Act.put a (some d) v) w → Q (.panic c) a w)
    (h : wpMild P l.toArray W (fun a' => ∀ (k : Nat) (w' : World), W.heap.size ≤ k → k < w'.heap.size → w'.heap[k]? = some (.cells z ty (0, 0)) → Below W.heap.size W w' →
      wpList P l.toArray Q (l.drop (j + 1)) (a'.put oj.dst (.pointer (some ⟨k, 0, none⟩))) w') (l.take j) a) : (Code.region id l.toArray true).wp P Q a W := by
  unfold lateB at hB
  cases hi : l[i]? with
  | none => rw [hi] at hB; cases hB
  | some oi =>
    cases ht : l[t]? with
    | none => rw [hi, ht] at hB; cases hB
    | some ot =>
      rw [hi, ht] at hB
      simp only [Bool.and_eq_true, decide_eq_true_eq] at hB
      obtain ⟨⟨⟨⟨⟨⟨⟨⟨hop, hgd⟩, hit⟩, hjt⟩, hsel⟩, hb⟩, hfree⟩, hdeps⟩, hal0⟩ := hB
      obtain ⟨x, n, hop'⟩ : ∃ x n, oi.op = .extract x n := by
        cases hc : oi.op <;> rw [hc] at hop <;> first | exact ⟨_, _, rfl⟩ | cases hop
      have htl : t < l.length := (List.getElem?_eq_some_iff.1 ht).1
      have hlike0 : ∀ k : Nat, (l[k]? = none ∧ (l.set t { ot with after := ot.after.push ⟨i, .data⟩ })[k]? = none) ∨ ∃ o o', l[k]? = some o ∧ (l.set t { ot with after := ot.after.push ⟨i, .data⟩ })[k]? = some o' ∧ likeB o o' := by
        intro k
        by_cases hkt : k = t
        · subst hkt
          exact .inr ⟨ot, { ot with after := ot.after.push ⟨i, .data⟩ }, ht, by simp [htl], rfl, rfl, rfl, rfl⟩
        · cases hk : l[k]? with
          | none => exact .inl ⟨rfl, by rw [List.getElem?_set_ne (fun e => hkt e.symm), hk]⟩
          | some o => exact .inr ⟨o, o, rfl, by rw [List.getElem?_set_ne (fun e => hkt e.symm), hk], rfl, rfl, rfl, rfl⟩
      have hlike : likeL l.toArray (l.set t { ot with after := ot.after.push ⟨i, .data⟩ }).toArray := fun k => by simpa using hlike0 k
      refine wp_region_any hm ?_
      refine wpAny_late (md := .any) (i := i) (t := t) hsel hlike (by simpa using hi) (by simp [List.getElem?_set_ne (show t ≠ i by omega), hi]) hop' (by simpa using hgd) (by omega)
        (fun k hk => by simp [List.getElem?_set_ne (fun e => hk e.symm)]) (by simpa using ht) (ot' := { ot with after := ot.after.push ⟨i, .data⟩ }) (by simp [htl]) (fun e => by simp) hb ?_ ?_ (fun c a v w => by cases oi.dst with | none => exact fun h => h | some d => exact hQ c a d v w) _ _ _ _ (by simp) ?_
      · intro k ok hk hki hno hno2
        have hk' : l[k]? = some ok := by simpa using hk
        have h1 := List.all_eq_true.1 hfree k (List.mem_range.2 (List.getElem?_eq_some_iff.1 hk').1)
        simp only [hk', Bool.or_eq_true, beq_iff_eq] at h1
        rcases h1 with h1 | (h1 | h1) | h1
        · exact absurd h1 hki
        · obtain ⟨e, he, hbe⟩ := Array.any_eq_true'.1 h1
          simp only [Bool.and_eq_true, beq_iff_eq] at hbe
          exact absurd hbe.2 (hno e he hbe.1)
        · obtain ⟨e, he, hbe⟩ := Array.any_eq_true'.1 h1
          simp only [Bool.and_eq_true, beq_iff_eq] at hbe
          exact absurd hbe.2 (hno2 e he hbe.1)
        · exact h1
      · intro e he hbe
        have h1 := Array.all_eq_true'.1 hdeps e he
        simp only [hbe, Bool.not_true, Bool.false_or] at h1
        obtain ⟨e', he', hbe'⟩ := Array.any_eq_true'.1 h1
        simp only [Bool.and_eq_true, beq_iff_eq] at hbe'
        exact ⟨e', he', hbe'⟩
      · have hsz : l.toArray.size = (l.set t { ot with after := ot.after.push ⟨i, .data⟩ }).toArray.size := by simp
        rw [hsz]
        refine any_aft_alloc (P := P) (W := W) j oj ty z hal0 (by rw [List.getElem?_set_ne (by omega)]; exact hoj) hal ?_
        rw [List.take_set_of_le (by omega)]
        refine wpMild_like hlike (fun a' h' k w' h1 h2 h3 h4 => ?_) _ _ h
        refine wpList_like hlike.symm _ _ (fun k => ?_) _ _ (h' k w' h1 h2 h3 h4)
        rcases hlike0 (j + 1 + k) with ⟨g1, g2⟩ | ⟨o, o', g1, g2, g3⟩
        · left; simp only [List.getElem?_drop]; exact ⟨g2, g1⟩
        · right; simp only [List.getElem?_drop]; exact ⟨o', o, g2, g1, g3.symm⟩
/-- a block that was just made reads as made -/
theorem made_cell {w : World} {g j : Nat} {z : Array Value} {ty : TypeId} {v : Value} (h : w.heap[g]? = some (.cells z ty (0, 0))) (hj : z[j]? = some v) : w.cell? ⟨g, j, none⟩ = some v := by
  rw [cell_of_row w g j z ty (0, 0) h]; exact hj
theorem made_free {w : World} {g j : Nat} {z : Array Value} {ty : TypeId} (h : w.heap[g]? = some (.cells z ty (0, 0))) : w.frozen? ⟨g, j, none⟩ = false := by
  simp [World.frozen?, h]
end
end Go.Proofs.Ytdonpiihjoihcaa
