/- Regions that read and call, with an extract that may come behind the first store. No condition. -/
import Derived.Test.YtiblpagbloflhaaRB
namespace Go.Proofs.Ytiblpagbloflhaa
open Go.RowKit
set_option linter.unusedVariables false

/-- Reads and calls, then a tail that goes in one order. -/
theorem any_aft_tail {P : Program} {Q : Exit → Act → World → Prop} {a : Act} {W : World} {l : List Oper} (n : Nat) (hB : Region.lexTailB .any l.toArray n = true)
    (h : wpQuiet P l.toArray (fun w' => ∃ x : Aft W, w' = x.w) (fun a' => ∀ w', Below W.heap.size W w' → wpList P l.toArray Q (l.drop n) a' w') (l.take n) a) : wpAny P .any l.toArray Q l.toArray.size (Array.replicate l.toArray.size false) a { W with drawn := W.drawn + 1 } := by
  simp only [Region.lexTailB, Bool.and_eq_true, decide_eq_true_eq] at hB
  obtain ⟨⟨⟨⟨hsel, hn⟩, hs⟩, hc⟩, hlex⟩ := hB
  have hn' : n < l.length := by simpa using hn
  have htl : (l.take n).length = n := by simp; omega
  have hdl : (l.drop n).length = l.toArray.size - n := by simp
  have inv0 : HeadInv .any l.toArray n (Array.replicate l.toArray.size false) :=
    ⟨by simp, fun j oj _ hl => (by rw [getD_replicate_false] at hl; cases hl), fun t _ ht => getD_in (by simpa using ht) (getD_replicate_false _ _)⟩
  have H := wpAnyLQ_lex (md := .any) (C := fun w' => ∃ x : Aft W, w' = x.w) (g := l.toArray.size - n) hsel hs hc hn (l.take n) 0 _ a (fun j hj => by
    have hj' : j < n := by rw [htl] at hj; exact hj
    simp [hj']) (by simpa using htl) inv0 (by rw [htl]; exact hlex) h
  have := wpAny_of_headQ (Q' := Q) (g := l.toArray.size - n) (fun listed a' w' hw' hL => by
    obtain ⟨x, rfl⟩ := hw'
    have := wpAny_of_seq (md := .any) (Q' := Q) (l.drop n) n listed a' x.w (fun j => by simp [List.getElem?_drop]) (by rw [hdl]; exact hL.1) (hL.2 _ x.2)
    rwa [hdl] at this) _ _ _ _ (aft_mk (below_drew1 W)) H
  rw [htl, show n + (l.toArray.size - n) = l.toArray.size by omega] at this
  exact this
theorem wpQuiet_like {P : Program} {ops ops' : Array Oper} {C : World → Prop} (h : likeL ops ops') {Q Q' : Act → Prop} (hQ : ∀ a, Q a → Q' a) : ∀ (m : List Oper) (a : Act), wpQuiet P ops C Q m a → wpQuiet P ops' C Q' m a
  | [], a, hh => hQ a hh
  | o :: m, a, hh => by
    unfold wpQuiet at *
    rw [yielded_like h]
    split
    · rename_i hw; rw [if_pos hw] at hh; exact Oper.quiet_mono (fun a h' => wpQuiet_like h hQ m a h') hh
    · rename_i hw; rw [if_neg hw] at hh; exact wpQuiet_like h hQ m _ hh
/-- the Bool: extract i may come behind the first store t -/
def lateTB (md : Region.Mode) (l : List Oper) (n i t : Nat) : Bool :=
  match l[i]?, l[t]? with
  | some oi, some ot =>
    (match oi.op with | .extract _ _ => true | _ => false) && oi.guard.isNone && decide (i < t) && decide (n ≤ t) && Region.noSelect l.toArray && Region.binds md ⟨i, .data⟩ &&
      (List.range l.length).all (fun k => k == i || match l[k]? with
        | some ok => ok.after.any (fun e => Region.binds md e && e.on == i) || oi.after.any (fun e => Region.binds md e && e.on == k) || oi.apart l.toArray ok
        | none => true) &&
      oi.after.all (fun e => !Region.binds md e || ot.after.any (fun e' => Region.binds md e' && e'.on == e.on)) &&
      Region.lexTailB md (l.set t { ot with after := ot.after.push ⟨i, .data⟩ }).toArray n
  | _, _ => false
theorem region_aft_tail_late {P : Program} {W : World} {id : Nat} {Q : Exit → Act → World → Prop} {a : Act} {l : List Oper} (n i t : Nat) (hm : P.follows .mixedOrders = true) (hB : lateTB .any l n i t = true)
    (hQ : ∀ c a (d : Nat) v w, Q (.panic c) (Act.put a (some d) v) w → Q (.panic c) a w)
    (h : wpQuiet P l.toArray (fun w' => ∃ x : Aft W, w' = x.w) (fun a' => ∀ w', Below W.heap.size W w' → wpList P l.toArray Q (l.drop n) a' w') (l.take n) a) : (Code.region id l.toArray true).wp P Q a W := by
  unfold lateTB at hB
  cases hi : l[i]? with
  | none => rw [hi] at hB; cases hB
  | some oi =>
    cases ht : l[t]? with
    | none => rw [hi, ht] at hB; cases hB
    | some ot =>
      rw [hi, ht] at hB
      simp only [Bool.and_eq_true, decide_eq_true_eq] at hB
      obtain ⟨⟨⟨⟨⟨⟨⟨⟨hop, hgd⟩, hit⟩, hnt⟩, hsel⟩, hb⟩, hfree⟩, hdeps⟩, hal0⟩ := hB
      obtain ⟨x, nn, hop'⟩ : ∃ x n, oi.op = .extract x n := by
        cases hc : oi.op <;> rw [hc] at hop <;> first | exact ⟨_, _, rfl⟩ | cases hop
      have htl : t < l.length := (List.getElem?_eq_some_iff.1 ht).1
      have hlike0 : ∀ k : Nat, (l[k]? = none ∧ (l.set t { ot with after := ot.after.push ⟨i, .data⟩ })[k]? = none) ∨ ∃ o o', l[k]? = some o ∧ (l.set t { ot with after := ot.after.push ⟨i, .data⟩ })[k]? = some o' ∧ likeB o o' := by
        intro k
        by_cases hkt : k = t
        · subst hkt
          exact .inr ⟨ot, { ot with after := ot.after.push ⟨i, .data⟩ }, ht, by simp [htl], rfl, rfl, rfl, rfl⟩
        · cases hk : l[k]? with
          | none => exact .inl ⟨rfl, by rw [List.getElem?_set_ne (fun e => hkt e.symm), hk]⟩
          | some o => exact .inr ⟨o, o, rfl, by rw [List.getElem?_set_ne (fun e => hkt e.symm), hk], rfl, rfl, rfl, rfl⟩
      have hlike : likeL l.toArray (l.set t { ot with after := ot.after.push ⟨i, .data⟩ }).toArray := fun k => by simpa using hlike0 k
      refine wp_region_any hm ?_
      refine wpAny_late (md := .any) (i := i) (t := t) hsel hlike (by simpa using hi) (by simp [List.getElem?_set_ne (show t ≠ i by omega), hi]) hop' (by simpa using hgd) (by omega)
        (fun k hk => by simp [List.getElem?_set_ne (fun e => hk e.symm)]) (by simpa using ht) (ot' := { ot with after := ot.after.push ⟨i, .data⟩ }) (by simp [htl]) (fun e => by simp) hb ?_ ?_ (fun c a v w => by cases oi.dst with | none => exact fun h => h | some d => exact hQ c a d v w) _ _ _ _ (by simp) ?_
      · intro k ok hk hki hno hno2
        have hk' : l[k]? = some ok := by simpa using hk
        have h1 := List.all_eq_true.1 hfree k (List.mem_range.2 (List.getElem?_eq_some_iff.1 hk').1)
        simp only [hk', Bool.or_eq_true, beq_iff_eq] at h1
        rcases h1 with h1 | (h1 | h1) | h1
        · exact absurd h1 hki
        · obtain ⟨e, he, hbe⟩ := Array.any_eq_true'.1 h1
          simp only [Bool.and_eq_true, beq_iff_eq] at hbe
          exact absurd hbe.2 (hno e he hbe.1)
        · obtain ⟨e, he, hbe⟩ := Array.any_eq_true'.1 h1
          simp only [Bool.and_eq_true, beq_iff_eq] at hbe
          exact absurd hbe.2 (hno2 e he hbe.1)
        · exact h1
      · intro e he hbe
        have h1 := Array.all_eq_true'.1 hdeps e he
        simp only [hbe, Bool.not_true, Bool.false_or] at h1
        obtain ⟨e', he', hbe'⟩ := Array.any_eq_true'.1 h1
        simp only [Bool.and_eq_true, beq_iff_eq] at hbe'
        exact ⟨e', he', hbe'⟩
      · have hsz : l.toArray.size = (l.set t { ot with after := ot.after.push ⟨i, .data⟩ }).toArray.size := by simp
        rw [hsz]
        refine any_aft_tail (P := P) (W := W) n hal0 ?_
        rw [List.take_set_of_le (by omega)]
        refine wpQuiet_like hlike (fun a' h' w' h4 => ?_) _ _ h
        refine wpList_like hlike.symm _ _ (fun k => ?_) _ _ (h' w' h4)
        rcases hlike0 (n + k) with ⟨g1, g2⟩ | ⟨o, o', g1, g2, g3⟩
        · left; simp only [List.getElem?_drop]; exact ⟨g2, g1⟩
        · right; simp only [List.getElem?_drop]; exact ⟨o', o, g2, g1, g3.symm⟩
end Go.Proofs.Ytiblpagbloflhaa
