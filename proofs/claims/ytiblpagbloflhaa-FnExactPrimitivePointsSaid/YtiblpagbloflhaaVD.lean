/- Contracts and the walk of the law: the primitive points. -/
import Derived.Test.YtiblpagbloflhaaVC
namespace Go.Proofs.Ytiblpagbloflhaa
set_option linter.unusedVariables false
open Go.ChangeShapes Go.WideShapes Go.ChangeAt Go.RowKit

def gB (p : Pt) : Bool := ((Int.gcd p.x p.y : Nat) : Int) == 1
def primL (l : List Pt) : List Pt := l.filter gB
theorem primL_take {l : List Pt} {k : Nat} (h : k < l.length) : primL (l.take (k + 1)) = primL (l.take k) ++ (if gB l[k] = true then [l[k]] else []) := by
  unfold primL
  rw [List.take_succ_eq_append_getElem h, List.filter_append]
  congr 1
  by_cases hg : gB l[k] = true <;> simp [hg]
theorem primL_len (l : List Pt) : (primL l).length ≤ l.length := List.length_filter_le _ _
theorem ptsL_bd {a b c n : Int} (h : VOk a b c n) : ∀ p ∈ ptsL a b c n, (-200000 ≤ p.x ∧ p.x ≤ 200000) ∧ (-200001 ≤ p.y ∧ p.y ≤ 200001) := fun p hp => by
  obtain ⟨h1, h2, h3, h4, h5, h6⟩ := vok_bd h
  have hbx := bndX_bd h
  have hby := bndY_bd h
  have hx := hp
  unfold ptsL at hp hx
  rw [← points_same h] at hx
  have e1 := ((listI_mem (by omega) (sqX_le h) _ p).1 hx).1
  have e2 := ((listS_mem (by omega) (sqY_le h) _ (fun j hj => (sqY_bd h (by omega) (by omega)).2.2.1) p).1 hp).1
  omega
/-- what PrimitivePoints hands back -/
def PrOut (a b c n : Int) (l : List Pt) (v : Bool) : Prop := (VOk a b c n ∧ l = primL (ptsL a b c n) ∧ v = true) ∨ (¬ VOk a b c n ∧ l = [] ∧ v = false)
theorem prOut_ex (a b c n : Int) : ∃ l v, PrOut a b c n l v ∧ l.length ≤ 1000000 := by
  by_cases h : VOk a b c n
  · exact ⟨_, _, .inl ⟨h, rfl, rfl⟩, Nat.le_trans (primL_len _) (ptsL_len h)⟩
  · exact ⟨_, _, .inr ⟨h, rfl, rfl⟩, by simp⟩
def PrAt (W : World) (l : List Pt) (vl si : Value) (wr : World) : Prop :=
  ∃ k : Nat, si = .int .i64 k ∧ k ≤ l.length ∧ Pts wr W.heap.size vl (primL (l.take k)) ∧ Below W.heap.size W wr
set_option maxHeartbeats 1000000 in
theorem spec_vaPrimitive (l : List Pt) (u : Value) (B : Nat) (w : World) (hlen : l.length ≤ 1000000) (hbd : ∀ p ∈ l, (-200000 ≤ p.x ∧ p.x ≤ 200000) ∧ (-200001 ≤ p.y ∧ p.y ≤ 200001)) (hu : Pts w B u l) :
    Calls Try.prog 99 #[u] w fun e w' => ∃ v, e = .returned v ∧ Pts w' w.heap.size v (primL l) ∧ Below w.heap.size w w' := by
  obtain ⟨p, cp, rfl, _, hr⟩ := hu.view
  have Hr := Lib.hid hr
  have Hbd := Lib.hid hbd
  clear hr hu hbd
  go_enter Try.func99, Try.ntmps99
  go_wp2_with fail
  go_loopw [3, 8] (fun vl si wr => PrAt w l vl si wr) (fun _ si _ => l.length - (intOf si).toNat)
  case atStart => exact ⟨0, rfl, by omega, Pts.nil _ _, Below.refl _ _⟩
  case round =>
    obtain ⟨k, rfl, hk, hpt, hB⟩ := hrel
    have hs := hB.size
    have Hpt := Lib.hid hpt
    have hplen : (primL (l.take k)).length ≤ 1000000 := by have := primL_len (l.take k); rw [List.length_take] at this; omega
    clear hpt
    by_cases hlt : k < l.length
    · obtain ⟨g, rfl, _, hg1, hc0, hc1, _⟩ := Hr.out k hlt
      have hbd := Hbd.out l[k] (List.getElem_mem hlt)
      have htk := primL_take hlt
      rcases hx : l[k] with ⟨xa, xb⟩
      rw [hx] at hc0 hc1 hbd htk
      obtain ⟨⟨xb1, xb2⟩, xb3, xb4⟩ := hbd
      simp only at xb1 xb2 xb3 xb4
      have d0 : wr.cell? ⟨g, k * 2, none⟩ = some (.int .i64 xa) := (hB.cell (p := ⟨g, k * 2, none⟩) hg1).trans hc0
      have d1 : wr.cell? ⟨g, k * 2 + 1, none⟩ = some (.int .i64 xb) := (hB.cell (p := ⟨g, k * 2 + 1, none⟩) hg1).trans hc1
      have Htk := Lib.hid htk
      clear hc0 hc1 hx htk
      go_wp2_with fail
      refine (spec_nuGcd xa xb _ ⟨by omega, by omega⟩ ⟨by omega, by omega⟩).mono ?_
      rintro e w3 ⟨rfl, hb3⟩
      have hB3 : Below (w).heap.size (w) w3 := Below.after (by go_grown) hb3
      have bx : Holds w3 wr.heap.size #[.int .i64 xa, .int .i64 xb] 80 := Holds.below (Holds.new _ _ _) hb3
      have gP := Lib.hid ((Hpt.out.alloc (.cells #[.int .i64 xa, .int .i64 xb] 80)).below hb3)
      have hs3 := hB3.size
      have z0 : w3.cell? ⟨wr.heap.size, 0, none⟩ = some (.int .i64 xa) := Holds.cell bx rfl
      have z1 : w3.cell? ⟨wr.heap.size, 1, none⟩ = some (.int .i64 xb) := Holds.cell bx rfl
      have zf0 : w3.frozen? ⟨wr.heap.size, 0, none⟩ = false := Holds.free bx
      have zf1 : w3.frozen? ⟨wr.heap.size, 1, none⟩ = false := Holds.free bx
      obtain ⟨G, hG⟩ : ∃ G : Nat, Int.gcd xa xb = G := ⟨_, rfl⟩
      rw [hG]
      have hgb : gB ⟨xa, xb⟩ = ((G : Int) == 1) := by unfold gB; rw [hG]
      rw [hgb] at Htk
      clear hb3 bx hG hgb
      cases hg : ((G : Int) == 1) with
      | true =>
        have HN : Hid (primL (l.take (k + 1)) = primL (l.take k) ++ [⟨xa, xb⟩]) := Lib.hid (by rw [Htk.out, if_pos hg])
        have Hp2 := Lib.hid (gP.out.alloc (.cells (cP ⟨xa, xb⟩) 80))
        have Hn2 : Hid (Holds (w3.alloc (.cells (cP ⟨xa, xb⟩) 80)) w3.heap.size (cP ⟨xa, xb⟩) 80) := Lib.hid (Holds.new _ _ _)
        have HB2 := Lib.hid (hB3.alloc hs3 (.cells (cP ⟨xa, xb⟩) 80))
        clear gP hB3
        go_wp2_with (at_builtin; refine app_pt (w).heap.size (primL (l.take k)) ⟨xa, xb⟩ u3 _ _ _ rfl rfl rfl rfl Hp2.out Hn2.out hplen (by simp; omega) ?_)
        intro v6 w6 hown6 hgrow6
        have hB6 : Below (w).heap.size (w) w6 := below_grownP HB2.out Hp2.out hgrow6 (by simp; omega)
        have Hown6 := Lib.hid hown6
        clear z0 z1 zf0 zf1
        clear hown6 hgrow6 Hp2 Hn2 HB2
        go_wp2_with fail
        go_roundw
        case rel => exact ⟨k + 1, by go_num, by omega, by rw [HN.out]; exact Hown6.out, hB6⟩
        case measure => simp [intOf]; omega
      | false =>
        have HN : Hid (primL (l.take (k + 1)) = primL (l.take k)) := Lib.hid (by rw [Htk.out, if_neg (by rw [hg]; decide), List.append_nil])
        go_wp2_with fail
        go_roundw
        case rel => exact ⟨k + 1, by go_num, by omega, by rw [HN.out]; exact gP.out, hB3⟩
        case measure => simp [intOf]; omega
    · obtain rfl : k = l.length := by omega
      have HptE : Hid (Pts wr (w).heap.size u3 (primL l)) := Lib.hid (by have := Hpt.out; rwa [List.take_length] at this)
      clear Hpt
      go_wp2_with fail
      go_ret
      exact ⟨_, rfl, HptE.out, hB⟩
theorem spec_PrimitivePoints (a b c n : Int) (l : List Pt) (v : Bool) (w : World) (h : PrOut a b c n l v) :
    Calls Try.prog 30 #[.agg #[.int .i64 a, .int .i64 b, .int .i64 c], .int .i64 n] w fun e w' => ∃ u, e = .returned (.tuple #[u, .bool v]) ∧ Pts w' w.heap.size u l ∧ Below w.heap.size w w' := by
  rcases h with ⟨h, rfl, rfl⟩ | ⟨h, rfl, rfl⟩
  · have Hbd := Lib.hid (ptsL_bd h)
    have hlen := ptsL_len h
    obtain ⟨hs, hn⟩ := vok_iff.1 h
    have Hs := Lib.hid hs
    clear hs
    have Hn := Lib.hid hn
    clear hn
    have H := Lib.hid h
    clear h
    go_enter Try.func30, Try.ntmps30
    go_wp2_with fail
    refine (spec_vaForm a b c true _ Hs.out).mono ?_
    rintro e w1 ⟨rfl, hb1⟩
    have hB1 : Below w.heap.size w w1 := Below.after (by go_grown) hb1
    obtain ⟨hc1, hf1⟩ := bcell hb1
    have hy1 := hb1.size
    try simp at hy1
    first | (with_reducible have hx1 := Nat.lt_of_succ_le hy1) | skip
    first | (with_reducible have hv1 := Nat.lt_of_succ_lt hx1) | skip
    first | (with_reducible have hu1 := Nat.lt_of_succ_lt hv1) | skip
    first | (have hz1 : w.heap.size < w1.heap.size := by omega) | (have hz1 := hB1.size)
    clear hb1
    go_wp2_with fail
    refine (spec_vaShown n true _ Hn.out).mono ?_
    rintro e w' ⟨rfl, rfl⟩
    go_wp2_with fail
    refine (spec_vaAt a b c n _ H.out).mono ?_
    rintro e w2 ⟨u, rfl, hp, hb2⟩
    have hB2 : Below w.heap.size w w2 := Below.after hB1 hb2
    have Hp := Lib.hid (hp.mono (B' := w.heap.size) (by omega))
    clear hp hb2
    have Hp2 : Hid (Pts w2 w.heap.size u (ptsL a b c n)) := Lib.hid Hp.out
    clear Hp
    go_wp2_with fail
    refine (spec_vaPrimitive (ptsL a b c n) u _ _ hlen Hbd.out Hp2.out).mono ?_
    rintro e w3 ⟨u3, rfl, hp3, hb3⟩
    have hB3 : Below w.heap.size w w3 := Below.after hB2 hb3
    have Hp3 := Lib.hid (hp3.mono (B' := w.heap.size) hB2.size)
    clear hp3 hb3
    go_wp2_with fail
    go_ret2
    exact ⟨_, rfl, Hp3.out, hB3⟩
  · rcases vok_no h with hs | ⟨hs, hn⟩
    · have Hs := Lib.hid hs
      clear hs
      clear h
      go_enter Try.func30, Try.ntmps30
      go_wp2_with fail
      refine (spec_vaForm a b c false _ Hs.out).mono ?_
      rintro e w1 ⟨rfl, hb1⟩
      have hB1 : Below w.heap.size w w1 := Below.after (by go_grown) hb1
      obtain ⟨hc1, hf1⟩ := bcell hb1
      have hy1 := hb1.size
      try simp at hy1
      first | (with_reducible have hx1 := Nat.lt_of_succ_le hy1) | skip
      first | (with_reducible have hv1 := Nat.lt_of_succ_lt hx1) | skip
      first | (with_reducible have hu1 := Nat.lt_of_succ_lt hv1) | skip
      first | (have hz1 : w.heap.size < w1.heap.size := by omega) | (have hz1 := hB1.size)
      clear hb1
      go_wp2_with fail
      go_ret2
      exact ⟨_, rfl, Pts.nil _ _, by go_grown⟩
    · have Hs := Lib.hid hs
      clear hs
      have Hn := Lib.hid hn
      clear hn
      clear h
      go_enter Try.func30, Try.ntmps30
      go_wp2_with fail
      refine (spec_vaForm a b c true _ Hs.out).mono ?_
      rintro e w1 ⟨rfl, hb1⟩
      have hB1 : Below w.heap.size w w1 := Below.after (by go_grown) hb1
      obtain ⟨hc1, hf1⟩ := bcell hb1
      have hy1 := hb1.size
      try simp at hy1
      first | (with_reducible have hx1 := Nat.lt_of_succ_le hy1) | skip
      first | (with_reducible have hv1 := Nat.lt_of_succ_lt hx1) | skip
      first | (with_reducible have hu1 := Nat.lt_of_succ_lt hv1) | skip
      first | (have hz1 : w.heap.size < w1.heap.size := by omega) | (have hz1 := hB1.size)
      clear hb1
      go_wp2_with fail
      refine (spec_vaShown n false _ Hn.out).mono ?_
      rintro e w' ⟨rfl, rfl⟩
      go_wp2_with fail
      go_ret2
      exact ⟨_, rfl, Pts.nil _ _, by go_grown⟩
set_option maxHeartbeats 1000000 in
theorem impl_PrimitivePoints (a b c n : Int) (m : List Pt) (v : Bool) (w : World) (h : PrOut a b c n m v) :
    Calls Try.prog 31 #[.agg #[.int .i64 a, .int .i64 b, .int .i64 c], .int .i64 n] w fun e w' => ∃ u, e = .returned (.tuple #[u, .bool v]) ∧ Pts w' w.heap.size u m ∧ Below w.heap.size w w' := by
  obtain ⟨l, hrep, hm, hlen, hbd⟩ : ∃ l, RepOut a b c n l v ∧ m = primL l ∧ l.length ≤ 1000000 ∧ ∀ p ∈ l, (-200000 ≤ p.x ∧ p.x ≤ 200000) ∧ (-200001 ≤ p.y ∧ p.y ≤ 200001) := by
    rcases h with ⟨h, rfl, rfl⟩ | ⟨h, rfl, rfl⟩
    · exact ⟨_, .inl ⟨h, rfl, rfl⟩, rfl, ptsL_len h, ptsL_bd h⟩
    · exact ⟨[], .inr ⟨h, rfl, rfl⟩, rfl, by simp, by simp⟩
  clear h
  subst hm
  have Hrep := Lib.hid hrep
  have Hbd := Lib.hid hbd
  clear hrep hbd
  go_enter Try.func31, Try.ntmps31
  go_wp2_with fail
  refine (impl_Representations a b c n l v _ Hrep.out).mono ?_
  rintro e w1 ⟨u, rfl, hu, hb1⟩
  have hB1 : Below w.heap.size w w1 := Below.after (by go_grown) hb1
  obtain ⟨p, cp, rfl, hml, hr⟩ := hu.view
  have Hr := Lib.hid hr
  have hs1 := hB1.size
  clear hu hr hb1
  go_wp2_with fail
  go_loopw [8, 20] (fun vl si wr => PrAt w1 l vl si wr) (fun _ si _ => l.length - (intOf si).toNat)
  case atStart => exact ⟨0, rfl, by omega, Pts.empty _ rfl (Nat.le_refl _), by go_grown⟩
  case round =>
    obtain ⟨k, rfl, hk, hpt, hB⟩ := hrel
    have hs := hB.size
    have Hpt := Lib.hid hpt
    have hplen : (primL (l.take k)).length ≤ 1000000 := by have := primL_len (l.take k); rw [List.length_take] at this; omega
    clear hpt
    by_cases hlt : k < l.length
    · obtain ⟨g, rfl, _, hg1, hc0, hc1, _⟩ := Hr.out k hlt
      have hbd := Hbd.out l[k] (List.getElem_mem hlt)
      have htk := primL_take hlt
      rcases hx : l[k] with ⟨xa, xb⟩
      rw [hx] at hc0 hc1 hbd htk
      obtain ⟨⟨xb1, xb2⟩, xb3, xb4⟩ := hbd
      simp only at xb1 xb2 xb3 xb4
      have d0 : wr.cell? ⟨g, k * 2, none⟩ = some (.int .i64 xa) := (hB.cell (p := ⟨g, k * 2, none⟩) hg1).trans hc0
      have d1 : wr.cell? ⟨g, k * 2 + 1, none⟩ = some (.int .i64 xb) := (hB.cell (p := ⟨g, k * 2 + 1, none⟩) hg1).trans hc1
      have Htk := Lib.hid htk
      clear hc0 hc1 hx htk
      go_wp2_with fail
      refine (impl_gcd xa xb _ ⟨by omega, by omega⟩ ⟨by omega, by omega⟩).mono ?_
      rintro e w3 ⟨rfl, hb3⟩
      have hB3 : Below (w1).heap.size (w1) w3 := Below.after (by go_grown) hb3
      have bx : Holds w3 wr.heap.size #[.int .i64 xa, .int .i64 xb] 80 := Holds.below (Holds.new _ _ _) hb3
      have gP := Lib.hid ((Hpt.out.alloc (.cells #[.int .i64 xa, .int .i64 xb] 80)).below hb3)
      have hs3 := hB3.size
      have z0 : w3.cell? ⟨wr.heap.size, 0, none⟩ = some (.int .i64 xa) := Holds.cell bx rfl
      have z1 : w3.cell? ⟨wr.heap.size, 1, none⟩ = some (.int .i64 xb) := Holds.cell bx rfl
      have zf0 : w3.frozen? ⟨wr.heap.size, 0, none⟩ = false := Holds.free bx
      have zf1 : w3.frozen? ⟨wr.heap.size, 1, none⟩ = false := Holds.free bx
      obtain ⟨G, hG⟩ : ∃ G : Nat, Int.gcd xa xb = G := ⟨_, rfl⟩
      rw [hG]
      have hgb : gB ⟨xa, xb⟩ = ((G : Int) == 1) := by unfold gB; rw [hG]
      rw [hgb] at Htk
      clear hb3 bx hG hgb
      cases hg : ((G : Int) == 1) with
      | true =>
        have HN : Hid (primL (l.take (k + 1)) = primL (l.take k) ++ [⟨xa, xb⟩]) := Lib.hid (by rw [Htk.out, if_pos hg])
        have Hp2 := Lib.hid (gP.out.alloc (.cells (cP ⟨xa, xb⟩) 80))
        have Hn2 : Hid (Holds (w3.alloc (.cells (cP ⟨xa, xb⟩) 80)) w3.heap.size (cP ⟨xa, xb⟩) 80) := Lib.hid (Holds.new _ _ _)
        have HB2 := Lib.hid (hB3.alloc hs3 (.cells (cP ⟨xa, xb⟩) 80))
        clear gP hB3
        go_wp2_with (at_builtin; refine app_pt (w1).heap.size (primL (l.take k)) ⟨xa, xb⟩ u8 _ _ _ rfl rfl rfl rfl Hp2.out Hn2.out hplen (by simp; omega) ?_)
        intro v6 w6 hown6 hgrow6
        have hB6 : Below (w1).heap.size (w1) w6 := below_grownP HB2.out Hp2.out hgrow6 (by simp; omega)
        have Hown6 := Lib.hid hown6
        clear z0 z1 zf0 zf1
        clear hown6 hgrow6 Hp2 Hn2 HB2
        go_wp2_with fail
        go_roundw
        case rel => exact ⟨k + 1, by go_num, by omega, by rw [HN.out]; exact Hown6.out, hB6⟩
        case measure => simp [intOf]; omega
      | false =>
        have HN : Hid (primL (l.take (k + 1)) = primL (l.take k)) := Lib.hid (by rw [Htk.out, if_neg (by rw [hg]; decide), List.append_nil])
        go_wp2_with fail
        go_roundw
        case rel => exact ⟨k + 1, by go_num, by omega, by rw [HN.out]; exact gP.out, hB3⟩
        case measure => simp [intOf]; omega
    · obtain rfl : k = l.length := by omega
      have HptE : Hid (Pts wr (w1).heap.size u8 (primL l)) := Lib.hid (by have := Hpt.out; rwa [List.take_length] at this)
      clear Hpt
      go_wp2_with fail
      go_ret2
      exact ⟨_, rfl, HptE.out.mono (by omega), Below.after hB1 hB⟩
set_option maxHeartbeats 1000000 in
theorem walkPr (a b c n : Int) (l : List Pt) (v : Bool) (w : World) (hlen : l.length ≤ 1000000) (h : PrOut a b c n l v) :
    Calls Try.prog 8 #[.agg #[.int .i64 a, .int .i64 b, .int .i64 c], .int .i64 n] w fun e w' => e = .returned (.bool true) ∧ Below w.heap.size w w' := by
  have H := Lib.hid h
  clear h
  go_enter Try.func8, Try.ntmps8
  go_wp2_with fail
  refine (laws_toForm a b c _).mono ?_
  rintro e w1 ⟨rfl, hb1⟩
  have hB1 : Below w.heap.size w w1 := Below.after (by go_grown) hb1
  have a1 : Holds w1 w.heap.size (#[.int .i64 a, .int .i64 b, .int .i64 c]) 23 := Holds.below (by repeat (first | (refine Holds.new' _ _ _ ?_; simp; done) | refine Holds.alloc ?_ _ | refine Holds.far ?_ (by first | omega | (simp; done) | (simp; omega)))) hb1
  clear hb1
  go_wp2_with fail
  refine (spec_PrimitivePoints a b c n l v _ H.out).mono ?_
  rintro e w2 ⟨v0, rfl, h0, hb2⟩
  have hB2 : Below w.heap.size w w2 := Below.after hB1 hb2
  have a2 := Holds.below a1 hb2
  have H0 := Lib.hid h0
  clear h0 hb2 a1 hB1
  have hz2 := a2.lt
  have y0 : w2.cell? ⟨w.heap.size, 0, none⟩ = some (.int .i64 a) := Holds.cell a2 rfl
  have y1 : w2.cell? ⟨w.heap.size, 1, none⟩ = some (.int .i64 b) := Holds.cell a2 rfl
  have y2 : w2.cell? ⟨w.heap.size, 2, none⟩ = some (.int .i64 c) := Holds.cell a2 rfl
  have yf0 : w2.frozen? ⟨w.heap.size, 0, none⟩ = false := Holds.free a2
  have yf1 : w2.frozen? ⟨w.heap.size, 1, none⟩ = false := Holds.free a2
  have yf2 : w2.frozen? ⟨w.heap.size, 2, none⟩ = false := Holds.free a2
  go_wp2_with fail
  refine (laws_toForm a b c _).mono ?_
  rintro e w3 ⟨rfl, hb3⟩
  have hB3 : Below w.heap.size w w3 := Below.after hB2 hb3
  have a3 := Holds.below a2 hb3
  have H03 := Lib.hid (H0.out.below hb3)
  clear y0 y1 y2 yf0 yf1 yf2
  clear a2 hb3 hB2 H0
  go_wp2_with fail
  refine (impl_PrimitivePoints a b c n l v _ H.out).mono ?_
  rintro e w4 ⟨v1, rfl, h1, hb4⟩
  have hB4 : Below w.heap.size w w4 := Below.after hB3 hb4
  have hz4 := hB4.size
  have hz3 := a3.lt
  have hz34 := hb4.size
  have hsep := sep_ofP H03.out h1
  have h0' := H03.out.below hb4
  have a4 := Holds.below a3 hb4
  clear hb4 hB3 H03 a3
  have Hsep := Lib.hid hsep
  have H0 := Lib.hid h0'
  have H1 := Lib.hid h1
  clear hsep h0' h1
  go_wp2_with fail
  refine (laws_eqPointS l v1 v0 w3.heap.size w1.heap.size _ hlen H1.out H0.out).mono ?_
  rintro e w5 ⟨rfl, hb5⟩
  have hB5 : Below w.heap.size w w5 := Below.after hB4 hb5
  have hz5 := hB5.size
  have H05 := Lib.hid (H0.out.below hb5)
  have H15 := Lib.hid (H1.out.below hb5)
  have a5 := Holds.below a4 hb5
  have hz35 : w3.heap.size ≤ w5.heap.size := by have := hb5.size; omega
  clear hb5 H0 H1 hB4 a4
  go_wp2_with fail
  refine (laws_markPointS l v1 w3.heap.size _ hlen H15.out).mono ?_
  rintro e w6 ⟨rfl, h6, hg6⟩
  have hB6 : Below w.heap.size w w6 := below_grownP hB5 (H15.out.mono (by omega)) hg6 (by omega)
  have hz6 := hg6.size
  have H06 := Lib.hid (H05.out.kept hg6 Hsep.out)
  have H6 := Lib.hid h6
  have a6 : Holds w6 w.heap.size (#[.int .i64 a, .int .i64 b, .int .i64 c]) 23 := (hg6.block _ a5.lt (H15.out.ne (by omega))).trans a5
  clear h6 hg6 H05 H15 hB5 Hsep a5
  go_wp2_with fail
  refine (laws_heldPointS l.length v1 w3.heap.size _ hlen H6.out).mono ?_
  rintro e w' ⟨rfl, rfl⟩
  have y0 : w6.cell? ⟨w.heap.size, 0, none⟩ = some (.int .i64 a) := Holds.cell a6 rfl
  have y1 : w6.cell? ⟨w.heap.size, 1, none⟩ = some (.int .i64 b) := Holds.cell a6 rfl
  have y2 : w6.cell? ⟨w.heap.size, 2, none⟩ = some (.int .i64 c) := Holds.cell a6 rfl
  have yf0 : w6.frozen? ⟨w.heap.size, 0, none⟩ = false := Holds.free a6
  have yf1 : w6.frozen? ⟨w.heap.size, 1, none⟩ = false := Holds.free a6
  have yf2 : w6.frozen? ⟨w.heap.size, 2, none⟩ = false := Holds.free a6
  go_wp2_with fail
  refine (laws_toForm a b c _).mono ?_
  rintro e w7 ⟨rfl, hb7⟩
  have hB7 : Below w.heap.size w w7 := Below.after hB6 hb7
  have H07 := Lib.hid (H06.out.below hb7)
  have H17 := Lib.hid (H6.out.below hb7)
  clear y0 y1 y2 yf0 yf1 yf2
  clear a6 hb7 hB6 H06 H6
  go_wp2_with fail
  refine (impl_PrimitivePoints a b c n l v _ H.out).mono ?_
  rintro e w8 ⟨v2, rfl, h8, hb8⟩
  have hB8 : Below w.heap.size w w8 := Below.after hB7 hb8
  have H08 := Lib.hid (H07.out.below hb8)
  have H18 := Lib.hid (H17.out.below hb8)
  have H28 := Lib.hid h8
  clear hb8 hB7 h8 H07 H17
  go_wp2_with fail
  refine (laws_eqPointS l v2 v0 _ w1.heap.size _ hlen H28.out H08.out).mono ?_
  rintro e w9 ⟨rfl, hb9⟩
  have hB9 : Below w.heap.size w w9 := Below.after hB8 hb9
  have H19 := Lib.hid (H18.out.below hb9)
  clear hb9 hB8 H08 H28 H18
  go_wp2_with fail
  refine (laws_heldPointS l.length v1 w3.heap.size _ hlen H19.out).mono ?_
  rintro e w' ⟨rfl, rfl⟩
  go_wp2_with fail
  go_ret
  exact ⟨rfl, hB9⟩
theorem walkPrimitivePoints (a b c n : Int) (w : World) (wa : (Lit.int .i64 a).wf = true) (wb : (Lit.int .i64 b).wf = true) (wc : (Lit.int .i64 c).wf = true) (wn : (Lit.int .i64 n).wf = true) :
    Calls Try.prog 8 #[.agg #[.int .i64 a, .int .i64 b, .int .i64 c], .int .i64 n] w fun e w' => e = .returned (.bool true) ∧ Below w.heap.size w w' := by
  obtain ⟨l, v, h, hlen⟩ := prOut_ex a b c n
  exact walkPr a b c n l v w hlen h
end Go.Proofs.Ytiblpagbloflhaa
