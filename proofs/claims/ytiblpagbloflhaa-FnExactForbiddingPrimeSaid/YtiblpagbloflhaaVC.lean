/- Contracts and walks of the laws: representations, their number, whether there is one, the primitive ones. -/
import Derived.Test.YtiblpagbloflhaaVB
namespace Go.Proofs.Ytiblpagbloflhaa
set_option linter.unusedVariables false
open Go.ChangeShapes Go.WideShapes Go.ChangeAt Go.RowKit

def ptsL (a b c n : Int) : List Pt := listS a b c n (bndY a b c n + 1).toNat
theorem ptsL_len {a b c n : Int} (h : VOk a b c n) : (ptsL a b c n).length ≤ 1000000 := by
  have h1 := listS_len a b c n (bndY a b c n + 1).toNat
  have h2 := bndY_bd h
  unfold ptsL
  omega
def shB (n : Int) : Bool := decide (1 ≤ n) && decide (n ≤ 10000)
theorem vok_iff {a b c n : Int} : VOk a b c n ↔ shownB a b c = true ∧ shB n = true := by
  unfold VOk shB; simp
theorem vok_no {a b c n : Int} (h : ¬ VOk a b c n) : shownB a b c = false ∨ (shownB a b c = true ∧ shB n = false) := by
  cases h1 : shownB a b c with
  | false => exact .inl rfl
  | true =>
    right
    refine ⟨rfl, ?_⟩
    cases h2 : shB n with
    | false => rfl
    | true => exact absurd (vok_iff.2 ⟨h1, h2⟩) h
theorem spec_vaShown (n : Int) (v : Bool) (w : World) (hv : shB n = v) :
    Calls Try.prog 73 #[.int .i64 n] w fun e w' => e = .returned (.bool v) ∧ w = w' := by
  have Hv : Hid ((decide (1 ≤ n) && decide (n ≤ 10000)) = v) := Lib.hid hv
  clear hv
  go_enter Try.func73, Try.ntmps73
  go_wp2_with fail
  refine (spec_l1In n 1 10000 v _ Hv.out).mono ?_
  rintro e w' ⟨rfl, rfl⟩
  go_wp2
  go_ret
  exact ⟨rfl, rfl⟩
theorem impl_isShown (n : Int) (v : Bool) (w : World) (hv : shB n = v) :
    Calls Try.prog 80 #[.int .i64 n] w fun e w' => e = .returned (.bool v) ∧ w = w' := by
  have Hv := Lib.hid hv.symm
  clear hv
  by_cases h1 : 1 ≤ n
  · by_cases h2 : n ≤ 10000
    · go_enter Try.func80, Try.ntmps80
      go_wp2
      go_ret
      exact ⟨rbool (by rw [Hv.out]; simp [shB, h1, h2]), rfl⟩
    · have h2' : 10000 < n := by omega
      clear h2
      go_enter Try.func80, Try.ntmps80
      go_wp2
      go_ret
      exact ⟨rbool (by rw [Hv.out]; simp [shB]; omega), rfl⟩
  · have h1' : n < 1 := by omega
    clear h1
    go_enter Try.func80, Try.ntmps80
    go_wp2
    go_ret
    exact ⟨rbool (by rw [Hv.out]; simp [shB]; omega), rfl⟩
/-- what Representations hands back -/
def RepOut (a b c n : Int) (l : List Pt) (v : Bool) : Prop := (VOk a b c n ∧ l = ptsL a b c n ∧ v = true) ∨ (¬ VOk a b c n ∧ l = [] ∧ v = false)
theorem repOut_ex (a b c n : Int) : ∃ l v, RepOut a b c n l v ∧ l.length ≤ 1000000 := by
  by_cases h : VOk a b c n
  · exact ⟨_, _, .inl ⟨h, rfl, rfl⟩, ptsL_len h⟩
  · exact ⟨_, _, .inr ⟨h, rfl, rfl⟩, by simp⟩
theorem spec_Representations (a b c n : Int) (l : List Pt) (v : Bool) (w : World) (h : RepOut a b c n l v) :
    Calls Try.prog 21 #[.agg #[.int .i64 a, .int .i64 b, .int .i64 c], .int .i64 n] w fun e w' => ∃ u, e = .returned (.tuple #[u, .bool v]) ∧ Pts w' w.heap.size u l ∧ Below w.heap.size w w' := by
  rcases h with ⟨h, rfl, rfl⟩ | ⟨h, rfl, rfl⟩
  · obtain ⟨hs, hn⟩ := vok_iff.1 h
    have Hs := Lib.hid hs
    clear hs
    have Hn := Lib.hid hn
    clear hn
    have H := Lib.hid h
    clear h
    go_enter Try.func21, Try.ntmps21
    go_wp2_with fail
    refine (spec_vaForm a b c true _ Hs.out).mono ?_
    rintro e w1 ⟨rfl, hb1⟩
    have hB1 : Below w.heap.size w w1 := Below.after (by go_grown) hb1
    obtain ⟨hc1, hf1⟩ := bcell hb1
    have hy1 := hb1.size
    try simp at hy1
    first | (with_reducible have hx1 := Nat.lt_of_succ_le hy1) | skip
    first | (with_reducible have hv1 := Nat.lt_of_succ_lt hx1) | skip
    first | (with_reducible have hu1 := Nat.lt_of_succ_lt hv1) | skip
    first | (have hz1 : w.heap.size < w1.heap.size := by omega) | (have hz1 := hB1.size)
    clear hb1
    go_wp2_with fail
    refine (spec_vaShown n true _ Hn.out).mono ?_
    rintro e w' ⟨rfl, rfl⟩
    go_wp2_with fail
    refine (spec_vaAt a b c n _ H.out).mono ?_
    rintro e w2 ⟨u, rfl, hp, hb2⟩
    have hB2 : Below w.heap.size w w2 := Below.after hB1 hb2
    have Hp := Lib.hid (hp.mono (B' := w.heap.size) (by omega))
    clear hp hb2
    go_wp2_with fail
    go_ret2
    exact ⟨_, rfl, Hp.out, hB2⟩
  · rcases vok_no h with hs | ⟨hs, hn⟩
    · have Hs := Lib.hid hs
      clear hs
      clear h
      go_enter Try.func21, Try.ntmps21
      go_wp2_with fail
      refine (spec_vaForm a b c false _ Hs.out).mono ?_
      rintro e w1 ⟨rfl, hb1⟩
      have hB1 : Below w.heap.size w w1 := Below.after (by go_grown) hb1
      obtain ⟨hc1, hf1⟩ := bcell hb1
      have hy1 := hb1.size
      try simp at hy1
      first | (with_reducible have hx1 := Nat.lt_of_succ_le hy1) | skip
      first | (with_reducible have hv1 := Nat.lt_of_succ_lt hx1) | skip
      first | (with_reducible have hu1 := Nat.lt_of_succ_lt hv1) | skip
      first | (have hz1 : w.heap.size < w1.heap.size := by omega) | (have hz1 := hB1.size)
      clear hb1
      go_wp2_with fail
      go_ret2
      exact ⟨_, rfl, Pts.nil _ _, by go_grown⟩
    · have Hs := Lib.hid hs
      clear hs
      have Hn := Lib.hid hn
      clear hn
      clear h
      go_enter Try.func21, Try.ntmps21
      go_wp2_with fail
      refine (spec_vaForm a b c true _ Hs.out).mono ?_
      rintro e w1 ⟨rfl, hb1⟩
      have hB1 : Below w.heap.size w w1 := Below.after (by go_grown) hb1
      obtain ⟨hc1, hf1⟩ := bcell hb1
      have hy1 := hb1.size
      try simp at hy1
      first | (with_reducible have hx1 := Nat.lt_of_succ_le hy1) | skip
      first | (with_reducible have hv1 := Nat.lt_of_succ_lt hx1) | skip
      first | (with_reducible have hu1 := Nat.lt_of_succ_lt hv1) | skip
      first | (have hz1 : w.heap.size < w1.heap.size := by omega) | (have hz1 := hB1.size)
      clear hb1
      go_wp2_with fail
      refine (spec_vaShown n false _ Hn.out).mono ?_
      rintro e w' ⟨rfl, rfl⟩
      go_wp2_with fail
      go_ret2
      exact ⟨_, rfl, Pts.nil _ _, by go_grown⟩
theorem impl_Representations (a b c n : Int) (l : List Pt) (v : Bool) (w : World) (h : RepOut a b c n l v) :
    Calls Try.prog 22 #[.agg #[.int .i64 a, .int .i64 b, .int .i64 c], .int .i64 n] w fun e w' => ∃ u, e = .returned (.tuple #[u, .bool v]) ∧ Pts w' w.heap.size u l ∧ Below w.heap.size w w' := by
  rcases h with ⟨h, rfl, rfl⟩ | ⟨h, rfl, rfl⟩
  · have Hsame := Lib.hid (points_same h)
    obtain ⟨hs, hn⟩ := vok_iff.1 h
    have Hs := Lib.hid hs
    clear hs
    have Hn := Lib.hid hn
    clear hn
    have H := Lib.hid h
    clear h
    go_enter Try.func22, Try.ntmps22
    go_wp2_with fail
    refine (impl_isShownForm a b c true _ Hs.out).mono ?_
    rintro e w1 ⟨rfl, hb1⟩
    have hB1 : Below w.heap.size w w1 := Below.after (by go_grown) hb1
    obtain ⟨hc1, hf1⟩ := bcell hb1
    have hy1 := hb1.size
    try simp at hy1
    first | (with_reducible have hx1 := Nat.lt_of_succ_le hy1) | skip
    first | (with_reducible have hv1 := Nat.lt_of_succ_lt hx1) | skip
    first | (with_reducible have hu1 := Nat.lt_of_succ_lt hv1) | skip
    first | (have hz1 : w.heap.size < w1.heap.size := by omega) | (have hz1 := hB1.size)
    clear hb1
    go_wp2_with fail
    refine (impl_isShown n true _ Hn.out).mono ?_
    rintro e w' ⟨rfl, rfl⟩
    go_wp2_with fail
    refine (impl_points a b c n _ H.out).mono ?_
    rintro e w2 ⟨u, rfl, hp, hb2⟩
    have hB2 : Below w.heap.size w w2 := Below.after hB1 hb2
    have Hp := Lib.hid (hp.mono (B' := w.heap.size) (by omega))
    clear hp hb2
    go_wp2_with fail
    go_ret2
    exact ⟨_, rfl, by unfold ptsL; rw [← Hsame.out]; exact Hp.out, hB2⟩
  · rcases vok_no h with hs | ⟨hs, hn⟩
    · have Hs := Lib.hid hs
      clear hs
      clear h
      go_enter Try.func22, Try.ntmps22
      go_wp2_with fail
      refine (impl_isShownForm a b c false _ Hs.out).mono ?_
      rintro e w1 ⟨rfl, hb1⟩
      have hB1 : Below w.heap.size w w1 := Below.after (by go_grown) hb1
      obtain ⟨hc1, hf1⟩ := bcell hb1
      have hy1 := hb1.size
      try simp at hy1
      first | (with_reducible have hx1 := Nat.lt_of_succ_le hy1) | skip
      first | (with_reducible have hv1 := Nat.lt_of_succ_lt hx1) | skip
      first | (with_reducible have hu1 := Nat.lt_of_succ_lt hv1) | skip
      first | (have hz1 : w.heap.size < w1.heap.size := by omega) | (have hz1 := hB1.size)
      clear hb1
      go_wp2_with fail
      go_ret2
      exact ⟨_, rfl, Pts.empty _ (by simp) (by go_size), by go_grown⟩
    · have Hs := Lib.hid hs
      clear hs
      have Hn := Lib.hid hn
      clear hn
      clear h
      go_enter Try.func22, Try.ntmps22
      go_wp2_with fail
      refine (impl_isShownForm a b c true _ Hs.out).mono ?_
      rintro e w1 ⟨rfl, hb1⟩
      have hB1 : Below w.heap.size w w1 := Below.after (by go_grown) hb1
      obtain ⟨hc1, hf1⟩ := bcell hb1
      have hy1 := hb1.size
      try simp at hy1
      first | (with_reducible have hx1 := Nat.lt_of_succ_le hy1) | skip
      first | (with_reducible have hv1 := Nat.lt_of_succ_lt hx1) | skip
      first | (with_reducible have hu1 := Nat.lt_of_succ_lt hv1) | skip
      first | (have hz1 : w.heap.size < w1.heap.size := by omega) | (have hz1 := hB1.size)
      clear hb1
      go_wp2_with fail
      refine (impl_isShown n false _ Hn.out).mono ?_
      rintro e w' ⟨rfl, rfl⟩
      go_wp2_with fail
      go_ret2
      exact ⟨_, rfl, Pts.empty _ (by simp) (by go_size), by go_grown⟩
set_option maxHeartbeats 1000000 in
theorem walkRep (a b c n : Int) (l : List Pt) (v : Bool) (w : World) (hlen : l.length ≤ 1000000) (h : RepOut a b c n l v) :
    Calls Try.prog 6 #[.agg #[.int .i64 a, .int .i64 b, .int .i64 c], .int .i64 n] w fun e w' => e = .returned (.bool true) ∧ Below w.heap.size w w' := by
  have H := Lib.hid h
  clear h
  go_enter Try.func6, Try.ntmps6
  go_wp2_with fail
  refine (laws_toForm a b c _).mono ?_
  rintro e w1 ⟨rfl, hb1⟩
  have hB1 : Below w.heap.size w w1 := Below.after (by go_grown) hb1
  have a1 : Holds w1 w.heap.size (#[.int .i64 a, .int .i64 b, .int .i64 c]) 23 := Holds.below (by repeat (first | (refine Holds.new' _ _ _ ?_; simp; done) | refine Holds.alloc ?_ _ | refine Holds.far ?_ (by first | omega | (simp; done) | (simp; omega)))) hb1
  clear hb1
  go_wp2_with fail
  refine (spec_Representations a b c n l v _ H.out).mono ?_
  rintro e w2 ⟨v0, rfl, h0, hb2⟩
  have hB2 : Below w.heap.size w w2 := Below.after hB1 hb2
  have a2 := Holds.below a1 hb2
  have H0 := Lib.hid h0
  clear h0 hb2 a1 hB1
  have hz2 := a2.lt
  have y0 : w2.cell? ⟨w.heap.size, 0, none⟩ = some (.int .i64 a) := Holds.cell a2 rfl
  have y1 : w2.cell? ⟨w.heap.size, 1, none⟩ = some (.int .i64 b) := Holds.cell a2 rfl
  have y2 : w2.cell? ⟨w.heap.size, 2, none⟩ = some (.int .i64 c) := Holds.cell a2 rfl
  have yf0 : w2.frozen? ⟨w.heap.size, 0, none⟩ = false := Holds.free a2
  have yf1 : w2.frozen? ⟨w.heap.size, 1, none⟩ = false := Holds.free a2
  have yf2 : w2.frozen? ⟨w.heap.size, 2, none⟩ = false := Holds.free a2
  go_wp2_with fail
  refine (laws_toForm a b c _).mono ?_
  rintro e w3 ⟨rfl, hb3⟩
  have hB3 : Below w.heap.size w w3 := Below.after hB2 hb3
  have a3 := Holds.below a2 hb3
  have H03 := Lib.hid (H0.out.below hb3)
  clear y0 y1 y2 yf0 yf1 yf2
  clear a2 hb3 hB2 H0
  go_wp2_with fail
  refine (impl_Representations a b c n l v _ H.out).mono ?_
  rintro e w4 ⟨v1, rfl, h1, hb4⟩
  have hB4 : Below w.heap.size w w4 := Below.after hB3 hb4
  have hz4 := hB4.size
  have hz3 := a3.lt
  have hz34 := hb4.size
  have hsep := sep_ofP H03.out h1
  have h0' := H03.out.below hb4
  have a4 := Holds.below a3 hb4
  clear hb4 hB3 H03 a3
  have Hsep := Lib.hid hsep
  have H0 := Lib.hid h0'
  have H1 := Lib.hid h1
  clear hsep h0' h1
  go_wp2_with fail
  refine (laws_eqPointS l v1 v0 w3.heap.size w1.heap.size _ hlen H1.out H0.out).mono ?_
  rintro e w5 ⟨rfl, hb5⟩
  have hB5 : Below w.heap.size w w5 := Below.after hB4 hb5
  have hz5 := hB5.size
  have H05 := Lib.hid (H0.out.below hb5)
  have H15 := Lib.hid (H1.out.below hb5)
  have a5 := Holds.below a4 hb5
  have hz35 : w3.heap.size ≤ w5.heap.size := by have := hb5.size; omega
  clear hb5 H0 H1 hB4 a4
  go_wp2_with fail
  refine (laws_markPointS l v1 w3.heap.size _ hlen H15.out).mono ?_
  rintro e w6 ⟨rfl, h6, hg6⟩
  have hB6 : Below w.heap.size w w6 := below_grownP hB5 (H15.out.mono (by omega)) hg6 (by omega)
  have hz6 := hg6.size
  have H06 := Lib.hid (H05.out.kept hg6 Hsep.out)
  have H6 := Lib.hid h6
  have a6 : Holds w6 w.heap.size (#[.int .i64 a, .int .i64 b, .int .i64 c]) 23 := (hg6.block _ a5.lt (H15.out.ne (by omega))).trans a5
  clear h6 hg6 H05 H15 hB5 Hsep a5
  go_wp2_with fail
  refine (laws_heldPointS l.length v1 w3.heap.size _ hlen H6.out).mono ?_
  rintro e w' ⟨rfl, rfl⟩
  have y0 : w6.cell? ⟨w.heap.size, 0, none⟩ = some (.int .i64 a) := Holds.cell a6 rfl
  have y1 : w6.cell? ⟨w.heap.size, 1, none⟩ = some (.int .i64 b) := Holds.cell a6 rfl
  have y2 : w6.cell? ⟨w.heap.size, 2, none⟩ = some (.int .i64 c) := Holds.cell a6 rfl
  have yf0 : w6.frozen? ⟨w.heap.size, 0, none⟩ = false := Holds.free a6
  have yf1 : w6.frozen? ⟨w.heap.size, 1, none⟩ = false := Holds.free a6
  have yf2 : w6.frozen? ⟨w.heap.size, 2, none⟩ = false := Holds.free a6
  go_wp2_with fail
  refine (laws_toForm a b c _).mono ?_
  rintro e w7 ⟨rfl, hb7⟩
  have hB7 : Below w.heap.size w w7 := Below.after hB6 hb7
  have H07 := Lib.hid (H06.out.below hb7)
  have H17 := Lib.hid (H6.out.below hb7)
  clear y0 y1 y2 yf0 yf1 yf2
  clear a6 hb7 hB6 H06 H6
  go_wp2_with fail
  refine (impl_Representations a b c n l v _ H.out).mono ?_
  rintro e w8 ⟨v2, rfl, h8, hb8⟩
  have hB8 : Below w.heap.size w w8 := Below.after hB7 hb8
  have H08 := Lib.hid (H07.out.below hb8)
  have H18 := Lib.hid (H17.out.below hb8)
  have H28 := Lib.hid h8
  clear hb8 hB7 h8 H07 H17
  go_wp2_with fail
  refine (laws_eqPointS l v2 v0 _ w1.heap.size _ hlen H28.out H08.out).mono ?_
  rintro e w9 ⟨rfl, hb9⟩
  have hB9 : Below w.heap.size w w9 := Below.after hB8 hb9
  have H19 := Lib.hid (H18.out.below hb9)
  clear hb9 hB8 H08 H28 H18
  go_wp2_with fail
  refine (laws_heldPointS l.length v1 w3.heap.size _ hlen H19.out).mono ?_
  rintro e w' ⟨rfl, rfl⟩
  go_wp2_with fail
  go_ret
  exact ⟨rfl, hB9⟩
theorem walkRepresentations (a b c n : Int) (w : World) (wa : (Lit.int .i64 a).wf = true) (wb : (Lit.int .i64 b).wf = true) (wc : (Lit.int .i64 c).wf = true) (wn : (Lit.int .i64 n).wf = true) :
    Calls Try.prog 6 #[.agg #[.int .i64 a, .int .i64 b, .int .i64 c], .int .i64 n] w fun e w' => e = .returned (.bool true) ∧ Below w.heap.size w w' := by
  obtain ⟨l, v, h, hlen⟩ := repOut_ex a b c n
  exact walkRep a b c n l v w hlen h
/-! the number of points, and whether there is one -/
theorem spec_CountRepresentations (a b c n : Int) (l : List Pt) (v : Bool) (w : World) (hlen : l.length ≤ 1000000) (h : RepOut a b c n l v) :
    Calls Try.prog 14 #[.agg #[.int .i64 a, .int .i64 b, .int .i64 c], .int .i64 n] w fun e w' => e = .returned (.tuple #[.int .i64 (l.length : Int), .bool v]) ∧ Below w.heap.size w w' := by
  rcases h with ⟨h, rfl, rfl⟩ | ⟨h, rfl, rfl⟩
  · obtain ⟨hs, hn⟩ := vok_iff.1 h
    have Hs := Lib.hid hs
    clear hs
    have Hn := Lib.hid hn
    clear hn
    have H := Lib.hid h
    clear h
    go_enter Try.func14, Try.ntmps14
    go_wp2_with fail
    refine (spec_vaForm a b c true _ Hs.out).mono ?_
    rintro e w1 ⟨rfl, hb1⟩
    have hB1 : Below w.heap.size w w1 := Below.after (by go_grown) hb1
    obtain ⟨hc1, hf1⟩ := bcell hb1
    have hy1 := hb1.size
    try simp at hy1
    first | (with_reducible have hx1 := Nat.lt_of_succ_le hy1) | skip
    first | (with_reducible have hv1 := Nat.lt_of_succ_lt hx1) | skip
    first | (with_reducible have hu1 := Nat.lt_of_succ_lt hv1) | skip
    first | (have hz1 : w.heap.size < w1.heap.size := by omega) | (have hz1 := hB1.size)
    clear hb1
    go_wp2_with fail
    refine (spec_vaShown n true _ Hn.out).mono ?_
    rintro e w' ⟨rfl, rfl⟩
    go_wp2_with fail
    refine (spec_vaAt a b c n _ H.out).mono ?_
    rintro e w2 ⟨u, rfl, hp, hb2⟩
    have hB2 : Below w.heap.size w w2 := Below.after hB1 hb2
    have Hp := Lib.hid (hp.mono (B' := w.heap.size) (by omega))
    clear hp hb2
    have hp : Pts w2 w.heap.size u (ptsL a b c n) := Hp.out
    obtain ⟨p, cp, rfl, hml, -⟩ := hp.view
    clear hp Hp
    go_wp2_with fail
    go_ret2
    exact ⟨rfl, hB2⟩
  · rcases vok_no h with hs | ⟨hs, hn⟩
    · have Hs := Lib.hid hs
      clear hs
      clear h
      go_enter Try.func14, Try.ntmps14
      go_wp2_with fail
      refine (spec_vaForm a b c false _ Hs.out).mono ?_
      rintro e w1 ⟨rfl, hb1⟩
      have hB1 : Below w.heap.size w w1 := Below.after (by go_grown) hb1
      obtain ⟨hc1, hf1⟩ := bcell hb1
      have hy1 := hb1.size
      try simp at hy1
      first | (with_reducible have hx1 := Nat.lt_of_succ_le hy1) | skip
      first | (with_reducible have hv1 := Nat.lt_of_succ_lt hx1) | skip
      first | (with_reducible have hu1 := Nat.lt_of_succ_lt hv1) | skip
      first | (have hz1 : w.heap.size < w1.heap.size := by omega) | (have hz1 := hB1.size)
      clear hb1
      go_wp2_with fail
      go_ret2
      exact ⟨rfl, by go_grown⟩
    · have Hs := Lib.hid hs
      clear hs
      have Hn := Lib.hid hn
      clear hn
      clear h
      go_enter Try.func14, Try.ntmps14
      go_wp2_with fail
      refine (spec_vaForm a b c true _ Hs.out).mono ?_
      rintro e w1 ⟨rfl, hb1⟩
      have hB1 : Below w.heap.size w w1 := Below.after (by go_grown) hb1
      obtain ⟨hc1, hf1⟩ := bcell hb1
      have hy1 := hb1.size
      try simp at hy1
      first | (with_reducible have hx1 := Nat.lt_of_succ_le hy1) | skip
      first | (with_reducible have hv1 := Nat.lt_of_succ_lt hx1) | skip
      first | (with_reducible have hu1 := Nat.lt_of_succ_lt hv1) | skip
      first | (have hz1 : w.heap.size < w1.heap.size := by omega) | (have hz1 := hB1.size)
      clear hb1
      go_wp2_with fail
      refine (spec_vaShown n false _ Hn.out).mono ?_
      rintro e w' ⟨rfl, rfl⟩
      go_wp2_with fail
      go_ret2
      exact ⟨rfl, by go_grown⟩
theorem impl_CountRepresentations (a b c n : Int) (l : List Pt) (v : Bool) (w : World) (hlen : l.length ≤ 1000000) (h : RepOut a b c n l v) :
    Calls Try.prog 16 #[.agg #[.int .i64 a, .int .i64 b, .int .i64 c], .int .i64 n] w fun e w' => e = .returned (.tuple #[.int .i64 (l.length : Int), .bool v]) ∧ Below w.heap.size w w' := by
  have H := Lib.hid h
  clear h
  go_enter Try.func16, Try.ntmps16
  go_wp2_with fail
  refine (impl_Representations a b c n l v _ H.out).mono ?_
  rintro e w2 ⟨u, rfl, hp, hb2⟩
  have hB2 : Below w.heap.size w w2 := Below.after (by go_grown) hb2
  obtain ⟨p, cp, rfl, hml, -⟩ := hp.view
  clear hp hb2
  go_wp2_with fail
  go_ret2
  exact ⟨rfl, hB2⟩
theorem spec_IsRepresented (a b c n : Int) (l : List Pt) (v r : Bool) (w : World) (hlen : l.length ≤ 1000000) (h : RepOut a b c n l v) (hr : decide (0 < l.length) = r) :
    Calls Try.prog 19 #[.agg #[.int .i64 a, .int .i64 b, .int .i64 c], .int .i64 n] w fun e w' => e = .returned (.tuple #[.bool r, .bool v]) ∧ Below w.heap.size w w' := by
  rcases h with ⟨h, rfl, rfl⟩ | ⟨h, rfl, rfl⟩
  · have Hr := Lib.hid hr
    clear hr
    obtain ⟨hs, hn⟩ := vok_iff.1 h
    have Hs := Lib.hid hs
    clear hs
    have Hn := Lib.hid hn
    clear hn
    have H := Lib.hid h
    clear h
    go_enter Try.func19, Try.ntmps19
    go_wp2_with fail
    refine (spec_vaForm a b c true _ Hs.out).mono ?_
    rintro e w1 ⟨rfl, hb1⟩
    have hB1 : Below w.heap.size w w1 := Below.after (by go_grown) hb1
    obtain ⟨hc1, hf1⟩ := bcell hb1
    have hy1 := hb1.size
    try simp at hy1
    first | (with_reducible have hx1 := Nat.lt_of_succ_le hy1) | skip
    first | (with_reducible have hv1 := Nat.lt_of_succ_lt hx1) | skip
    first | (with_reducible have hu1 := Nat.lt_of_succ_lt hv1) | skip
    first | (have hz1 : w.heap.size < w1.heap.size := by omega) | (have hz1 := hB1.size)
    clear hb1
    go_wp2_with fail
    refine (spec_vaShown n true _ Hn.out).mono ?_
    rintro e w' ⟨rfl, rfl⟩
    go_wp2_with fail
    refine (spec_vaAt a b c n _ H.out).mono ?_
    rintro e w2 ⟨u, rfl, hp, hb2⟩
    have hB2 : Below w.heap.size w w2 := Below.after hB1 hb2
    have Hp := Lib.hid (hp.mono (B' := w.heap.size) (by omega))
    clear hp hb2
    have hp : Pts w2 w.heap.size u (ptsL a b c n) := Hp.out
    obtain ⟨p, cp, rfl, hml, -⟩ := hp.view
    clear hp Hp
    have hr := Hr.out
    cases r with
    | true =>
      have h0 : 0 < (ptsL a b c n).length := by simpa using hr
      go_wp2_with fail
      all_goals (try go_ret2)
      all_goals exact ⟨rfl, hB2⟩
    | false =>
      have h0 : (ptsL a b c n).length = 0 := by simp only [decide_eq_false_iff_not] at hr; omega
      clear hr
      go_wp2_with fail
      all_goals (try go_ret2)
      all_goals exact ⟨rfl, hB2⟩
  · obtain rfl : r = false := by rw [← hr]; rfl
    clear hr
    rcases vok_no h with hs | ⟨hs, hn⟩
    · have Hs := Lib.hid hs
      clear hs
      clear h
      go_enter Try.func19, Try.ntmps19
      go_wp2_with fail
      refine (spec_vaForm a b c false _ Hs.out).mono ?_
      rintro e w1 ⟨rfl, hb1⟩
      have hB1 : Below w.heap.size w w1 := Below.after (by go_grown) hb1
      obtain ⟨hc1, hf1⟩ := bcell hb1
      have hy1 := hb1.size
      try simp at hy1
      first | (with_reducible have hx1 := Nat.lt_of_succ_le hy1) | skip
      first | (with_reducible have hv1 := Nat.lt_of_succ_lt hx1) | skip
      first | (with_reducible have hu1 := Nat.lt_of_succ_lt hv1) | skip
      first | (have hz1 : w.heap.size < w1.heap.size := by omega) | (have hz1 := hB1.size)
      clear hb1
      go_wp2_with fail
      go_ret2
      exact ⟨rfl, by go_grown⟩
    · have Hs := Lib.hid hs
      clear hs
      have Hn := Lib.hid hn
      clear hn
      clear h
      go_enter Try.func19, Try.ntmps19
      go_wp2_with fail
      refine (spec_vaForm a b c true _ Hs.out).mono ?_
      rintro e w1 ⟨rfl, hb1⟩
      have hB1 : Below w.heap.size w w1 := Below.after (by go_grown) hb1
      obtain ⟨hc1, hf1⟩ := bcell hb1
      have hy1 := hb1.size
      try simp at hy1
      first | (with_reducible have hx1 := Nat.lt_of_succ_le hy1) | skip
      first | (with_reducible have hv1 := Nat.lt_of_succ_lt hx1) | skip
      first | (with_reducible have hu1 := Nat.lt_of_succ_lt hv1) | skip
      first | (have hz1 : w.heap.size < w1.heap.size := by omega) | (have hz1 := hB1.size)
      clear hb1
      go_wp2_with fail
      refine (spec_vaShown n false _ Hn.out).mono ?_
      rintro e w' ⟨rfl, rfl⟩
      go_wp2_with fail
      go_ret2
      exact ⟨rfl, by go_grown⟩
theorem impl_IsRepresented (a b c n : Int) (l : List Pt) (v r : Bool) (w : World) (hlen : l.length ≤ 1000000) (h : RepOut a b c n l v) (hr : decide (0 < l.length) = r) :
    Calls Try.prog 20 #[.agg #[.int .i64 a, .int .i64 b, .int .i64 c], .int .i64 n] w fun e w' => e = .returned (.tuple #[.bool r, .bool v]) ∧ Below w.heap.size w w' := by
  have H := Lib.hid h
  clear h
  cases r with
  | true =>
    have h0 : 0 < l.length := by simpa using hr
    go_enter Try.func20, Try.ntmps20
    go_wp2_with fail
    refine (impl_CountRepresentations a b c n l v _ hlen H.out).mono ?_
    rintro e w1 ⟨rfl, hb1⟩
    have hB1 : Below w.heap.size w w1 := Below.after (by go_grown) hb1
    obtain ⟨hc1, hf1⟩ := bcell hb1
    have hy1 := hb1.size
    try simp at hy1
    first | (with_reducible have hx1 := Nat.lt_of_succ_le hy1) | skip
    first | (with_reducible have hv1 := Nat.lt_of_succ_lt hx1) | skip
    first | (with_reducible have hu1 := Nat.lt_of_succ_lt hv1) | skip
    first | (have hz1 : w.heap.size < w1.heap.size := by omega) | (have hz1 := hB1.size)
    clear hb1
    go_wp2_with fail
    all_goals (try go_ret2)
    all_goals exact ⟨rfl, hB1⟩
  | false =>
    have h0 : l.length = 0 := by simp only [decide_eq_false_iff_not] at hr; omega
    clear hr
    go_enter Try.func20, Try.ntmps20
    go_wp2_with fail
    refine (impl_CountRepresentations a b c n l v _ hlen H.out).mono ?_
    rintro e w1 ⟨rfl, hb1⟩
    have hB1 : Below w.heap.size w w1 := Below.after (by go_grown) hb1
    obtain ⟨hc1, hf1⟩ := bcell hb1
    have hy1 := hb1.size
    try simp at hy1
    first | (with_reducible have hx1 := Nat.lt_of_succ_le hy1) | skip
    first | (with_reducible have hv1 := Nat.lt_of_succ_lt hx1) | skip
    first | (with_reducible have hu1 := Nat.lt_of_succ_lt hv1) | skip
    first | (have hz1 : w.heap.size < w1.heap.size := by omega) | (have hz1 := hB1.size)
    clear hb1
    go_wp2_with fail
    all_goals (try go_ret2)
    all_goals exact ⟨rfl, hB1⟩
theorem walkCR (a b c n : Int) (l : List Pt) (v : Bool) (w : World) (hlen : l.length ≤ 1000000) (h : RepOut a b c n l v) :
    Calls Try.prog 3 #[.agg #[.int .i64 a, .int .i64 b, .int .i64 c], .int .i64 n] w fun e w' => e = .returned (.bool true) ∧ Below w.heap.size w w' := by
  have H := Lib.hid h
  clear h
  go_enter Try.func3, Try.ntmps3
  go_wp2_with fail
  refine (laws_toForm a b c _).mono ?_
  rintro e w1 ⟨rfl, hb1⟩
  have hB1 : Below w.heap.size w w1 := Below.after (by go_grown) hb1
  obtain ⟨hc1, hf1⟩ := bcell hb1
  have hy1 := hb1.size
  try simp at hy1
  first | (with_reducible have hx1 := Nat.lt_of_succ_le hy1) | skip
  first | (with_reducible have hv1 := Nat.lt_of_succ_lt hx1) | skip
  first | (with_reducible have hu1 := Nat.lt_of_succ_lt hv1) | skip
  first | (have hz1 : w.heap.size < w1.heap.size := by omega) | (have hz1 := hB1.size)
  clear hb1
  go_wp2_with fail
  refine (spec_CountRepresentations a b c n l v _ hlen H.out).mono ?_
  rintro e w2 ⟨rfl, hb2⟩
  have hB2 : Below w.heap.size w w2 := Below.after (by go_grown) hb2
  obtain ⟨hc2, hf2⟩ := bcell hb2
  have hy2 := hb2.size
  try simp at hy2
  first | (with_reducible have hx2 := Nat.lt_of_succ_le hy2) | skip
  first | (with_reducible have hv2 := Nat.lt_of_succ_lt hx2) | skip
  first | (with_reducible have hu2 := Nat.lt_of_succ_lt hv2) | skip
  first | (have hz2 : w.heap.size < w2.heap.size := by omega) | (have hz2 := hB2.size)
  first | (have hq2 : w1.heap.size ≤ w2.heap.size := by omega) | skip
  first | (have hx1_2 := Nat.lt_of_lt_of_le hx1 hq2) | skip
  first | (have hv1_2 := Nat.lt_of_lt_of_le hv1 hq2) | skip
  first | (have hu1_2 := Nat.lt_of_lt_of_le hu1 hq2) | skip
  clear hb2
  go_wp2_with fail
  refine (laws_toForm a b c _).mono ?_
  rintro e w3 ⟨rfl, hb3⟩
  have hB3 : Below w.heap.size w w3 := Below.after (by go_grown) hb3
  obtain ⟨hc3, hf3⟩ := bcell hb3
  have hy3 := hb3.size
  try simp at hy3
  first | (with_reducible have hx3 := Nat.lt_of_succ_le hy3) | skip
  first | (with_reducible have hv3 := Nat.lt_of_succ_lt hx3) | skip
  first | (with_reducible have hu3 := Nat.lt_of_succ_lt hv3) | skip
  first | (have hz3 : w.heap.size < w3.heap.size := by omega) | (have hz3 := hB3.size)
  first | (have hq3 : w2.heap.size ≤ w3.heap.size := by omega) | skip
  first | (have hx1_3 := Nat.lt_of_lt_of_le hx1_2 hq3) | skip
  first | (have hv1_3 := Nat.lt_of_lt_of_le hv1_2 hq3) | skip
  first | (have hu1_3 := Nat.lt_of_lt_of_le hu1_2 hq3) | skip
  first | (have hx2_3 := Nat.lt_of_lt_of_le hx2 hq3) | skip
  first | (have hv2_3 := Nat.lt_of_lt_of_le hv2 hq3) | skip
  first | (have hu2_3 := Nat.lt_of_lt_of_le hu2 hq3) | skip
  clear hb3
  go_wp2_with fail
  refine (impl_CountRepresentations a b c n l v _ hlen H.out).mono ?_
  rintro e w4 ⟨rfl, hb4⟩
  have hB4 : Below w.heap.size w w4 := Below.after (by go_grown) hb4
  obtain ⟨hc4, hf4⟩ := bcell hb4
  have hy4 := hb4.size
  try simp at hy4
  first | (with_reducible have hx4 := Nat.lt_of_succ_le hy4) | skip
  first | (with_reducible have hv4 := Nat.lt_of_succ_lt hx4) | skip
  first | (with_reducible have hu4 := Nat.lt_of_succ_lt hv4) | skip
  first | (have hz4 : w.heap.size < w4.heap.size := by omega) | (have hz4 := hB4.size)
  first | (have hq4 : w3.heap.size ≤ w4.heap.size := by omega) | skip
  first | (have hx1_4 := Nat.lt_of_lt_of_le hx1_3 hq4) | skip
  first | (have hv1_4 := Nat.lt_of_lt_of_le hv1_3 hq4) | skip
  first | (have hu1_4 := Nat.lt_of_lt_of_le hu1_3 hq4) | skip
  first | (have hx2_4 := Nat.lt_of_lt_of_le hx2_3 hq4) | skip
  first | (have hv2_4 := Nat.lt_of_lt_of_le hv2_3 hq4) | skip
  first | (have hu2_4 := Nat.lt_of_lt_of_le hu2_3 hq4) | skip
  first | (have hx3_4 := Nat.lt_of_lt_of_le hx3 hq4) | skip
  first | (have hv3_4 := Nat.lt_of_lt_of_le hv3 hq4) | skip
  first | (have hu3_4 := Nat.lt_of_lt_of_le hu3 hq4) | skip
  clear hb4
  go_wp2_with fail
  all_goals (try go_ret)
  all_goals exact ⟨rfl, by go_grown⟩
theorem walkCountRepresentations (a b c n : Int) (w : World) (wa : (Lit.int .i64 a).wf = true) (wb : (Lit.int .i64 b).wf = true) (wc : (Lit.int .i64 c).wf = true) (wn : (Lit.int .i64 n).wf = true) :
    Calls Try.prog 3 #[.agg #[.int .i64 a, .int .i64 b, .int .i64 c], .int .i64 n] w fun e w' => e = .returned (.bool true) ∧ Below w.heap.size w w' := by
  obtain ⟨l, v, h, hlen⟩ := repOut_ex a b c n
  exact walkCR a b c n l v w hlen h
theorem walkIR (a b c n : Int) (l : List Pt) (v r : Bool) (w : World) (hlen : l.length ≤ 1000000) (h : RepOut a b c n l v) (hr : decide (0 < l.length) = r) :
    Calls Try.prog 5 #[.agg #[.int .i64 a, .int .i64 b, .int .i64 c], .int .i64 n] w fun e w' => e = .returned (.bool true) ∧ Below w.heap.size w w' := by
  have H := Lib.hid h
  clear h
  have Hr := Lib.hid hr
  clear hr
  go_enter Try.func5, Try.ntmps5
  go_wp2_with fail
  refine (laws_toForm a b c _).mono ?_
  rintro e w1 ⟨rfl, hb1⟩
  have hB1 : Below w.heap.size w w1 := Below.after (by go_grown) hb1
  obtain ⟨hc1, hf1⟩ := bcell hb1
  have hy1 := hb1.size
  try simp at hy1
  first | (with_reducible have hx1 := Nat.lt_of_succ_le hy1) | skip
  first | (with_reducible have hv1 := Nat.lt_of_succ_lt hx1) | skip
  first | (with_reducible have hu1 := Nat.lt_of_succ_lt hv1) | skip
  first | (have hz1 : w.heap.size < w1.heap.size := by omega) | (have hz1 := hB1.size)
  clear hb1
  go_wp2_with fail
  refine (spec_IsRepresented a b c n l v r _ hlen H.out Hr.out).mono ?_
  rintro e w2 ⟨rfl, hb2⟩
  have hB2 : Below w.heap.size w w2 := Below.after (by go_grown) hb2
  obtain ⟨hc2, hf2⟩ := bcell hb2
  have hy2 := hb2.size
  try simp at hy2
  first | (with_reducible have hx2 := Nat.lt_of_succ_le hy2) | skip
  first | (with_reducible have hv2 := Nat.lt_of_succ_lt hx2) | skip
  first | (with_reducible have hu2 := Nat.lt_of_succ_lt hv2) | skip
  first | (have hz2 : w.heap.size < w2.heap.size := by omega) | (have hz2 := hB2.size)
  first | (have hq2 : w1.heap.size ≤ w2.heap.size := by omega) | skip
  first | (have hx1_2 := Nat.lt_of_lt_of_le hx1 hq2) | skip
  first | (have hv1_2 := Nat.lt_of_lt_of_le hv1 hq2) | skip
  first | (have hu1_2 := Nat.lt_of_lt_of_le hu1 hq2) | skip
  clear hb2
  go_wp2_with fail
  refine (laws_toForm a b c _).mono ?_
  rintro e w3 ⟨rfl, hb3⟩
  have hB3 : Below w.heap.size w w3 := Below.after (by go_grown) hb3
  obtain ⟨hc3, hf3⟩ := bcell hb3
  have hy3 := hb3.size
  try simp at hy3
  first | (with_reducible have hx3 := Nat.lt_of_succ_le hy3) | skip
  first | (with_reducible have hv3 := Nat.lt_of_succ_lt hx3) | skip
  first | (with_reducible have hu3 := Nat.lt_of_succ_lt hv3) | skip
  first | (have hz3 : w.heap.size < w3.heap.size := by omega) | (have hz3 := hB3.size)
  first | (have hq3 : w2.heap.size ≤ w3.heap.size := by omega) | skip
  first | (have hx1_3 := Nat.lt_of_lt_of_le hx1_2 hq3) | skip
  first | (have hv1_3 := Nat.lt_of_lt_of_le hv1_2 hq3) | skip
  first | (have hu1_3 := Nat.lt_of_lt_of_le hu1_2 hq3) | skip
  first | (have hx2_3 := Nat.lt_of_lt_of_le hx2 hq3) | skip
  first | (have hv2_3 := Nat.lt_of_lt_of_le hv2 hq3) | skip
  first | (have hu2_3 := Nat.lt_of_lt_of_le hu2 hq3) | skip
  clear hb3
  go_wp2_with fail
  refine (impl_IsRepresented a b c n l v r _ hlen H.out Hr.out).mono ?_
  rintro e w4 ⟨rfl, hb4⟩
  have hB4 : Below w.heap.size w w4 := Below.after (by go_grown) hb4
  obtain ⟨hc4, hf4⟩ := bcell hb4
  have hy4 := hb4.size
  try simp at hy4
  first | (with_reducible have hx4 := Nat.lt_of_succ_le hy4) | skip
  first | (with_reducible have hv4 := Nat.lt_of_succ_lt hx4) | skip
  first | (with_reducible have hu4 := Nat.lt_of_succ_lt hv4) | skip
  first | (have hz4 : w.heap.size < w4.heap.size := by omega) | (have hz4 := hB4.size)
  first | (have hq4 : w3.heap.size ≤ w4.heap.size := by omega) | skip
  first | (have hx1_4 := Nat.lt_of_lt_of_le hx1_3 hq4) | skip
  first | (have hv1_4 := Nat.lt_of_lt_of_le hv1_3 hq4) | skip
  first | (have hu1_4 := Nat.lt_of_lt_of_le hu1_3 hq4) | skip
  first | (have hx2_4 := Nat.lt_of_lt_of_le hx2_3 hq4) | skip
  first | (have hv2_4 := Nat.lt_of_lt_of_le hv2_3 hq4) | skip
  first | (have hu2_4 := Nat.lt_of_lt_of_le hu2_3 hq4) | skip
  first | (have hx3_4 := Nat.lt_of_lt_of_le hx3 hq4) | skip
  first | (have hv3_4 := Nat.lt_of_lt_of_le hv3 hq4) | skip
  first | (have hu3_4 := Nat.lt_of_lt_of_le hu3 hq4) | skip
  clear hb4
  go_wp2_with fail
  all_goals (try go_ret)
  all_goals exact ⟨rfl, by go_grown⟩
theorem walkIsRepresented (a b c n : Int) (w : World) (wa : (Lit.int .i64 a).wf = true) (wb : (Lit.int .i64 b).wf = true) (wc : (Lit.int .i64 c).wf = true) (wn : (Lit.int .i64 n).wf = true) :
    Calls Try.prog 5 #[.agg #[.int .i64 a, .int .i64 b, .int .i64 c], .int .i64 n] w fun e w' => e = .returned (.bool true) ∧ Below w.heap.size w w' := by
  obtain ⟨l, v, h, hlen⟩ := repOut_ex a b c n
  exact walkIR a b c n l v _ w hlen h rfl
end Go.Proofs.Ytiblpagbloflhaa
