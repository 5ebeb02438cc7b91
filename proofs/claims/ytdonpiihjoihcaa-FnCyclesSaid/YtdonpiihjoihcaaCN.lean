/- Contracts and the walk of the law: the cycle of the principal form. -/
import Derived.Test.YtdonpiihjoihcaaCG
namespace Go.Proofs.Ytdonpiihjoihcaa
set_option linter.unusedVariables false
open Go.ChangeShapes Go.WideShapes Go.ChangeAt Go.RowKit

/-- what PrincipalCycle hands back -/
def PCOut (d : Int) (l : List Fm) (v : Bool) : Prop := (posD d = true ∧ discB d = true ∧ CycOut 1 (d % 2) (pfC d) l v) ∨ (posD d = false ∧ l = [] ∧ v = false)
theorem posD_discB {d : Int} (h : posD d = true) : discB d = true := by
  obtain ⟨h1, h2, h3, h4⟩ := posD_iff.1 h
  exact discB_iff.2 ⟨by omega, h3, h4⟩
theorem pcOut_ex (d : Int) : ∃ l v, PCOut d l v ∧ l.length ≤ 1000000 := by
  cases h : posD d with
  | true =>
    obtain ⟨l, v, hl⟩ := cycOut_ex 1 (d % 2) (pfC d)
    exact ⟨l, v, .inl ⟨h, posD_discB h, hl⟩, cycOut_len hl⟩
  | false => exact ⟨_, _, .inr ⟨h, rfl, rfl⟩, by simp⟩
theorem spec_PrincipalCycle (d : Int) (l : List Fm) (v : Bool) (w : World) (h : PCOut d l v) :
    Calls Try.prog 39 #[.int .i64 d] w fun e w' => ∃ u, e = .returned (.tuple #[u, .bool v]) ∧ Fms w' w.heap.size u l ∧ Below w.heap.size w w' := by
  rcases h with ⟨h, hd, hc⟩ | ⟨h, rfl, rfl⟩
  · have H := Lib.hid h
    clear h
    have Hd := Lib.hid hd
    clear hd
    have Hc := Lib.hid hc
    clear hc
    go_enter Try.func39, Try.ntmps39
    go_wp2_with fail
    refine (spec_cyDisc d true _ H.out).mono ?_
    rintro e w' ⟨rfl, rfl⟩
    go_wp2_with fail
    refine (spec_PrincipalForm_yes d _ Hd.out).mono ?_
    rintro e w1 ⟨rfl, hb1⟩
    have hs1 := hb1.size
    go_wp2_with fail
    refine (spec_CycleOf 1 (d % 2) (pfC d) l v _ Hc.out).mono ?_
    rintro e w2 ⟨u, rfl, hown, hb2⟩
    have hB2 : Below w.heap.size w w2 := Below.after (by go_grown) hb2
    have Hown := Lib.hid (hown.mono (B' := w.heap.size) (by first | omega | (simp; omega)))
    clear hown hb2 hb1
    go_wp2_with fail
    go_ret2
    exact ⟨_, rfl, Hown.out, hB2⟩
  · have H := Lib.hid h
    clear h
    go_enter Try.func39, Try.ntmps39
    go_wp2_with fail
    refine (spec_cyDisc d false _ H.out).mono ?_
    rintro e w' ⟨rfl, rfl⟩
    go_wp2_with fail
    go_ret2
    exact ⟨_, rfl, Fms.nil _ _, by go_grown⟩
theorem impl_PrincipalCycle (d : Int) (l : List Fm) (v : Bool) (w : World) (h : PCOut d l v) :
    Calls Try.prog 40 #[.int .i64 d] w fun e w' => ∃ u, e = .returned (.tuple #[u, .bool v]) ∧ Fms w' w.heap.size u l ∧ Below w.heap.size w w' := by
  rcases h with ⟨h, _, hc⟩ | ⟨h, rfl, rfl⟩
  · have hd : -1000000 ≤ d ∧ d ≤ 1000000 := by obtain ⟨h1, h2, _⟩ := posD_iff.1 h; omega
    have H := Lib.hid h
    clear h
    have Hc := Lib.hid hc
    clear hc
    go_enter Try.func40, Try.ntmps40
    go_wp2_with fail
    refine (impl_isPositiveDisc d true _ H.out).mono ?_
    rintro e w' ⟨rfl, rfl⟩
    go_wp2_with fail
    refine (impl_principalForm d _ hd).mono ?_
    rintro e w1 ⟨rfl, hb1⟩
    have hs1 := hb1.size
    go_wp2_with fail
    refine (impl_CycleOf 1 (d % 2) (pfC d) l v _ Hc.out).mono ?_
    rintro e w2 ⟨u, rfl, hown, hb2⟩
    have hB2 : Below w.heap.size w w2 := Below.after (by go_grown) hb2
    have Hown := Lib.hid (hown.mono (B' := w.heap.size) (by first | omega | (simp; omega)))
    clear hown hb2 hb1
    go_wp2_with fail
    go_ret2
    exact ⟨_, rfl, Hown.out, hB2⟩
  · have H := Lib.hid h
    clear h
    go_enter Try.func40, Try.ntmps40
    go_wp2_with fail
    refine (impl_isPositiveDisc d false _ H.out).mono ?_
    rintro e w' ⟨rfl, rfl⟩
    go_wp2_with fail
    go_ret2
    exact ⟨_, rfl, Fms.empty w rfl (Nat.le_refl _), by go_grown⟩
theorem walkPrinc (d : Int) (l : List Fm) (v : Bool) (w : World) (hlen : l.length ≤ 1000000) (h : PCOut d l v) :
    Calls Try.prog 8 #[.int .i64 d] w fun e w' => e = .returned (.bool true) ∧ Below w.heap.size w w' := by
  have H := Lib.hid h
  clear h
  go_enter Try.func8, Try.ntmps8
  go_wp2_with fail
  refine (spec_PrincipalCycle d l v _ H.out).mono ?_
  rintro e w2 ⟨v0, rfl, h0, hB2⟩
  have hz2 := hB2.size
  have H0 := Lib.hid h0
  clear h0
  go_wp2_with fail
  refine (impl_PrincipalCycle d l v _ H.out).mono ?_
  rintro e w4 ⟨v1, rfl, h1, hb4⟩
  have hB4 : Below w.heap.size w w4 := Below.after hB2 hb4
  have hz4 := hb4.size
  have hsep := sep_ofF H0.out h1
  have h0' := H0.out.below hb4
  clear hb4 hB2 H0
  have Hsep := Lib.hid hsep
  have H0 := Lib.hid h0'
  have H1 := Lib.hid h1
  clear hsep h0' h1
  go_wp2_with fail
  refine (laws_eqFormS l v1 v0 w2.heap.size w.heap.size _ hlen H1.out H0.out).mono ?_
  rintro e w5 ⟨rfl, hb5⟩
  have hB5 : Below w.heap.size w w5 := Below.after hB4 hb5
  have hz5 := hb5.size
  have H05 := Lib.hid (H0.out.below hb5)
  have H15 := Lib.hid (H1.out.below hb5)
  clear hb5 H0 H1 hB4
  go_wp2_with fail
  refine (laws_markFormS l v1 w2.heap.size _ hlen H15.out).mono ?_
  rintro e w6 ⟨rfl, h6, hg6⟩
  have hB6 : Below w.heap.size w w6 := below_grownF hB5 (H15.out.mono (by omega)) hg6 (by omega)
  have hz6 := hg6.size
  have H06 := Lib.hid (H05.out.kept hg6 Hsep.out)
  have H6 := Lib.hid h6
  clear h6 hg6 H05 H15 hB5 Hsep
  go_wp2_with fail
  refine (laws_heldFormS l.length v1 w2.heap.size _ hlen H6.out).mono ?_
  rintro e w' ⟨rfl, rfl⟩
  go_wp2_with fail
  refine (impl_PrincipalCycle d l v _ H.out).mono ?_
  rintro e w8 ⟨v2, rfl, h8, hb8⟩
  have hB8 : Below w.heap.size w w8 := Below.after hB6 hb8
  have H08 := Lib.hid (H06.out.below hb8)
  have H18 := Lib.hid (H6.out.below hb8)
  have H28 := Lib.hid h8
  clear hb8 hB6 h8 H06 H6
  go_wp2_with fail
  refine (laws_eqFormS l v2 v0 _ w.heap.size _ hlen H28.out H08.out).mono ?_
  rintro e w9 ⟨rfl, hb9⟩
  have hB9 : Below w.heap.size w w9 := Below.after hB8 hb9
  have H19 := Lib.hid (H18.out.below hb9)
  clear hb9 hB8 H08 H28 H18
  go_wp2_with fail
  refine (laws_heldFormS l.length v1 w2.heap.size _ hlen H19.out).mono ?_
  rintro e w' ⟨rfl, rfl⟩
  go_wp2_with fail
  go_ret
  exact ⟨rfl, hB9⟩
theorem walkPrincipalCycle (d : Int) (w : World) (wd : (Lit.int .i64 d).wf = true) :
    Calls Try.prog 8 #[.int .i64 d] w fun e w' => e = .returned (.bool true) ∧ Below w.heap.size w w' := by
  obtain ⟨l, v, h, hlen⟩ := pcOut_ex d
  exact walkPrinc d l v w hlen h
end Go.Proofs.Ytdonpiihjoihcaa
