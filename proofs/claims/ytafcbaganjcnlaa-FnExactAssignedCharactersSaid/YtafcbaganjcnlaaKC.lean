/- Contracts and the walk of the law: the assigned characters. -/
import Derived.Test.YtafcbaganjcnlaaKA
import Derived.Test.YtafcbaganjcnlaaC
namespace Go.Proofs.Ytafcbaganjcnlaa
set_option linter.unusedVariables false
open Go.ChangeShapes Go.WideShapes Go.ChangeAt Go.RowKit

/-- what AssignedCharacters hands back -/
def AsOut (d : Int) (l : List Kt) (v : Bool) : Prop := negD d = v ∧ l = (if v then asgL (-d) else [])
theorem asOut_ex (d : Int) : ∃ l v, AsOut d l v := ⟨_, _, rfl, rfl⟩
theorem asOut_len {d : Int} {l : List Kt} {v : Bool} (h : AsOut d l v) : l.length ≤ 1000000 := by
  obtain ⟨h1, rfl⟩ := h
  cases v with
  | false => simp
  | true =>
    obtain ⟨n1, n2, _⟩ := negD_iff.1 h1
    have := asgL_len (D := -d) (by omega)
    simp
    omega
theorem spec_AssignedCharacters (d : Int) (l : List Kt) (v : Bool) (w : World) (h : AsOut d l v) :
    Calls Try.prog 26 #[.int .i64 d] w fun e w' => ∃ u, e = .returned (.tuple #[u, .bool v]) ∧ Kts w' w.heap.size u l ∧ Below w.heap.size w w' := by
  obtain ⟨h1, rfl⟩ := h
  cases v with
  | false =>
    have H := Lib.hid h1
    clear h1
    go_enter Try.func26, Try.ntmps26
    go_wp2_with fail
    refine (spec_reDisc d false _ H.out).mono ?_
    rintro e w' ⟨rfl, rfl⟩
    go_wp2_with fail
    go_ret2
    exact ⟨_, rfl, Kts.nil _ _, by go_grown⟩
  | true =>
    obtain ⟨n1, n2, _⟩ := negD_iff.1 h1
    obtain ⟨D, hD⟩ : ∃ D, D = -d := ⟨_, rfl⟩
    obtain rfl : d = -D := by omega
    have He : Hid (asgL (- -D) = asgL D) := Lib.hid (by rw [Int.neg_neg])
    have H := Lib.hid h1
    clear h1
    clear hD
    go_enter Try.func26, Try.ntmps26
    go_wp2_with fail
    refine (spec_reDisc (-D) true _ H.out).mono ?_
    rintro e w' ⟨rfl, rfl⟩
    go_wp2_with fail
    refine (spec_chAll D _ (by omega) (by omega)).mono ?_
    rintro e w2 ⟨u, rfl, hu, hb2⟩
    have K := Lib.hid (And.intro (hu.mono (B' := w.heap.size) (by first | omega | (simp; done))) (show Below w.heap.size w w2 from Below.after (by go_grown) hb2))
    clear hu hb2
    go_wp2_with fail
    go_ret2
    exact ⟨_, rfl, K.out.1, K.out.2⟩
theorem impl_AssignedCharacters (d : Int) (l : List Kt) (v : Bool) (w : World) (h : AsOut d l v) :
    Calls Try.prog 27 #[.int .i64 d] w fun e w' => ∃ u, e = .returned (.tuple #[u, .bool v]) ∧ Kts w' w.heap.size u l ∧ Below w.heap.size w w' := by
  obtain ⟨h1, rfl⟩ := h
  cases v with
  | false =>
    have H := Lib.hid h1
    clear h1
    go_enter Try.func27, Try.ntmps27
    go_wp2_with fail
    refine (impl_isNegativeDisc d false _ H.out).mono ?_
    rintro e w' ⟨rfl, rfl⟩
    go_wp2_with fail
    go_ret2
    exact ⟨_, rfl, Kts.empty _ (by first | rfl | simp) (by first | omega | (simp; done) | (simp; omega)), by go_grown⟩
  | true =>
    obtain ⟨n1, n2, _⟩ := negD_iff.1 h1
    obtain ⟨D, hD⟩ : ∃ D, D = -d := ⟨_, rfl⟩
    obtain rfl : d = -D := by omega
    have He : Hid (asgL (- -D) = asgL D) := Lib.hid (by rw [Int.neg_neg])
    have H := Lib.hid h1
    clear h1
    clear hD
    go_enter Try.func27, Try.ntmps27
    go_wp2_with fail
    refine (impl_isNegativeDisc (-D) true _ H.out).mono ?_
    rintro e w' ⟨rfl, rfl⟩
    go_wp2_with fail
    refine (impl_assigned D _ (by omega) (by omega)).mono ?_
    rintro e w2 ⟨u, rfl, hu, hb2⟩
    have K := Lib.hid (And.intro (hu.mono (B' := w.heap.size) (by first | omega | (simp; done))) (show Below w.heap.size w w2 from Below.after (by go_grown) hb2))
    clear hu hb2
    go_wp2_with fail
    go_ret2
    exact ⟨_, rfl, K.out.1, K.out.2⟩
theorem law_AssignedCharacters (d : Int) (l : List Kt) (v : Bool) (w : World) (hlen : l.length ≤ 1000000) (h : AsOut d l v) :
    Calls Try.prog 7 #[.int .i64 d] w fun e w' => e = .returned (.bool true) ∧ Below w.heap.size w w' := by
  have H := Lib.hid h
  clear h
  go_enter Try.func7, Try.ntmps7
  go_wp2_with fail
  refine (spec_AssignedCharacters d l v _ H.out).mono ?_
  rintro e w2 ⟨v0, rfl, h0, hB2⟩
  have hz2 := hB2.size
  have H0 := Lib.hid h0
  clear h0
  go_wp2_with fail
  refine (impl_AssignedCharacters d l v _ H.out).mono ?_
  rintro e w4 ⟨v1, rfl, h1, hb4⟩
  have hB4 : Below w.heap.size w w4 := Below.after hB2 hb4
  have hz4 := hb4.size
  have hsep := sep_ofK H0.out h1
  have h0' := H0.out.below hb4
  clear hb4 hB2 H0
  have Hsep := Lib.hid hsep
  have H0 := Lib.hid h0'
  have H1 := Lib.hid h1
  clear hsep h0' h1
  go_wp2_with fail
  refine (laws_eqCharacterS l v1 v0 w2.heap.size w.heap.size _ hlen H1.out H0.out).mono ?_
  rintro e w5 ⟨rfl, hb5⟩
  have hB5 : Below w.heap.size w w5 := Below.after hB4 hb5
  have hz5 := hb5.size
  have H05 := Lib.hid (H0.out.below hb5)
  have H15 := Lib.hid (H1.out.below hb5)
  clear hb5 H0 H1 hB4
  go_wp2_with fail
  refine (laws_markCharacterS l v1 w2.heap.size _ hlen H15.out).mono ?_
  rintro e w6 ⟨rfl, h6, hg6⟩
  have hB6 : Below w.heap.size w w6 := below_grownK hB5 (H15.out.mono (by omega)) hg6 (by omega)
  have hz6 := hg6.size
  have H06 := Lib.hid (H05.out.kept hg6 Hsep.out)
  have H6 := Lib.hid h6
  clear h6 hg6 H05 H15 hB5 Hsep
  go_wp2_with fail
  refine (laws_heldCharacterS l.length v1 w2.heap.size _ hlen H6.out).mono ?_
  rintro e w' ⟨rfl, rfl⟩
  go_wp2_with fail
  refine (impl_AssignedCharacters d l v _ H.out).mono ?_
  rintro e w8 ⟨v2, rfl, h8, hb8⟩
  have hB8 : Below w.heap.size w w8 := Below.after hB6 hb8
  have H08 := Lib.hid (H06.out.below hb8)
  have H18 := Lib.hid (H6.out.below hb8)
  have H28 := Lib.hid h8
  clear hb8 hB6 h8 H06 H6
  go_wp2_with fail
  refine (laws_eqCharacterS l v2 v0 _ w.heap.size _ hlen H28.out H08.out).mono ?_
  rintro e w9 ⟨rfl, hb9⟩
  have hB9 : Below w.heap.size w w9 := Below.after hB8 hb9
  have H19 := Lib.hid (H18.out.below hb9)
  clear hb9 hB8 H08 H28 H18
  go_wp2_with fail
  refine (laws_heldCharacterS l.length v1 w2.heap.size _ hlen H19.out).mono ?_
  rintro e w' ⟨rfl, rfl⟩
  go_wp2_with fail
  go_ret
  exact ⟨rfl, hB9⟩
theorem walkAssignedCharacters (d : Int) (w : World) (wd : (Lit.int .i64 d).wf = true) :
    Calls Try.prog 7 #[.int .i64 d] w fun e w' => e = .returned (.bool true) ∧ Below w.heap.size w w' := by
  obtain ⟨l, v, h⟩ := asOut_ex d
  exact law_AssignedCharacters d l v w (asOut_len h) h
end Go.Proofs.Ytafcbaganjcnlaa
