/- Contracts and walks of the laws: the cycles of a discriminant, their number. -/
import Derived.Test.YtdonpiihjoihcaaYW
import Derived.Test.YtdonpiihjoihcaaYM
namespace Go.Proofs.Ytdonpiihjoihcaa
set_option linter.unusedVariables false
open Go.ChangeShapes Go.WideShapes Go.ChangeAt Go.RowKit

/-- what CyclesOf hands back -/
def CysOut (d : Int) (L : List (List Fm)) (v : Bool) : Prop := (posD d = true ∧ L = cysD d ∧ v = true) ∨ (posD d = false ∧ L = [] ∧ v = false)
theorem cysD_small {d : Int} (h : posD d = true) : SmallL (cysD d) := by
  have h1 := (cysI_all h).len
  have h2 := allF_len2 h
  exact ⟨by omega, fun m hm => cysN_each h (Nat.le_refl _) hm⟩
theorem cysOut_ex (d : Int) : ∃ L v, CysOut d L v ∧ SmallL L := by
  cases h : posD d with
  | true => exact ⟨_, _, .inl ⟨h, rfl, rfl⟩, cysD_small h⟩
  | false => exact ⟨_, _, .inr ⟨h, rfl, rfl⟩, by simp [SmallL]⟩
theorem spec_CyclesOf (d : Int) (L : List (List Fm)) (v : Bool) (w : World) (h : CysOut d L v) :
    Calls Try.prog 25 #[.int .i64 d] w fun e w' => ∃ u, e = .returned (.tuple #[u, .bool v]) ∧ Outs w' w.heap.size w'.heap.size u L ∧ Below w.heap.size w w' := by
  rcases h with ⟨h, rfl, rfl⟩ | ⟨h, rfl, rfl⟩
  · have H := Lib.hid h
    clear h
    go_enter Try.func25, Try.ntmps25
    go_wp2_with fail
    refine (spec_cyDisc d true _ H.out).mono ?_
    rintro e w' ⟨rfl, rfl⟩
    go_wp2_with fail
    refine (spec_cyCycles d _ H.out).mono ?_
    rintro e w1 ⟨u, rfl, hown, hb⟩
    have Hown := Lib.hid hown
    clear hown
    go_wp2_with fail
    go_ret2
    exact ⟨_, rfl, Hown.out, hb⟩
  · have H := Lib.hid h
    clear h
    go_enter Try.func25, Try.ntmps25
    go_wp2_with fail
    refine (spec_cyDisc d false _ H.out).mono ?_
    rintro e w' ⟨rfl, rfl⟩
    go_wp2_with fail
    go_ret2
    exact ⟨_, rfl, Outs.nil _ _ _, by go_grown⟩
theorem impl_CyclesOf (d : Int) (L : List (List Fm)) (v : Bool) (w : World) (h : CysOut d L v) :
    Calls Try.prog 24 #[.int .i64 d] w fun e w' => ∃ u, e = .returned (.tuple #[u, .bool v]) ∧ Outs w' w.heap.size w'.heap.size u L ∧ Below w.heap.size w w' := by
  rcases h with ⟨h, rfl, rfl⟩ | ⟨h, rfl, rfl⟩
  · have H := Lib.hid h
    clear h
    go_enter Try.func24, Try.ntmps24
    go_wp2_with fail
    refine (impl_isPositiveDisc d true _ H.out).mono ?_
    rintro e w' ⟨rfl, rfl⟩
    go_wp2_with fail
    refine (impl_cycles d _ H.out).mono ?_
    rintro e w1 ⟨u, rfl, hown, hb⟩
    have Hown := Lib.hid hown
    clear hown
    go_wp2_with fail
    go_ret2
    exact ⟨_, rfl, Hown.out, hb⟩
  · have H := Lib.hid h
    clear h
    go_enter Try.func24, Try.ntmps24
    go_wp2_with fail
    refine (impl_isPositiveDisc d false _ H.out).mono ?_
    rintro e w' ⟨rfl, rfl⟩
    go_wp2_with fail
    go_ret2
    exact ⟨_, rfl, Outs.empty w rfl (Nat.le_refl _) (by simp), by go_grown⟩
/-! their number -/
theorem impl_Narrow (d : Int) (L : List (List Fm)) (v : Bool) (w : World) (h : CysOut d L v) :
    Calls Try.prog 28 #[.int .i64 d] w fun e w' => e = .returned (.tuple #[.int .i64 (L.length : Int), .bool v]) ∧ Below w.heap.size w w' := by
  have H := Lib.hid h
  clear h
  go_enter Try.func28, Try.ntmps28
  go_wp2_with fail
  refine (impl_CyclesOf d L v _ H.out).mono ?_
  rintro e w1 ⟨u, rfl, hu, hb⟩
  obtain ⟨p, c, rfl, _, hr⟩ := hu.view
  clear hr hu
  go_wp2_with fail
  refine bodyPost_ret (v := .tuple #[.int .i64 (L.length : Int), .bool v]) (by simp [results, Try.results28, go_sem, *] <;> rfl) rfl ⟨rfl, by go_grown⟩
end Go.Proofs.Ytdonpiihjoihcaa
