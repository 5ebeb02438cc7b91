/- Contracts and walks of the laws: unit ideals, norms, identity and principal forms, characters, conjugates, matrix products, ideals of forms. -/
import Derived.Test.YtdonpiihjoihcaaE
namespace Go.Proofs.Ytdonpiihjoihcaa
set_option linter.unusedVariables false
open Go.ChangeShapes Go.WideShapes Go.ChangeAt Go.RowKit

/-! unit ideals -/
/-! a law that compares two results (struct, bool) at each outcome of a test B -/

/-! norms -/

/-! principal and identity forms -/
def pfC (d : Int) : Int := (d % 2 - d).tdiv 4
theorem impl_principalForm (d : Int) (w : World) (h0 : -1000000 ≤ d ∧ d ≤ 1000000) :
    Calls Try.prog 88 #[.int .i64 d] w fun e w' => e = .returned (.agg #[.int .i64 1, .int .i64 (d % 2), .int .i64 (pfC d)]) ∧ Below w.heap.size w w' := by
  obtain ⟨h1, h2⟩ := h0
  have h3 := Int.emod_nonneg d (show (2 : Int) ≠ 0 by omega)
  have h4 := Int.emod_lt_of_pos d (show (0 : Int) < 2 by omega)
  go_enter Try.func88, Try.ntmps88
  go_wp2_with fail
  refine (impl_mod d 2 _ (by omega) (by omega)).mono ?_
  rintro e w' ⟨rfl, rfl⟩
  go_wp2_with fail
  go_returns
  exact ⟨rfl, by go_grown⟩
theorem spec_PrincipalForm_yes (d : Int) (w : World) (h : discB d = true) :
    Calls Try.prog 85 #[.int .i64 d] w fun e w' => e = .returned (.tuple #[.agg #[.int .i64 1, .int .i64 (d % 2), .int .i64 (pfC d)], .bool true]) ∧ Below w.heap.size w w' := by
  obtain ⟨⟨h1, h2⟩, _⟩ := discB_iff.1 h
  have h3 := Int.emod_nonneg d (show (2 : Int) ≠ 0 by omega)
  have h4 := Int.emod_lt_of_pos d (show (0 : Int) < 2 by omega)
  have H := Lib.hid h
  clear h
  go_enter Try.func85, Try.ntmps85
  go_wp2_with fail
  refine (spec_diIs d true _ H.out).mono ?_
  rintro e w' ⟨rfl, rfl⟩
  go_wp2_with fail
  refine (spec_nuMod d 2 _ (by omega) (by omega)).mono ?_
  rintro e w' ⟨rfl, rfl⟩
  go_wp2_with fail
  refine bodyPost_ret (v := .tuple #[.agg #[.int .i64 1, .int .i64 (d % 2), .int .i64 (pfC d)], .bool true]) (by simp [results, Try.results85, go_sem, *] <;> rfl) rfl ⟨rfl, by go_grown⟩
theorem spec_PrincipalForm_no (d : Int) (w : World) (h : discB d = false) :
    Calls Try.prog 85 #[.int .i64 d] w fun e w' => e = .returned (.tuple #[.agg #[.int .i64 0, .int .i64 0, .int .i64 0], .bool false]) ∧ Below w.heap.size w w' := by
  have H := Lib.hid h
  clear h
  go_enter Try.func85, Try.ntmps85
  go_wp2_with fail
  refine (spec_diIs d false _ H.out).mono ?_
  rintro e w' ⟨rfl, rfl⟩
  go_wp2_with fail
  refine bodyPost_ret (v := .tuple #[.agg #[.int .i64 0, .int .i64 0, .int .i64 0], .bool false]) (by simp [results, Try.results85, go_sem, *] <;> rfl) rfl ⟨rfl, by go_grown⟩
end Go.Proofs.Ytdonpiihjoihcaa
