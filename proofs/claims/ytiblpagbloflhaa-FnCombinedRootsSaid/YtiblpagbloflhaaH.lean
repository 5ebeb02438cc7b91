/- Contracts and walks of the laws: matrix products, ideals of forms. -/
import Derived.Test.YtiblpagbloflhaaG
namespace Go.Proofs.Ytiblpagbloflhaa
set_option linter.unusedVariables false
open Go.ChangeShapes Go.WideShapes Go.ChangeAt Go.RowKit

theorem spec_foMatrix (p q r s : Int) (v : Bool) (w : World) (hv : good4 p q r s = v) :
    Calls Try.prog 93 #[.agg #[.int .i64 p, .int .i64 q, .int .i64 r, .int .i64 s]] w fun e w' => e = .returned (.bool v) ∧ Below w.heap.size w w' := by
  have Hv := Lib.hid hv
  clear hv
  go_enter Try.func93, Try.ntmps93
  go_wp2_with (go_at_call 89; refine (spec_nuGood _ _ _ rfl).mono ?_; rintro e w' ⟨rfl, rfl⟩)
  all_goals (try go_ret)
  all_goals exact ⟨rbool (by rw [← Hv.out]; simp_all [good4]), by go_grown⟩
theorem impl_IsMatrix (p q r s : Int) (v : Bool) (w : World) (hv : good4 p q r s = v) :
    Calls Try.prog 98 #[.agg #[.int .i64 p, .int .i64 q, .int .i64 r, .int .i64 s]] w fun e w' => e = .returned (.bool v) ∧ Below w.heap.size w w' := by
  have Hv := Lib.hid hv
  clear hv
  go_enter Try.func98, Try.ntmps98
  go_wp2_with fail
  refine (are4 p q r s _ _ v _ Hv.out (by simp) (by simp) (by simp) (by simp)).mono ?_
  rintro e w' ⟨rfl, rfl⟩
  go_wp2
  go_ret
  exact ⟨rfl, by go_grown⟩
end Go.Proofs.Ytiblpagbloflhaa
