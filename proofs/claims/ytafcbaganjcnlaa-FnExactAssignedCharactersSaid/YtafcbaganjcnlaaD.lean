/- Contracts: ideals, characters, matrices; the functions of the first statements. -/
import Derived.Test.YtafcbaganjcnlaaC
namespace Go.Proofs.Ytafcbaganjcnlaa
set_option linter.unusedVariables false
open Go.ChangeShapes Go.WideShapes Go.ChangeAt Go.RowKit

theorem laws_toCharacter (a b : Int) (w : World) :
    Calls Try.prog 32 #[.agg #[.int .i64 a, .int .i64 b]] w fun e w' => e = .returned (.agg #[.int .i64 a, .int .i64 b]) ∧ Below w.heap.size w w' := by
  go_enter Try.func32, Try.ntmps32
  go_wp2_with fail
  go_returns
  exact ⟨rfl, by go_grown⟩

/-! ideals -/
end Go.Proofs.Ytafcbaganjcnlaa
