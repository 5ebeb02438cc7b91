/- Contracts and walks of the laws: characters, conjugates, matrix products, ideals of forms. -/
import Derived.Test.YtdonpiihjoihcaaF
namespace Go.Proofs.Ytdonpiihjoihcaa
set_option linter.unusedVariables false
open Go.ChangeShapes Go.WideShapes Go.ChangeAt Go.RowKit

/-! odd primes, characters -/

/-! conjugates -/
end Go.Proofs.Ytdonpiihjoihcaa
