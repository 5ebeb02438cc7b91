/- Contracts and walks of the laws: characters, conjugates, matrix products, ideals of forms. -/
import Derived.Test.YtpfbapekameibaaF
namespace Go.Proofs.Ytpfbapekameibaa
set_option linter.unusedVariables false
open Go.ChangeShapes Go.WideShapes Go.ChangeAt Go.RowKit

/-! odd primes, characters -/

/-! conjugates -/
end Go.Proofs.Ytpfbapekameibaa
