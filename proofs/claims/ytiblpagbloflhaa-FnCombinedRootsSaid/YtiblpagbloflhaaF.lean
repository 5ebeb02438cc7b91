/- Contracts and walks of the laws: unit ideals, norms, identity and principal forms, characters, conjugates, matrix products, ideals of forms. -/
import Derived.Test.YtiblpagbloflhaaE
namespace Go.Proofs.Ytiblpagbloflhaa
set_option linter.unusedVariables false
open Go.ChangeShapes Go.WideShapes Go.ChangeAt Go.RowKit

/-! unit ideals -/
/-! a law that compares two results (struct, bool) at each outcome of a test B -/

/-! norms -/

/-! principal and identity forms -/
def pfC (d : Int) : Int := (d % 2 - d).tdiv 4
end Go.Proofs.Ytiblpagbloflhaa
