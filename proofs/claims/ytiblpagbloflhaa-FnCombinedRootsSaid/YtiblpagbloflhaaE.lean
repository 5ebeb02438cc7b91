/- Contracts and walks of the laws: ideals, identity and principal forms, characters, matrices. -/
import Derived.Test.YtiblpagbloflhaaD
namespace Go.Proofs.Ytiblpagbloflhaa
set_option linter.unusedVariables false
open Go.ChangeShapes Go.WideShapes Go.ChangeAt Go.RowKit


/-! a law that compares two bools of one struct argument -/
end Go.Proofs.Ytiblpagbloflhaa
