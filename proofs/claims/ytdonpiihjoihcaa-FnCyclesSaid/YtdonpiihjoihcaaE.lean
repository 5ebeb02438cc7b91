/- Contracts and walks of the laws: ideals, identity and principal forms, characters, matrices. -/
import Derived.Test.YtdonpiihjoihcaaD
namespace Go.Proofs.Ytdonpiihjoihcaa
set_option linter.unusedVariables false
open Go.ChangeShapes Go.WideShapes Go.ChangeAt Go.RowKit


/-! a law that compares two bools of one struct argument -/
end Go.Proofs.Ytdonpiihjoihcaa
