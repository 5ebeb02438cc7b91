/-
  No cell of these rows narrows 'for every input' (looked for: loops, veiled, ifaces, maps, wideKeys, modest, calm, conditions, laid).
  DERIVED. THE GIVEN ROWS OF THIS SEAT. 12 by the template 'for every input the law returns true; each argument reads behind the call as it read before'; 0 by the template 'total and deterministic' (their statements: YtgdhelecflddbaaTotals.lean).
  GIVEN WITH THE SEED: the statements are not yours to turn. If you find one false, say at which input.
  Laid BY PROGRAM, IN A SANDBOX (cutbox-rows.mjs): the forced cells as the released guide's own fill.sh prints them over the translation 8bb853ac84bfa52f… (all of the seat's roots in one cut). By AI agents, Wed Nov 11 2026. No macro, syntax, notation, axiom, sorry.
-/
import Derived.Test.YtgdhelecflddbaaChecked
import GoSem.Claim
import GoSem.ClaimJoined
import GoSem.ClaimMapViews
import Derived.JoinedTies
import Derived.KernelRfl
namespace Go.Proofs.Ytgdhelecflddbaa
/- THE CELL 'sum', in the pinned program and in every row, IS THE sha256 OF THE DUMP (.gsa) THAT YtgdhelecflddbaaProg.lean LOADS. Nothing in Lean hashes anything: it is a label: what it is worth is what the hold of that sum in a sandbox is worth. -/
noncomputable def Try.pinned : Pinned := { name := "ytgdhelecflddbaa", sum := "8bb853ac84bfa52fd985a7e901b6de6125b4165da89e859326317ab19a055675", checked := Try.checked }
namespace Rows
def none {H : Type} : Left H := { results := [], args := [] }

/-- 'laws.FnExactIsIdeal': WHATEVER THE INPUT: true; the input reads as it did. -/
def fnExactIsIdealSpec : ChangeSpec := { name := "fnExactIsIdeal", fn := fun _ => fun
  | [d1, d2] => { results := [.lit (.bool true)], args := [d1, d2] }
  | _ => none }
def fnExactIsIdealRow : OpenClaim := { program := "ytgdhelecflddbaa", sum := "8bb853ac84bfa52fd985a7e901b6de6125b4165da89e859326317ab19a055675", func := "loop.example/g01066/laws.FnExactIsIdeal", spec := "fnExactIsIdeal", apart := false }
def FnExactIsIdealSaid : Prop := fnExactIsIdealRow.holds Try.pinned (OpenSpec.ofChange fnExactIsIdealSpec)

/-- ITS FALSE NEIGHBOUR: 'it returns false'. Refute it at one input. -/
def fnExactIsIdealWrong : ChangeSpec := { name := "fnExactIsIdeal", fn := fun _ => fun
  | [d1, d2] => { results := [.lit (.bool false)], args := [d1, d2] }
  | _ => none }
def FnExactIsIdealWrongFalsely : Prop := fnExactIsIdealRow.holds Try.pinned (OpenSpec.ofChange fnExactIsIdealWrong)

/-- 'laws.FnExactUnitIdeal': WHATEVER THE INPUT: true; the input reads as it did. -/
def fnExactUnitIdealSpec : ChangeSpec := { name := "fnExactUnitIdeal", fn := fun _ => fun
  | [d] => { results := [.lit (.bool true)], args := [d] }
  | _ => none }
def fnExactUnitIdealRow : OpenClaim := { program := "ytgdhelecflddbaa", sum := "8bb853ac84bfa52fd985a7e901b6de6125b4165da89e859326317ab19a055675", func := "loop.example/g01066/laws.FnExactUnitIdeal", spec := "fnExactUnitIdeal", apart := false }
def FnExactUnitIdealSaid : Prop := fnExactUnitIdealRow.holds Try.pinned (OpenSpec.ofChange fnExactUnitIdealSpec)

/-- ITS FALSE NEIGHBOUR: 'it returns false'. Refute it at one input. -/
def fnExactUnitIdealWrong : ChangeSpec := { name := "fnExactUnitIdeal", fn := fun _ => fun
  | [d] => { results := [.lit (.bool false)], args := [d] }
  | _ => none }
def FnExactUnitIdealWrongFalsely : Prop := fnExactUnitIdealRow.holds Try.pinned (OpenSpec.ofChange fnExactUnitIdealWrong)

/-- 'laws.FnExactIdealNorm': WHATEVER THE INPUT: true; the input reads as it did. -/
def fnExactIdealNormSpec : ChangeSpec := { name := "fnExactIdealNorm", fn := fun _ => fun
  | [d1, d2] => { results := [.lit (.bool true)], args := [d1, d2] }
  | _ => none }
def fnExactIdealNormRow : OpenClaim := { program := "ytgdhelecflddbaa", sum := "8bb853ac84bfa52fd985a7e901b6de6125b4165da89e859326317ab19a055675", func := "loop.example/g01066/laws.FnExactIdealNorm", spec := "fnExactIdealNorm", apart := false }
def FnExactIdealNormSaid : Prop := fnExactIdealNormRow.holds Try.pinned (OpenSpec.ofChange fnExactIdealNormSpec)

/-- ITS FALSE NEIGHBOUR: 'it returns false'. Refute it at one input. -/
def fnExactIdealNormWrong : ChangeSpec := { name := "fnExactIdealNorm", fn := fun _ => fun
  | [d1, d2] => { results := [.lit (.bool false)], args := [d1, d2] }
  | _ => none }
def FnExactIdealNormWrongFalsely : Prop := fnExactIdealNormRow.holds Try.pinned (OpenSpec.ofChange fnExactIdealNormWrong)

/-- 'laws.FnExactIdentityForm': WHATEVER THE INPUT: true; the input reads as it did. -/
def fnExactIdentityFormSpec : ChangeSpec := { name := "fnExactIdentityForm", fn := fun _ => fun
  | [d] => { results := [.lit (.bool true)], args := [d] }
  | _ => none }
def fnExactIdentityFormRow : OpenClaim := { program := "ytgdhelecflddbaa", sum := "8bb853ac84bfa52fd985a7e901b6de6125b4165da89e859326317ab19a055675", func := "loop.example/g01066/laws.FnExactIdentityForm", spec := "fnExactIdentityForm", apart := false }
def FnExactIdentityFormSaid : Prop := fnExactIdentityFormRow.holds Try.pinned (OpenSpec.ofChange fnExactIdentityFormSpec)

/-- ITS FALSE NEIGHBOUR: 'it returns false'. Refute it at one input. -/
def fnExactIdentityFormWrong : ChangeSpec := { name := "fnExactIdentityForm", fn := fun _ => fun
  | [d] => { results := [.lit (.bool false)], args := [d] }
  | _ => none }
def FnExactIdentityFormWrongFalsely : Prop := fnExactIdentityFormRow.holds Try.pinned (OpenSpec.ofChange fnExactIdentityFormWrong)

/-- 'laws.FnExactIsClassForm': WHATEVER THE INPUT: true; the input reads as it did. -/
def fnExactIsClassFormSpec : ChangeSpec := { name := "fnExactIsClassForm", fn := fun _ => fun
  | [d] => { results := [.lit (.bool true)], args := [d] }
  | _ => none }
def fnExactIsClassFormRow : OpenClaim := { program := "ytgdhelecflddbaa", sum := "8bb853ac84bfa52fd985a7e901b6de6125b4165da89e859326317ab19a055675", func := "loop.example/g01066/laws.FnExactIsClassForm", spec := "fnExactIsClassForm", apart := false }
def FnExactIsClassFormSaid : Prop := fnExactIsClassFormRow.holds Try.pinned (OpenSpec.ofChange fnExactIsClassFormSpec)

/-- ITS FALSE NEIGHBOUR: 'it returns false'. Refute it at one input. -/
def fnExactIsClassFormWrong : ChangeSpec := { name := "fnExactIsClassForm", fn := fun _ => fun
  | [d] => { results := [.lit (.bool false)], args := [d] }
  | _ => none }
def FnExactIsClassFormWrongFalsely : Prop := fnExactIsClassFormRow.holds Try.pinned (OpenSpec.ofChange fnExactIsClassFormWrong)

/-- 'laws.FnExactIsCharacter': WHATEVER THE INPUT: true; the input reads as it did. -/
def fnExactIsCharacterSpec : ChangeSpec := { name := "fnExactIsCharacter", fn := fun _ => fun
  | [d] => { results := [.lit (.bool true)], args := [d] }
  | _ => none }
def fnExactIsCharacterRow : OpenClaim := { program := "ytgdhelecflddbaa", sum := "8bb853ac84bfa52fd985a7e901b6de6125b4165da89e859326317ab19a055675", func := "loop.example/g01066/laws.FnExactIsCharacter", spec := "fnExactIsCharacter", apart := false }
def FnExactIsCharacterSaid : Prop := fnExactIsCharacterRow.holds Try.pinned (OpenSpec.ofChange fnExactIsCharacterSpec)

/-- ITS FALSE NEIGHBOUR: 'it returns false'. Refute it at one input. -/
def fnExactIsCharacterWrong : ChangeSpec := { name := "fnExactIsCharacter", fn := fun _ => fun
  | [d] => { results := [.lit (.bool false)], args := [d] }
  | _ => none }
def FnExactIsCharacterWrongFalsely : Prop := fnExactIsCharacterRow.holds Try.pinned (OpenSpec.ofChange fnExactIsCharacterWrong)

/-- 'laws.FnExactConjugateIdeal': WHATEVER THE INPUT: true; the input reads as it did. -/
def fnExactConjugateIdealSpec : ChangeSpec := { name := "fnExactConjugateIdeal", fn := fun _ => fun
  | [d1, d2] => { results := [.lit (.bool true)], args := [d1, d2] }
  | _ => none }
def fnExactConjugateIdealRow : OpenClaim := { program := "ytgdhelecflddbaa", sum := "8bb853ac84bfa52fd985a7e901b6de6125b4165da89e859326317ab19a055675", func := "loop.example/g01066/laws.FnExactConjugateIdeal", spec := "fnExactConjugateIdeal", apart := false }
def FnExactConjugateIdealSaid : Prop := fnExactConjugateIdealRow.holds Try.pinned (OpenSpec.ofChange fnExactConjugateIdealSpec)

/-- ITS FALSE NEIGHBOUR: 'it returns false'. Refute it at one input. -/
def fnExactConjugateIdealWrong : ChangeSpec := { name := "fnExactConjugateIdeal", fn := fun _ => fun
  | [d1, d2] => { results := [.lit (.bool false)], args := [d1, d2] }
  | _ => none }
def FnExactConjugateIdealWrongFalsely : Prop := fnExactConjugateIdealRow.holds Try.pinned (OpenSpec.ofChange fnExactConjugateIdealWrong)

/-- 'laws.FnExactMatrixProduct': WHATEVER THE INPUT: true; the input reads as it did. -/
def fnExactMatrixProductSpec : ChangeSpec := { name := "fnExactMatrixProduct", fn := fun _ => fun
  | [d1, d2] => { results := [.lit (.bool true)], args := [d1, d2] }
  | _ => none }
def fnExactMatrixProductRow : OpenClaim := { program := "ytgdhelecflddbaa", sum := "8bb853ac84bfa52fd985a7e901b6de6125b4165da89e859326317ab19a055675", func := "loop.example/g01066/laws.FnExactMatrixProduct", spec := "fnExactMatrixProduct", apart := false }
def FnExactMatrixProductSaid : Prop := fnExactMatrixProductRow.holds Try.pinned (OpenSpec.ofChange fnExactMatrixProductSpec)

/-- ITS FALSE NEIGHBOUR: 'it returns false'. Refute it at one input. -/
def fnExactMatrixProductWrong : ChangeSpec := { name := "fnExactMatrixProduct", fn := fun _ => fun
  | [d1, d2] => { results := [.lit (.bool false)], args := [d1, d2] }
  | _ => none }
def FnExactMatrixProductWrongFalsely : Prop := fnExactMatrixProductRow.holds Try.pinned (OpenSpec.ofChange fnExactMatrixProductWrong)

/-- 'laws.FnExactIsDiscriminant': WHATEVER THE INPUT: true; the input reads as it did. -/
def fnExactIsDiscriminantSpec : ChangeSpec := { name := "fnExactIsDiscriminant", fn := fun _ => fun
  | [d] => { results := [.lit (.bool true)], args := [d] }
  | _ => none }
def fnExactIsDiscriminantRow : OpenClaim := { program := "ytgdhelecflddbaa", sum := "8bb853ac84bfa52fd985a7e901b6de6125b4165da89e859326317ab19a055675", func := "loop.example/g01066/laws.FnExactIsDiscriminant", spec := "fnExactIsDiscriminant", apart := false }
def FnExactIsDiscriminantSaid : Prop := fnExactIsDiscriminantRow.holds Try.pinned (OpenSpec.ofChange fnExactIsDiscriminantSpec)

/-- ITS FALSE NEIGHBOUR: 'it returns false'. Refute it at one input. -/
def fnExactIsDiscriminantWrong : ChangeSpec := { name := "fnExactIsDiscriminant", fn := fun _ => fun
  | [d] => { results := [.lit (.bool false)], args := [d] }
  | _ => none }
def FnExactIsDiscriminantWrongFalsely : Prop := fnExactIsDiscriminantRow.holds Try.pinned (OpenSpec.ofChange fnExactIsDiscriminantWrong)

/-- 'laws.FnExactIdealOfForm': WHATEVER THE INPUT: true; the input reads as it did. -/
def fnExactIdealOfFormSpec : ChangeSpec := { name := "fnExactIdealOfForm", fn := fun _ => fun
  | [d] => { results := [.lit (.bool true)], args := [d] }
  | _ => none }
def fnExactIdealOfFormRow : OpenClaim := { program := "ytgdhelecflddbaa", sum := "8bb853ac84bfa52fd985a7e901b6de6125b4165da89e859326317ab19a055675", func := "loop.example/g01066/laws.FnExactIdealOfForm", spec := "fnExactIdealOfForm", apart := false }
def FnExactIdealOfFormSaid : Prop := fnExactIdealOfFormRow.holds Try.pinned (OpenSpec.ofChange fnExactIdealOfFormSpec)

/-- ITS FALSE NEIGHBOUR: 'it returns false'. Refute it at one input. -/
def fnExactIdealOfFormWrong : ChangeSpec := { name := "fnExactIdealOfForm", fn := fun _ => fun
  | [d] => { results := [.lit (.bool false)], args := [d] }
  | _ => none }
def FnExactIdealOfFormWrongFalsely : Prop := fnExactIdealOfFormRow.holds Try.pinned (OpenSpec.ofChange fnExactIdealOfFormWrong)

/-- 'laws.FnExactIsIndefinite': WHATEVER THE INPUT: true; the input reads as it did. -/
def fnExactIsIndefiniteSpec : ChangeSpec := { name := "fnExactIsIndefinite", fn := fun _ => fun
  | [d] => { results := [.lit (.bool true)], args := [d] }
  | _ => none }
def fnExactIsIndefiniteRow : OpenClaim := { program := "ytgdhelecflddbaa", sum := "8bb853ac84bfa52fd985a7e901b6de6125b4165da89e859326317ab19a055675", func := "loop.example/g01066/laws.FnExactIsIndefinite", spec := "fnExactIsIndefinite", apart := false }
def FnExactIsIndefiniteSaid : Prop := fnExactIsIndefiniteRow.holds Try.pinned (OpenSpec.ofChange fnExactIsIndefiniteSpec)

/-- ITS FALSE NEIGHBOUR: 'it returns false'. Refute it at one input. -/
def fnExactIsIndefiniteWrong : ChangeSpec := { name := "fnExactIsIndefinite", fn := fun _ => fun
  | [d] => { results := [.lit (.bool false)], args := [d] }
  | _ => none }
def FnExactIsIndefiniteWrongFalsely : Prop := fnExactIsIndefiniteRow.holds Try.pinned (OpenSpec.ofChange fnExactIsIndefiniteWrong)

/-- 'laws.FnExactPrincipalForm': WHATEVER THE INPUT: true; the input reads as it did. -/
def fnExactPrincipalFormSpec : ChangeSpec := { name := "fnExactPrincipalForm", fn := fun _ => fun
  | [d] => { results := [.lit (.bool true)], args := [d] }
  | _ => none }
def fnExactPrincipalFormRow : OpenClaim := { program := "ytgdhelecflddbaa", sum := "8bb853ac84bfa52fd985a7e901b6de6125b4165da89e859326317ab19a055675", func := "loop.example/g01066/laws.FnExactPrincipalForm", spec := "fnExactPrincipalForm", apart := false }
def FnExactPrincipalFormSaid : Prop := fnExactPrincipalFormRow.holds Try.pinned (OpenSpec.ofChange fnExactPrincipalFormSpec)

/-- ITS FALSE NEIGHBOUR: 'it returns false'. Refute it at one input. -/
def fnExactPrincipalFormWrong : ChangeSpec := { name := "fnExactPrincipalForm", fn := fun _ => fun
  | [d] => { results := [.lit (.bool false)], args := [d] }
  | _ => none }
def FnExactPrincipalFormWrongFalsely : Prop := fnExactPrincipalFormRow.holds Try.pinned (OpenSpec.ofChange fnExactPrincipalFormWrong)

/- THE SECOND FORM. 'bulk': how many values and letters a reading holds, each counted each time it is reached (what is shared counts as often as it is met; a slice's spare places count too). A statement '..UptoSaid' is the law's where the arguments, and the package variables that the reading takes, are together of bulk at most 1048576: NARROWER than '..Said'. Prove '..Said' where nothing that the law and all that it calls make is longer than what came in: it says more and counts as full. Else prove '..UptoSaid'. A law counts once. -/
mutual
def uptoBulk {H : Type} : DataW H → Nat
  | .lit (.string bytes) => bytes.length + 1
  | .lit _ => 1
  | .nil => 1
  | .ptr d => uptoBulk d + 1
  | .slice elems spare => uptoBulkAll elems + uptoBulkAll spare + 1
  | .agg parts => uptoBulkAll parts + 1
  | .iface _ d => uptoBulk d + 1
  | .map entries => uptoBulkEntries entries + 1
  | .held _ => 1
def uptoBulkAll {H : Type} : List (DataW H) → Nat
  | [] => 0
  | d :: r => uptoBulk d + uptoBulkAll r
def uptoBulkEntries {H : Type} : List (Lit × DataW H) → Nat
  | [] => 0
  | x :: r => uptoBulkEntry x + uptoBulkEntries r
def uptoBulkEntry {H : Type} : Lit × DataW H → Nat
  | (.string bytes, d) => bytes.length + uptoBulk d + 1
  | (_, d) => uptoBulk d + 1
 end
def uptoSmall : (H : Type) → List (DataW H) → Bool := fun _ ds => decide (uptoBulkAll ds ≤ 1048576)
def OpenSpec.upto (s : _root_.Go.ChangeSpec) : _root_.Go.OpenSpec := { _root_.Go.OpenSpec.ofChange s with cond := some uptoSmall }

/-- 'laws.FnExactIsIdeal', WHERE WHAT IT READS IS OF BULK AT MOST 1048576: true; the input reads as it did. -/
def fnExactIsIdealUptoRow : OpenClaim := { program := "ytgdhelecflddbaa", sum := "8bb853ac84bfa52fd985a7e901b6de6125b4165da89e859326317ab19a055675", func := "loop.example/g01066/laws.FnExactIsIdeal", spec := "fnExactIsIdeal", apart := false, narrowed := true }
def FnExactIsIdealUptoSaid : Prop := fnExactIsIdealUptoRow.holds Try.pinned (OpenSpec.upto fnExactIsIdealSpec)

/-- 'laws.FnExactUnitIdeal', WHERE WHAT IT READS IS OF BULK AT MOST 1048576: true; the input reads as it did. -/
def fnExactUnitIdealUptoRow : OpenClaim := { program := "ytgdhelecflddbaa", sum := "8bb853ac84bfa52fd985a7e901b6de6125b4165da89e859326317ab19a055675", func := "loop.example/g01066/laws.FnExactUnitIdeal", spec := "fnExactUnitIdeal", apart := false, narrowed := true }
def FnExactUnitIdealUptoSaid : Prop := fnExactUnitIdealUptoRow.holds Try.pinned (OpenSpec.upto fnExactUnitIdealSpec)

/-- 'laws.FnExactIdealNorm', WHERE WHAT IT READS IS OF BULK AT MOST 1048576: true; the input reads as it did. -/
def fnExactIdealNormUptoRow : OpenClaim := { program := "ytgdhelecflddbaa", sum := "8bb853ac84bfa52fd985a7e901b6de6125b4165da89e859326317ab19a055675", func := "loop.example/g01066/laws.FnExactIdealNorm", spec := "fnExactIdealNorm", apart := false, narrowed := true }
def FnExactIdealNormUptoSaid : Prop := fnExactIdealNormUptoRow.holds Try.pinned (OpenSpec.upto fnExactIdealNormSpec)

/-- 'laws.FnExactIdentityForm', WHERE WHAT IT READS IS OF BULK AT MOST 1048576: true; the input reads as it did. -/
def fnExactIdentityFormUptoRow : OpenClaim := { program := "ytgdhelecflddbaa", sum := "8bb853ac84bfa52fd985a7e901b6de6125b4165da89e859326317ab19a055675", func := "loop.example/g01066/laws.FnExactIdentityForm", spec := "fnExactIdentityForm", apart := false, narrowed := true }
def FnExactIdentityFormUptoSaid : Prop := fnExactIdentityFormUptoRow.holds Try.pinned (OpenSpec.upto fnExactIdentityFormSpec)

/-- 'laws.FnExactIsClassForm', WHERE WHAT IT READS IS OF BULK AT MOST 1048576: true; the input reads as it did. -/
def fnExactIsClassFormUptoRow : OpenClaim := { program := "ytgdhelecflddbaa", sum := "8bb853ac84bfa52fd985a7e901b6de6125b4165da89e859326317ab19a055675", func := "loop.example/g01066/laws.FnExactIsClassForm", spec := "fnExactIsClassForm", apart := false, narrowed := true }
def FnExactIsClassFormUptoSaid : Prop := fnExactIsClassFormUptoRow.holds Try.pinned (OpenSpec.upto fnExactIsClassFormSpec)

/-- 'laws.FnExactIsCharacter', WHERE WHAT IT READS IS OF BULK AT MOST 1048576: true; the input reads as it did. -/
def fnExactIsCharacterUptoRow : OpenClaim := { program := "ytgdhelecflddbaa", sum := "8bb853ac84bfa52fd985a7e901b6de6125b4165da89e859326317ab19a055675", func := "loop.example/g01066/laws.FnExactIsCharacter", spec := "fnExactIsCharacter", apart := false, narrowed := true }
def FnExactIsCharacterUptoSaid : Prop := fnExactIsCharacterUptoRow.holds Try.pinned (OpenSpec.upto fnExactIsCharacterSpec)

/-- 'laws.FnExactConjugateIdeal', WHERE WHAT IT READS IS OF BULK AT MOST 1048576: true; the input reads as it did. -/
def fnExactConjugateIdealUptoRow : OpenClaim := { program := "ytgdhelecflddbaa", sum := "8bb853ac84bfa52fd985a7e901b6de6125b4165da89e859326317ab19a055675", func := "loop.example/g01066/laws.FnExactConjugateIdeal", spec := "fnExactConjugateIdeal", apart := false, narrowed := true }
def FnExactConjugateIdealUptoSaid : Prop := fnExactConjugateIdealUptoRow.holds Try.pinned (OpenSpec.upto fnExactConjugateIdealSpec)

/-- 'laws.FnExactMatrixProduct', WHERE WHAT IT READS IS OF BULK AT MOST 1048576: true; the input reads as it did. -/
def fnExactMatrixProductUptoRow : OpenClaim := { program := "ytgdhelecflddbaa", sum := "8bb853ac84bfa52fd985a7e901b6de6125b4165da89e859326317ab19a055675", func := "loop.example/g01066/laws.FnExactMatrixProduct", spec := "fnExactMatrixProduct", apart := false, narrowed := true }
def FnExactMatrixProductUptoSaid : Prop := fnExactMatrixProductUptoRow.holds Try.pinned (OpenSpec.upto fnExactMatrixProductSpec)

/-- 'laws.FnExactIsDiscriminant', WHERE WHAT IT READS IS OF BULK AT MOST 1048576: true; the input reads as it did. -/
def fnExactIsDiscriminantUptoRow : OpenClaim := { program := "ytgdhelecflddbaa", sum := "8bb853ac84bfa52fd985a7e901b6de6125b4165da89e859326317ab19a055675", func := "loop.example/g01066/laws.FnExactIsDiscriminant", spec := "fnExactIsDiscriminant", apart := false, narrowed := true }
def FnExactIsDiscriminantUptoSaid : Prop := fnExactIsDiscriminantUptoRow.holds Try.pinned (OpenSpec.upto fnExactIsDiscriminantSpec)

/-- 'laws.FnExactIdealOfForm', WHERE WHAT IT READS IS OF BULK AT MOST 1048576: true; the input reads as it did. -/
def fnExactIdealOfFormUptoRow : OpenClaim := { program := "ytgdhelecflddbaa", sum := "8bb853ac84bfa52fd985a7e901b6de6125b4165da89e859326317ab19a055675", func := "loop.example/g01066/laws.FnExactIdealOfForm", spec := "fnExactIdealOfForm", apart := false, narrowed := true }
def FnExactIdealOfFormUptoSaid : Prop := fnExactIdealOfFormUptoRow.holds Try.pinned (OpenSpec.upto fnExactIdealOfFormSpec)

/-- 'laws.FnExactIsIndefinite', WHERE WHAT IT READS IS OF BULK AT MOST 1048576: true; the input reads as it did. -/
def fnExactIsIndefiniteUptoRow : OpenClaim := { program := "ytgdhelecflddbaa", sum := "8bb853ac84bfa52fd985a7e901b6de6125b4165da89e859326317ab19a055675", func := "loop.example/g01066/laws.FnExactIsIndefinite", spec := "fnExactIsIndefinite", apart := false, narrowed := true }
def FnExactIsIndefiniteUptoSaid : Prop := fnExactIsIndefiniteUptoRow.holds Try.pinned (OpenSpec.upto fnExactIsIndefiniteSpec)

/-- 'laws.FnExactPrincipalForm', WHERE WHAT IT READS IS OF BULK AT MOST 1048576: true; the input reads as it did. -/
def fnExactPrincipalFormUptoRow : OpenClaim := { program := "ytgdhelecflddbaa", sum := "8bb853ac84bfa52fd985a7e901b6de6125b4165da89e859326317ab19a055675", func := "loop.example/g01066/laws.FnExactPrincipalForm", spec := "fnExactPrincipalForm", apart := false, narrowed := true }
def FnExactPrincipalFormUptoSaid : Prop := fnExactPrincipalFormUptoRow.holds Try.pinned (OpenSpec.upto fnExactPrincipalFormSpec)

end Rows
end Go.Proofs.Ytgdhelecflddbaa
