/-
  No cell of these rows narrows 'for every input' (looked for: loops, veiled, ifaces, maps, wideKeys, modest, calm, conditions, laid).
  DERIVED. THE GIVEN ROWS OF THIS SEAT. 12 by the template 'for every input the law returns true; each argument reads behind the call as it read before'; 0 by the template 'total and deterministic' (their statements: YtafcbaganjcnlaaTotals.lean).
  GIVEN WITH THE SEED: the statements are not yours to turn. If you find one false, say at which input.
  Laid BY PROGRAM, IN A SANDBOX (cutbox-rows.mjs): the forced cells as the released guide's own fill.sh prints them over the translation d9f7eeb69a2b46c6… (all of the seat's roots in one cut). By AI agents, Wed Nov 11 2026. No macro, syntax, notation, axiom, sorry.
-/
import Derived.Test.YtafcbaganjcnlaaChecked
import GoSem.Claim
import GoSem.ClaimJoined
import GoSem.ClaimMapViews
import Derived.JoinedTies
import Derived.KernelRfl
namespace Go.Proofs.Ytafcbaganjcnlaa
/- THE CELL 'sum', in the pinned program and in every row, IS THE sha256 OF THE DUMP (.gsa) THAT YtafcbaganjcnlaaProg.lean LOADS. Nothing in Lean hashes anything: it is a label: what it is worth is what the hold of that sum in a sandbox is worth. -/
noncomputable def Try.pinned : Pinned := { name := "ytafcbaganjcnlaa", sum := "d9f7eeb69a2b46c6e934982be8af32d17a323ea9bbb69f96d5870feefeb96539", checked := Try.checked }
namespace Rows
def none {H : Type} : Left H := { results := [], args := [] }

/-- 'laws.FnExactFundamentalPart': WHATEVER THE INPUT: true; the input reads as it did. -/
def fnExactFundamentalPartSpec : ChangeSpec := { name := "fnExactFundamentalPart", fn := fun _ => fun
  | [d] => { results := [.lit (.bool true)], args := [d] }
  | _ => none }
def fnExactFundamentalPartRow : OpenClaim := { program := "ytafcbaganjcnlaa", sum := "d9f7eeb69a2b46c6e934982be8af32d17a323ea9bbb69f96d5870feefeb96539", func := "loop.example/g01066/laws.FnExactFundamentalPart", spec := "fnExactFundamentalPart", apart := false }
def FnExactFundamentalPartSaid : Prop := fnExactFundamentalPartRow.holds Try.pinned (OpenSpec.ofChange fnExactFundamentalPartSpec)

/-- ITS FALSE NEIGHBOUR: 'it returns false'. Refute it at one input. -/
def fnExactFundamentalPartWrong : ChangeSpec := { name := "fnExactFundamentalPart", fn := fun _ => fun
  | [d] => { results := [.lit (.bool false)], args := [d] }
  | _ => none }
def FnExactFundamentalPartWrongFalsely : Prop := fnExactFundamentalPartRow.holds Try.pinned (OpenSpec.ofChange fnExactFundamentalPartWrong)

/-- 'laws.FnExactIsFundamental': WHATEVER THE INPUT: true; the input reads as it did. -/
def fnExactIsFundamentalSpec : ChangeSpec := { name := "fnExactIsFundamental", fn := fun _ => fun
  | [d] => { results := [.lit (.bool true)], args := [d] }
  | _ => none }
def fnExactIsFundamentalRow : OpenClaim := { program := "ytafcbaganjcnlaa", sum := "d9f7eeb69a2b46c6e934982be8af32d17a323ea9bbb69f96d5870feefeb96539", func := "loop.example/g01066/laws.FnExactIsFundamental", spec := "fnExactIsFundamental", apart := false }
def FnExactIsFundamentalSaid : Prop := fnExactIsFundamentalRow.holds Try.pinned (OpenSpec.ofChange fnExactIsFundamentalSpec)

/-- ITS FALSE NEIGHBOUR: 'it returns false'. Refute it at one input. -/
def fnExactIsFundamentalWrong : ChangeSpec := { name := "fnExactIsFundamental", fn := fun _ => fun
  | [d] => { results := [.lit (.bool false)], args := [d] }
  | _ => none }
def FnExactIsFundamentalWrongFalsely : Prop := fnExactIsFundamentalRow.holds Try.pinned (OpenSpec.ofChange fnExactIsFundamentalWrong)

/-- 'laws.FnExactRamifiedPrimes': WHATEVER THE INPUT: true; the input reads as it did. -/
def fnExactRamifiedPrimesSpec : ChangeSpec := { name := "fnExactRamifiedPrimes", fn := fun _ => fun
  | [d] => { results := [.lit (.bool true)], args := [d] }
  | _ => none }
def fnExactRamifiedPrimesRow : OpenClaim := { program := "ytafcbaganjcnlaa", sum := "d9f7eeb69a2b46c6e934982be8af32d17a323ea9bbb69f96d5870feefeb96539", func := "loop.example/g01066/laws.FnExactRamifiedPrimes", spec := "fnExactRamifiedPrimes", apart := false }
def FnExactRamifiedPrimesSaid : Prop := fnExactRamifiedPrimesRow.holds Try.pinned (OpenSpec.ofChange fnExactRamifiedPrimesSpec)

/-- ITS FALSE NEIGHBOUR: 'it returns false'. Refute it at one input. -/
def fnExactRamifiedPrimesWrong : ChangeSpec := { name := "fnExactRamifiedPrimes", fn := fun _ => fun
  | [d] => { results := [.lit (.bool false)], args := [d] }
  | _ => none }
def FnExactRamifiedPrimesWrongFalsely : Prop := fnExactRamifiedPrimesRow.holds Try.pinned (OpenSpec.ofChange fnExactRamifiedPrimesWrong)

/-- 'laws.FnExactFundamentalBetween': WHATEVER THE INPUT: true; the input reads as it did. -/
def fnExactFundamentalBetweenSpec : ChangeSpec := { name := "fnExactFundamentalBetween", fn := fun _ => fun
  | [d1, d2] => { results := [.lit (.bool true)], args := [d1, d2] }
  | _ => none }
def fnExactFundamentalBetweenRow : OpenClaim := { program := "ytafcbaganjcnlaa", sum := "d9f7eeb69a2b46c6e934982be8af32d17a323ea9bbb69f96d5870feefeb96539", func := "loop.example/g01066/laws.FnExactFundamentalBetween", spec := "fnExactFundamentalBetween", apart := false }
def FnExactFundamentalBetweenSaid : Prop := fnExactFundamentalBetweenRow.holds Try.pinned (OpenSpec.ofChange fnExactFundamentalBetweenSpec)

/-- ITS FALSE NEIGHBOUR: 'it returns false'. Refute it at one input. -/
def fnExactFundamentalBetweenWrong : ChangeSpec := { name := "fnExactFundamentalBetween", fn := fun _ => fun
  | [d1, d2] => { results := [.lit (.bool false)], args := [d1, d2] }
  | _ => none }
def FnExactFundamentalBetweenWrongFalsely : Prop := fnExactFundamentalBetweenRow.holds Try.pinned (OpenSpec.ofChange fnExactFundamentalBetweenWrong)

/-- 'laws.FnExactAssignedCharacters': WHATEVER THE INPUT: true; the input reads as it did. -/
def fnExactAssignedCharactersSpec : ChangeSpec := { name := "fnExactAssignedCharacters", fn := fun _ => fun
  | [d] => { results := [.lit (.bool true)], args := [d] }
  | _ => none }
def fnExactAssignedCharactersRow : OpenClaim := { program := "ytafcbaganjcnlaa", sum := "d9f7eeb69a2b46c6e934982be8af32d17a323ea9bbb69f96d5870feefeb96539", func := "loop.example/g01066/laws.FnExactAssignedCharacters", spec := "fnExactAssignedCharacters", apart := false }
def FnExactAssignedCharactersSaid : Prop := fnExactAssignedCharactersRow.holds Try.pinned (OpenSpec.ofChange fnExactAssignedCharactersSpec)

/-- ITS FALSE NEIGHBOUR: 'it returns false'. Refute it at one input. -/
def fnExactAssignedCharactersWrong : ChangeSpec := { name := "fnExactAssignedCharacters", fn := fun _ => fun
  | [d] => { results := [.lit (.bool false)], args := [d] }
  | _ => none }
def FnExactAssignedCharactersWrongFalsely : Prop := fnExactAssignedCharactersRow.holds Try.pinned (OpenSpec.ofChange fnExactAssignedCharactersWrong)

/-- 'laws.FnExactCharacterValue': WHATEVER THE INPUT: true; the input reads as it did. -/
def fnExactCharacterValueSpec : ChangeSpec := { name := "fnExactCharacterValue", fn := fun _ => fun
  | [d1, d2] => { results := [.lit (.bool true)], args := [d1, d2] }
  | _ => none }
def fnExactCharacterValueRow : OpenClaim := { program := "ytafcbaganjcnlaa", sum := "d9f7eeb69a2b46c6e934982be8af32d17a323ea9bbb69f96d5870feefeb96539", func := "loop.example/g01066/laws.FnExactCharacterValue", spec := "fnExactCharacterValue", apart := false }
def FnExactCharacterValueSaid : Prop := fnExactCharacterValueRow.holds Try.pinned (OpenSpec.ofChange fnExactCharacterValueSpec)

/-- ITS FALSE NEIGHBOUR: 'it returns false'. Refute it at one input. -/
def fnExactCharacterValueWrong : ChangeSpec := { name := "fnExactCharacterValue", fn := fun _ => fun
  | [d1, d2] => { results := [.lit (.bool false)], args := [d1, d2] }
  | _ => none }
def FnExactCharacterValueWrongFalsely : Prop := fnExactCharacterValueRow.holds Try.pinned (OpenSpec.ofChange fnExactCharacterValueWrong)

/-- 'laws.FnExactCharacterOf': WHATEVER THE INPUT: true; the input reads as it did. -/
def fnExactCharacterOfSpec : ChangeSpec := { name := "fnExactCharacterOf", fn := fun _ => fun
  | [d1, d2] => { results := [.lit (.bool true)], args := [d1, d2] }
  | _ => none }
def fnExactCharacterOfRow : OpenClaim := { program := "ytafcbaganjcnlaa", sum := "d9f7eeb69a2b46c6e934982be8af32d17a323ea9bbb69f96d5870feefeb96539", func := "loop.example/g01066/laws.FnExactCharacterOf", spec := "fnExactCharacterOf", apart := false }
def FnExactCharacterOfSaid : Prop := fnExactCharacterOfRow.holds Try.pinned (OpenSpec.ofChange fnExactCharacterOfSpec)

/-- ITS FALSE NEIGHBOUR: 'it returns false'. Refute it at one input. -/
def fnExactCharacterOfWrong : ChangeSpec := { name := "fnExactCharacterOf", fn := fun _ => fun
  | [d1, d2] => { results := [.lit (.bool false)], args := [d1, d2] }
  | _ => none }
def FnExactCharacterOfWrongFalsely : Prop := fnExactCharacterOfRow.holds Try.pinned (OpenSpec.ofChange fnExactCharacterOfWrong)

/-- 'laws.FnExactCharacterRow': WHATEVER THE INPUT: true; the input reads as it did. -/
def fnExactCharacterRowSpec : ChangeSpec := { name := "fnExactCharacterRow", fn := fun _ => fun
  | [d] => { results := [.lit (.bool true)], args := [d] }
  | _ => none }
def fnExactCharacterRowRow : OpenClaim := { program := "ytafcbaganjcnlaa", sum := "d9f7eeb69a2b46c6e934982be8af32d17a323ea9bbb69f96d5870feefeb96539", func := "loop.example/g01066/laws.FnExactCharacterRow", spec := "fnExactCharacterRow", apart := false }
def FnExactCharacterRowSaid : Prop := fnExactCharacterRowRow.holds Try.pinned (OpenSpec.ofChange fnExactCharacterRowSpec)

/-- ITS FALSE NEIGHBOUR: 'it returns false'. Refute it at one input. -/
def fnExactCharacterRowWrong : ChangeSpec := { name := "fnExactCharacterRow", fn := fun _ => fun
  | [d] => { results := [.lit (.bool false)], args := [d] }
  | _ => none }
def FnExactCharacterRowWrongFalsely : Prop := fnExactCharacterRowRow.holds Try.pinned (OpenSpec.ofChange fnExactCharacterRowWrong)

/-- 'laws.FnExactPrimeDiscriminants': WHATEVER THE INPUT: true; the input reads as it did. -/
def fnExactPrimeDiscriminantsSpec : ChangeSpec := { name := "fnExactPrimeDiscriminants", fn := fun _ => fun
  | [d] => { results := [.lit (.bool true)], args := [d] }
  | _ => none }
def fnExactPrimeDiscriminantsRow : OpenClaim := { program := "ytafcbaganjcnlaa", sum := "d9f7eeb69a2b46c6e934982be8af32d17a323ea9bbb69f96d5870feefeb96539", func := "loop.example/g01066/laws.FnExactPrimeDiscriminants", spec := "fnExactPrimeDiscriminants", apart := false }
def FnExactPrimeDiscriminantsSaid : Prop := fnExactPrimeDiscriminantsRow.holds Try.pinned (OpenSpec.ofChange fnExactPrimeDiscriminantsSpec)

/-- ITS FALSE NEIGHBOUR: 'it returns false'. Refute it at one input. -/
def fnExactPrimeDiscriminantsWrong : ChangeSpec := { name := "fnExactPrimeDiscriminants", fn := fun _ => fun
  | [d] => { results := [.lit (.bool false)], args := [d] }
  | _ => none }
def FnExactPrimeDiscriminantsWrongFalsely : Prop := fnExactPrimeDiscriminantsRow.holds Try.pinned (OpenSpec.ofChange fnExactPrimeDiscriminantsWrong)

/-- 'laws.FnExactKindOfPrime': WHATEVER THE INPUT: true; the input reads as it did. -/
def fnExactKindOfPrimeSpec : ChangeSpec := { name := "fnExactKindOfPrime", fn := fun _ => fun
  | [d1, d2] => { results := [.lit (.bool true)], args := [d1, d2] }
  | _ => none }
def fnExactKindOfPrimeRow : OpenClaim := { program := "ytafcbaganjcnlaa", sum := "d9f7eeb69a2b46c6e934982be8af32d17a323ea9bbb69f96d5870feefeb96539", func := "loop.example/g01066/laws.FnExactKindOfPrime", spec := "fnExactKindOfPrime", apart := false }
def FnExactKindOfPrimeSaid : Prop := fnExactKindOfPrimeRow.holds Try.pinned (OpenSpec.ofChange fnExactKindOfPrimeSpec)

/-- ITS FALSE NEIGHBOUR: 'it returns false'. Refute it at one input. -/
def fnExactKindOfPrimeWrong : ChangeSpec := { name := "fnExactKindOfPrime", fn := fun _ => fun
  | [d1, d2] => { results := [.lit (.bool false)], args := [d1, d2] }
  | _ => none }
def FnExactKindOfPrimeWrongFalsely : Prop := fnExactKindOfPrimeRow.holds Try.pinned (OpenSpec.ofChange fnExactKindOfPrimeWrong)

/-- 'laws.FnExactLeastOfKind': WHATEVER THE INPUT: true; the input reads as it did. -/
def fnExactLeastOfKindSpec : ChangeSpec := { name := "fnExactLeastOfKind", fn := fun _ => fun
  | [d1, d2] => { results := [.lit (.bool true)], args := [d1, d2] }
  | _ => none }
def fnExactLeastOfKindRow : OpenClaim := { program := "ytafcbaganjcnlaa", sum := "d9f7eeb69a2b46c6e934982be8af32d17a323ea9bbb69f96d5870feefeb96539", func := "loop.example/g01066/laws.FnExactLeastOfKind", spec := "fnExactLeastOfKind", apart := false }
def FnExactLeastOfKindSaid : Prop := fnExactLeastOfKindRow.holds Try.pinned (OpenSpec.ofChange fnExactLeastOfKindSpec)

/-- ITS FALSE NEIGHBOUR: 'it returns false'. Refute it at one input. -/
def fnExactLeastOfKindWrong : ChangeSpec := { name := "fnExactLeastOfKind", fn := fun _ => fun
  | [d1, d2] => { results := [.lit (.bool false)], args := [d1, d2] }
  | _ => none }
def FnExactLeastOfKindWrongFalsely : Prop := fnExactLeastOfKindRow.holds Try.pinned (OpenSpec.ofChange fnExactLeastOfKindWrong)

/-- 'laws.FnExactConductorFactor': WHATEVER THE INPUT: true; the input reads as it did. -/
def fnExactConductorFactorSpec : ChangeSpec := { name := "fnExactConductorFactor", fn := fun _ => fun
  | [d] => { results := [.lit (.bool true)], args := [d] }
  | _ => none }
def fnExactConductorFactorRow : OpenClaim := { program := "ytafcbaganjcnlaa", sum := "d9f7eeb69a2b46c6e934982be8af32d17a323ea9bbb69f96d5870feefeb96539", func := "loop.example/g01066/laws.FnExactConductorFactor", spec := "fnExactConductorFactor", apart := false }
def FnExactConductorFactorSaid : Prop := fnExactConductorFactorRow.holds Try.pinned (OpenSpec.ofChange fnExactConductorFactorSpec)

/-- ITS FALSE NEIGHBOUR: 'it returns false'. Refute it at one input. -/
def fnExactConductorFactorWrong : ChangeSpec := { name := "fnExactConductorFactor", fn := fun _ => fun
  | [d] => { results := [.lit (.bool false)], args := [d] }
  | _ => none }
def FnExactConductorFactorWrongFalsely : Prop := fnExactConductorFactorRow.holds Try.pinned (OpenSpec.ofChange fnExactConductorFactorWrong)

/- THE SECOND FORM. 'bulk': how many values and letters a reading holds, each counted each time it is reached (what is shared counts as often as it is met; a slice's spare places count too). A statement '..UptoSaid' is the law's where the arguments, and the package variables that the reading takes, are together of bulk at most 1048576: NARROWER than '..Said'. Prove '..Said' where nothing that the law and all that it calls make is longer than what came in: it says more and counts as full. Else prove '..UptoSaid'. A law counts once. -/
mutual
def uptoBulk {H : Type} : DataW H → Nat
  | .lit (.string bytes) => bytes.length + 1
  | .lit _ => 1
  | .nil => 1
  | .ptr d => uptoBulk d + 1
  | .slice elems spare => uptoBulkAll elems + uptoBulkAll spare + 1
  | .agg parts => uptoBulkAll parts + 1
  | .iface _ d => uptoBulk d + 1
  | .map entries => uptoBulkEntries entries + 1
  | .held _ => 1
def uptoBulkAll {H : Type} : List (DataW H) → Nat
  | [] => 0
  | d :: r => uptoBulk d + uptoBulkAll r
def uptoBulkEntries {H : Type} : List (Lit × DataW H) → Nat
  | [] => 0
  | x :: r => uptoBulkEntry x + uptoBulkEntries r
def uptoBulkEntry {H : Type} : Lit × DataW H → Nat
  | (.string bytes, d) => bytes.length + uptoBulk d + 1
  | (_, d) => uptoBulk d + 1
 end
def uptoSmall : (H : Type) → List (DataW H) → Bool := fun _ ds => decide (uptoBulkAll ds ≤ 1048576)
def OpenSpec.upto (s : _root_.Go.ChangeSpec) : _root_.Go.OpenSpec := { _root_.Go.OpenSpec.ofChange s with cond := some uptoSmall }

/-- 'laws.FnExactFundamentalPart', WHERE WHAT IT READS IS OF BULK AT MOST 1048576: true; the input reads as it did. -/
def fnExactFundamentalPartUptoRow : OpenClaim := { program := "ytafcbaganjcnlaa", sum := "d9f7eeb69a2b46c6e934982be8af32d17a323ea9bbb69f96d5870feefeb96539", func := "loop.example/g01066/laws.FnExactFundamentalPart", spec := "fnExactFundamentalPart", apart := false, narrowed := true }
def FnExactFundamentalPartUptoSaid : Prop := fnExactFundamentalPartUptoRow.holds Try.pinned (OpenSpec.upto fnExactFundamentalPartSpec)

/-- 'laws.FnExactIsFundamental', WHERE WHAT IT READS IS OF BULK AT MOST 1048576: true; the input reads as it did. -/
def fnExactIsFundamentalUptoRow : OpenClaim := { program := "ytafcbaganjcnlaa", sum := "d9f7eeb69a2b46c6e934982be8af32d17a323ea9bbb69f96d5870feefeb96539", func := "loop.example/g01066/laws.FnExactIsFundamental", spec := "fnExactIsFundamental", apart := false, narrowed := true }
def FnExactIsFundamentalUptoSaid : Prop := fnExactIsFundamentalUptoRow.holds Try.pinned (OpenSpec.upto fnExactIsFundamentalSpec)

/-- 'laws.FnExactRamifiedPrimes', WHERE WHAT IT READS IS OF BULK AT MOST 1048576: true; the input reads as it did. -/
def fnExactRamifiedPrimesUptoRow : OpenClaim := { program := "ytafcbaganjcnlaa", sum := "d9f7eeb69a2b46c6e934982be8af32d17a323ea9bbb69f96d5870feefeb96539", func := "loop.example/g01066/laws.FnExactRamifiedPrimes", spec := "fnExactRamifiedPrimes", apart := false, narrowed := true }
def FnExactRamifiedPrimesUptoSaid : Prop := fnExactRamifiedPrimesUptoRow.holds Try.pinned (OpenSpec.upto fnExactRamifiedPrimesSpec)

/-- 'laws.FnExactFundamentalBetween', WHERE WHAT IT READS IS OF BULK AT MOST 1048576: true; the input reads as it did. -/
def fnExactFundamentalBetweenUptoRow : OpenClaim := { program := "ytafcbaganjcnlaa", sum := "d9f7eeb69a2b46c6e934982be8af32d17a323ea9bbb69f96d5870feefeb96539", func := "loop.example/g01066/laws.FnExactFundamentalBetween", spec := "fnExactFundamentalBetween", apart := false, narrowed := true }
def FnExactFundamentalBetweenUptoSaid : Prop := fnExactFundamentalBetweenUptoRow.holds Try.pinned (OpenSpec.upto fnExactFundamentalBetweenSpec)

/-- 'laws.FnExactAssignedCharacters', WHERE WHAT IT READS IS OF BULK AT MOST 1048576: true; the input reads as it did. -/
def fnExactAssignedCharactersUptoRow : OpenClaim := { program := "ytafcbaganjcnlaa", sum := "d9f7eeb69a2b46c6e934982be8af32d17a323ea9bbb69f96d5870feefeb96539", func := "loop.example/g01066/laws.FnExactAssignedCharacters", spec := "fnExactAssignedCharacters", apart := false, narrowed := true }
def FnExactAssignedCharactersUptoSaid : Prop := fnExactAssignedCharactersUptoRow.holds Try.pinned (OpenSpec.upto fnExactAssignedCharactersSpec)

/-- 'laws.FnExactCharacterValue', WHERE WHAT IT READS IS OF BULK AT MOST 1048576: true; the input reads as it did. -/
def fnExactCharacterValueUptoRow : OpenClaim := { program := "ytafcbaganjcnlaa", sum := "d9f7eeb69a2b46c6e934982be8af32d17a323ea9bbb69f96d5870feefeb96539", func := "loop.example/g01066/laws.FnExactCharacterValue", spec := "fnExactCharacterValue", apart := false, narrowed := true }
def FnExactCharacterValueUptoSaid : Prop := fnExactCharacterValueUptoRow.holds Try.pinned (OpenSpec.upto fnExactCharacterValueSpec)

/-- 'laws.FnExactCharacterOf', WHERE WHAT IT READS IS OF BULK AT MOST 1048576: true; the input reads as it did. -/
def fnExactCharacterOfUptoRow : OpenClaim := { program := "ytafcbaganjcnlaa", sum := "d9f7eeb69a2b46c6e934982be8af32d17a323ea9bbb69f96d5870feefeb96539", func := "loop.example/g01066/laws.FnExactCharacterOf", spec := "fnExactCharacterOf", apart := false, narrowed := true }
def FnExactCharacterOfUptoSaid : Prop := fnExactCharacterOfUptoRow.holds Try.pinned (OpenSpec.upto fnExactCharacterOfSpec)

/-- 'laws.FnExactCharacterRow', WHERE WHAT IT READS IS OF BULK AT MOST 1048576: true; the input reads as it did. -/
def fnExactCharacterRowUptoRow : OpenClaim := { program := "ytafcbaganjcnlaa", sum := "d9f7eeb69a2b46c6e934982be8af32d17a323ea9bbb69f96d5870feefeb96539", func := "loop.example/g01066/laws.FnExactCharacterRow", spec := "fnExactCharacterRow", apart := false, narrowed := true }
def FnExactCharacterRowUptoSaid : Prop := fnExactCharacterRowUptoRow.holds Try.pinned (OpenSpec.upto fnExactCharacterRowSpec)

/-- 'laws.FnExactPrimeDiscriminants', WHERE WHAT IT READS IS OF BULK AT MOST 1048576: true; the input reads as it did. -/
def fnExactPrimeDiscriminantsUptoRow : OpenClaim := { program := "ytafcbaganjcnlaa", sum := "d9f7eeb69a2b46c6e934982be8af32d17a323ea9bbb69f96d5870feefeb96539", func := "loop.example/g01066/laws.FnExactPrimeDiscriminants", spec := "fnExactPrimeDiscriminants", apart := false, narrowed := true }
def FnExactPrimeDiscriminantsUptoSaid : Prop := fnExactPrimeDiscriminantsUptoRow.holds Try.pinned (OpenSpec.upto fnExactPrimeDiscriminantsSpec)

/-- 'laws.FnExactKindOfPrime', WHERE WHAT IT READS IS OF BULK AT MOST 1048576: true; the input reads as it did. -/
def fnExactKindOfPrimeUptoRow : OpenClaim := { program := "ytafcbaganjcnlaa", sum := "d9f7eeb69a2b46c6e934982be8af32d17a323ea9bbb69f96d5870feefeb96539", func := "loop.example/g01066/laws.FnExactKindOfPrime", spec := "fnExactKindOfPrime", apart := false, narrowed := true }
def FnExactKindOfPrimeUptoSaid : Prop := fnExactKindOfPrimeUptoRow.holds Try.pinned (OpenSpec.upto fnExactKindOfPrimeSpec)

/-- 'laws.FnExactLeastOfKind', WHERE WHAT IT READS IS OF BULK AT MOST 1048576: true; the input reads as it did. -/
def fnExactLeastOfKindUptoRow : OpenClaim := { program := "ytafcbaganjcnlaa", sum := "d9f7eeb69a2b46c6e934982be8af32d17a323ea9bbb69f96d5870feefeb96539", func := "loop.example/g01066/laws.FnExactLeastOfKind", spec := "fnExactLeastOfKind", apart := false, narrowed := true }
def FnExactLeastOfKindUptoSaid : Prop := fnExactLeastOfKindUptoRow.holds Try.pinned (OpenSpec.upto fnExactLeastOfKindSpec)

/-- 'laws.FnExactConductorFactor', WHERE WHAT IT READS IS OF BULK AT MOST 1048576: true; the input reads as it did. -/
def fnExactConductorFactorUptoRow : OpenClaim := { program := "ytafcbaganjcnlaa", sum := "d9f7eeb69a2b46c6e934982be8af32d17a323ea9bbb69f96d5870feefeb96539", func := "loop.example/g01066/laws.FnExactConductorFactor", spec := "fnExactConductorFactor", apart := false, narrowed := true }
def FnExactConductorFactorUptoSaid : Prop := fnExactConductorFactorUptoRow.holds Try.pinned (OpenSpec.upto fnExactConductorFactorSpec)

end Rows
end Go.Proofs.Ytafcbaganjcnlaa
