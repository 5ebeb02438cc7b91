/-
  No cell of these rows narrows 'for every input' (looked for: loops, veiled, ifaces, maps, wideKeys, modest, calm, conditions, laid).
  DERIVED. THE GIVEN ROWS OF THIS SEAT. 11 by the template 'for every input the law returns true; each argument reads behind the call as it read before'; 0 by the template 'total and deterministic' (their statements: YtiblpagbloflhaaTotals.lean).
  GIVEN WITH THE SEED: the statements are not yours to turn. If you find one false, say at which input.
  Laid BY PROGRAM, IN A SANDBOX (cutbox-rows.mjs): the forced cells as the released guide's own fill.sh prints them over the translation dfff7228da33d9cf… (all of the seat's roots in one cut). By AI agents, Wed Nov 11 2026. No macro, syntax, notation, axiom, sorry.
-/
import Derived.Test.YtiblpagbloflhaaChecked
import GoSem.Claim
import GoSem.ClaimJoined
import GoSem.ClaimMapViews
import Derived.JoinedTies
import Derived.KernelRfl
namespace Go.Proofs.Ytiblpagbloflhaa
/- THE CELL 'sum', in the pinned program and in every row, IS THE sha256 OF THE DUMP (.gsa) THAT YtiblpagbloflhaaProg.lean LOADS. Nothing in Lean hashes anything: it is a label: what it is worth is what the hold of that sum in a sandbox is worth. -/
noncomputable def Try.pinned : Pinned := { name := "ytiblpagbloflhaa", sum := "dfff7228da33d9cf202bc1a7ad66a872559672cfd7bd025b492011d00218a1bc", checked := Try.checked }
namespace Rows
def none {H : Type} : Left H := { results := [], args := [] }

/-- 'laws.FnExactCountRepresentations': WHATEVER THE INPUT: true; the input reads as it did. -/
def fnExactCountRepresentationsSpec : ChangeSpec := { name := "fnExactCountRepresentations", fn := fun _ => fun
  | [d1, d2] => { results := [.lit (.bool true)], args := [d1, d2] }
  | _ => none }
def fnExactCountRepresentationsRow : OpenClaim := { program := "ytiblpagbloflhaa", sum := "dfff7228da33d9cf202bc1a7ad66a872559672cfd7bd025b492011d00218a1bc", func := "loop.example/g01066/laws.FnExactCountRepresentations", spec := "fnExactCountRepresentations", apart := false }
def FnExactCountRepresentationsSaid : Prop := fnExactCountRepresentationsRow.holds Try.pinned (OpenSpec.ofChange fnExactCountRepresentationsSpec)

/-- ITS FALSE NEIGHBOUR: 'it returns false'. Refute it at one input. -/
def fnExactCountRepresentationsWrong : ChangeSpec := { name := "fnExactCountRepresentations", fn := fun _ => fun
  | [d1, d2] => { results := [.lit (.bool false)], args := [d1, d2] }
  | _ => none }
def FnExactCountRepresentationsWrongFalsely : Prop := fnExactCountRepresentationsRow.holds Try.pinned (OpenSpec.ofChange fnExactCountRepresentationsWrong)

/-- 'laws.FnExactForbiddingPrime': WHATEVER THE INPUT: true; the input reads as it did. -/
def fnExactForbiddingPrimeSpec : ChangeSpec := { name := "fnExactForbiddingPrime", fn := fun _ => fun
  | [d1, d2] => { results := [.lit (.bool true)], args := [d1, d2] }
  | _ => none }
def fnExactForbiddingPrimeRow : OpenClaim := { program := "ytiblpagbloflhaa", sum := "dfff7228da33d9cf202bc1a7ad66a872559672cfd7bd025b492011d00218a1bc", func := "loop.example/g01066/laws.FnExactForbiddingPrime", spec := "fnExactForbiddingPrime", apart := false }
def FnExactForbiddingPrimeSaid : Prop := fnExactForbiddingPrimeRow.holds Try.pinned (OpenSpec.ofChange fnExactForbiddingPrimeSpec)

/-- ITS FALSE NEIGHBOUR: 'it returns false'. Refute it at one input. -/
def fnExactForbiddingPrimeWrong : ChangeSpec := { name := "fnExactForbiddingPrime", fn := fun _ => fun
  | [d1, d2] => { results := [.lit (.bool false)], args := [d1, d2] }
  | _ => none }
def FnExactForbiddingPrimeWrongFalsely : Prop := fnExactForbiddingPrimeRow.holds Try.pinned (OpenSpec.ofChange fnExactForbiddingPrimeWrong)

/-- 'laws.FnExactIsRepresented': WHATEVER THE INPUT: true; the input reads as it did. -/
def fnExactIsRepresentedSpec : ChangeSpec := { name := "fnExactIsRepresented", fn := fun _ => fun
  | [d1, d2] => { results := [.lit (.bool true)], args := [d1, d2] }
  | _ => none }
def fnExactIsRepresentedRow : OpenClaim := { program := "ytiblpagbloflhaa", sum := "dfff7228da33d9cf202bc1a7ad66a872559672cfd7bd025b492011d00218a1bc", func := "loop.example/g01066/laws.FnExactIsRepresented", spec := "fnExactIsRepresented", apart := false }
def FnExactIsRepresentedSaid : Prop := fnExactIsRepresentedRow.holds Try.pinned (OpenSpec.ofChange fnExactIsRepresentedSpec)

/-- ITS FALSE NEIGHBOUR: 'it returns false'. Refute it at one input. -/
def fnExactIsRepresentedWrong : ChangeSpec := { name := "fnExactIsRepresented", fn := fun _ => fun
  | [d1, d2] => { results := [.lit (.bool false)], args := [d1, d2] }
  | _ => none }
def FnExactIsRepresentedWrongFalsely : Prop := fnExactIsRepresentedRow.holds Try.pinned (OpenSpec.ofChange fnExactIsRepresentedWrong)

/-- 'laws.FnExactRepresentations': WHATEVER THE INPUT: true; the input reads as it did. -/
def fnExactRepresentationsSpec : ChangeSpec := { name := "fnExactRepresentations", fn := fun _ => fun
  | [d1, d2] => { results := [.lit (.bool true)], args := [d1, d2] }
  | _ => none }
def fnExactRepresentationsRow : OpenClaim := { program := "ytiblpagbloflhaa", sum := "dfff7228da33d9cf202bc1a7ad66a872559672cfd7bd025b492011d00218a1bc", func := "loop.example/g01066/laws.FnExactRepresentations", spec := "fnExactRepresentations", apart := false }
def FnExactRepresentationsSaid : Prop := fnExactRepresentationsRow.holds Try.pinned (OpenSpec.ofChange fnExactRepresentationsSpec)

/-- ITS FALSE NEIGHBOUR: 'it returns false'. Refute it at one input. -/
def fnExactRepresentationsWrong : ChangeSpec := { name := "fnExactRepresentations", fn := fun _ => fun
  | [d1, d2] => { results := [.lit (.bool false)], args := [d1, d2] }
  | _ => none }
def FnExactRepresentationsWrongFalsely : Prop := fnExactRepresentationsRow.holds Try.pinned (OpenSpec.ofChange fnExactRepresentationsWrong)

/-- 'laws.FnExactCompletedForm': WHATEVER THE INPUT: true; the input reads as it did. -/
def fnExactCompletedFormSpec : ChangeSpec := { name := "fnExactCompletedForm", fn := fun _ => fun
  | [d1, d2, d3] => { results := [.lit (.bool true)], args := [d1, d2, d3] }
  | _ => none }
def fnExactCompletedFormRow : OpenClaim := { program := "ytiblpagbloflhaa", sum := "dfff7228da33d9cf202bc1a7ad66a872559672cfd7bd025b492011d00218a1bc", func := "loop.example/g01066/laws.FnExactCompletedForm", spec := "fnExactCompletedForm", apart := false }
def FnExactCompletedFormSaid : Prop := fnExactCompletedFormRow.holds Try.pinned (OpenSpec.ofChange fnExactCompletedFormSpec)

/-- ITS FALSE NEIGHBOUR: 'it returns false'. Refute it at one input. -/
def fnExactCompletedFormWrong : ChangeSpec := { name := "fnExactCompletedForm", fn := fun _ => fun
  | [d1, d2, d3] => { results := [.lit (.bool false)], args := [d1, d2, d3] }
  | _ => none }
def FnExactCompletedFormWrongFalsely : Prop := fnExactCompletedFormRow.holds Try.pinned (OpenSpec.ofChange fnExactCompletedFormWrong)

/-- 'laws.FnExactPrimitivePoints': WHATEVER THE INPUT: true; the input reads as it did. -/
def fnExactPrimitivePointsSpec : ChangeSpec := { name := "fnExactPrimitivePoints", fn := fun _ => fun
  | [d1, d2] => { results := [.lit (.bool true)], args := [d1, d2] }
  | _ => none }
def fnExactPrimitivePointsRow : OpenClaim := { program := "ytiblpagbloflhaa", sum := "dfff7228da33d9cf202bc1a7ad66a872559672cfd7bd025b492011d00218a1bc", func := "loop.example/g01066/laws.FnExactPrimitivePoints", spec := "fnExactPrimitivePoints", apart := false }
def FnExactPrimitivePointsSaid : Prop := fnExactPrimitivePointsRow.holds Try.pinned (OpenSpec.ofChange fnExactPrimitivePointsSpec)

/-- ITS FALSE NEIGHBOUR: 'it returns false'. Refute it at one input. -/
def fnExactPrimitivePointsWrong : ChangeSpec := { name := "fnExactPrimitivePoints", fn := fun _ => fun
  | [d1, d2] => { results := [.lit (.bool false)], args := [d1, d2] }
  | _ => none }
def FnExactPrimitivePointsWrongFalsely : Prop := fnExactPrimitivePointsRow.holds Try.pinned (OpenSpec.ofChange fnExactPrimitivePointsWrong)

/-- 'laws.FnExactValuesAt': WHATEVER THE INPUT: true; the input reads as it did. -/
def fnExactValuesAtSpec : ChangeSpec := { name := "fnExactValuesAt", fn := fun _ => fun
  | [d1, d2] => { results := [.lit (.bool true)], args := [d1, d2] }
  | _ => none }
def fnExactValuesAtRow : OpenClaim := { program := "ytiblpagbloflhaa", sum := "dfff7228da33d9cf202bc1a7ad66a872559672cfd7bd025b492011d00218a1bc", func := "loop.example/g01066/laws.FnExactValuesAt", spec := "fnExactValuesAt", apart := false }
def FnExactValuesAtSaid : Prop := fnExactValuesAtRow.holds Try.pinned (OpenSpec.ofChange fnExactValuesAtSpec)

/-- ITS FALSE NEIGHBOUR: 'it returns false'. Refute it at one input. -/
def fnExactValuesAtWrong : ChangeSpec := { name := "fnExactValuesAt", fn := fun _ => fun
  | [d1, d2] => { results := [.lit (.bool false)], args := [d1, d2] }
  | _ => none }
def FnExactValuesAtWrongFalsely : Prop := fnExactValuesAtRow.holds Try.pinned (OpenSpec.ofChange fnExactValuesAtWrong)

/-- 'laws.FnReciprocity': WHATEVER THE INPUT: true; the input reads as it did. -/
def fnReciprocitySpec : ChangeSpec := { name := "fnReciprocity", fn := fun _ => fun
  | [d1, d2] => { results := [.lit (.bool true)], args := [d1, d2] }
  | _ => none }
def fnReciprocityRow : OpenClaim := { program := "ytiblpagbloflhaa", sum := "dfff7228da33d9cf202bc1a7ad66a872559672cfd7bd025b492011d00218a1bc", func := "loop.example/g01066/laws.FnReciprocity", spec := "fnReciprocity", apart := false }
def FnReciprocitySaid : Prop := fnReciprocityRow.holds Try.pinned (OpenSpec.ofChange fnReciprocitySpec)

/-- ITS FALSE NEIGHBOUR: 'it returns false'. Refute it at one input. -/
def fnReciprocityWrong : ChangeSpec := { name := "fnReciprocity", fn := fun _ => fun
  | [d1, d2] => { results := [.lit (.bool false)], args := [d1, d2] }
  | _ => none }
def FnReciprocityWrongFalsely : Prop := fnReciprocityRow.holds Try.pinned (OpenSpec.ofChange fnReciprocityWrong)

/-- 'laws.FnSymbols': WHATEVER THE INPUT: true; the input reads as it did. -/
def fnSymbolsSpec : ChangeSpec := { name := "fnSymbols", fn := fun _ => fun
  | [d1, d2] => { results := [.lit (.bool true)], args := [d1, d2] }
  | _ => none }
def fnSymbolsRow : OpenClaim := { program := "ytiblpagbloflhaa", sum := "dfff7228da33d9cf202bc1a7ad66a872559672cfd7bd025b492011d00218a1bc", func := "loop.example/g01066/laws.FnSymbols", spec := "fnSymbols", apart := false }
def FnSymbolsSaid : Prop := fnSymbolsRow.holds Try.pinned (OpenSpec.ofChange fnSymbolsSpec)

/-- ITS FALSE NEIGHBOUR: 'it returns false'. Refute it at one input. -/
def fnSymbolsWrong : ChangeSpec := { name := "fnSymbols", fn := fun _ => fun
  | [d1, d2] => { results := [.lit (.bool false)], args := [d1, d2] }
  | _ => none }
def FnSymbolsWrongFalsely : Prop := fnSymbolsRow.holds Try.pinned (OpenSpec.ofChange fnSymbolsWrong)

/-- 'laws.FnNorms': WHATEVER THE INPUT: true; the input reads as it did. -/
def fnNormsSpec : ChangeSpec := { name := "fnNorms", fn := fun _ => fun
  | [d1, d2] => { results := [.lit (.bool true)], args := [d1, d2] }
  | _ => none }
def fnNormsRow : OpenClaim := { program := "ytiblpagbloflhaa", sum := "dfff7228da33d9cf202bc1a7ad66a872559672cfd7bd025b492011d00218a1bc", func := "loop.example/g01066/laws.FnNorms", spec := "fnNorms", apart := false }
def FnNormsSaid : Prop := fnNormsRow.holds Try.pinned (OpenSpec.ofChange fnNormsSpec)

/-- ITS FALSE NEIGHBOUR: 'it returns false'. Refute it at one input. -/
def fnNormsWrong : ChangeSpec := { name := "fnNorms", fn := fun _ => fun
  | [d1, d2] => { results := [.lit (.bool false)], args := [d1, d2] }
  | _ => none }
def FnNormsWrongFalsely : Prop := fnNormsRow.holds Try.pinned (OpenSpec.ofChange fnNormsWrong)

/-- 'laws.FnCombinedRoots': WHATEVER THE INPUT: true; the input reads as it did. -/
def fnCombinedRootsSpec : ChangeSpec := { name := "fnCombinedRoots", fn := fun _ => fun
  | [d1, d2] => { results := [.lit (.bool true)], args := [d1, d2] }
  | _ => none }
def fnCombinedRootsRow : OpenClaim := { program := "ytiblpagbloflhaa", sum := "dfff7228da33d9cf202bc1a7ad66a872559672cfd7bd025b492011d00218a1bc", func := "loop.example/g01066/laws.FnCombinedRoots", spec := "fnCombinedRoots", apart := false }
def FnCombinedRootsSaid : Prop := fnCombinedRootsRow.holds Try.pinned (OpenSpec.ofChange fnCombinedRootsSpec)

/-- ITS FALSE NEIGHBOUR: 'it returns false'. Refute it at one input. -/
def fnCombinedRootsWrong : ChangeSpec := { name := "fnCombinedRoots", fn := fun _ => fun
  | [d1, d2] => { results := [.lit (.bool false)], args := [d1, d2] }
  | _ => none }
def FnCombinedRootsWrongFalsely : Prop := fnCombinedRootsRow.holds Try.pinned (OpenSpec.ofChange fnCombinedRootsWrong)

/- THE SECOND FORM. 'bulk': how many values and letters a reading holds, each counted each time it is reached (what is shared counts as often as it is met; a slice's spare places count too). A statement '..UptoSaid' is the law's where the arguments, and the package variables that the reading takes, are together of bulk at most 1048576: NARROWER than '..Said'. Prove '..Said' where nothing that the law and all that it calls make is longer than what came in: it says more and counts as full. Else prove '..UptoSaid'. A law counts once. -/
mutual
def uptoBulk {H : Type} : DataW H → Nat
  | .lit (.string bytes) => bytes.length + 1
  | .lit _ => 1
  | .nil => 1
  | .ptr d => uptoBulk d + 1
  | .slice elems spare => uptoBulkAll elems + uptoBulkAll spare + 1
  | .agg parts => uptoBulkAll parts + 1
  | .iface _ d => uptoBulk d + 1
  | .map entries => uptoBulkEntries entries + 1
  | .held _ => 1
def uptoBulkAll {H : Type} : List (DataW H) → Nat
  | [] => 0
  | d :: r => uptoBulk d + uptoBulkAll r
def uptoBulkEntries {H : Type} : List (Lit × DataW H) → Nat
  | [] => 0
  | x :: r => uptoBulkEntry x + uptoBulkEntries r
def uptoBulkEntry {H : Type} : Lit × DataW H → Nat
  | (.string bytes, d) => bytes.length + uptoBulk d + 1
  | (_, d) => uptoBulk d + 1
 end
def uptoSmall : (H : Type) → List (DataW H) → Bool := fun _ ds => decide (uptoBulkAll ds ≤ 1048576)
def OpenSpec.upto (s : _root_.Go.ChangeSpec) : _root_.Go.OpenSpec := { _root_.Go.OpenSpec.ofChange s with cond := some uptoSmall }

/-- 'laws.FnExactCountRepresentations', WHERE WHAT IT READS IS OF BULK AT MOST 1048576: true; the input reads as it did. -/
def fnExactCountRepresentationsUptoRow : OpenClaim := { program := "ytiblpagbloflhaa", sum := "dfff7228da33d9cf202bc1a7ad66a872559672cfd7bd025b492011d00218a1bc", func := "loop.example/g01066/laws.FnExactCountRepresentations", spec := "fnExactCountRepresentations", apart := false, narrowed := true }
def FnExactCountRepresentationsUptoSaid : Prop := fnExactCountRepresentationsUptoRow.holds Try.pinned (OpenSpec.upto fnExactCountRepresentationsSpec)

/-- 'laws.FnExactForbiddingPrime', WHERE WHAT IT READS IS OF BULK AT MOST 1048576: true; the input reads as it did. -/
def fnExactForbiddingPrimeUptoRow : OpenClaim := { program := "ytiblpagbloflhaa", sum := "dfff7228da33d9cf202bc1a7ad66a872559672cfd7bd025b492011d00218a1bc", func := "loop.example/g01066/laws.FnExactForbiddingPrime", spec := "fnExactForbiddingPrime", apart := false, narrowed := true }
def FnExactForbiddingPrimeUptoSaid : Prop := fnExactForbiddingPrimeUptoRow.holds Try.pinned (OpenSpec.upto fnExactForbiddingPrimeSpec)

/-- 'laws.FnExactIsRepresented', WHERE WHAT IT READS IS OF BULK AT MOST 1048576: true; the input reads as it did. -/
def fnExactIsRepresentedUptoRow : OpenClaim := { program := "ytiblpagbloflhaa", sum := "dfff7228da33d9cf202bc1a7ad66a872559672cfd7bd025b492011d00218a1bc", func := "loop.example/g01066/laws.FnExactIsRepresented", spec := "fnExactIsRepresented", apart := false, narrowed := true }
def FnExactIsRepresentedUptoSaid : Prop := fnExactIsRepresentedUptoRow.holds Try.pinned (OpenSpec.upto fnExactIsRepresentedSpec)

/-- 'laws.FnExactRepresentations', WHERE WHAT IT READS IS OF BULK AT MOST 1048576: true; the input reads as it did. -/
def fnExactRepresentationsUptoRow : OpenClaim := { program := "ytiblpagbloflhaa", sum := "dfff7228da33d9cf202bc1a7ad66a872559672cfd7bd025b492011d00218a1bc", func := "loop.example/g01066/laws.FnExactRepresentations", spec := "fnExactRepresentations", apart := false, narrowed := true }
def FnExactRepresentationsUptoSaid : Prop := fnExactRepresentationsUptoRow.holds Try.pinned (OpenSpec.upto fnExactRepresentationsSpec)

/-- 'laws.FnExactCompletedForm', WHERE WHAT IT READS IS OF BULK AT MOST 1048576: true; the input reads as it did. -/
def fnExactCompletedFormUptoRow : OpenClaim := { program := "ytiblpagbloflhaa", sum := "dfff7228da33d9cf202bc1a7ad66a872559672cfd7bd025b492011d00218a1bc", func := "loop.example/g01066/laws.FnExactCompletedForm", spec := "fnExactCompletedForm", apart := false, narrowed := true }
def FnExactCompletedFormUptoSaid : Prop := fnExactCompletedFormUptoRow.holds Try.pinned (OpenSpec.upto fnExactCompletedFormSpec)

/-- 'laws.FnExactPrimitivePoints', WHERE WHAT IT READS IS OF BULK AT MOST 1048576: true; the input reads as it did. -/
def fnExactPrimitivePointsUptoRow : OpenClaim := { program := "ytiblpagbloflhaa", sum := "dfff7228da33d9cf202bc1a7ad66a872559672cfd7bd025b492011d00218a1bc", func := "loop.example/g01066/laws.FnExactPrimitivePoints", spec := "fnExactPrimitivePoints", apart := false, narrowed := true }
def FnExactPrimitivePointsUptoSaid : Prop := fnExactPrimitivePointsUptoRow.holds Try.pinned (OpenSpec.upto fnExactPrimitivePointsSpec)

/-- 'laws.FnExactValuesAt', WHERE WHAT IT READS IS OF BULK AT MOST 1048576: true; the input reads as it did. -/
def fnExactValuesAtUptoRow : OpenClaim := { program := "ytiblpagbloflhaa", sum := "dfff7228da33d9cf202bc1a7ad66a872559672cfd7bd025b492011d00218a1bc", func := "loop.example/g01066/laws.FnExactValuesAt", spec := "fnExactValuesAt", apart := false, narrowed := true }
def FnExactValuesAtUptoSaid : Prop := fnExactValuesAtUptoRow.holds Try.pinned (OpenSpec.upto fnExactValuesAtSpec)

/-- 'laws.FnReciprocity', WHERE WHAT IT READS IS OF BULK AT MOST 1048576: true; the input reads as it did. -/
def fnReciprocityUptoRow : OpenClaim := { program := "ytiblpagbloflhaa", sum := "dfff7228da33d9cf202bc1a7ad66a872559672cfd7bd025b492011d00218a1bc", func := "loop.example/g01066/laws.FnReciprocity", spec := "fnReciprocity", apart := false, narrowed := true }
def FnReciprocityUptoSaid : Prop := fnReciprocityUptoRow.holds Try.pinned (OpenSpec.upto fnReciprocitySpec)

/-- 'laws.FnSymbols', WHERE WHAT IT READS IS OF BULK AT MOST 1048576: true; the input reads as it did. -/
def fnSymbolsUptoRow : OpenClaim := { program := "ytiblpagbloflhaa", sum := "dfff7228da33d9cf202bc1a7ad66a872559672cfd7bd025b492011d00218a1bc", func := "loop.example/g01066/laws.FnSymbols", spec := "fnSymbols", apart := false, narrowed := true }
def FnSymbolsUptoSaid : Prop := fnSymbolsUptoRow.holds Try.pinned (OpenSpec.upto fnSymbolsSpec)

/-- 'laws.FnNorms', WHERE WHAT IT READS IS OF BULK AT MOST 1048576: true; the input reads as it did. -/
def fnNormsUptoRow : OpenClaim := { program := "ytiblpagbloflhaa", sum := "dfff7228da33d9cf202bc1a7ad66a872559672cfd7bd025b492011d00218a1bc", func := "loop.example/g01066/laws.FnNorms", spec := "fnNorms", apart := false, narrowed := true }
def FnNormsUptoSaid : Prop := fnNormsUptoRow.holds Try.pinned (OpenSpec.upto fnNormsSpec)

/-- 'laws.FnCombinedRoots', WHERE WHAT IT READS IS OF BULK AT MOST 1048576: true; the input reads as it did. -/
def fnCombinedRootsUptoRow : OpenClaim := { program := "ytiblpagbloflhaa", sum := "dfff7228da33d9cf202bc1a7ad66a872559672cfd7bd025b492011d00218a1bc", func := "loop.example/g01066/laws.FnCombinedRoots", spec := "fnCombinedRoots", apart := false, narrowed := true }
def FnCombinedRootsUptoSaid : Prop := fnCombinedRootsUptoRow.holds Try.pinned (OpenSpec.upto fnCombinedRootsSpec)

end Rows
end Go.Proofs.Ytiblpagbloflhaa
