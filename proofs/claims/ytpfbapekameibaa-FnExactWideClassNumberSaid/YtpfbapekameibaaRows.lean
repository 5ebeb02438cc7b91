/-
  No cell of these rows narrows 'for every input' (looked for: loops, veiled, ifaces, maps, wideKeys, modest, calm, conditions, laid).
  DERIVED. THE GIVEN ROWS OF THIS SEAT. 12 by the template 'for every input the law returns true; each argument reads behind the call as it read before'; 0 by the template 'total and deterministic' (their statements: YtpfbapekameibaaTotals.lean).
  GIVEN WITH THE SEED: the statements are not yours to turn. If you find one false, say at which input.
  Laid BY PROGRAM, IN A SANDBOX (cutbox-rows.mjs): the forced cells as the released guide's own fill.sh prints them over the translation a4605149ba757b71… (all of the seat's roots in one cut). By AI agents, Wed Nov 11 2026. No macro, syntax, notation, axiom, sorry.
-/
import Derived.Test.YtpfbapekameibaaChecked
import GoSem.Claim
import GoSem.ClaimJoined
import GoSem.ClaimMapViews
import Derived.JoinedTies
import Derived.KernelRfl
namespace Go.Proofs.Ytpfbapekameibaa
/- THE CELL 'sum', in the pinned program and in every row, IS THE sha256 OF THE DUMP (.gsa) THAT YtpfbapekameibaaProg.lean LOADS. Nothing in Lean hashes anything: it is a label: what it is worth is what the hold of that sum in a sandbox is worth. -/
noncomputable def Try.pinned : Pinned := { name := "ytpfbapekameibaa", sum := "a4605149ba757b71a8dfb3e716ad75988d43cdcac4561681c5a4d0e986036444", checked := Try.checked }
namespace Rows
def none {H : Type} : Left H := { results := [], args := [] }

/-- 'laws.FnExactIsCyclicForm': WHATEVER THE INPUT: true; the input reads as it did. -/
def fnExactIsCyclicFormSpec : ChangeSpec := { name := "fnExactIsCyclicForm", fn := fun _ => fun
  | [d] => { results := [.lit (.bool true)], args := [d] }
  | _ => none }
def fnExactIsCyclicFormRow : OpenClaim := { program := "ytpfbapekameibaa", sum := "a4605149ba757b71a8dfb3e716ad75988d43cdcac4561681c5a4d0e986036444", func := "loop.example/g01066/laws.FnExactIsCyclicForm", spec := "fnExactIsCyclicForm", plainKeys := false, apart := false }
def FnExactIsCyclicFormSaid : Prop := fnExactIsCyclicFormRow.holds Try.pinned (OpenSpec.ofChange fnExactIsCyclicFormSpec)

/-- ITS FALSE NEIGHBOUR: 'it returns false'. Refute it at one input. -/
def fnExactIsCyclicFormWrong : ChangeSpec := { name := "fnExactIsCyclicForm", fn := fun _ => fun
  | [d] => { results := [.lit (.bool false)], args := [d] }
  | _ => none }
def FnExactIsCyclicFormWrongFalsely : Prop := fnExactIsCyclicFormRow.holds Try.pinned (OpenSpec.ofChange fnExactIsCyclicFormWrong)

/-- 'laws.FnExactNextForm': WHATEVER THE INPUT: true; the input reads as it did. -/
def fnExactNextFormSpec : ChangeSpec := { name := "fnExactNextForm", fn := fun _ => fun
  | [d] => { results := [.lit (.bool true)], args := [d] }
  | _ => none }
def fnExactNextFormRow : OpenClaim := { program := "ytpfbapekameibaa", sum := "a4605149ba757b71a8dfb3e716ad75988d43cdcac4561681c5a4d0e986036444", func := "loop.example/g01066/laws.FnExactNextForm", spec := "fnExactNextForm", plainKeys := false, apart := false }
def FnExactNextFormSaid : Prop := fnExactNextFormRow.holds Try.pinned (OpenSpec.ofChange fnExactNextFormSpec)

/-- ITS FALSE NEIGHBOUR: 'it returns false'. Refute it at one input. -/
def fnExactNextFormWrong : ChangeSpec := { name := "fnExactNextForm", fn := fun _ => fun
  | [d] => { results := [.lit (.bool false)], args := [d] }
  | _ => none }
def FnExactNextFormWrongFalsely : Prop := fnExactNextFormRow.holds Try.pinned (OpenSpec.ofChange fnExactNextFormWrong)

/-- 'laws.FnExactCycleProduct': WHATEVER THE INPUT: true; the input reads as it did. -/
def fnExactCycleProductSpec : ChangeSpec := { name := "fnExactCycleProduct", fn := fun _ => fun
  | [d] => { results := [.lit (.bool true)], args := [d] }
  | _ => none }
def fnExactCycleProductRow : OpenClaim := { program := "ytpfbapekameibaa", sum := "a4605149ba757b71a8dfb3e716ad75988d43cdcac4561681c5a4d0e986036444", func := "loop.example/g01066/laws.FnExactCycleProduct", spec := "fnExactCycleProduct", plainKeys := false, apart := false }
def FnExactCycleProductSaid : Prop := fnExactCycleProductRow.holds Try.pinned (OpenSpec.ofChange fnExactCycleProductSpec)

/-- ITS FALSE NEIGHBOUR: 'it returns false'. Refute it at one input. -/
def fnExactCycleProductWrong : ChangeSpec := { name := "fnExactCycleProduct", fn := fun _ => fun
  | [d] => { results := [.lit (.bool false)], args := [d] }
  | _ => none }
def FnExactCycleProductWrongFalsely : Prop := fnExactCycleProductRow.holds Try.pinned (OpenSpec.ofChange fnExactCycleProductWrong)

/-- 'laws.FnExactIndefiniteForms': WHATEVER THE INPUT: true; the input reads as it did. -/
def fnExactIndefiniteFormsSpec : ChangeSpec := { name := "fnExactIndefiniteForms", fn := fun _ => fun
  | [d] => { results := [.lit (.bool true)], args := [d] }
  | _ => none }
def fnExactIndefiniteFormsRow : OpenClaim := { program := "ytpfbapekameibaa", sum := "a4605149ba757b71a8dfb3e716ad75988d43cdcac4561681c5a4d0e986036444", func := "loop.example/g01066/laws.FnExactIndefiniteForms", spec := "fnExactIndefiniteForms", plainKeys := false, apart := false }
def FnExactIndefiniteFormsSaid : Prop := fnExactIndefiniteFormsRow.holds Try.pinned (OpenSpec.ofChange fnExactIndefiniteFormsSpec)

/-- ITS FALSE NEIGHBOUR: 'it returns false'. Refute it at one input. -/
def fnExactIndefiniteFormsWrong : ChangeSpec := { name := "fnExactIndefiniteForms", fn := fun _ => fun
  | [d] => { results := [.lit (.bool false)], args := [d] }
  | _ => none }
def FnExactIndefiniteFormsWrongFalsely : Prop := fnExactIndefiniteFormsRow.holds Try.pinned (OpenSpec.ofChange fnExactIndefiniteFormsWrong)

/-- 'laws.FnExactNarrowClassNumber': WHATEVER THE INPUT: true; the input reads as it did. -/
def fnExactNarrowClassNumberSpec : ChangeSpec := { name := "fnExactNarrowClassNumber", fn := fun _ => fun
  | [d] => { results := [.lit (.bool true)], args := [d] }
  | _ => none }
def fnExactNarrowClassNumberRow : OpenClaim := { program := "ytpfbapekameibaa", sum := "a4605149ba757b71a8dfb3e716ad75988d43cdcac4561681c5a4d0e986036444", func := "loop.example/g01066/laws.FnExactNarrowClassNumber", spec := "fnExactNarrowClassNumber", plainKeys := false, apart := false }
def FnExactNarrowClassNumberSaid : Prop := fnExactNarrowClassNumberRow.holds Try.pinned (OpenSpec.ofChange fnExactNarrowClassNumberSpec)

/-- ITS FALSE NEIGHBOUR: 'it returns false'. Refute it at one input. -/
def fnExactNarrowClassNumberWrong : ChangeSpec := { name := "fnExactNarrowClassNumber", fn := fun _ => fun
  | [d] => { results := [.lit (.bool false)], args := [d] }
  | _ => none }
def FnExactNarrowClassNumberWrongFalsely : Prop := fnExactNarrowClassNumberRow.holds Try.pinned (OpenSpec.ofChange fnExactNarrowClassNumberWrong)

/-- 'laws.FnExactReduceIndefinite': WHATEVER THE INPUT: true; the input reads as it did. -/
def fnExactReduceIndefiniteSpec : ChangeSpec := { name := "fnExactReduceIndefinite", fn := fun _ => fun
  | [d] => { results := [.lit (.bool true)], args := [d] }
  | _ => none }
def fnExactReduceIndefiniteRow : OpenClaim := { program := "ytpfbapekameibaa", sum := "a4605149ba757b71a8dfb3e716ad75988d43cdcac4561681c5a4d0e986036444", func := "loop.example/g01066/laws.FnExactReduceIndefinite", spec := "fnExactReduceIndefinite", plainKeys := false, apart := false }
def FnExactReduceIndefiniteSaid : Prop := fnExactReduceIndefiniteRow.holds Try.pinned (OpenSpec.ofChange fnExactReduceIndefiniteSpec)

/-- ITS FALSE NEIGHBOUR: 'it returns false'. Refute it at one input. -/
def fnExactReduceIndefiniteWrong : ChangeSpec := { name := "fnExactReduceIndefinite", fn := fun _ => fun
  | [d] => { results := [.lit (.bool false)], args := [d] }
  | _ => none }
def FnExactReduceIndefiniteWrongFalsely : Prop := fnExactReduceIndefiniteRow.holds Try.pinned (OpenSpec.ofChange fnExactReduceIndefiniteWrong)

/-- 'laws.FnExactCycleLength': WHATEVER THE INPUT: true; the input reads as it did. -/
def fnExactCycleLengthSpec : ChangeSpec := { name := "fnExactCycleLength", fn := fun _ => fun
  | [d] => { results := [.lit (.bool true)], args := [d] }
  | _ => none }
def fnExactCycleLengthRow : OpenClaim := { program := "ytpfbapekameibaa", sum := "a4605149ba757b71a8dfb3e716ad75988d43cdcac4561681c5a4d0e986036444", func := "loop.example/g01066/laws.FnExactCycleLength", spec := "fnExactCycleLength", plainKeys := false, apart := false }
def FnExactCycleLengthSaid : Prop := fnExactCycleLengthRow.holds Try.pinned (OpenSpec.ofChange fnExactCycleLengthSpec)

/-- ITS FALSE NEIGHBOUR: 'it returns false'. Refute it at one input. -/
def fnExactCycleLengthWrong : ChangeSpec := { name := "fnExactCycleLength", fn := fun _ => fun
  | [d] => { results := [.lit (.bool false)], args := [d] }
  | _ => none }
def FnExactCycleLengthWrongFalsely : Prop := fnExactCycleLengthRow.holds Try.pinned (OpenSpec.ofChange fnExactCycleLengthWrong)

/-- 'laws.FnExactWideClassNumber': WHATEVER THE INPUT: true; the input reads as it did. -/
def fnExactWideClassNumberSpec : ChangeSpec := { name := "fnExactWideClassNumber", fn := fun _ => fun
  | [d] => { results := [.lit (.bool true)], args := [d] }
  | _ => none }
def fnExactWideClassNumberRow : OpenClaim := { program := "ytpfbapekameibaa", sum := "a4605149ba757b71a8dfb3e716ad75988d43cdcac4561681c5a4d0e986036444", func := "loop.example/g01066/laws.FnExactWideClassNumber", spec := "fnExactWideClassNumber", plainKeys := false, apart := false }
def FnExactWideClassNumberSaid : Prop := fnExactWideClassNumberRow.holds Try.pinned (OpenSpec.ofChange fnExactWideClassNumberSpec)

/-- ITS FALSE NEIGHBOUR: 'it returns false'. Refute it at one input. -/
def fnExactWideClassNumberWrong : ChangeSpec := { name := "fnExactWideClassNumber", fn := fun _ => fun
  | [d] => { results := [.lit (.bool false)], args := [d] }
  | _ => none }
def FnExactWideClassNumberWrongFalsely : Prop := fnExactWideClassNumberRow.holds Try.pinned (OpenSpec.ofChange fnExactWideClassNumberWrong)

/-- 'laws.FnExactSameCycle': WHATEVER THE INPUT: true; the input reads as it did. -/
def fnExactSameCycleSpec : ChangeSpec := { name := "fnExactSameCycle", fn := fun _ => fun
  | [d1, d2] => { results := [.lit (.bool true)], args := [d1, d2] }
  | _ => none }
def fnExactSameCycleRow : OpenClaim := { program := "ytpfbapekameibaa", sum := "a4605149ba757b71a8dfb3e716ad75988d43cdcac4561681c5a4d0e986036444", func := "loop.example/g01066/laws.FnExactSameCycle", spec := "fnExactSameCycle", plainKeys := false, apart := false }
def FnExactSameCycleSaid : Prop := fnExactSameCycleRow.holds Try.pinned (OpenSpec.ofChange fnExactSameCycleSpec)

/-- ITS FALSE NEIGHBOUR: 'it returns false'. Refute it at one input. -/
def fnExactSameCycleWrong : ChangeSpec := { name := "fnExactSameCycle", fn := fun _ => fun
  | [d1, d2] => { results := [.lit (.bool false)], args := [d1, d2] }
  | _ => none }
def FnExactSameCycleWrongFalsely : Prop := fnExactSameCycleRow.holds Try.pinned (OpenSpec.ofChange fnExactSameCycleWrong)

/-- 'laws.FnExactCycleOf': WHATEVER THE INPUT: true; the input reads as it did. -/
def fnExactCycleOfSpec : ChangeSpec := { name := "fnExactCycleOf", fn := fun _ => fun
  | [d] => { results := [.lit (.bool true)], args := [d] }
  | _ => none }
def fnExactCycleOfRow : OpenClaim := { program := "ytpfbapekameibaa", sum := "a4605149ba757b71a8dfb3e716ad75988d43cdcac4561681c5a4d0e986036444", func := "loop.example/g01066/laws.FnExactCycleOf", spec := "fnExactCycleOf", plainKeys := false, apart := false }
def FnExactCycleOfSaid : Prop := fnExactCycleOfRow.holds Try.pinned (OpenSpec.ofChange fnExactCycleOfSpec)

/-- ITS FALSE NEIGHBOUR: 'it returns false'. Refute it at one input. -/
def fnExactCycleOfWrong : ChangeSpec := { name := "fnExactCycleOf", fn := fun _ => fun
  | [d] => { results := [.lit (.bool false)], args := [d] }
  | _ => none }
def FnExactCycleOfWrongFalsely : Prop := fnExactCycleOfRow.holds Try.pinned (OpenSpec.ofChange fnExactCycleOfWrong)

/-- 'laws.FnExactCycleMatrix': WHATEVER THE INPUT: true; the input reads as it did. -/
def fnExactCycleMatrixSpec : ChangeSpec := { name := "fnExactCycleMatrix", fn := fun _ => fun
  | [d1, d2] => { results := [.lit (.bool true)], args := [d1, d2] }
  | _ => none }
def fnExactCycleMatrixRow : OpenClaim := { program := "ytpfbapekameibaa", sum := "a4605149ba757b71a8dfb3e716ad75988d43cdcac4561681c5a4d0e986036444", func := "loop.example/g01066/laws.FnExactCycleMatrix", spec := "fnExactCycleMatrix", plainKeys := false, apart := false }
def FnExactCycleMatrixSaid : Prop := fnExactCycleMatrixRow.holds Try.pinned (OpenSpec.ofChange fnExactCycleMatrixSpec)

/-- ITS FALSE NEIGHBOUR: 'it returns false'. Refute it at one input. -/
def fnExactCycleMatrixWrong : ChangeSpec := { name := "fnExactCycleMatrix", fn := fun _ => fun
  | [d1, d2] => { results := [.lit (.bool false)], args := [d1, d2] }
  | _ => none }
def FnExactCycleMatrixWrongFalsely : Prop := fnExactCycleMatrixRow.holds Try.pinned (OpenSpec.ofChange fnExactCycleMatrixWrong)

/-- 'laws.FnExactCyclesOf': WHATEVER THE INPUT: true; the input reads as it did. -/
def fnExactCyclesOfSpec : ChangeSpec := { name := "fnExactCyclesOf", fn := fun _ => fun
  | [d] => { results := [.lit (.bool true)], args := [d] }
  | _ => none }
def fnExactCyclesOfRow : OpenClaim := { program := "ytpfbapekameibaa", sum := "a4605149ba757b71a8dfb3e716ad75988d43cdcac4561681c5a4d0e986036444", func := "loop.example/g01066/laws.FnExactCyclesOf", spec := "fnExactCyclesOf", plainKeys := false, apart := false }
def FnExactCyclesOfSaid : Prop := fnExactCyclesOfRow.holds Try.pinned (OpenSpec.ofChange fnExactCyclesOfSpec)

/-- ITS FALSE NEIGHBOUR: 'it returns false'. Refute it at one input. -/
def fnExactCyclesOfWrong : ChangeSpec := { name := "fnExactCyclesOf", fn := fun _ => fun
  | [d] => { results := [.lit (.bool false)], args := [d] }
  | _ => none }
def FnExactCyclesOfWrongFalsely : Prop := fnExactCyclesOfRow.holds Try.pinned (OpenSpec.ofChange fnExactCyclesOfWrong)

/- THE SECOND FORM. 'bulk': how many values and letters a reading holds, each counted each time it is reached (what is shared counts as often as it is met; a slice's spare places count too). A statement '..UptoSaid' is the law's where the arguments, and the package variables that the reading takes, are together of bulk at most 1048576: NARROWER than '..Said'. Prove '..Said' where nothing that the law and all that it calls make is longer than what came in: it says more and counts as full. Else prove '..UptoSaid'. A law counts once. -/
mutual
def uptoBulk {H : Type} : DataW H → Nat
  | .lit (.string bytes) => bytes.length + 1
  | .lit _ => 1
  | .nil => 1
  | .ptr d => uptoBulk d + 1
  | .slice elems spare => uptoBulkAll elems + uptoBulkAll spare + 1
  | .agg parts => uptoBulkAll parts + 1
  | .iface _ d => uptoBulk d + 1
  | .map entries => uptoBulkEntries entries + 1
  | .held _ => 1
def uptoBulkAll {H : Type} : List (DataW H) → Nat
  | [] => 0
  | d :: r => uptoBulk d + uptoBulkAll r
def uptoBulkEntries {H : Type} : List (Lit × DataW H) → Nat
  | [] => 0
  | x :: r => uptoBulkEntry x + uptoBulkEntries r
def uptoBulkEntry {H : Type} : Lit × DataW H → Nat
  | (.string bytes, d) => bytes.length + uptoBulk d + 1
  | (_, d) => uptoBulk d + 1
 end
def uptoSmall : (H : Type) → List (DataW H) → Bool := fun _ ds => decide (uptoBulkAll ds ≤ 1048576)
def OpenSpec.upto (s : _root_.Go.ChangeSpec) : _root_.Go.OpenSpec := { _root_.Go.OpenSpec.ofChange s with cond := some uptoSmall }

/-- 'laws.FnExactIsCyclicForm', WHERE WHAT IT READS IS OF BULK AT MOST 1048576: true; the input reads as it did. -/
def fnExactIsCyclicFormUptoRow : OpenClaim := { program := "ytpfbapekameibaa", sum := "a4605149ba757b71a8dfb3e716ad75988d43cdcac4561681c5a4d0e986036444", func := "loop.example/g01066/laws.FnExactIsCyclicForm", spec := "fnExactIsCyclicForm", plainKeys := false, apart := false, narrowed := true }
def FnExactIsCyclicFormUptoSaid : Prop := fnExactIsCyclicFormUptoRow.holds Try.pinned (OpenSpec.upto fnExactIsCyclicFormSpec)

/-- 'laws.FnExactNextForm', WHERE WHAT IT READS IS OF BULK AT MOST 1048576: true; the input reads as it did. -/
def fnExactNextFormUptoRow : OpenClaim := { program := "ytpfbapekameibaa", sum := "a4605149ba757b71a8dfb3e716ad75988d43cdcac4561681c5a4d0e986036444", func := "loop.example/g01066/laws.FnExactNextForm", spec := "fnExactNextForm", plainKeys := false, apart := false, narrowed := true }
def FnExactNextFormUptoSaid : Prop := fnExactNextFormUptoRow.holds Try.pinned (OpenSpec.upto fnExactNextFormSpec)

/-- 'laws.FnExactCycleProduct', WHERE WHAT IT READS IS OF BULK AT MOST 1048576: true; the input reads as it did. -/
def fnExactCycleProductUptoRow : OpenClaim := { program := "ytpfbapekameibaa", sum := "a4605149ba757b71a8dfb3e716ad75988d43cdcac4561681c5a4d0e986036444", func := "loop.example/g01066/laws.FnExactCycleProduct", spec := "fnExactCycleProduct", plainKeys := false, apart := false, narrowed := true }
def FnExactCycleProductUptoSaid : Prop := fnExactCycleProductUptoRow.holds Try.pinned (OpenSpec.upto fnExactCycleProductSpec)

/-- 'laws.FnExactIndefiniteForms', WHERE WHAT IT READS IS OF BULK AT MOST 1048576: true; the input reads as it did. -/
def fnExactIndefiniteFormsUptoRow : OpenClaim := { program := "ytpfbapekameibaa", sum := "a4605149ba757b71a8dfb3e716ad75988d43cdcac4561681c5a4d0e986036444", func := "loop.example/g01066/laws.FnExactIndefiniteForms", spec := "fnExactIndefiniteForms", plainKeys := false, apart := false, narrowed := true }
def FnExactIndefiniteFormsUptoSaid : Prop := fnExactIndefiniteFormsUptoRow.holds Try.pinned (OpenSpec.upto fnExactIndefiniteFormsSpec)

/-- 'laws.FnExactNarrowClassNumber', WHERE WHAT IT READS IS OF BULK AT MOST 1048576: true; the input reads as it did. -/
def fnExactNarrowClassNumberUptoRow : OpenClaim := { program := "ytpfbapekameibaa", sum := "a4605149ba757b71a8dfb3e716ad75988d43cdcac4561681c5a4d0e986036444", func := "loop.example/g01066/laws.FnExactNarrowClassNumber", spec := "fnExactNarrowClassNumber", plainKeys := false, apart := false, narrowed := true }
def FnExactNarrowClassNumberUptoSaid : Prop := fnExactNarrowClassNumberUptoRow.holds Try.pinned (OpenSpec.upto fnExactNarrowClassNumberSpec)

/-- 'laws.FnExactReduceIndefinite', WHERE WHAT IT READS IS OF BULK AT MOST 1048576: true; the input reads as it did. -/
def fnExactReduceIndefiniteUptoRow : OpenClaim := { program := "ytpfbapekameibaa", sum := "a4605149ba757b71a8dfb3e716ad75988d43cdcac4561681c5a4d0e986036444", func := "loop.example/g01066/laws.FnExactReduceIndefinite", spec := "fnExactReduceIndefinite", plainKeys := false, apart := false, narrowed := true }
def FnExactReduceIndefiniteUptoSaid : Prop := fnExactReduceIndefiniteUptoRow.holds Try.pinned (OpenSpec.upto fnExactReduceIndefiniteSpec)

/-- 'laws.FnExactCycleLength', WHERE WHAT IT READS IS OF BULK AT MOST 1048576: true; the input reads as it did. -/
def fnExactCycleLengthUptoRow : OpenClaim := { program := "ytpfbapekameibaa", sum := "a4605149ba757b71a8dfb3e716ad75988d43cdcac4561681c5a4d0e986036444", func := "loop.example/g01066/laws.FnExactCycleLength", spec := "fnExactCycleLength", plainKeys := false, apart := false, narrowed := true }
def FnExactCycleLengthUptoSaid : Prop := fnExactCycleLengthUptoRow.holds Try.pinned (OpenSpec.upto fnExactCycleLengthSpec)

/-- 'laws.FnExactWideClassNumber', WHERE WHAT IT READS IS OF BULK AT MOST 1048576: true; the input reads as it did. -/
def fnExactWideClassNumberUptoRow : OpenClaim := { program := "ytpfbapekameibaa", sum := "a4605149ba757b71a8dfb3e716ad75988d43cdcac4561681c5a4d0e986036444", func := "loop.example/g01066/laws.FnExactWideClassNumber", spec := "fnExactWideClassNumber", plainKeys := false, apart := false, narrowed := true }
def FnExactWideClassNumberUptoSaid : Prop := fnExactWideClassNumberUptoRow.holds Try.pinned (OpenSpec.upto fnExactWideClassNumberSpec)

/-- 'laws.FnExactSameCycle', WHERE WHAT IT READS IS OF BULK AT MOST 1048576: true; the input reads as it did. -/
def fnExactSameCycleUptoRow : OpenClaim := { program := "ytpfbapekameibaa", sum := "a4605149ba757b71a8dfb3e716ad75988d43cdcac4561681c5a4d0e986036444", func := "loop.example/g01066/laws.FnExactSameCycle", spec := "fnExactSameCycle", plainKeys := false, apart := false, narrowed := true }
def FnExactSameCycleUptoSaid : Prop := fnExactSameCycleUptoRow.holds Try.pinned (OpenSpec.upto fnExactSameCycleSpec)

/-- 'laws.FnExactCycleOf', WHERE WHAT IT READS IS OF BULK AT MOST 1048576: true; the input reads as it did. -/
def fnExactCycleOfUptoRow : OpenClaim := { program := "ytpfbapekameibaa", sum := "a4605149ba757b71a8dfb3e716ad75988d43cdcac4561681c5a4d0e986036444", func := "loop.example/g01066/laws.FnExactCycleOf", spec := "fnExactCycleOf", plainKeys := false, apart := false, narrowed := true }
def FnExactCycleOfUptoSaid : Prop := fnExactCycleOfUptoRow.holds Try.pinned (OpenSpec.upto fnExactCycleOfSpec)

/-- 'laws.FnExactCycleMatrix', WHERE WHAT IT READS IS OF BULK AT MOST 1048576: true; the input reads as it did. -/
def fnExactCycleMatrixUptoRow : OpenClaim := { program := "ytpfbapekameibaa", sum := "a4605149ba757b71a8dfb3e716ad75988d43cdcac4561681c5a4d0e986036444", func := "loop.example/g01066/laws.FnExactCycleMatrix", spec := "fnExactCycleMatrix", plainKeys := false, apart := false, narrowed := true }
def FnExactCycleMatrixUptoSaid : Prop := fnExactCycleMatrixUptoRow.holds Try.pinned (OpenSpec.upto fnExactCycleMatrixSpec)

/-- 'laws.FnExactCyclesOf', WHERE WHAT IT READS IS OF BULK AT MOST 1048576: true; the input reads as it did. -/
def fnExactCyclesOfUptoRow : OpenClaim := { program := "ytpfbapekameibaa", sum := "a4605149ba757b71a8dfb3e716ad75988d43cdcac4561681c5a4d0e986036444", func := "loop.example/g01066/laws.FnExactCyclesOf", spec := "fnExactCyclesOf", plainKeys := false, apart := false, narrowed := true }
def FnExactCyclesOfUptoSaid : Prop := fnExactCyclesOfUptoRow.holds Try.pinned (OpenSpec.upto fnExactCyclesOfSpec)

end Rows
end Go.Proofs.Ytpfbapekameibaa
