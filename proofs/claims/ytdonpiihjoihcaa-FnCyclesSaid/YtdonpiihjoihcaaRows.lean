/-
  No cell of these rows narrows 'for every input' (looked for: loops, veiled, ifaces, maps, wideKeys, modest, calm, conditions, laid).
  DERIVED. THE GIVEN ROWS OF THIS SEAT. 10 by the template 'for every input the law returns true; each argument reads behind the call as it read before'; 0 by the template 'total and deterministic' (their statements: YtdonpiihjoihcaaTotals.lean).
  GIVEN WITH THE SEED: the statements are not yours to turn. If you find one false, say at which input.
  Laid BY PROGRAM, IN A SANDBOX (cutbox-rows.mjs): the forced cells as the released guide's own fill.sh prints them over the translation d026e247888694f1… (all of the seat's roots in one cut). By AI agents, Wed Nov 11 2026. No macro, syntax, notation, axiom, sorry.
-/
import Derived.Test.YtdonpiihjoihcaaChecked
import GoSem.Claim
import GoSem.ClaimJoined
import GoSem.ClaimMapViews
import Derived.JoinedTies
import Derived.KernelRfl
namespace Go.Proofs.Ytdonpiihjoihcaa
/- THE CELL 'sum', in the pinned program and in every row, IS THE sha256 OF THE DUMP (.gsa) THAT YtdonpiihjoihcaaProg.lean LOADS. Nothing in Lean hashes anything: it is a label: what it is worth is what the hold of that sum in a sandbox is worth. -/
noncomputable def Try.pinned : Pinned := { name := "ytdonpiihjoihcaa", sum := "d026e247888694f16c1b62f8bd3e25c0c0e3cc4237149ac19aeb9bef0655b694", checked := Try.checked }
namespace Rows
def none {H : Type} : Left H := { results := [], args := [] }

/-- 'laws.FnExactAutomorphExponent': WHATEVER THE INPUT: true; the input reads as it did. -/
def fnExactAutomorphExponentSpec : ChangeSpec := { name := "fnExactAutomorphExponent", fn := fun _ => fun
  | [d1, d2] => { results := [.lit (.bool true)], args := [d1, d2] }
  | _ => none }
def fnExactAutomorphExponentRow : OpenClaim := { program := "ytdonpiihjoihcaa", sum := "d026e247888694f16c1b62f8bd3e25c0c0e3cc4237149ac19aeb9bef0655b694", func := "loop.example/g01066/laws.FnExactAutomorphExponent", spec := "fnExactAutomorphExponent", inPlace := ["math.sqrt"], plainKeys := false, apart := false }
def FnExactAutomorphExponentSaid : Prop := fnExactAutomorphExponentRow.holds Try.pinned (OpenSpec.ofChange fnExactAutomorphExponentSpec)

/-- ITS FALSE NEIGHBOUR: 'it returns false'. Refute it at one input. -/
def fnExactAutomorphExponentWrong : ChangeSpec := { name := "fnExactAutomorphExponent", fn := fun _ => fun
  | [d1, d2] => { results := [.lit (.bool false)], args := [d1, d2] }
  | _ => none }
def FnExactAutomorphExponentWrongFalsely : Prop := fnExactAutomorphExponentRow.holds Try.pinned (OpenSpec.ofChange fnExactAutomorphExponentWrong)

/-- 'laws.FnExactIndefinitePoints': WHATEVER THE INPUT: true; the input reads as it did. -/
def fnExactIndefinitePointsSpec : ChangeSpec := { name := "fnExactIndefinitePoints", fn := fun _ => fun
  | [d1, d2] => { results := [.lit (.bool true)], args := [d1, d2] }
  | _ => none }
def fnExactIndefinitePointsRow : OpenClaim := { program := "ytdonpiihjoihcaa", sum := "d026e247888694f16c1b62f8bd3e25c0c0e3cc4237149ac19aeb9bef0655b694", func := "loop.example/g01066/laws.FnExactIndefinitePoints", spec := "fnExactIndefinitePoints", plainKeys := false, apart := false }
def FnExactIndefinitePointsSaid : Prop := fnExactIndefinitePointsRow.holds Try.pinned (OpenSpec.ofChange fnExactIndefinitePointsSpec)

/-- ITS FALSE NEIGHBOUR: 'it returns false'. Refute it at one input. -/
def fnExactIndefinitePointsWrong : ChangeSpec := { name := "fnExactIndefinitePoints", fn := fun _ => fun
  | [d1, d2] => { results := [.lit (.bool false)], args := [d1, d2] }
  | _ => none }
def FnExactIndefinitePointsWrongFalsely : Prop := fnExactIndefinitePointsRow.holds Try.pinned (OpenSpec.ofChange fnExactIndefinitePointsWrong)

/-- 'laws.FnCycles': WHATEVER THE INPUT: true; the input reads as it did. -/
def fnCyclesSpec : ChangeSpec := { name := "fnCycles", fn := fun _ => fun
  | [d1, d2] => { results := [.lit (.bool true)], args := [d1, d2] }
  | _ => none }
def fnCyclesRow : OpenClaim := { program := "ytdonpiihjoihcaa", sum := "d026e247888694f16c1b62f8bd3e25c0c0e3cc4237149ac19aeb9bef0655b694", func := "loop.example/g01066/laws.FnCycles", spec := "fnCycles", inPlace := ["math.sqrt"], plainKeys := false, apart := false }
def FnCyclesSaid : Prop := fnCyclesRow.holds Try.pinned (OpenSpec.ofChange fnCyclesSpec)

/-- ITS FALSE NEIGHBOUR: 'it returns false'. Refute it at one input. -/
def fnCyclesWrong : ChangeSpec := { name := "fnCycles", fn := fun _ => fun
  | [d1, d2] => { results := [.lit (.bool false)], args := [d1, d2] }
  | _ => none }
def FnCyclesWrongFalsely : Prop := fnCyclesRow.holds Try.pinned (OpenSpec.ofChange fnCyclesWrong)

/-- 'laws.FnExactPellFour': WHATEVER THE INPUT: true; the input reads as it did. -/
def fnExactPellFourSpec : ChangeSpec := { name := "fnExactPellFour", fn := fun _ => fun
  | [d] => { results := [.lit (.bool true)], args := [d] }
  | _ => none }
def fnExactPellFourRow : OpenClaim := { program := "ytdonpiihjoihcaa", sum := "d026e247888694f16c1b62f8bd3e25c0c0e3cc4237149ac19aeb9bef0655b694", func := "loop.example/g01066/laws.FnExactPellFour", spec := "fnExactPellFour", inPlace := ["math.sqrt"], plainKeys := false, apart := false }
def FnExactPellFourSaid : Prop := fnExactPellFourRow.holds Try.pinned (OpenSpec.ofChange fnExactPellFourSpec)

/-- ITS FALSE NEIGHBOUR: 'it returns false'. Refute it at one input. -/
def fnExactPellFourWrong : ChangeSpec := { name := "fnExactPellFour", fn := fun _ => fun
  | [d] => { results := [.lit (.bool false)], args := [d] }
  | _ => none }
def FnExactPellFourWrongFalsely : Prop := fnExactPellFourRow.holds Try.pinned (OpenSpec.ofChange fnExactPellFourWrong)

/-- 'laws.FnExactPellOne': WHATEVER THE INPUT: true; the input reads as it did. -/
def fnExactPellOneSpec : ChangeSpec := { name := "fnExactPellOne", fn := fun _ => fun
  | [d] => { results := [.lit (.bool true)], args := [d] }
  | _ => none }
def fnExactPellOneRow : OpenClaim := { program := "ytdonpiihjoihcaa", sum := "d026e247888694f16c1b62f8bd3e25c0c0e3cc4237149ac19aeb9bef0655b694", func := "loop.example/g01066/laws.FnExactPellOne", spec := "fnExactPellOne", inPlace := ["math.sqrt"], plainKeys := false, apart := false }
def FnExactPellOneSaid : Prop := fnExactPellOneRow.holds Try.pinned (OpenSpec.ofChange fnExactPellOneSpec)

/-- ITS FALSE NEIGHBOUR: 'it returns false'. Refute it at one input. -/
def fnExactPellOneWrong : ChangeSpec := { name := "fnExactPellOne", fn := fun _ => fun
  | [d] => { results := [.lit (.bool false)], args := [d] }
  | _ => none }
def FnExactPellOneWrongFalsely : Prop := fnExactPellOneRow.holds Try.pinned (OpenSpec.ofChange fnExactPellOneWrong)

/-- 'laws.FnExactPrincipalCycle': WHATEVER THE INPUT: true; the input reads as it did. -/
def fnExactPrincipalCycleSpec : ChangeSpec := { name := "fnExactPrincipalCycle", fn := fun _ => fun
  | [d] => { results := [.lit (.bool true)], args := [d] }
  | _ => none }
def fnExactPrincipalCycleRow : OpenClaim := { program := "ytdonpiihjoihcaa", sum := "d026e247888694f16c1b62f8bd3e25c0c0e3cc4237149ac19aeb9bef0655b694", func := "loop.example/g01066/laws.FnExactPrincipalCycle", spec := "fnExactPrincipalCycle", plainKeys := false, apart := false }
def FnExactPrincipalCycleSaid : Prop := fnExactPrincipalCycleRow.holds Try.pinned (OpenSpec.ofChange fnExactPrincipalCycleSpec)

/-- ITS FALSE NEIGHBOUR: 'it returns false'. Refute it at one input. -/
def fnExactPrincipalCycleWrong : ChangeSpec := { name := "fnExactPrincipalCycle", fn := fun _ => fun
  | [d] => { results := [.lit (.bool false)], args := [d] }
  | _ => none }
def FnExactPrincipalCycleWrongFalsely : Prop := fnExactPrincipalCycleRow.holds Try.pinned (OpenSpec.ofChange fnExactPrincipalCycleWrong)

/-- 'laws.FnExactPellPower': WHATEVER THE INPUT: true; the input reads as it did. -/
def fnExactPellPowerSpec : ChangeSpec := { name := "fnExactPellPower", fn := fun _ => fun
  | [d1, d2] => { results := [.lit (.bool true)], args := [d1, d2] }
  | _ => none }
def fnExactPellPowerRow : OpenClaim := { program := "ytdonpiihjoihcaa", sum := "d026e247888694f16c1b62f8bd3e25c0c0e3cc4237149ac19aeb9bef0655b694", func := "loop.example/g01066/laws.FnExactPellPower", spec := "fnExactPellPower", inPlace := ["math.sqrt"], plainKeys := false, apart := false }
def FnExactPellPowerSaid : Prop := fnExactPellPowerRow.holds Try.pinned (OpenSpec.ofChange fnExactPellPowerSpec)

/-- ITS FALSE NEIGHBOUR: 'it returns false'. Refute it at one input. -/
def fnExactPellPowerWrong : ChangeSpec := { name := "fnExactPellPower", fn := fun _ => fun
  | [d1, d2] => { results := [.lit (.bool false)], args := [d1, d2] }
  | _ => none }
def FnExactPellPowerWrongFalsely : Prop := fnExactPellPowerRow.holds Try.pinned (OpenSpec.ofChange fnExactPellPowerWrong)

/-- 'laws.FnExactPellMinusFour': WHATEVER THE INPUT: true; the input reads as it did. -/
def fnExactPellMinusFourSpec : ChangeSpec := { name := "fnExactPellMinusFour", fn := fun _ => fun
  | [d] => { results := [.lit (.bool true)], args := [d] }
  | _ => none }
def fnExactPellMinusFourRow : OpenClaim := { program := "ytdonpiihjoihcaa", sum := "d026e247888694f16c1b62f8bd3e25c0c0e3cc4237149ac19aeb9bef0655b694", func := "loop.example/g01066/laws.FnExactPellMinusFour", spec := "fnExactPellMinusFour", inPlace := ["math.sqrt"], plainKeys := false, apart := false }
def FnExactPellMinusFourSaid : Prop := fnExactPellMinusFourRow.holds Try.pinned (OpenSpec.ofChange fnExactPellMinusFourSpec)

/-- ITS FALSE NEIGHBOUR: 'it returns false'. Refute it at one input. -/
def fnExactPellMinusFourWrong : ChangeSpec := { name := "fnExactPellMinusFour", fn := fun _ => fun
  | [d] => { results := [.lit (.bool false)], args := [d] }
  | _ => none }
def FnExactPellMinusFourWrongFalsely : Prop := fnExactPellMinusFourRow.holds Try.pinned (OpenSpec.ofChange fnExactPellMinusFourWrong)

/-- 'laws.FnExactUnitNorm': WHATEVER THE INPUT: true; the input reads as it did. -/
def fnExactUnitNormSpec : ChangeSpec := { name := "fnExactUnitNorm", fn := fun _ => fun
  | [d] => { results := [.lit (.bool true)], args := [d] }
  | _ => none }
def fnExactUnitNormRow : OpenClaim := { program := "ytdonpiihjoihcaa", sum := "d026e247888694f16c1b62f8bd3e25c0c0e3cc4237149ac19aeb9bef0655b694", func := "loop.example/g01066/laws.FnExactUnitNorm", spec := "fnExactUnitNorm", inPlace := ["math.sqrt"], plainKeys := false, apart := false }
def FnExactUnitNormSaid : Prop := fnExactUnitNormRow.holds Try.pinned (OpenSpec.ofChange fnExactUnitNormSpec)

/-- ITS FALSE NEIGHBOUR: 'it returns false'. Refute it at one input. -/
def fnExactUnitNormWrong : ChangeSpec := { name := "fnExactUnitNorm", fn := fun _ => fun
  | [d] => { results := [.lit (.bool false)], args := [d] }
  | _ => none }
def FnExactUnitNormWrongFalsely : Prop := fnExactUnitNormRow.holds Try.pinned (OpenSpec.ofChange fnExactUnitNormWrong)

/-- 'laws.FnExactIndefiniteAutomorph': WHATEVER THE INPUT: true; the input reads as it did. -/
def fnExactIndefiniteAutomorphSpec : ChangeSpec := { name := "fnExactIndefiniteAutomorph", fn := fun _ => fun
  | [d1, d2] => { results := [.lit (.bool true)], args := [d1, d2] }
  | _ => none }
def fnExactIndefiniteAutomorphRow : OpenClaim := { program := "ytdonpiihjoihcaa", sum := "d026e247888694f16c1b62f8bd3e25c0c0e3cc4237149ac19aeb9bef0655b694", func := "loop.example/g01066/laws.FnExactIndefiniteAutomorph", spec := "fnExactIndefiniteAutomorph", inPlace := ["math.sqrt"], plainKeys := false, apart := false }
def FnExactIndefiniteAutomorphSaid : Prop := fnExactIndefiniteAutomorphRow.holds Try.pinned (OpenSpec.ofChange fnExactIndefiniteAutomorphSpec)

/-- ITS FALSE NEIGHBOUR: 'it returns false'. Refute it at one input. -/
def fnExactIndefiniteAutomorphWrong : ChangeSpec := { name := "fnExactIndefiniteAutomorph", fn := fun _ => fun
  | [d1, d2] => { results := [.lit (.bool false)], args := [d1, d2] }
  | _ => none }
def FnExactIndefiniteAutomorphWrongFalsely : Prop := fnExactIndefiniteAutomorphRow.holds Try.pinned (OpenSpec.ofChange fnExactIndefiniteAutomorphWrong)

/- THE SECOND FORM. 'bulk': how many values and letters a reading holds, each counted each time it is reached (what is shared counts as often as it is met; a slice's spare places count too). A statement '..UptoSaid' is the law's where the arguments, and the package variables that the reading takes, are together of bulk at most 1048576: NARROWER than '..Said'. Prove '..Said' where nothing that the law and all that it calls make is longer than what came in: it says more and counts as full. Else prove '..UptoSaid'. A law counts once. -/
mutual
def uptoBulk {H : Type} : DataW H → Nat
  | .lit (.string bytes) => bytes.length + 1
  | .lit _ => 1
  | .nil => 1
  | .ptr d => uptoBulk d + 1
  | .slice elems spare => uptoBulkAll elems + uptoBulkAll spare + 1
  | .agg parts => uptoBulkAll parts + 1
  | .iface _ d => uptoBulk d + 1
  | .map entries => uptoBulkEntries entries + 1
  | .held _ => 1
def uptoBulkAll {H : Type} : List (DataW H) → Nat
  | [] => 0
  | d :: r => uptoBulk d + uptoBulkAll r
def uptoBulkEntries {H : Type} : List (Lit × DataW H) → Nat
  | [] => 0
  | x :: r => uptoBulkEntry x + uptoBulkEntries r
def uptoBulkEntry {H : Type} : Lit × DataW H → Nat
  | (.string bytes, d) => bytes.length + uptoBulk d + 1
  | (_, d) => uptoBulk d + 1
 end
def uptoSmall : (H : Type) → List (DataW H) → Bool := fun _ ds => decide (uptoBulkAll ds ≤ 1048576)
def OpenSpec.upto (s : _root_.Go.ChangeSpec) : _root_.Go.OpenSpec := { _root_.Go.OpenSpec.ofChange s with cond := some uptoSmall }

/-- 'laws.FnExactAutomorphExponent', WHERE WHAT IT READS IS OF BULK AT MOST 1048576: true; the input reads as it did. -/
def fnExactAutomorphExponentUptoRow : OpenClaim := { program := "ytdonpiihjoihcaa", sum := "d026e247888694f16c1b62f8bd3e25c0c0e3cc4237149ac19aeb9bef0655b694", func := "loop.example/g01066/laws.FnExactAutomorphExponent", spec := "fnExactAutomorphExponent", inPlace := ["math.sqrt"], plainKeys := false, apart := false, narrowed := true }
def FnExactAutomorphExponentUptoSaid : Prop := fnExactAutomorphExponentUptoRow.holds Try.pinned (OpenSpec.upto fnExactAutomorphExponentSpec)

/-- 'laws.FnExactIndefinitePoints', WHERE WHAT IT READS IS OF BULK AT MOST 1048576: true; the input reads as it did. -/
def fnExactIndefinitePointsUptoRow : OpenClaim := { program := "ytdonpiihjoihcaa", sum := "d026e247888694f16c1b62f8bd3e25c0c0e3cc4237149ac19aeb9bef0655b694", func := "loop.example/g01066/laws.FnExactIndefinitePoints", spec := "fnExactIndefinitePoints", plainKeys := false, apart := false, narrowed := true }
def FnExactIndefinitePointsUptoSaid : Prop := fnExactIndefinitePointsUptoRow.holds Try.pinned (OpenSpec.upto fnExactIndefinitePointsSpec)

/-- 'laws.FnCycles', WHERE WHAT IT READS IS OF BULK AT MOST 1048576: true; the input reads as it did. -/
def fnCyclesUptoRow : OpenClaim := { program := "ytdonpiihjoihcaa", sum := "d026e247888694f16c1b62f8bd3e25c0c0e3cc4237149ac19aeb9bef0655b694", func := "loop.example/g01066/laws.FnCycles", spec := "fnCycles", inPlace := ["math.sqrt"], plainKeys := false, apart := false, narrowed := true }
def FnCyclesUptoSaid : Prop := fnCyclesUptoRow.holds Try.pinned (OpenSpec.upto fnCyclesSpec)

/-- 'laws.FnExactPellFour', WHERE WHAT IT READS IS OF BULK AT MOST 1048576: true; the input reads as it did. -/
def fnExactPellFourUptoRow : OpenClaim := { program := "ytdonpiihjoihcaa", sum := "d026e247888694f16c1b62f8bd3e25c0c0e3cc4237149ac19aeb9bef0655b694", func := "loop.example/g01066/laws.FnExactPellFour", spec := "fnExactPellFour", inPlace := ["math.sqrt"], plainKeys := false, apart := false, narrowed := true }
def FnExactPellFourUptoSaid : Prop := fnExactPellFourUptoRow.holds Try.pinned (OpenSpec.upto fnExactPellFourSpec)

/-- 'laws.FnExactPellOne', WHERE WHAT IT READS IS OF BULK AT MOST 1048576: true; the input reads as it did. -/
def fnExactPellOneUptoRow : OpenClaim := { program := "ytdonpiihjoihcaa", sum := "d026e247888694f16c1b62f8bd3e25c0c0e3cc4237149ac19aeb9bef0655b694", func := "loop.example/g01066/laws.FnExactPellOne", spec := "fnExactPellOne", inPlace := ["math.sqrt"], plainKeys := false, apart := false, narrowed := true }
def FnExactPellOneUptoSaid : Prop := fnExactPellOneUptoRow.holds Try.pinned (OpenSpec.upto fnExactPellOneSpec)

/-- 'laws.FnExactPrincipalCycle', WHERE WHAT IT READS IS OF BULK AT MOST 1048576: true; the input reads as it did. -/
def fnExactPrincipalCycleUptoRow : OpenClaim := { program := "ytdonpiihjoihcaa", sum := "d026e247888694f16c1b62f8bd3e25c0c0e3cc4237149ac19aeb9bef0655b694", func := "loop.example/g01066/laws.FnExactPrincipalCycle", spec := "fnExactPrincipalCycle", plainKeys := false, apart := false, narrowed := true }
def FnExactPrincipalCycleUptoSaid : Prop := fnExactPrincipalCycleUptoRow.holds Try.pinned (OpenSpec.upto fnExactPrincipalCycleSpec)

/-- 'laws.FnExactPellPower', WHERE WHAT IT READS IS OF BULK AT MOST 1048576: true; the input reads as it did. -/
def fnExactPellPowerUptoRow : OpenClaim := { program := "ytdonpiihjoihcaa", sum := "d026e247888694f16c1b62f8bd3e25c0c0e3cc4237149ac19aeb9bef0655b694", func := "loop.example/g01066/laws.FnExactPellPower", spec := "fnExactPellPower", inPlace := ["math.sqrt"], plainKeys := false, apart := false, narrowed := true }
def FnExactPellPowerUptoSaid : Prop := fnExactPellPowerUptoRow.holds Try.pinned (OpenSpec.upto fnExactPellPowerSpec)

/-- 'laws.FnExactPellMinusFour', WHERE WHAT IT READS IS OF BULK AT MOST 1048576: true; the input reads as it did. -/
def fnExactPellMinusFourUptoRow : OpenClaim := { program := "ytdonpiihjoihcaa", sum := "d026e247888694f16c1b62f8bd3e25c0c0e3cc4237149ac19aeb9bef0655b694", func := "loop.example/g01066/laws.FnExactPellMinusFour", spec := "fnExactPellMinusFour", inPlace := ["math.sqrt"], plainKeys := false, apart := false, narrowed := true }
def FnExactPellMinusFourUptoSaid : Prop := fnExactPellMinusFourUptoRow.holds Try.pinned (OpenSpec.upto fnExactPellMinusFourSpec)

/-- 'laws.FnExactUnitNorm', WHERE WHAT IT READS IS OF BULK AT MOST 1048576: true; the input reads as it did. -/
def fnExactUnitNormUptoRow : OpenClaim := { program := "ytdonpiihjoihcaa", sum := "d026e247888694f16c1b62f8bd3e25c0c0e3cc4237149ac19aeb9bef0655b694", func := "loop.example/g01066/laws.FnExactUnitNorm", spec := "fnExactUnitNorm", inPlace := ["math.sqrt"], plainKeys := false, apart := false, narrowed := true }
def FnExactUnitNormUptoSaid : Prop := fnExactUnitNormUptoRow.holds Try.pinned (OpenSpec.upto fnExactUnitNormSpec)

/-- 'laws.FnExactIndefiniteAutomorph', WHERE WHAT IT READS IS OF BULK AT MOST 1048576: true; the input reads as it did. -/
def fnExactIndefiniteAutomorphUptoRow : OpenClaim := { program := "ytdonpiihjoihcaa", sum := "d026e247888694f16c1b62f8bd3e25c0c0e3cc4237149ac19aeb9bef0655b694", func := "loop.example/g01066/laws.FnExactIndefiniteAutomorph", spec := "fnExactIndefiniteAutomorph", inPlace := ["math.sqrt"], plainKeys := false, apart := false, narrowed := true }
def FnExactIndefiniteAutomorphUptoSaid : Prop := fnExactIndefiniteAutomorphUptoRow.holds Try.pinned (OpenSpec.upto fnExactIndefiniteAutomorphSpec)

end Rows
end Go.Proofs.Ytdonpiihjoihcaa
