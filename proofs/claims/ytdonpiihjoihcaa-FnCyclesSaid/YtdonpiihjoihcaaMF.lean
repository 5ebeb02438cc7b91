/- Maps whose keys are forms: which forms a map of bools holds. -/
import Derived.Test.YtdonpiihjoihcaaD
import Derived.Maps.OwnOps
import Derived.Maps.Views
import Derived.DeepKeys4
namespace Go.Proofs.Ytdonpiihjoihcaa
set_option linter.unusedVariables false
open Go.ChangeShapes Go.WideShapes Go.ChangeAt Go.RowKit Go.Maps Go.WideMaps

theorem laidOutX : laidOutB Try.prog = true := by kernel_rfl
theorem mfRow : 28 < Try.prog.types.size := of_decide_eq_true (by kernel_rfl)
theorem wideF : (match Try.prog.underlying 28 with | some (.array _ _) | some (.struct _) => true | _ => false) = true := by rw [Try.underlying28]
theorem mfKey : Keyed Try.prog 28 := Keyed.of_law (deep_law_laid laidOutX (m := 2) (by omega) mfRow (by kernel_rfl) (by rw [Try.underlying28]))
def agF (a b c : Int) : Value := .agg #[.int .i64 a, .int .i64 b, .int .i64 c]
def wfI (a : Int) : Prop := (Lit.int .i64 a).wf = true
theorem ktF : Try.prog.keyType 28 = true := by kernel_rfl
theorem clF : Try.prog.cellsOf 28 = 3 := by kernel_rfl
theorem clI : Try.prog.cellsOf 3 = 1 := by kernel_rfl
theorem keyOf_ex {a b c : Int} (ha : wfI a) (hb : wfI b) (hc : wfI c) : ∃ l, keyOf Try.prog 28 (agF a b c) = some l := by
  obtain ⟨d, hd⟩ : ∃ d, Try.prog.types.size = d + 1 := ⟨Try.prog.types.size - 1, by have := mfRow; omega⟩
  unfold wfI at ha hb hc
  unfold keyOf
  rw [Try.underlying28]
  have hf : (agF a b c).formed Try.prog 28 = true := by simp [Value.formed, Try.underlying28, clF, agF]
  simp only [ktF, hf, hd, Bool.and_self, if_true]
  have hl : ∃ ls, Try.prog.keyLits (d + 1 + 1) 28 (agF a b c).cells.toList = some ls := by
    unfold Program.keyLits
    rw [Try.underlying28]
    simp [clF, clI, agF, Value.cells, Program.keyLits, Try.underlying3, ha, hb, hc]
  obtain ⟨ls, hls⟩ := hl
  rw [hls]
  exact ⟨_, rfl⟩
end Go.Proofs.Ytdonpiihjoihcaa
