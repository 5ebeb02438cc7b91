/- Contracts: the symbols of Jacobi and Kronecker. -/
import Derived.Test.YtdonpiihjoihcaaB
import Derived.Test.YtdonpiihjoihcaaJ
namespace Go.Proofs.Ytdonpiihjoihcaa
set_option linter.unusedVariables false
open Go.ChangeShapes Go.WideShapes Go.ChangeAt Go.RowKit

theorem beqT {a b : Int} (h : a = b) : (a == b) = true := by simpa using h
theorem beqF {a b : Int} (h : ¬ a = b) : (a == b) = false := by simpa using h
theorem bneT {a b : Int} (h : ¬ a = b) : (a != b) = true := by simpa using h
theorem bneF {a b : Int} (h : a = b) : (a != b) = false := by simpa using h
/-! the reference's symbol, by its steps -/
/-! the symbol of Kronecker -/
def KrAt (a M S : Int) (n s : Value) : Prop := ∃ n' s' : Int, n = .int .i64 n' ∧ s = .int .i64 s' ∧ 1 ≤ n' ∧ n' ≤ 1000000000 ∧ (-1 ≤ s' ∧ s' ≤ 1) ∧ kron2 a n' s' = kron2 a M S
theorem kr_done {a n m s : Int} (hn : n ≠ 0) (h : kron2 a m s = kron2 a n.natAbs (ksign a n)) (ho : ¬ m % 2 = 0) : s * J a m = kron a n := by
  rw [kron_ne hn, ← h, kron2_no ho]
theorem kr_even {a n m s : Int} (hn : n ≠ 0) (h : kron2 a m s = kron2 a n.natAbs (ksign a n)) (ha : a % 2 = 0) (h0 : m ≠ 0) (he : m % 2 = 0) : 0 = kron a n := by
  rw [kron_ne hn, ← h, kron2_even ha h0 he, Int.zero_mul]
theorem ksign_bd (a n : Int) : -1 ≤ ksign a n ∧ ksign a n ≤ 1 := by unfold ksign; split <;> omega
end Go.Proofs.Ytdonpiihjoihcaa
