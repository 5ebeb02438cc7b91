/- Contracts: small solutions. -/
import Derived.Test.YtdonpiihjoihcaaH
import Derived.Test.YtdonpiihjoihcaaCZ
namespace Go.Proofs.Ytdonpiihjoihcaa
set_option linter.unusedVariables false
open Go.ChangeShapes Go.WideShapes Go.ChangeAt Go.RowKit

theorem spec_unSmall (t u : Int) (v : Bool) (w : World) (ht : -100000000 ≤ t ∧ t ≤ 100000000) (hv : good u = v) :
    Calls Try.prog 120 #[.agg #[.int .i64 t, .int .i64 u]] w fun e w' => e = .returned (.bool v) ∧ Below w.heap.size w w' := by
  have Hv := Lib.hid hv
  have Ht := Lib.hid (show (decide (-100000000 ≤ t) && decide (t ≤ 100000000)) = true by simp [ht])
  clear hv ht
  go_enter Try.func120, Try.ntmps120
  go_wp2_with fail
  refine (spec_l1In _ _ _ true _ Ht.out).mono ?_
  rintro e w' ⟨rfl, rfl⟩
  go_wp2_with fail
  refine (spec_nuGood u v _ Hv.out).mono ?_
  rintro e w' ⟨rfl, rfl⟩
  go_wp2_with fail
  go_ret
  exact ⟨rfl, by go_grown⟩
theorem spec_unSmall_no (t u : Int) (w : World) (ht : ¬ (-100000000 ≤ t ∧ t ≤ 100000000)) :
    Calls Try.prog 120 #[.agg #[.int .i64 t, .int .i64 u]] w fun e w' => e = .returned (.bool false) ∧ Below w.heap.size w w' := by
  have Ht := Lib.hid (show (decide (-100000000 ≤ t) && decide (t ≤ 100000000)) = false by simpa using fun h => by omega)
  clear ht
  go_enter Try.func120, Try.ntmps120
  go_wp2_with fail
  refine (spec_l1In _ _ _ false _ Ht.out).mono ?_
  rintro e w' ⟨rfl, rfl⟩
  go_wp2_with fail
  go_ret
  exact ⟨rfl, by go_grown⟩
theorem impl_isSmall (t u : Int) (v : Bool) (w : World) (ht : -100000000 ≤ t ∧ t ≤ 100000000) (hv : good u = v) :
    Calls Try.prog 125 #[.agg #[.int .i64 t, .int .i64 u]] w fun e w' => e = .returned (.bool v) ∧ Below w.heap.size w w' := by
  have Hv := Lib.hid hv
  have Ht : (decide ((t.natAbs : Int) ≤ 100000000)) = true := by simp; omega
  have hta : (t.natAbs : Int) ≤ 100000000 := by omega
  obtain ⟨ht1, ht2⟩ := ht
  clear hv
  go_enter Try.func125, Try.ntmps125
  go_wp2_with fail
  refine (impl_abs t _ (by omega) (by omega)).mono ?_
  rintro e w' ⟨rfl, rfl⟩
  go_wp2_with fail
  refine (are1 u _ _ v _ Hv.out (by simp)).mono ?_
  rintro e w' ⟨rfl, rfl⟩
  go_wp2_with fail
  go_ret
  exact ⟨rfl, by go_grown⟩
theorem prod_bd9 {a b : Int} (ha : -1000000000 ≤ a ∧ a ≤ 1000000000) (hb : -1000000 ≤ b ∧ b ≤ 1000000) : -1000000000000000 ≤ a * b ∧ a * b ≤ 1000000000000000 :=
  mulb ha.1 ha.2 hb.1 hb.2
/-- the product where the first matrix has greater entries -/
theorem spec_foMul9 (p q r s x y z u : Int) (w : World) (hp : -1000000000 ≤ p ∧ p ≤ 1000000000) (hq : -1000000000 ≤ q ∧ q ≤ 1000000000) (hr : -1000000000 ≤ r ∧ r ≤ 1000000000) (hs : -1000000000 ≤ s ∧ s ≤ 1000000000) (h' : good4 x y z u = true) :
    Calls Try.prog 107 #[.agg #[.int .i64 p, .int .i64 q, .int .i64 r, .int .i64 s], .agg #[.int .i64 x, .int .i64 y, .int .i64 z, .int .i64 u]] w fun e w' => e = .returned (.agg #[.int .i64 (m1 p q r s x y z u), .int .i64 (m2 p q r s x y z u), .int .i64 (m3 p q r s x y z u), .int .i64 (m4 p q r s x y z u)]) ∧ Below w.heap.size w w' := by
  obtain ⟨hx, hy, hz, hu⟩ := good4_iff.1 h'
  obtain ⟨a1, a2⟩ := prod_bd9 hp hx
  obtain ⟨a3, a4⟩ := prod_bd9 hq hz
  obtain ⟨b1, b2⟩ := prod_bd9 hp hy
  obtain ⟨b3, b4⟩ := prod_bd9 hq hu
  obtain ⟨c1, c2⟩ := prod_bd9 hr hx
  obtain ⟨c3, c4⟩ := prod_bd9 hs hz
  obtain ⟨d1, d2⟩ := prod_bd9 hr hy
  obtain ⟨d3, d4⟩ := prod_bd9 hs hu
  clear h' hp hq hr hs hx hy hz hu
  go_enter Try.func107, Try.ntmps107
  go_wp2_with fail
  go_returns
  exact ⟨rfl, by go_grown⟩
end Go.Proofs.Ytdonpiihjoihcaa
