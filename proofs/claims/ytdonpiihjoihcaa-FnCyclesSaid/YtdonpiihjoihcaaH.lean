/- Contracts and walks of the laws: matrix products, ideals of forms. -/
import Derived.Test.YtdonpiihjoihcaaG
namespace Go.Proofs.Ytdonpiihjoihcaa
set_option linter.unusedVariables false
open Go.ChangeShapes Go.WideShapes Go.ChangeAt Go.RowKit

theorem spec_foMatrix (p q r s : Int) (v : Bool) (w : World) (hv : good4 p q r s = v) :
    Calls Try.prog 52 #[.agg #[.int .i64 p, .int .i64 q, .int .i64 r, .int .i64 s]] w fun e w' => e = .returned (.bool v) ∧ Below w.heap.size w w' := by
  have Hv := Lib.hid hv
  clear hv
  go_enter Try.func52, Try.ntmps52
  go_wp2_with (go_at_call 96; refine (spec_nuGood _ _ _ rfl).mono ?_; rintro e w' ⟨rfl, rfl⟩)
  all_goals (try go_ret)
  all_goals exact ⟨rbool (by rw [← Hv.out]; simp_all [good4]), by go_grown⟩
theorem impl_IsMatrix (p q r s : Int) (v : Bool) (w : World) (hv : good4 p q r s = v) :
    Calls Try.prog 57 #[.agg #[.int .i64 p, .int .i64 q, .int .i64 r, .int .i64 s]] w fun e w' => e = .returned (.bool v) ∧ Below w.heap.size w w' := by
  have Hv := Lib.hid hv
  clear hv
  go_enter Try.func57, Try.ntmps57
  go_wp2_with fail
  refine (are4 p q r s _ _ v _ Hv.out (by simp) (by simp) (by simp) (by simp)).mono ?_
  rintro e w' ⟨rfl, rfl⟩
  go_wp2
  go_ret
  exact ⟨rfl, by go_grown⟩
theorem impl_checked_yes (p q r s : Int) (w : World) (h : good4 p q r s = true) :
    Calls Try.prog 101 #[.agg #[.int .i64 p, .int .i64 q, .int .i64 r, .int .i64 s]] w fun e w' => e = .returned (.tuple #[.agg #[.int .i64 p, .int .i64 q, .int .i64 r, .int .i64 s], .bool true]) ∧ Below w.heap.size w w' := by
  have H := Lib.hid h
  clear h
  go_enter Try.func101, Try.ntmps101
  go_wp2_with fail
  refine (impl_IsMatrix p q r s true _ H.out).mono ?_
  rintro e w1 ⟨rfl, hb1⟩
  have hB1 : Below w.heap.size w w1 := Below.after (by go_grown) hb1
  obtain ⟨hc1, hf1⟩ := bcell hb1
  have hy1 := hb1.size
  try simp at hy1
  first | (with_reducible have hx1 := Nat.lt_of_succ_le hy1) | skip
  first | (with_reducible have hv1 := Nat.lt_of_succ_lt hx1) | skip
  first | (with_reducible have hu1 := Nat.lt_of_succ_lt hv1) | skip
  first | (have hz1 : w.heap.size < w1.heap.size := by omega) | (have hz1 := hB1.size)
  clear hb1
  go_wp2_with fail
  refine bodyPost_ret (v := .tuple #[.agg #[.int .i64 p, .int .i64 q, .int .i64 r, .int .i64 s], .bool true]) (by simp [results, Try.results101, go_sem, *] <;> rfl) rfl ⟨rfl, by go_grown⟩
theorem impl_checked_no (p q r s : Int) (w : World) (h : good4 p q r s = false) :
    Calls Try.prog 101 #[.agg #[.int .i64 p, .int .i64 q, .int .i64 r, .int .i64 s]] w fun e w' => e = .returned (.tuple #[.agg #[.int .i64 0, .int .i64 0, .int .i64 0, .int .i64 0], .bool false]) ∧ Below w.heap.size w w' := by
  have H := Lib.hid h
  clear h
  go_enter Try.func101, Try.ntmps101
  go_wp2_with fail
  refine (impl_IsMatrix p q r s false _ H.out).mono ?_
  rintro e w1 ⟨rfl, hb1⟩
  have hB1 : Below w.heap.size w w1 := Below.after (by go_grown) hb1
  obtain ⟨hc1, hf1⟩ := bcell hb1
  have hy1 := hb1.size
  try simp at hy1
  first | (with_reducible have hx1 := Nat.lt_of_succ_le hy1) | skip
  first | (with_reducible have hv1 := Nat.lt_of_succ_lt hx1) | skip
  first | (with_reducible have hu1 := Nat.lt_of_succ_lt hv1) | skip
  first | (have hz1 : w.heap.size < w1.heap.size := by omega) | (have hz1 := hB1.size)
  clear hb1
  go_wp2_with fail
  refine bodyPost_ret (v := .tuple #[.agg #[.int .i64 0, .int .i64 0, .int .i64 0, .int .i64 0], .bool false]) (by simp [results, Try.results101, go_sem, *] <;> rfl) rfl ⟨rfl, by go_grown⟩
theorem impl_times (p q r s x y z u : Int) (w : World) (h : good4 p q r s = true) (h' : good4 x y z u = true) :
    Calls Try.prog 112 #[.agg #[.int .i64 p, .int .i64 q, .int .i64 r, .int .i64 s], .agg #[.int .i64 x, .int .i64 y, .int .i64 z, .int .i64 u]] w fun e w' => e = .returned (.agg #[.int .i64 (m1 p q r s x y z u), .int .i64 (m2 p q r s x y z u), .int .i64 (m3 p q r s x y z u), .int .i64 (m4 p q r s x y z u)]) ∧ Below w.heap.size w w' := by
  obtain ⟨hp, hq, hr, hs⟩ := good4_iff.1 h
  obtain ⟨hx, hy, hz, hu⟩ := good4_iff.1 h'
  obtain ⟨a1, a2⟩ := prod_bd hp hx
  obtain ⟨a3, a4⟩ := prod_bd hq hz
  obtain ⟨b1, b2⟩ := prod_bd hp hy
  obtain ⟨b3, b4⟩ := prod_bd hq hu
  obtain ⟨c1, c2⟩ := prod_bd hr hx
  obtain ⟨c3, c4⟩ := prod_bd hs hz
  obtain ⟨d1, d2⟩ := prod_bd hr hy
  obtain ⟨d3, d4⟩ := prod_bd hs hu
  clear h h' hp hq hr hs hx hy hz hu
  go_enter Try.func112, Try.ntmps112
  go_wp2_with fail
  go_returns
  exact ⟨rfl, by go_grown⟩
theorem spec_foMul (p q r s x y z u : Int) (w : World) (h : good4 p q r s = true) (h' : good4 x y z u = true) :
    Calls Try.prog 107 #[.agg #[.int .i64 p, .int .i64 q, .int .i64 r, .int .i64 s], .agg #[.int .i64 x, .int .i64 y, .int .i64 z, .int .i64 u]] w fun e w' => e = .returned (.agg #[.int .i64 (m1 p q r s x y z u), .int .i64 (m2 p q r s x y z u), .int .i64 (m3 p q r s x y z u), .int .i64 (m4 p q r s x y z u)]) ∧ Below w.heap.size w w' := by
  obtain ⟨hp, hq, hr, hs⟩ := good4_iff.1 h
  obtain ⟨hx, hy, hz, hu⟩ := good4_iff.1 h'
  obtain ⟨a1, a2⟩ := prod_bd hp hx
  obtain ⟨a3, a4⟩ := prod_bd hq hz
  obtain ⟨b1, b2⟩ := prod_bd hp hy
  obtain ⟨b3, b4⟩ := prod_bd hq hu
  obtain ⟨c1, c2⟩ := prod_bd hr hx
  obtain ⟨c3, c4⟩ := prod_bd hs hz
  obtain ⟨d1, d2⟩ := prod_bd hr hy
  obtain ⟨d3, d4⟩ := prod_bd hs hu
  clear h h' hp hq hr hs hx hy hz hu
  go_enter Try.func107, Try.ntmps107
  go_wp2_with fail
  go_returns
  exact ⟨rfl, by go_grown⟩
end Go.Proofs.Ytdonpiihjoihcaa
