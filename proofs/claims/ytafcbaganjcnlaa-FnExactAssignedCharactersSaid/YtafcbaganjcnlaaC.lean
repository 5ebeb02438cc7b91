/- Contracts: forms, matrices, discriminants. -/
import Derived.Test.YtafcbaganjcnlaaB
namespace Go.Proofs.Ytafcbaganjcnlaa
set_option linter.unusedVariables false
open Go.ChangeShapes Go.WideShapes Go.ChangeAt Go.RowKit

theorem wf_bd {a : Int} (h : (Lit.int .i64 a).wf = true) : -9223372036854775808 ≤ a ∧ a ≤ 9223372036854775807 := by
  have := bounds_i64 h; omega


/-! discriminants -/
theorem impl_isNegativeDisc (d : Int) (v : Bool) (w : World) (hv : negD d = v) :
    Calls Try.prog 58 #[.int .i64 d] w fun e w' => e = .returned (.bool v) ∧ w = w' := by
  have Hv := Lib.hid hv
  clear hv
  go_enter Try.func58, Try.ntmps58
  go_wp2_with (go_at_call 80; refine (impl_mod _ _ _ (by omega) (by omega)).mono ?_; rintro e w' ⟨rfl, rfl⟩)
  all_goals (try go_ret)
  all_goals exact ⟨rbool (by rw [← Hv.out, Bool.eq_iff_iff]; simp [negD]; try omega), rfl⟩
theorem spec_reDisc (d : Int) (v : Bool) (w : World) (hv : negD d = v) :
    Calls Try.prog 56 #[.int .i64 d] w fun e w' => e = .returned (.bool v) ∧ w = w' := by
  have Hv := Lib.hid hv
  clear hv
  by_cases h : -2000 ≤ d ∧ d ≤ -3
  · have hd : (decide (-2000 ≤ d) && decide (d ≤ -3)) = true := by simpa using h
    have Hd := Lib.hid hd
    clear hd
    go_enter Try.func56, Try.ntmps56
    go_wp2_with fail
    refine (spec_l1In _ _ _ true _ Hd.out).mono ?_
    rintro e w' ⟨rfl, rfl⟩
    go_wp2_with fail
    refine (spec_nuMod _ _ _ (by omega) (by omega)).mono ?_
    rintro e w' ⟨rfl, rfl⟩
    go_wp2_with fail
    all_goals (try go_ret)
    all_goals exact ⟨rbool (by rw [← Hv.out, Bool.eq_iff_iff]; simp [negD]; try omega), rfl⟩
  · have hd : (decide (-2000 ≤ d) && decide (d ≤ -3)) = false := by rw [← Bool.not_eq_true]; simpa using h
    have Hd := Lib.hid hd
    have Hh := Lib.hid h
    clear hd h
    go_enter Try.func56, Try.ntmps56
    go_wp2_with fail
    refine (spec_l1In _ _ _ false _ Hd.out).mono ?_
    rintro e w' ⟨rfl, rfl⟩
    go_wp2_with fail
    go_ret
    exact ⟨rbool (by have := Hh.out; rw [← Hv.out, Bool.eq_iff_iff]; simp [negD]; omega), rfl⟩
theorem impl_isDiscriminant (d : Int) (v : Bool) (w : World) (hv : discB d = v) :
    Calls Try.prog 48 #[.int .i64 d] w fun e w' => e = .returned (.bool v) ∧ Below w.heap.size w w' := by
  have Hv := Lib.hid hv
  clear hv
  by_cases hg : good d = true
  · obtain ⟨h1, h2⟩ := good_iff.1 hg
    have Hg := Lib.hid hg
    clear hg
    go_enter Try.func48, Try.ntmps48
    go_wp2_with fail
    refine (are1 d _ _ true _ Hg.out (by simp)).mono ?_
    rintro e w' ⟨rfl, rfl⟩
    go_wp2_with (first | (go_at_call 80; refine (impl_mod _ _ _ (by omega) (by omega)).mono ?_; rintro e w' ⟨rfl, rfl⟩) | (go_at_call 81; refine (impl_isSquare _ _ _ (by omega) rfl).mono ?_; rintro e w' ⟨rfl, rfl⟩))
    all_goals (try go_ret)
    all_goals exact ⟨rbool (by rw [← Hv.out, Bool.eq_iff_iff]; simp_all [discB, Hg.out]; try omega), by go_grown⟩
  · have Hg := Lib.hid (Bool.not_eq_true _ ▸ hg)
    clear hg
    go_enter Try.func48, Try.ntmps48
    go_wp2_with fail
    refine (are1 d _ _ false _ Hg.out (by simp)).mono ?_
    rintro e w' ⟨rfl, rfl⟩
    go_wp2_with fail
    go_ret
    exact ⟨rbool (by rw [← Hv.out]; simp [discB, Hg.out]), by go_grown⟩
theorem spec_diIs (d : Int) (v : Bool) (w : World) (hv : discB d = v) :
    Calls Try.prog 46 #[.int .i64 d] w fun e w' => e = .returned (.bool v) ∧ w = w' := by
  have Hv := Lib.hid hv
  clear hv
  by_cases hg : good d = true
  · obtain ⟨h1, h2⟩ := good_iff.1 hg
    have Hg := Lib.hid hg
    clear hg
    go_enter Try.func46, Try.ntmps46
    go_wp2_with fail
    refine (spec_nuGood _ true _ Hg.out).mono ?_
    rintro e w' ⟨rfl, rfl⟩
    go_wp2_with (first | (go_at_call 77; refine (spec_nuMod _ _ _ (by omega) (by omega)).mono ?_; rintro e w' ⟨rfl, rfl⟩) | (go_at_call 78; refine (spec_nuSquare _ _ _ (by omega) rfl).mono ?_; rintro e w' ⟨rfl, rfl⟩))
    all_goals (try go_ret)
    all_goals exact ⟨rbool (by rw [← Hv.out, Bool.eq_iff_iff]; simp_all [discB, Hg.out]; try omega), rfl⟩
  · have Hg := Lib.hid (Bool.not_eq_true _ ▸ hg)
    clear hg
    go_enter Try.func46, Try.ntmps46
    go_wp2_with fail
    refine (spec_nuGood _ false _ Hg.out).mono ?_
    rintro e w' ⟨rfl, rfl⟩
    go_wp2_with fail
    go_ret
    exact ⟨rbool (by rw [← Hv.out]; simp [discB, Hg.out]), rfl⟩
end Go.Proofs.Ytafcbaganjcnlaa
