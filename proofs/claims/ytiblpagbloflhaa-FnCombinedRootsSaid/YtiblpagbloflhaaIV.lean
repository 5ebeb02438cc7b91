/- Contracts: inverses modulo m. -/
import Derived.Test.YtiblpagbloflhaaB
import Derived.Test.YtiblpagbloflhaaCP
namespace Go.Proofs.Ytiblpagbloflhaa
set_option linter.unusedVariables false
open Go.ChangeShapes Go.WideShapes Go.ChangeAt Go.RowKit

theorem spec_nuInverse (a m v : Int) (w : World) (hm : 1 ≤ m) (hm2 : m ≤ 1000000000) (h : Inv a m v) (hg : Int.gcd a m = 1) :
    Calls Try.prog 123 #[.int .i64 a, .int .i64 m] w fun e w' => e = .returned (.int .i64 v) ∧ w = w' := by
  have e1 := Int.emod_nonneg a (show m ≠ 0 by omega)
  have e2 := Int.emod_lt_of_pos a (show 0 < m by omega)
  have He := Lib.hid (euc_start1 hm hg)
  have H := Lib.hid h
  clear h
  clear hg
  go_enter Try.func123, Try.ntmps123
  go_wp2_with fail
  refine (spec_nuMod a m _ (by omega) (by omega)).mono ?_
  rintro e w' ⟨rfl, rfl⟩
  go_wp2_with fail
  go_loop [7, 8, 5, 6] (fun x y r s => ∃ r' s' x' y' : Int, r = .int .i64 r' ∧ s = .int .i64 s' ∧ x = .int .i64 x' ∧ y = .int .i64 y' ∧ r' ≤ m ∧ s' ≤ m ∧ -m ≤ y' ∧ y' ≤ m ∧ Euc a m r' s' x' y') (fun _ _ _ s => (intOf s).toNat)
  case atStart => exact ⟨_, _, _, _, rfl, rfl, rfl, rfl, by omega, by omega, by omega, by omega, He.out⟩
  case round =>
    clear e1 e2 He
    obtain ⟨r, s, x, y, rfl, rfl, rfl, rfl, hr, hs, hy1, hy2, hE⟩ := hrel
    have r0 := hE.1
    have s0 := hE.2.1
    by_cases hz : s = 0
    · subst hz
      obtain ⟨g1, g2⟩ := euc_end hE hm
      have Hv := Lib.hid (inv_uniq g2 H.out)
      subst g1
      clear g2 hE
      go_wp2_with fail
      refine (spec_nuMod x m _ (by omega) (by omega)).mono ?_
      rintro e w' ⟨rfl, rfl⟩
      go_wp2_with fail
      go_ret
      exact ⟨rint Hv.out, rfl⟩
    · obtain ⟨⟨q1, q2⟩, ⟨q3, q4⟩, ⟨q5, q6⟩, ⟨q7, q8⟩, ⟨q9, q10⟩⟩ := euc_step hE hz (by omega)
      have Hn := Lib.hid (euc_next hE hz)
      have hmod : r - r / s * s = r % s := by have := Int.emod_add_mul_ediv r s; rw [Int.mul_comm]; omega
      have Hlt := Lib.hid (show (r - r / s * s).toNat < s.toNat by rw [hmod]; have := Int.emod_lt_of_pos r (show 0 < s by omega); omega)
      have bz : (s != 0) = true := by simpa using hz
      clear hE hmod
      go_wp2_with fail
      go_round
      case rel => exact ⟨s, r - r / s * s, y, x - r / s * y, rfl, rfl, rfl, rfl, hs, by omega, by omega, by omega, Hn.out⟩
      case measure => simp only [intOf]; exact Hlt.out
theorem impl_inverse (a m v : Int) (w : World) (hm : 1 ≤ m) (hm2 : m ≤ 1000000000) (h : Inv a m v) (hg : Int.gcd a m = 1) :
    Calls Try.prog 157 #[.int .i64 a, .int .i64 m] w fun e w' => e = .returned (.int .i64 v) ∧ w = w' := by
  have e1 := Int.emod_nonneg a (show m ≠ 0 by omega)
  have e2 := Int.emod_lt_of_pos a (show 0 < m by omega)
  have He := Lib.hid (euc_start2 hm hg)
  have H := Lib.hid h
  clear h
  clear hg
  go_enter Try.func157, Try.ntmps157
  go_wp2_with fail
  refine (impl_mod a m _ (by omega) (by omega)).mono ?_
  rintro e w' ⟨rfl, rfl⟩
  go_wp2_with fail
  go_loop [5, 6, 7, 8] (fun x y r s => ∃ r' s' x' y' : Int, r = .int .i64 r' ∧ s = .int .i64 s' ∧ x = .int .i64 x' ∧ y = .int .i64 y' ∧ r' ≤ m ∧ s' ≤ m ∧ -m ≤ y' ∧ y' ≤ m ∧ Euc a m r' s' x' y') (fun _ _ _ s => (intOf s).toNat)
  case atStart => exact ⟨_, _, _, _, rfl, rfl, rfl, rfl, by omega, by omega, by omega, by omega, He.out⟩
  case round =>
    clear e1 e2 He
    obtain ⟨r, s, x, y, rfl, rfl, rfl, rfl, hr, hs, hy1, hy2, hE⟩ := hrel
    have r0 := hE.1
    have s0 := hE.2.1
    by_cases hz : s = 0
    · subst hz
      obtain ⟨g1, g2⟩ := euc_end hE hm
      have Hv := Lib.hid (inv_uniq g2 H.out)
      subst g1
      clear g2 hE
      go_wp2_with fail
      refine (impl_mod x m _ (by omega) (by omega)).mono ?_
      rintro e w' ⟨rfl, rfl⟩
      go_wp2_with fail
      go_ret
      exact ⟨rint Hv.out, rfl⟩
    · obtain ⟨⟨q1, q2⟩, ⟨q3, q4⟩, ⟨q5, q6⟩, ⟨q7, q8⟩, ⟨q9, q10⟩⟩ := euc_step hE hz (by omega)
      have Hn := Lib.hid (euc_next hE hz)
      have hmod : r - r / s * s = r % s := by have := Int.emod_add_mul_ediv r s; rw [Int.mul_comm]; omega
      have Hlt := Lib.hid (show (r - r / s * s).toNat < s.toNat by rw [hmod]; have := Int.emod_lt_of_pos r (show 0 < s by omega); omega)
      have bz : (s != 0) = true := by simpa using hz
      clear hE hmod
      go_wp2_with fail
      go_round
      case rel => exact ⟨s, r - r / s * s, y, x - r / s * y, rfl, rfl, rfl, rfl, hs, by omega, by omega, by omega, Hn.out⟩
      case measure => simp only [intOf]; exact Hlt.out
end Go.Proofs.Ytiblpagbloflhaa
