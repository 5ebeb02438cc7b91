/- Contracts: roots and squares, greatest common divisors, primes. -/
import Derived.Test.YtdonpiihjoihcaaA
namespace Go.Proofs.Ytdonpiihjoihcaa
set_option linter.unusedVariables false
open Go.ChangeShapes Go.WideShapes Go.ChangeAt Go.RowKit

/-! the loop of a root: low and high close in on the root -/
def RootAt (n M : Int) (lo hi : Value) : Prop := ∃ l h : Int, lo = .int .i64 l ∧ hi = .int .i64 h ∧ 0 ≤ l ∧ l ≤ h ∧ h ≤ M ∧ l * l ≤ n ∧ n < (h + 1) * (h + 1)
theorem rootAt_start {n M : Int} (h0 : 0 ≤ n) (hM : 0 ≤ M) (h : n < (M + 1) * (M + 1)) : RootAt n M (.int .i64 0) (.int .i64 M) :=
  ⟨0, M, rfl, rfl, Int.le_refl _, hM, Int.le_refl _, h0, h⟩
theorem root_mid {l h : Int} (hlt : l < h) : l < (l + h + 1) / 2 ∧ (l + h + 1) / 2 ≤ h := by omega
theorem root_done {n l h : Int} (h0 : 0 ≤ l) (e : l * l ≤ n) (hh : n < (h + 1) * (h + 1)) (hle : l ≤ h) (hlt : h ≤ l) (hn : n ≤ 10000000000000000000) : isq n = l := by
  obtain rfl : l = h := by omega
  exact isq_eq h0 e hh hn
theorem impl_root (n : Int) (w : World) (h0 : 0 ≤ n) (h1 : n ≤ 9000000000000000000) :
    Calls Try.prog 118 #[.int .i64 n] w fun e w' => e = .returned (.int .i64 (isq n)) ∧ w = w' := by
  go_enter Try.func118, Try.ntmps118
  go_wp2
  go_loop [3, 4] (fun lo hi => RootAt n 3000000000 lo hi) (fun lo hi => (intOf hi - intOf lo).toNat)
  case atStart => exact rootAt_start h0 (by omega) (by omega)
  case round =>
    obtain ⟨l, h, rfl, rfl, hl, hlh, hM, hq, hr⟩ := hrel
    have Hq := Lib.hid hq
    have Hr := Lib.hid hr
    clear hq hr
    by_cases hlt : l < h
    · obtain ⟨m1, m2⟩ := root_mid hlt
      have hsq := mul_le (a := (l + h + 1) / 2) (b := (l + h + 1) / 2) (A := 3000000000) (B := 3000000000) (by omega) (by omega) (by omega) (by omega)
      by_cases hm : (l + h + 1) / 2 * ((l + h + 1) / 2) ≤ n
      · go_wp2
        go_round
        case rel => exact ⟨_, h, rfl, rfl, by omega, by omega, hM, hm, Hr.out⟩
        case measure => simp [intOf]; omega
      · go_wp2
        go_round
        case rel => exact ⟨l, _, rfl, rfl, by omega, by omega, by omega, Hq.out, by simpa using hm⟩
        case measure => simp [intOf]; omega
    · go_wp2
      go_ret
      exact ⟨rint (root_done hl Hq.out Hr.out hlh hlt (by omega)).symm, rfl⟩
theorem spec_nuRoot (n : Int) (w : World) (h0 : 0 ≤ n) (h1 : n ≤ 1000000000000000000) :
    Calls Try.prog 121 #[.int .i64 n] w fun e w' => e = .returned (.int .i64 (isq n)) ∧ w = w' := by
  go_enter Try.func121, Try.ntmps121
  go_wp2
  go_loop [3, 4] (fun lo hi => RootAt n 1000000000 lo hi) (fun lo hi => (intOf hi - intOf lo).toNat)
  case atStart => exact rootAt_start h0 (by omega) (by omega)
  case round =>
    obtain ⟨l, h, rfl, rfl, hl, hlh, hM, hq, hr⟩ := hrel
    have Hq := Lib.hid hq
    have Hr := Lib.hid hr
    clear hq hr
    by_cases hlt : l < h
    · obtain ⟨m1, m2⟩ := root_mid hlt
      have hsq := mul_le (a := (l + h + 1) / 2) (b := (l + h + 1) / 2) (A := 3000000000) (B := 3000000000) (by omega) (by omega) (by omega) (by omega)
      by_cases hm : (l + h + 1) / 2 * ((l + h + 1) / 2) ≤ n
      · go_wp2
        go_round
        case rel => exact ⟨_, h, rfl, rfl, by omega, by omega, hM, hm, Hr.out⟩
        case measure => simp [intOf]; omega
      · go_wp2
        go_round
        case rel => exact ⟨l, _, rfl, rfl, by omega, by omega, by omega, Hq.out, by simpa using hm⟩
        case measure => simp [intOf]; omega
    · go_wp2
      go_ret
      exact ⟨rint (root_done hl Hq.out Hr.out hlh hlt (by omega)).symm, rfl⟩
theorem impl_isSquare (n : Int) (v : Bool) (w : World) (h1 : n ≤ 1000000000000000000) (hv : sqB n = v) :
    Calls Try.prog 84 #[.int .i64 n] w fun e w' => e = .returned (.bool v) ∧ w = w' := by
  have Hv := Lib.hid hv
  clear hv
  by_cases h0 : 0 ≤ n
  · have hq := isq_spec h0 (by omega)
    have hp := isq_nonneg n
    have hs := sqn (isq n)
    go_enter Try.func84, Try.ntmps84
    go_wp2_with (go_at_call 118; refine (impl_root n _ h0 (by omega)).mono ?_; rintro e w' ⟨rfl, rfl⟩)
    all_goals (try go_ret)
    all_goals exact ⟨rbool (by rw [← Hv.out, Bool.eq_iff_iff]; simp [sqB, h0]), rfl⟩
  · go_enter Try.func84, Try.ntmps84
    go_wp2
    go_ret
    exact ⟨rbool (by rw [← Hv.out]; simp [sqB]; omega), rfl⟩
theorem spec_nuSquare (n : Int) (v : Bool) (w : World) (h1 : n ≤ 1000000000000000000) (hv : sqB n = v) :
    Calls Try.prog 83 #[.int .i64 n] w fun e w' => e = .returned (.bool v) ∧ w = w' := by
  have Hv := Lib.hid hv
  clear hv
  by_cases h0 : 0 ≤ n
  · have hq := isq_spec h0 (by omega)
    have hp := isq_nonneg n
    have hs := sqn (isq n)
    go_enter Try.func83, Try.ntmps83
    go_wp2_with (go_at_call 121; refine (spec_nuRoot n _ h0 (by omega)).mono ?_; rintro e w' ⟨rfl, rfl⟩)
    all_goals (try go_ret)
    all_goals exact ⟨rbool (by rw [← Hv.out, Bool.eq_iff_iff]; simp [sqB, h0]), rfl⟩
  · go_enter Try.func83, Try.ntmps83
    go_wp2
    go_ret
    exact ⟨rbool (by rw [← Hv.out]; simp [sqB]; omega), rfl⟩
def GcdAt (a b : Int) (x y : Value) : Prop := ∃ p q : Int, x = .int .i64 p ∧ y = .int .i64 q ∧ (-4000000000000000000 ≤ p ∧ p ≤ 4000000000000000000) ∧ (-4000000000000000000 ≤ q ∧ q ≤ 4000000000000000000) ∧ Int.gcd p q = Int.gcd a b
theorem tmod_abs (p : Int) {q : Int} (h : q ≠ 0) : (p.tmod q).natAbs < q.natAbs := by
  rw [Int.natAbs_tmod]; exact Nat.mod_lt _ (by omega)
theorem gcdAt_next {a b p q : Int} (h : q ≠ 0) (hq : -4000000000000000000 ≤ q ∧ q ≤ 4000000000000000000) (hg : Int.gcd p q = Int.gcd a b) : GcdAt a b (.int .i64 q) (.int .i64 (p.tmod q)) := by
  have := tmod_abs p h
  exact ⟨q, _, rfl, rfl, hq, by omega, by rw [gcd_step, hg]⟩
theorem below_drewN {B : Nat} {a w : World} (h : Below B a w) (n : Nat) : Below B a (w.drewN n) := ⟨h.os, h.tape, h.output, h.size, h.block⟩
theorem spec_nuGcd_q (a b : Int) (w : World) (ha : -4000000000000000000 ≤ a ∧ a ≤ 4000000000000000000) (hb : -4000000000000000000 ≤ b ∧ b ≤ 4000000000000000000) :
    Calls Try.prog 128 #[.int .i64 a, .int .i64 b] w fun e w' => e = .returned (.int .i64 (Int.gcd a b)) ∧ ∃ n, w' = w.drewN n := by
  obtain ⟨ha1, ha2⟩ := ha
  obtain ⟨hb1, hb2⟩ := hb
  go_enter Try.func128, Try.ntmps128
  go_wp2_with (go_at_call 62; refine (spec_l1Abs _ _ (by omega) (by omega)).mono ?_; rintro e w' ⟨rfl, rfl⟩)
  go_loopw [0, 1] (fun x y wr => (∃ p q : Int, 0 ≤ p ∧ 0 ≤ q ∧ x = .int .i64 p ∧ y = .int .i64 q ∧ GcdAt a b x y) ∧ ∃ n, wr = w.drewN n) (fun _ y _ => (intOf y).natAbs)
  case atStart => exact ⟨⟨_, _, by omega, by omega, rfl, rfl, _, _, rfl, rfl, by omega, by omega, by simp [Int.gcd]⟩, 0, rfl⟩
  case round =>
    obtain ⟨⟨p', q', hp0, hq0, rfl, rfl, p, q, hp, hq, ⟨hp1, hp2⟩, ⟨hq1, hq2⟩, hg⟩, n, rfl⟩ := hrel
    injection hp with _ hp
    injection hq with _ hq
    subst hp
    subst hq
    have Hg := Lib.hid hg
    clear hg
    by_cases hz : q' = 0
    · subst hz
      go_wp2
      go_ret
      exact ⟨rint (by rw [← Hg.out, gcd_zero]; omega), n, rfl⟩
    · have hz' : (q' != 0) = true := by simpa using hz
      have hr := Int.emod_nonneg p' hz
      have hr2 := Int.emod_lt_of_pos p' (show 0 < q' by omega)
      have Ht := Lib.hid (Int.tmod_eq_emod_of_nonneg (b := q') hp0)
      go_wp2_with fail
      go_quiet (fail)
      go_wp2
      go_roundw
      case rel => exact ⟨⟨q', p' % q', hq0, hr, rfl, rfl, by rw [← Ht.out]; exact gcdAt_next hz (by omega) Hg.out⟩, _, by first | rfl | exact World.drewN_drewN _ _ _⟩
      case measure => simp [intOf]; omega
theorem impl_gcd_q (a b : Int) (w : World) (ha : -4000000000000000000 ≤ a ∧ a ≤ 4000000000000000000) (hb : -4000000000000000000 ≤ b ∧ b ≤ 4000000000000000000) :
    Calls Try.prog 129 #[.int .i64 a, .int .i64 b] w fun e w' => e = .returned (.int .i64 (Int.gcd a b)) ∧ ∃ n, w' = w.drewN n := by
  go_enter Try.func129, Try.ntmps129
  go_wp2
  go_loopw [0, 1] (fun x y wr => GcdAt a b x y ∧ ∃ n, wr = w.drewN n) (fun _ y _ => (intOf y).natAbs)
  case atStart => exact ⟨⟨a, b, rfl, rfl, ha, hb, rfl⟩, 0, rfl⟩
  case round =>
    obtain ⟨⟨p, q, rfl, rfl, ⟨hp1, hp2⟩, ⟨hq1, hq2⟩, hg⟩, n, rfl⟩ := hrel
    have Hg := Lib.hid hg
    clear hg
    by_cases hz : q = 0
    · subst hz
      go_wp2_with fail
      refine (impl_abs _ _ (by omega) (by omega)).mono ?_
      rintro e w' ⟨rfl, rfl⟩
      go_wp2
      go_ret
      exact ⟨rint (by rw [← Hg.out, gcd_zero]), n, rfl⟩
    · have hz' : (q != 0) = true := by simpa using hz
      have Hr := Lib.hid (tmod_abs p hz)
      go_wp2_with fail
      go_quiet (fail)
      go_wp2
      go_roundw
      case rel => exact ⟨gcdAt_next hz ⟨hq1, hq2⟩ Hg.out, _, by first | rfl | exact World.drewN_drewN _ _ _⟩
      case measure => exact Hr.out
theorem spec_nuGcd (a b : Int) (w : World) (ha : -4000000000000000000 ≤ a ∧ a ≤ 4000000000000000000) (hb : -4000000000000000000 ≤ b ∧ b ≤ 4000000000000000000) :
    Calls Try.prog 128 #[.int .i64 a, .int .i64 b] w fun e w' => e = .returned (.int .i64 (Int.gcd a b)) ∧ Below w.heap.size w w' :=
  (spec_nuGcd_q a b w ha hb).mono fun e w' ⟨he, n, hw⟩ => ⟨he, hw ▸ below_drewN (Below.refl _ _) n⟩
theorem impl_gcd (a b : Int) (w : World) (ha : -4000000000000000000 ≤ a ∧ a ≤ 4000000000000000000) (hb : -4000000000000000000 ≤ b ∧ b ≤ 4000000000000000000) :
    Calls Try.prog 129 #[.int .i64 a, .int .i64 b] w fun e w' => e = .returned (.int .i64 (Int.gcd a b)) ∧ Below w.heap.size w w' :=
  (impl_gcd_q a b w ha hb).mono fun e w' ⟨he, n, hw⟩ => ⟨he, hw ▸ below_drewN (Below.refl _ _) n⟩
end Go.Proofs.Ytdonpiihjoihcaa
