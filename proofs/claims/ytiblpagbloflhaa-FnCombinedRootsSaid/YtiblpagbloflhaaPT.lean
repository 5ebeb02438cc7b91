/- Contracts: powers of a prime, roots modulo a prime, one root above another. -/
import Derived.Test.YtiblpagbloflhaaWR
import Derived.Test.YtiblpagbloflhaaSY
namespace Go.Proofs.Ytiblpagbloflhaa
set_option linter.unusedVariables false
open Go.ChangeShapes Go.WideShapes Go.ChangeAt Go.RowKit

theorem pow_le' {p : Int} (hp : 1 ≤ p) {i j : Nat} (h : i ≤ j) : p ^ i ≤ p ^ j := by
  induction j with
  | zero => obtain rfl : i = 0 := by omega
            exact Int.le_refl _
  | succ j ih =>
    rcases Nat.lt_or_ge j i with h1 | h1
    · obtain rfl : i = j + 1 := by omega
      exact Int.le_refl _
    · have := ih h1
      have h2 := pow_pos' hp j
      rw [Int.pow_succ]
      have := Int.mul_le_mul_of_nonneg_left hp (show 0 ≤ p ^ j by omega)
      omega
theorem impl_pow (p : Int) (k : Nat) (P : Int) (b : Bool) (w : World) (hp : 1 ≤ p) (hp2 : p ≤ 1000000) (hk : k ≤ 100) (h : (p ^ k ≤ 1000000 ∧ P = p ^ k ∧ b = true) ∨ (1000000 < p ^ k ∧ P = 0 ∧ b = false)) :
    Calls Try.prog 138 #[.int .i64 p, .int .i64 k] w fun e w' => e = .returned (.tuple #[.int .i64 P, .bool b]) ∧ w = w' := by
  have H := Lib.hid h
  clear h
  go_enter Try.func138, Try.ntmps138
  go_wp2_with fail
  go_loop [1, 6] (fun i q => ∃ (j : Nat) (Q : Int), j ≤ k ∧ i = .int .i64 ((k : Int) - j) ∧ q = .int .i64 Q ∧ Q = p ^ j ∧ 1 ≤ Q ∧ Q ≤ 1000000) (fun i _ => (intOf i).toNat)
  case atStart => exact ⟨0, 1, by omega, by simp, rfl, by simp, by omega, by omega⟩
  case round =>
    obtain ⟨j, Q, hj, rfl, rfl, hQ, q1, q2⟩ := hrel
    obtain ⟨m0, m1⟩ := mul_le (a := Q) (b := p) (A := 1000000) (B := 1000000) (by omega) q2 (by omega) hp2
    have hn : Q * p = p ^ (j + 1) := by rw [hQ, Int.pow_succ]
    have hpos := pow_pos' hp (j + 1)
    rw [← hn] at hpos
    have HQ := Lib.hid hQ
    have HN := Lib.hid hn
    clear hQ hn
    by_cases hlt : (j : Int) < k
    · by_cases hbig : 1000000 < Q * p
      · have hres : 1000000 < p ^ k := by
          have := pow_le' hp (show j + 1 ≤ k by omega)
          rw [← HN.out] at this
          omega
        rcases H.out with ⟨h1, _, _⟩ | ⟨_, h2, h3⟩
        · omega
        · subst h2
          subst h3
          clear hres
          go_wp2_with fail
          refine bodyPost_ret (v := .tuple #[.int .i64 0, .bool false]) (by simp [results, Try.results138, go_sem, *] <;> rfl) rfl (⟨rfl, rfl⟩)
      · go_wp2_with fail
        go_round
        case rel => exact ⟨j + 1, Q * p, by omega, by go_num, rfl, HN.out, hpos, by omega⟩
        case measure => simp [intOf]; omega
    · obtain rfl : j = k := by omega
      rcases H.out with ⟨_, h2, h3⟩ | ⟨h1, _, _⟩
      · have e : P = Q := by rw [h2, ← HQ.out]
        subst e
        subst h3
        clear h2
        go_wp2_with fail
        refine bodyPost_ret (v := .tuple #[.int .i64 P, .bool true]) (by simp [results, Try.results138, go_sem, *] <;> rfl) rfl (⟨rfl, rfl⟩)
      · rw [← HQ.out] at h1
        omega
theorem spec_pow (p : Int) (k : Nat) (P : Int) (w : World) (hp : 1 ≤ p) (hp2 : p ≤ 1000000) (hk : k ≤ 100) (h : (p ^ k ≤ 1000000 ∧ P = p ^ k) ∨ (1000000 < p ^ k ∧ P = 0)) :
    Calls Try.prog 142 #[.int .i64 p, .int .i64 k] w fun e w' => e = .returned (.int .i64 P) ∧ w = w' := by
  have H := Lib.hid h
  clear h
  go_enter Try.func142, Try.ntmps142
  go_wp2_with fail
  go_loop [1, 5] (fun i q => ∃ (j : Nat) (Q : Int), j ≤ k ∧ i = .int .i64 ((k : Int) - j) ∧ q = .int .i64 Q ∧ Q = p ^ j ∧ 1 ≤ Q ∧ Q ≤ 1000000) (fun i _ => (intOf i).toNat)
  case atStart => exact ⟨0, 1, by omega, by simp, rfl, by simp, by omega, by omega⟩
  case round =>
    obtain ⟨j, Q, hj, rfl, rfl, hQ, q1, q2⟩ := hrel
    obtain ⟨m0, m1⟩ := mul_le (a := Q) (b := p) (A := 1000000) (B := 1000000) (by omega) q2 (by omega) hp2
    have hn : Q * p = p ^ (j + 1) := by rw [hQ, Int.pow_succ]
    have hpos := pow_pos' hp (j + 1)
    rw [← hn] at hpos
    have hq := cr_quo (m := Q) hp
    have d0 : 0 ≤ (1000000 : Int) / p := Int.ediv_nonneg (by omega) (by omega)
    have HQ := Lib.hid hQ
    have HN := Lib.hid hn
    clear hQ hn
    by_cases hlt : (j : Int) < k
    · by_cases hbig : 1000000 < Q * p
      · have hres : 1000000 < p ^ k := by
          have := pow_le' hp (show j + 1 ≤ k by omega)
          rw [← HN.out] at this
          omega
        have hq2 := hq.2 hbig
        rcases H.out with ⟨h1, _⟩ | ⟨_, h2⟩
        · omega
        · subst h2
          clear hres hq
          go_wp2_with fail
          go_ret
          exact ⟨rfl, rfl⟩
      · have hq2 : ¬ (1000000 : Int) / p < Q := fun e => hbig (hq.1 e)
        clear hq
        go_wp2_with fail
        go_round
        case rel => exact ⟨j + 1, Q * p, by omega, by go_num, rfl, HN.out, hpos, by omega⟩
        case measure => simp [intOf]; omega
    · obtain rfl : j = k := by omega
      rcases H.out with ⟨_, h2⟩ | ⟨h1, _⟩
      · have e : P = Q := by rw [h2, ← HQ.out]
        subst e
        clear h2 hq
        go_wp2_with fail
        go_ret
        exact ⟨rfl, rfl⟩
      · rw [← HQ.out] at h1
        omega

theorem impl_lift (b p q x v : Int) (w : World) (hb1 : -1000000 ≤ b) (hb2 : b ≤ 1000000) (hp : 2 ≤ p) (hq : 1 ≤ q) (hqp : q * p ≤ 1000000) (hd : p ∣ q) (hr : Rt b p q x) (hv : Inv (2 * x) p v) :
    Calls Try.prog 140 #[.int .i64 b, .int .i64 p, .int .i64 q, .int .i64 x] w fun e w' => ∃ y, e = .returned (.int .i64 y) ∧ Abv b p q x y ∧ w = w' := by
  obtain ⟨s, hs⟩ : ∃ s, b - x * x = q * s := by
    obtain ⟨d, hd⟩ := Int.dvd_of_emod_eq_zero hr.2.2.1
    exact ⟨-d, by rw [Int.mul_neg, ← hd]; omega⟩
  obtain ⟨t0, t1, hst⟩ := lft_st (by omega) hq hd hr hv hs
  have hg := hr.2.2.2
  obtain ⟨x0, x1, _, _⟩ := hr
  obtain ⟨v0, v1, _⟩ := id hv
  have hp2 : p ≤ 1000000 := by
    have := Int.mul_le_mul_of_nonneg_right hq (show 0 ≤ p by omega)
    omega
  have hq2 : q ≤ 1000000 := by
    have := Int.mul_le_mul_of_nonneg_left (show 1 ≤ p by omega) (show 0 ≤ q by omega)
    omega
  obtain ⟨xx0, xx1⟩ := mul_le (a := x) (b := x) (A := 1000000) (B := 1000000) x0 (by omega) x0 (by omega)
  have htd : (b - x * x).tdiv q = s := by rw [hs, Int.mul_tdiv_cancel_left _ (by omega)]
  have hs1 : s.natAbs ≤ (b - x * x).natAbs := by
    rw [← htd, Int.natAbs_tdiv]
    exact Nat.div_le_self _ _
  have s0 := Int.emod_nonneg s (show p ≠ 0 by omega)
  have s1 := Int.emod_lt_of_pos s (show 0 < p by omega)
  obtain ⟨sv0, sv1⟩ := mul_le (a := s % p) (b := v) (A := 1000000) (B := 1000000) s0 (by omega) v0 (by omega)
  obtain ⟨t, ht⟩ : ∃ t, s % p * v % p = t := ⟨_, rfl⟩
  rw [ht] at t0 t1 hst
  have ht2 : (s % p * v).tmod p = t := by rw [Int.tmod_eq_emod_of_nonneg sv0]; exact ht
  obtain ⟨qt0, qt1⟩ := mul_le (a := q) (b := t) (A := 1000000) (B := 1000000) (by omega) hq2 t0 (by omega)
  have Hst := Lib.hid hst
  have Hg := Lib.hid hg
  have Hv := Lib.hid hv
  have Hs := Lib.hid hs
  clear hst hg hv hs hd
  go_enter Try.func140, Try.ntmps140
  go_wp2_with fail
  refine (impl_mod s p _ (by omega) (by omega)).mono ?_
  rintro e w' ⟨rfl, rfl⟩
  go_wp2_with fail
  refine (impl_inverse (2 * x) p v _ (by omega) (by omega) Hv.out Hg.out).mono ?_
  rintro e w' ⟨rfl, rfl⟩
  go_wp2_with fail
  go_ret
  exact ⟨x + q * t, rfl, Hst.out, rfl⟩
theorem step_le {q x y z : Int} (hq : 1 ≤ q) (h1 : y % q = x) (h2 : z % q = x) (h : z < y) : z + q ≤ y := by
  have e1 := Int.emod_add_mul_ediv y q
  have e2 := Int.emod_add_mul_ediv z q
  rcases Int.lt_or_le (z / q) (y / q) with h3 | h3
  · have := Int.mul_le_mul_of_nonneg_left (show z / q + 1 ≤ y / q by omega) (show 0 ≤ q by omega)
    rw [Int.mul_add] at this
    omega
  · have := Int.mul_le_mul_of_nonneg_left h3 (show 0 ≤ q by omega)
    omega
theorem spec_roLift (b p q x y : Int) (w : World) (hb1 : -1000000 ≤ b) (hb2 : b ≤ 1000000) (hp : 2 ≤ p) (hq : 1 ≤ q) (hqp : q * p ≤ 1000000) (hd : p ∣ q) (hr : Rt b p q x) (hst : Abv b p q x y) :
    Calls Try.prog 144 #[.int .i64 b, .int .i64 p, .int .i64 q, .int .i64 x] w fun e w' => e = .returned (.int .i64 y) ∧ w = w' := by
  have hg := hr.2.2.2
  obtain ⟨x0, x1, _, _⟩ := hr
  obtain ⟨y0, y1, _, hy⟩ := id hst
  have hqp0 : 1 ≤ q * p := by have := Int.mul_le_mul hq (show 1 ≤ p by omega) (by omega) (show 0 ≤ q by omega); omega
  have hq2 : q ≤ 1000000 := by
    have := Int.mul_le_mul_of_nonneg_left (show 1 ≤ p by omega) (show 0 ≤ q by omega)
    omega
  have hxy : x ≤ y := by
    have e1 := Int.emod_add_mul_ediv y q
    have := Int.mul_nonneg (show 0 ≤ q by omega) (Int.ediv_nonneg y0 (show 0 ≤ q by omega))
    omega
  have hxq := Int.emod_eq_of_lt x0 x1
  have huniq : ∀ z, Abv b p q x z → z = y := fun z hz => st_uniq (by omega) hq hd hg hz hst
  have Huniq := Lib.hid huniq
  have Hst := Lib.hid hst
  have Hy := Lib.hid hy
  have Hxq := Lib.hid hxq
  clear hst hg hd hy hxq huniq
  go_enter Try.func144, Try.ntmps144
  go_wp2_with fail
  go_loop [9] (fun c => ∃ z : Int, c = .int .i64 z ∧ x ≤ z ∧ z ≤ y ∧ z % q = x) (fun c => (y - intOf c).toNat)
  case atStart => exact ⟨x, rfl, by omega, hxy, Hxq.out⟩
  case round =>
    obtain ⟨z, rfl, z0, z1, hz⟩ := hrel
    obtain ⟨zz0, zz1⟩ := mul_le (a := z) (b := z) (A := 1000000) (B := 1000000) (by omega) (by omega) (by omega) (by omega)
    have hb3 : ((z * z - b).tmod (q * p)).natAbs ≤ (z * z - b).natAbs := by rw [Int.natAbs_tmod]; exact Nat.mod_le _ _
    have Hz := Lib.hid hz
    clear hz
    by_cases he : (z * z - b).tmod (q * p) = 0
    · have : z = y := Huniq.out z ⟨by omega, by omega, Int.emod_eq_zero_of_dvd (Int.dvd_of_tmod_eq_zero he), Hz.out⟩
      subst this
      have be : ((z * z - b).tmod (q * p) != 0) = false := by rw [he]; rfl
      go_wp2_with fail
      go_ret
      exact ⟨rfl, rfl⟩
    · have hne : ¬ z = y := by
        intro e
        subst e
        exact he (Int.tmod_eq_zero_of_dvd (Int.dvd_of_emod_eq_zero Hst.out.2.2.1))
      have hstep := step_le hq Hy.out Hz.out (show z < y by omega)
      have be : ((z * z - b).tmod (q * p) != 0) = true := by simpa using he
      have HH := Lib.hid (show (z + q) % q = x by rw [Int.add_emod_right]; exact Hz.out)
      go_wp2_with fail
      go_round
      case rel => exact ⟨z + q, rfl, by omega, hstep, HH.out⟩
      case measure => simp [intOf]; omega
end Go.Proofs.Ytiblpagbloflhaa
