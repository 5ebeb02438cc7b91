/- Contracts: the first root modulo a prime. -/
import Derived.Test.YtiblpagbloflhaaPT
namespace Go.Proofs.Ytiblpagbloflhaa
set_option linter.unusedVariables false
open Go.ChangeShapes Go.WideShapes Go.ChangeAt Go.RowKit

/-- the least root up to a half, or none -/
def FrOut (b p x : Int) (v : Bool) : Prop := (v = true ∧ 0 ≤ x ∧ x ≤ p / 2 ∧ (x * x - b) % p = 0 ∧ ∀ j, 0 ≤ j → j < x → (j * j - b) % p ≠ 0) ∨ (v = false ∧ x = 0 ∧ ∀ j, 0 ≤ j → j ≤ p / 2 → (j * j - b) % p ≠ 0)
theorem frOut_ex (b p : Int) : ∃ x v, FrOut b p x v := by
  have key : ∀ n : Nat, (∃ x : Int, 0 ≤ x ∧ x < n ∧ (x * x - b) % p = 0 ∧ ∀ j, 0 ≤ j → j < x → (j * j - b) % p ≠ 0) ∨ ∀ j : Int, 0 ≤ j → j < n → (j * j - b) % p ≠ 0 := by
    intro n
    induction n with
    | zero => exact .inr fun j h1 h2 => by omega
    | succ n ih =>
      rcases ih with ⟨x, h1, h2, h3⟩ | h
      · exact .inl ⟨x, h1, by omega, h3⟩
      · by_cases e : ((n : Int) * n - b) % p = 0
        · exact .inl ⟨n, by omega, by omega, e, h⟩
        · refine .inr fun j h1 h2 => ?_
          rcases Int.lt_or_le j n with h3 | h3
          · exact h j h1 h3
          · obtain rfl : j = n := by omega
            exact e
  rcases key ((p / 2).toNat + 1) with ⟨x, h1, h2, h3, h4⟩ | h
  · by_cases hp : 0 ≤ p / 2
    · exact ⟨x, true, .inl ⟨rfl, h1, by omega, h3, h4⟩⟩
    · exact ⟨0, false, .inr ⟨rfl, rfl, fun j h5 h6 => by omega⟩⟩
  · exact ⟨0, false, .inr ⟨rfl, rfl, fun j h5 h6 => h j h5 (by omega)⟩⟩
theorem sq_mod_eq {j b p : Int} : (j * j) % p = b % p ↔ (j * j - b) % p = 0 := Int.emod_eq_emod_iff_emod_sub_eq_zero
theorem spec_first (b p x : Int) (v : Bool) (w : World) (hb : good b = true) (hp : oddPrimeB p = true) (h : FrOut b p x v) :
    Calls Try.prog 143 #[.int .i64 b, .int .i64 p] w fun e w' => e = .returned (.tuple #[.int .i64 x, .bool v]) ∧ w = w' := by
  obtain ⟨hb1, hb2⟩ := goodI hb
  obtain ⟨hh, hpe, hh1, hh2⟩ := oddPrime_half hp
  have hpp : good p = true ∧ primeB p = true := by unfold oddPrimeB at hp; simp only [Bool.and_eq_true] at hp; exact ⟨hp.1.2, hp.2⟩
  have G1 := Lib.hid hb
  have G2 := Lib.hid hpp.1
  have G3 := Lib.hid hpp.2
  have H := Lib.hid h
  have p3 : 3 ≤ p := by omega
  have p4 : p ≤ 1000001 := by omega
  clear hb hp hpp h hpe hh1 hh2
  have hdiv : p.tdiv 2 = p / 2 := Int.tdiv_eq_ediv_of_nonneg (by omega)
  go_enter Try.func143, Try.ntmps143
  go_wp2_with fail
  refine (spec_nuGood b true _ G1.out).mono ?_
  rintro e w' ⟨rfl, rfl⟩
  go_wp2_with fail
  refine (spec_nuGood p true _ G2.out).mono ?_
  rintro e w' ⟨rfl, rfl⟩
  go_wp2_with fail
  refine (spec_nuPrime p true _ (by omega) G3.out).mono ?_
  rintro e w' ⟨rfl, rfl⟩
  go_wp2_with fail
  go_loop [6] (fun i => ∃ k : Int, 0 ≤ k ∧ k ≤ p / 2 + 1 ∧ i = .int .i64 k ∧ ∀ j, 0 ≤ j → j < k → (j * j - b) % p ≠ 0) (fun i => (p / 2 + 1 - intOf i).toNat)
  case atStart => exact ⟨0, by omega, by omega, rfl, fun j h1 h2 => by omega⟩
  case round =>
    obtain ⟨k, k0, k1, rfl, hj⟩ := hrel
    obtain ⟨kk0, kk1⟩ := mul_le (a := k) (b := k) (A := 1000000) (B := 1000000) k0 (by omega) k0 (by omega)
    have Hj := Lib.hid hj
    clear hj
    by_cases hle : k ≤ p / 2
    · by_cases hz : (k * k - b) % p = 0
      · have hres : x = k ∧ v = true := by
          rcases H.out with ⟨h1, h2, h3, h4, h5⟩ | ⟨_, _, h5⟩
          · refine ⟨?_, h1⟩
            rcases Int.lt_trichotomy x k with h | h | h
            · exact absurd h4 (Hj.out x h2 h)
            · exact h
            · exact absurd hz (h5 k k0 h)
          · exact absurd hz (h5 k k0 hle)
        have Hz := Lib.hid hz
        (have ht : ((k * k - b).tmod p = 0) ↔ ((k * k - b) % p = 0) := ⟨fun e => Int.emod_eq_zero_of_dvd (Int.dvd_of_tmod_eq_zero e), fun e => Int.tmod_eq_zero_of_dvd (Int.dvd_of_emod_eq_zero e)⟩; rw [← ht] at hz; have hb3 : ((k * k - b).tmod p).natAbs ≤ (k * k - b).natAbs := (by rw [Int.natAbs_tmod]; exact Nat.mod_le _ _); have hz2 := hz; clear ht)
        clear hz
        obtain ⟨rfl, rfl⟩ := hres
        go_wp2_with fail
        refine bodyPost_ret (v := .tuple #[.int .i64 x, .bool true]) (by simp [results, Try.results143, go_sem, *] <;> rfl) rfl (⟨rfl, rfl⟩)
      · have Hz := Lib.hid hz
        (have ht : ((k * k - b).tmod p = 0) ↔ ((k * k - b) % p = 0) := ⟨fun e => Int.emod_eq_zero_of_dvd (Int.dvd_of_tmod_eq_zero e), fun e => Int.tmod_eq_zero_of_dvd (Int.dvd_of_emod_eq_zero e)⟩; rw [← ht] at hz; have hb3 : ((k * k - b).tmod p).natAbs ≤ (k * k - b).natAbs := (by rw [Int.natAbs_tmod]; exact Nat.mod_le _ _); have hz2 := hz; clear ht)
        clear hz
        go_wp2_with fail
        go_round
        case rel =>
          refine ⟨k + 1, by omega, by omega, by go_num, fun j h1 h2 => ?_⟩
          rcases Int.lt_or_le j k with h | h
          · exact Hj.out j h1 h
          · obtain rfl : j = k := by omega
            exact Hz.out
        case measure => simp [intOf]; omega
    · have hres : x = 0 ∧ v = false := by
        rcases H.out with ⟨h1, h2, h3, h4, h5⟩ | ⟨h1, h2, _⟩
        · exact absurd h4 (Hj.out x h2 (by omega))
        · exact ⟨h2, h1⟩
      obtain ⟨rfl, rfl⟩ := hres
      go_wp2_with fail
      refine bodyPost_ret (v := .tuple #[.int .i64 0, .bool false]) (by simp [results, Try.results143, go_sem, *] <;> rfl) rfl (⟨rfl, rfl⟩)
theorem impl_first (b p x : Int) (v : Bool) (w : World) (hb : good b = true) (hp : oddPrimeB p = true) (hbp : b % p ≠ 0) (hcop : ∀ z : Int, z % p ≠ 0 → Int.gcd z p = 1) (h : FrOut b p x v) :
    Calls Try.prog 139 #[.int .i64 b, .int .i64 p] w fun e w' => e = .returned (.tuple #[.int .i64 x, .bool v]) ∧ w = w' := by
  obtain ⟨hb1, hb2⟩ := goodI hb
  obtain ⟨hh, hpe, hh1, hh2⟩ := oddPrime_half hp
  have r0 := Int.emod_nonneg b (show p ≠ 0 by omega)
  have r1 := Int.emod_lt_of_pos b (show 0 < p by omega)
  have hJ : v = true → J (b % p) p = 1 := by
    intro e
    rcases h with ⟨_, h2, h3, h4, _⟩ | ⟨e2, _⟩
    · rw [← J_mod (by omega), hpe]
      refine J_square (x := x) ?_ (by rw [← hpe]; exact h4)
      rw [← hpe]
      refine hcop x fun e => hbp ?_
      obtain ⟨d, hd⟩ := Int.dvd_of_emod_eq_zero e
      obtain ⟨f, hf⟩ := Int.dvd_of_emod_eq_zero h4
      refine Int.emod_eq_zero_of_dvd ⟨d * x - f, ?_⟩
      have e1 : x * x = p * d * x := by rw [← hd]
      grind
    · rw [e] at e2; cases e2
  have hodd : p % 2 = 1 := by omega
  have p3 : 3 ≤ p := by omega
  have p4 : p ≤ 1000001 := by omega
  obtain ⟨j1, j2⟩ := J_bounds (b % p) p
  have hdiv : p.tdiv 2 = p / 2 := Int.tdiv_eq_ediv_of_nonneg (by omega)
  have Ho := Lib.hid hodd
  clear hpe hh1 hh2 hodd hb hp hbp hcop
  by_cases hneg : J (b % p) p < 0
  · have hv : v = false := by
      cases v with
      | false => rfl
      | true => have := hJ rfl; omega
    have hx : x = 0 := by
      rcases h with ⟨e, _⟩ | ⟨_, e, _⟩
      · rw [hv] at e; cases e
      · exact e
    subst hv
    subst hx
    clear h hJ
    go_enter Try.func139, Try.ntmps139
    go_wp2_with fail
    refine (impl_mod b p _ (by omega) (by omega)).mono ?_
    rintro e w' ⟨rfl, rfl⟩
    go_wp2_with fail
    refine (impl_jacobi (b % p) p _ (by omega) (by omega) Ho.out).mono ?_
    rintro e w' ⟨rfl, rfl⟩
    go_wp2_with fail
    refine bodyPost_ret (v := .tuple #[.int .i64 0, .bool false]) (by simp [results, Try.results139, go_sem, *] <;> rfl) rfl (⟨rfl, rfl⟩)
  · have H := Lib.hid h
    clear h hJ
    go_enter Try.func139, Try.ntmps139
    go_wp2_with fail
    refine (impl_mod b p _ (by omega) (by omega)).mono ?_
    rintro e w' ⟨rfl, rfl⟩
    go_wp2_with fail
    refine (impl_jacobi (b % p) p _ (by omega) (by omega) Ho.out).mono ?_
    rintro e w' ⟨rfl, rfl⟩
    go_wp2_with fail
    go_loop [6] (fun i => ∃ k : Int, 0 ≤ k ∧ k ≤ p / 2 + 1 ∧ i = .int .i64 k ∧ ∀ j, 0 ≤ j → j < k → (j * j - b) % p ≠ 0) (fun i => (p / 2 + 1 - intOf i).toNat)
    case atStart => exact ⟨0, by omega, by omega, rfl, fun j h1 h2 => by omega⟩
    case round =>
      obtain ⟨k, k0, k1, rfl, hj⟩ := hrel
      obtain ⟨kk0, kk1⟩ := mul_le (a := k) (b := k) (A := 1000000) (B := 1000000) k0 (by omega) k0 (by omega)
      have Hj := Lib.hid hj
      clear hj
      by_cases hle : k ≤ p / 2
      · by_cases hz : (k * k - b) % p = 0
        · have hres : x = k ∧ v = true := by
            rcases H.out with ⟨h1, h2, h3, h4, h5⟩ | ⟨_, _, h5⟩
            · refine ⟨?_, h1⟩
              rcases Int.lt_trichotomy x k with h | h | h
              · exact absurd h4 (Hj.out x h2 h)
              · exact h
              · exact absurd hz (h5 k k0 h)
            · exact absurd hz (h5 k k0 hle)
          have Hz := Lib.hid hz
          (have ht := sq_mod_eq (j := k) (b := b) (p := p); have hz2 := hz; rw [← ht] at hz2; have hz3 := hz2; rw [← Int.tmod_eq_emod_of_nonneg (a := k * k) (b := p) kk0] at hz3; clear ht)
          clear hz
          obtain ⟨rfl, rfl⟩ := hres
          go_wp2_with fail
          refine bodyPost_ret (v := .tuple #[.int .i64 x, .bool true]) (by simp [results, Try.results139, go_sem, *] <;> rfl) rfl (⟨rfl, rfl⟩)
        · have Hz := Lib.hid hz
          (have ht := sq_mod_eq (j := k) (b := b) (p := p); have hz2 := hz; rw [← ht] at hz2; have hz3 := hz2; rw [← Int.tmod_eq_emod_of_nonneg (a := k * k) (b := p) kk0] at hz3; clear ht)
          clear hz
          go_wp2_with fail
          go_round
          case rel =>
            refine ⟨k + 1, by omega, by omega, by go_num, fun j h1 h2 => ?_⟩
            rcases Int.lt_or_le j k with h | h
            · exact Hj.out j h1 h
            · obtain rfl : j = k := by omega
              exact Hz.out
          case measure => simp [intOf]; omega
      · have hres : x = 0 ∧ v = false := by
          rcases H.out with ⟨h1, h2, h3, h4, h5⟩ | ⟨h1, h2, _⟩
          · exact absurd h4 (Hj.out x h2 (by omega))
          · exact ⟨h2, h1⟩
        obtain ⟨rfl, rfl⟩ := hres
        go_wp2_with fail
        refine bodyPost_ret (v := .tuple #[.int .i64 0, .bool false]) (by simp [results, Try.results139, go_sem, *] <;> rfl) rfl (⟨rfl, rfl⟩)
end Go.Proofs.Ytiblpagbloflhaa
