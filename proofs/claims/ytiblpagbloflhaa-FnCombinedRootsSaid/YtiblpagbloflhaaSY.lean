/- Contracts: the symbols of Legendre, Jacobi and Kronecker, and the count of Gauss. -/
import Derived.Test.YtiblpagbloflhaaZZ
import Derived.Test.YtiblpagbloflhaaCN2
import Derived.Test.YtiblpagbloflhaaG
namespace Go.Proofs.Ytiblpagbloflhaa
set_option linter.unusedVariables false
open Go.ChangeShapes Go.WideShapes Go.ChangeAt Go.RowKit

theorem oddPrime_half {p : Int} (h : oddPrimeB p = true) : ∃ k : Nat, p = 2 * k + 1 ∧ 1 ≤ k ∧ k ≤ 500000 := by
  unfold oddPrimeB at h
  simp only [Bool.and_eq_true, decide_eq_true_iff] at h
  obtain ⟨⟨h1, h2⟩, h3⟩ := h
  obtain ⟨h4, h5⟩ := good_iff.1 h2
  have h6 : PrimeN p := by
    refine Classical.byContradiction fun hn => ?_
    rw [primeB_false hn] at h3
    cases h3
  obtain ⟨h7, h8⟩ := h6
  by_cases h9 : p = 3
  · exact ⟨1, by omega, by omega, by omega⟩
  · have := h8 2 (by omega) (by omega)
    exact ⟨(p / 2).toNat, by omega, by omega, by omega⟩
def oddM (n : Int) : Bool := good n && decide (1 ≤ n) && decide (n % 2 = 1)
theorem oddM_iff {n : Int} : oddM n = true ↔ (-1000000 ≤ n ∧ n ≤ 1000000) ∧ 1 ≤ n ∧ n % 2 = 1 := by simp [oddM, good, and_assoc]
theorem oddM_half {n : Int} (h : oddM n = true) : ∃ k : Nat, n = 2 * k + 1 ∧ k ≤ 500000 := by
  obtain ⟨h1, h2, h3⟩ := oddM_iff.1 h
  exact ⟨(n / 2).toNat, by omega, by omega⟩
theorem tmod2 {n : Int} (h : 0 ≤ n) : n.tmod 2 = n % 2 := Int.tmod_eq_emod_of_nonneg h
theorem impl_isOddModulus (n : Int) (v : Bool) (w : World) (hv : oddM n = v) :
    Calls Try.prog 109 #[.int .i64 n] w fun e w' => e = .returned (.bool v) ∧ Below w.heap.size w w' := by
  have Hv := Lib.hid hv
  clear hv
  by_cases hg : good n = true
  · have H := Lib.hid hg
    clear hg
    by_cases h1 : 1 ≤ n
    · by_cases h2 : n % 2 = 1
      · have b2 := beqT h2
        have b3 : (n.tmod 2 == 1) = true := by rw [tmod2 (by omega)]; exact b2
        have Hf := Lib.hid (show oddM n = true by unfold oddM; simp [H.out, h1, h2])
        clear h2
        go_enter Try.func109, Try.ntmps109
        go_wp2_with fail
        refine (are1 n _ _ true _ H.out (by simp)).mono ?_
        rintro e w' ⟨rfl, rfl⟩
        go_wp2_with fail
        go_ret
        exact ⟨rbool (by rw [← Hv.out, Hf.out]), by go_grown⟩
      · have b2 := beqF h2
        have b3 : (n.tmod 2 == 1) = false := by rw [tmod2 (by omega)]; exact b2
        have Hf := Lib.hid (show oddM n = false by unfold oddM; simp [h2])
        clear h2
        go_enter Try.func109, Try.ntmps109
        go_wp2_with fail
        refine (are1 n _ _ true _ H.out (by simp)).mono ?_
        rintro e w' ⟨rfl, rfl⟩
        go_wp2_with fail
        go_ret
        exact ⟨rbool (by rw [← Hv.out, Hf.out]), by go_grown⟩
    · have Hf := Lib.hid (show oddM n = false by unfold oddM; simp [h1])
      go_enter Try.func109, Try.ntmps109
      go_wp2_with fail
      refine (are1 n _ _ true _ H.out (by simp)).mono ?_
      rintro e w' ⟨rfl, rfl⟩
      go_wp2_with fail
      go_ret
      exact ⟨rbool (by rw [← Hv.out, Hf.out]), by go_grown⟩
  · have H := Lib.hid (Bool.not_eq_true _ ▸ hg)
    clear hg
    have Hf := Lib.hid (show oddM n = false by unfold oddM; simp [H.out])
    go_enter Try.func109, Try.ntmps109
    go_wp2_with fail
    refine (are1 n _ _ false _ H.out (by simp)).mono ?_
    rintro e w' ⟨rfl, rfl⟩
    go_wp2_with fail
    go_ret
    exact ⟨rbool (by rw [← Hv.out, Hf.out]), by go_grown⟩
theorem spec_syOdd (n : Int) (v : Bool) (w : World) (hv : oddM n = v) :
    Calls Try.prog 112 #[.int .i64 n] w fun e w' => e = .returned (.bool v) ∧ w = w' := by
  have Hv := Lib.hid hv
  clear hv
  by_cases h1 : 1 ≤ n
  · by_cases hg : good n = true
    · have H := Lib.hid hg
      clear hg
      by_cases h2 : n % 2 = 1
      · have b2 := beqT h2
        have b3 : (n.tmod 2 == 1) = true := by rw [tmod2 (by omega)]; exact b2
        have Hf := Lib.hid (show oddM n = true by unfold oddM; simp [H.out, h1, h2])
        clear h2
        go_enter Try.func112, Try.ntmps112
        go_wp2_with fail
        refine (spec_nuGood n true _ H.out).mono ?_
        rintro e w' ⟨rfl, rfl⟩
        go_wp2_with fail
        go_ret
        exact ⟨rbool (by rw [← Hv.out, Hf.out]), rfl⟩
      · have b2 := beqF h2
        have b3 : (n.tmod 2 == 1) = false := by rw [tmod2 (by omega)]; exact b2
        have Hf := Lib.hid (show oddM n = false by unfold oddM; simp [h2])
        clear h2
        go_enter Try.func112, Try.ntmps112
        go_wp2_with fail
        refine (spec_nuGood n true _ H.out).mono ?_
        rintro e w' ⟨rfl, rfl⟩
        go_wp2_with fail
        go_ret
        exact ⟨rbool (by rw [← Hv.out, Hf.out]), rfl⟩
    · have H := Lib.hid (Bool.not_eq_true _ ▸ hg)
      clear hg
      have Hf := Lib.hid (show oddM n = false by unfold oddM; simp [H.out])
      go_enter Try.func112, Try.ntmps112
      go_wp2_with fail
      refine (spec_nuGood n false _ H.out).mono ?_
      rintro e w' ⟨rfl, rfl⟩
      go_wp2_with fail
      go_ret
      exact ⟨rbool (by rw [← Hv.out, Hf.out]), rfl⟩
  · have Hf := Lib.hid (show oddM n = false by unfold oddM; simp [h1])
    go_enter Try.func112, Try.ntmps112
    go_wp2_with fail
    go_ret
    exact ⟨rbool (by rw [← Hv.out, Hf.out]), rfl⟩
/-- the symbol of Legendre, where it is told -/
noncomputable def legB (a p : Int) : Bool := good a && oddPrimeB p
theorem leg_no {a p : Int} (h : legB a p = false) : good a = false ∨ (good a = true ∧ oddPrimeB p = false) := by
  unfold legB at h
  cases h1 : good a <;> simp_all
theorem impl_Leg_yes (a p : Int) (w : World) (h : legB a p = true) :
    Calls Try.prog 41 #[.int .i64 a, .int .i64 p] w fun e w' => e = .returned (.tuple #[.int .i64 (J a p), .bool true]) ∧ Below w.heap.size w w' := by
  obtain ⟨h1, h2⟩ : good a = true ∧ oddPrimeB p = true := by unfold legB at h; simpa using h
  obtain ⟨k, hk, hk1, hk2⟩ := oddPrime_half h2
  have hp : p % 2 = 1 := by omega
  have Hp := Lib.hid hp
  have p1 : 1 ≤ p := by omega
  have p2 : p ≤ 1000001 := by omega
  have H1 := Lib.hid h1
  clear h1
  have H2 := Lib.hid h2
  clear h2
  clear h hp hk
  go_enter Try.func41, Try.ntmps41
  go_wp2_with fail
  refine (are1 a _ _ true _ H1.out (by simp)).mono ?_
  rintro e w' ⟨rfl, rfl⟩
  go_wp2_with fail
  refine (impl_isOddPrime p true _ H2.out).mono ?_
  rintro e w1 ⟨rfl, hb1⟩
  have hB1 : Below w.heap.size w w1 := Below.after (by go_grown) hb1
  obtain ⟨hc1, hf1⟩ := bcell hb1
  have hy1 := hb1.size
  try simp at hy1
  first | (with_reducible have hx1 := Nat.lt_of_succ_le hy1) | skip
  first | (with_reducible have hv1 := Nat.lt_of_succ_lt hx1) | skip
  first | (with_reducible have hu1 := Nat.lt_of_succ_lt hv1) | skip
  first | (have hz1 : w.heap.size < w1.heap.size := by omega) | (have hz1 := hB1.size)
  clear hb1
  go_wp2_with fail
  refine (impl_jacobi a p _ p1 (by omega) Hp.out).mono ?_
  rintro e w' ⟨rfl, rfl⟩
  go_wp2_with fail
  refine bodyPost_ret (v := .tuple #[.int .i64 (J a p), .bool true]) (by simp [results, Try.results41, go_sem, *] <;> rfl) rfl ⟨rfl, by go_grown⟩
theorem impl_Leg_no (a p : Int) (w : World) (h : legB a p = false) :
    Calls Try.prog 41 #[.int .i64 a, .int .i64 p] w fun e w' => e = .returned (.tuple #[.int .i64 0, .bool false]) ∧ Below w.heap.size w w' := by
  rcases leg_no h with h1 | ⟨h1, h2⟩
  · have H1 := Lib.hid h1
    clear h1
    clear h
    go_enter Try.func41, Try.ntmps41
    go_wp2_with fail
    refine (are1 a _ _ false _ H1.out (by simp)).mono ?_
    rintro e w' ⟨rfl, rfl⟩
    go_wp2_with fail
    refine bodyPost_ret (v := .tuple #[.int .i64 0, .bool false]) (by simp [results, Try.results41, go_sem, *] <;> rfl) rfl ⟨rfl, by go_grown⟩
  · have H1 := Lib.hid h1
    clear h1
    have H2 := Lib.hid h2
    clear h2
    clear h
    go_enter Try.func41, Try.ntmps41
    go_wp2_with fail
    refine (are1 a _ _ true _ H1.out (by simp)).mono ?_
    rintro e w' ⟨rfl, rfl⟩
    go_wp2_with fail
    refine (impl_isOddPrime p false _ H2.out).mono ?_
    rintro e w1 ⟨rfl, hb1⟩
    have hB1 : Below w.heap.size w w1 := Below.after (by go_grown) hb1
    obtain ⟨hc1, hf1⟩ := bcell hb1
    have hy1 := hb1.size
    try simp at hy1
    first | (with_reducible have hx1 := Nat.lt_of_succ_le hy1) | skip
    first | (with_reducible have hv1 := Nat.lt_of_succ_lt hx1) | skip
    first | (with_reducible have hu1 := Nat.lt_of_succ_lt hv1) | skip
    first | (have hz1 : w.heap.size < w1.heap.size := by omega) | (have hz1 := hB1.size)
    clear hb1
    go_wp2_with fail
    refine bodyPost_ret (v := .tuple #[.int .i64 0, .bool false]) (by simp [results, Try.results41, go_sem, *] <;> rfl) rfl ⟨rfl, by go_grown⟩
theorem spec_Leg_yes (a p : Int) (w : World) (h : legB a p = true) :
    Calls Try.prog 48 #[.int .i64 a, .int .i64 p] w fun e w' => e = .returned (.tuple #[.int .i64 (J a p), .bool true]) ∧ Below w.heap.size w w' := by
  obtain ⟨h1, h2⟩ : good a = true ∧ oddPrimeB p = true := by unfold legB at h; simpa using h
  obtain ⟨k, hk, hk1, hk2⟩ := oddPrime_half h2
  have hp : p % 2 = 1 := by omega
  have Hp := Lib.hid hp
  have p1 : 1 ≤ p := by omega
  have p2 : p ≤ 1000001 := by omega
  have H1 := Lib.hid h1
  clear h1
  have H2 := Lib.hid h2
  clear h2
  clear h hp hk
  go_enter Try.func48, Try.ntmps48
  go_wp2_with fail
  refine (spec_nuGood a true _ H1.out).mono ?_
  rintro e w' ⟨rfl, rfl⟩
  go_wp2_with fail
  refine (spec_syOddPrime p true _ H2.out).mono ?_
  rintro e w' ⟨rfl, rfl⟩
  go_wp2_with fail
  refine (spec_syJacobi a p _ p1 (by omega) Hp.out).mono ?_
  rintro e w1 ⟨rfl, hb1⟩
  have hB1 : Below w.heap.size w w1 := Below.after (by go_grown) hb1
  obtain ⟨hc1, hf1⟩ := bcell hb1
  have hy1 := hb1.size
  try simp at hy1
  first | (with_reducible have hx1 := Nat.lt_of_succ_le hy1) | skip
  first | (with_reducible have hv1 := Nat.lt_of_succ_lt hx1) | skip
  first | (with_reducible have hu1 := Nat.lt_of_succ_lt hv1) | skip
  first | (have hz1 : w.heap.size < w1.heap.size := by omega) | (have hz1 := hB1.size)
  clear hb1
  go_wp2_with fail
  refine bodyPost_ret (v := .tuple #[.int .i64 (J a p), .bool true]) (by simp [results, Try.results48, go_sem, *] <;> rfl) rfl ⟨rfl, by go_grown⟩
theorem spec_Leg_no (a p : Int) (w : World) (h : legB a p = false) :
    Calls Try.prog 48 #[.int .i64 a, .int .i64 p] w fun e w' => e = .returned (.tuple #[.int .i64 0, .bool false]) ∧ Below w.heap.size w w' := by
  rcases leg_no h with h1 | ⟨h1, h2⟩
  · have H1 := Lib.hid h1
    clear h1
    clear h
    go_enter Try.func48, Try.ntmps48
    go_wp2_with fail
    refine (spec_nuGood a false _ H1.out).mono ?_
    rintro e w' ⟨rfl, rfl⟩
    go_wp2_with fail
    refine bodyPost_ret (v := .tuple #[.int .i64 0, .bool false]) (by simp [results, Try.results48, go_sem, *] <;> rfl) rfl ⟨rfl, by go_grown⟩
  · have H1 := Lib.hid h1
    clear h1
    have H2 := Lib.hid h2
    clear h2
    clear h
    go_enter Try.func48, Try.ntmps48
    go_wp2_with fail
    refine (spec_nuGood a true _ H1.out).mono ?_
    rintro e w' ⟨rfl, rfl⟩
    go_wp2_with fail
    refine (spec_syOddPrime p false _ H2.out).mono ?_
    rintro e w' ⟨rfl, rfl⟩
    go_wp2_with fail
    refine bodyPost_ret (v := .tuple #[.int .i64 0, .bool false]) (by simp [results, Try.results48, go_sem, *] <;> rfl) rfl ⟨rfl, by go_grown⟩
theorem impl_Jac_yes (a n : Int) (w : World) (h1 : good a = true) (h2 : oddM n = true) :
    Calls Try.prog 45 #[.int .i64 a, .int .i64 n] w fun e w' => e = .returned (.tuple #[.int .i64 (J a n), .bool true]) ∧ Below w.heap.size w w' := by
  obtain ⟨⟨n1, n2⟩, n3, n4⟩ := oddM_iff.1 h2
  have Hp := Lib.hid n4
  have H1 := Lib.hid h1
  clear h1
  have H2 := Lib.hid h2
  clear h2
  clear n4
  go_enter Try.func45, Try.ntmps45
  go_wp2_with fail
  refine (are1 a _ _ true _ H1.out (by simp)).mono ?_
  rintro e w' ⟨rfl, rfl⟩
  go_wp2_with fail
  refine (impl_isOddModulus n true _ H2.out).mono ?_
  rintro e w1 ⟨rfl, hb1⟩
  have hB1 : Below w.heap.size w w1 := Below.after (by go_grown) hb1
  obtain ⟨hc1, hf1⟩ := bcell hb1
  have hy1 := hb1.size
  try simp at hy1
  first | (with_reducible have hx1 := Nat.lt_of_succ_le hy1) | skip
  first | (with_reducible have hv1 := Nat.lt_of_succ_lt hx1) | skip
  first | (with_reducible have hu1 := Nat.lt_of_succ_lt hv1) | skip
  first | (have hz1 : w.heap.size < w1.heap.size := by omega) | (have hz1 := hB1.size)
  clear hb1
  go_wp2_with fail
  refine (impl_jacobi a n _ n3 (by omega) Hp.out).mono ?_
  rintro e w' ⟨rfl, rfl⟩
  go_wp2_with fail
  refine bodyPost_ret (v := .tuple #[.int .i64 (J a n), .bool true]) (by simp [results, Try.results45, go_sem, *] <;> rfl) rfl ⟨rfl, by go_grown⟩
theorem impl_Kro_yes (a n : Int) (w : World) (h : good2 a n = true) :
    Calls Try.prog 49 #[.int .i64 a, .int .i64 n] w fun e w' => e = .returned (.tuple #[.int .i64 (kron a n), .bool true]) ∧ Below w.heap.size w w' := by
  obtain ⟨⟨a1, a2⟩, ⟨n1, n2⟩⟩ := good2_iff.1 h
  have H := Lib.hid h
  clear h
  go_enter Try.func49, Try.ntmps49
  go_wp2_with fail
  refine (are2 a n _ _ true _ H.out (by simp) (by simp)).mono ?_
  rintro e w' ⟨rfl, rfl⟩
  go_wp2_with fail
  refine (impl_kronecker a n _ ⟨by omega, by omega⟩ ⟨by omega, by omega⟩).mono ?_
  rintro e w' ⟨rfl, rfl⟩
  go_wp2_with fail
  refine bodyPost_ret (v := .tuple #[.int .i64 (kron a n), .bool true]) (by simp [results, Try.results49, go_sem, *] <;> rfl) rfl ⟨rfl, by go_grown⟩
theorem kron_odd {a n : Int} (h0 : 0 < n) (h : n % 2 = 1) : kron a n = J a n := by
  rw [kron_ne (by omega)]
  have e : ((n.natAbs : Nat) : Int) = n := by omega
  rw [e, kron2_no (by omega)]
  have : ksign a n = 1 := by unfold ksign; rw [if_neg (by omega)]
  rw [this]
  simp
theorem impl_Gauss (a : Int) (k : Nat) (w : World) (h1 : good a = true) (h2 : oddPrimeB (2 * (k : Int) + 1) = true) (hk : k ≤ 4999) (hd : a % (2 * (k : Int) + 1) ≠ 0) :
    Calls Try.prog 50 #[.int .i64 a, .int .i64 (2 * (k : Int) + 1)] w fun e w' => e = .returned (.tuple #[.int .i64 (gauss k a : Nat), .bool true]) ∧ Below w.heap.size w w' := by
  obtain ⟨a1, a2⟩ := good_iff.1 h1
  obtain ⟨p, hp⟩ : ∃ p : Int, 2 * (k : Int) + 1 = p := ⟨_, rfl⟩
  rw [hp] at h2 hd ⊢
  have hk0 : 1 ≤ k := by obtain ⟨k', e, e1, _⟩ := oddPrime_half h2; omega
  have bd : (a.tmod p == 0) = false := beqF fun e => hd (Int.emod_eq_zero_of_dvd (Int.dvd_of_tmod_eq_zero e))
  have p1 : 3 ≤ p := by omega
  have p2 : p ≤ 9999 := by omega
  have hh : (p - 1).tdiv 2 = (k : Int) := by rw [← hp, show 2 * (k : Int) + 1 - 1 = 2 * k by omega, Int.mul_tdiv_cancel_left _ (by omega)]
  have hh2 : (p - 1) / 2 = (k : Int) := by omega
  have pn : ¬ p = 0 := by omega
  have H1 := Lib.hid h1
  clear h1
  have H2 := Lib.hid h2
  clear h2
  have Hp := Lib.hid hp
  clear hd hp
  go_enter Try.func50, Try.ntmps50
  go_wp2_with fail
  refine (are1 a _ _ true _ H1.out (by simp)).mono ?_
  rintro e w' ⟨rfl, rfl⟩
  go_wp2_with fail
  refine (impl_isOddPrime p true _ H2.out).mono ?_
  rintro e w1 ⟨rfl, hb1⟩
  have hB1 : Below w.heap.size w w1 := Below.after (by go_grown) hb1
  obtain ⟨hc1, hf1⟩ := bcell hb1
  have hy1 := hb1.size
  try simp at hy1
  first | (with_reducible have hx1 := Nat.lt_of_succ_le hy1) | skip
  first | (with_reducible have hv1 := Nat.lt_of_succ_lt hx1) | skip
  first | (with_reducible have hu1 := Nat.lt_of_succ_lt hv1) | skip
  first | (have hz1 : w.heap.size < w1.heap.size := by omega) | (have hz1 := hB1.size)
  clear hb1
  go_wp2_with fail
  go_loop [6, 7] (fun m i => ∃ j : Nat, m = .int .i64 (sumN j (fun i => hng k (a * (i + 1 : Nat))) : Nat) ∧ i = .int .i64 (j + 1 : Nat) ∧ j ≤ k ∧ sumN j (fun i => hng k (a * (i + 1 : Nat))) ≤ j) (fun _ i => k + 1 - (intOf i).toNat)
  case atStart => exact ⟨0, rfl, rfl, by omega, by simp [sumN]⟩
  case round =>
    obtain ⟨j, rfl, rfl, hj, hs⟩ := hrel
    obtain ⟨s, hse⟩ : ∃ s : Nat, sumN j (fun i => hng k (a * (i + 1 : Nat))) = s := ⟨_, rfl⟩
    rw [hse] at hs ⊢
    have Hs := Lib.hid hse
    clear hse
    by_cases hlt : j < k
    · obtain ⟨q1, q2⟩ := mulb (a := a) (b := (j : Int) + 1) (A := 1000000) (B := 5000) a1 a2 (by omega) (by omega)
      obtain ⟨r, hr⟩ : ∃ r : Int, (a * ((j : Int) + 1)) % p = r := ⟨_, rfl⟩
      have hnx : sumN (j + 1) (fun i => hng k (a * (i + 1 : Nat))) = s + if r ≤ (k : Int) then 0 else 1 := by
        show sumN j (fun i => hng k (a * (i + 1 : Nat))) + hng k (a * (j + 1 : Nat)) = _
        rw [Hs.out]
        unfold hng
        have e : ((j + 1 : Nat) : Int) = (j : Int) + 1 := by omega
        rw [Hp.out, e, hr]
      have Hr := Lib.hid hr
      by_cases hc : (k : Int) < r
      · rw [if_neg (by omega)] at hnx
        have Hnx := Lib.hid hnx
        clear hnx hr
        go_wp2_with fail
        refine (impl_mod _ p _ (by omega) (by omega)).mono ?_
        rintro e w' ⟨rfl, rfl⟩
        rw [Hr.out]
        go_wp2_with fail
        go_round
        case rel => exact ⟨j + 1, by rw [Hnx.out]; go_num, by go_num, by omega, by rw [Hnx.out]; omega⟩
        case measure => simp [intOf]; omega
      · rw [if_pos (by omega)] at hnx
        have Hnx := Lib.hid hnx
        clear hnx hr
        go_wp2_with fail
        refine (impl_mod _ p _ (by omega) (by omega)).mono ?_
        rintro e w' ⟨rfl, rfl⟩
        rw [Hr.out]
        go_wp2_with fail
        go_round
        case rel => exact ⟨j + 1, by rw [Hnx.out]; rfl, by go_num, by omega, by rw [Hnx.out]; omega⟩
        case measure => simp [intOf]; omega
    · obtain rfl : j = k := by omega
      go_wp2_with fail
      refine bodyPost_ret (v := .tuple #[.int .i64 ((s : Nat) : Int), .bool true]) (by simp [results, Try.results50, go_sem, *] <;> rfl) rfl ⟨?_, by go_grown⟩
      have e : gauss j a = s := Hs.out
      rw [e]
end Go.Proofs.Ytiblpagbloflhaa
