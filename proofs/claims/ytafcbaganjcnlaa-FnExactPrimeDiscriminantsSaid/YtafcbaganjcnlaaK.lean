/- Contracts and walks: kinds of primes, the least prime of a kind. -/
import Derived.Test.YtafcbaganjcnlaaW
namespace Go.Proofs.Ytafcbaganjcnlaa
set_option linter.unusedVariables false
open Go.ChangeShapes Go.WideShapes Go.ChangeAt Go.RowKit

/-! kinds of primes -/
def kindV (d p : Int) : Int := if (fnd d).2 % p = 0 then 4 else if kron d p = 0 then 3 else if kron d p = 1 then 2 else 1
theorem kind_four {d p : Int} (h : (fnd d).2 % p = 0) : kindV d p = 4 := by unfold kindV; rw [if_pos h]
theorem kind_three {d p : Int} (h : ¬ (fnd d).2 % p = 0) (hk : kron d p = 0) : kindV d p = 3 := by unfold kindV; rw [if_neg h, if_pos hk]
theorem kind_two {d p : Int} (h : ¬ (fnd d).2 % p = 0) (hk : kron d p = 1) : kindV d p = 2 := by unfold kindV; rw [if_neg h, if_neg (by omega), if_pos hk]
theorem kind_one {d p : Int} (h : ¬ (fnd d).2 % p = 0) (hk : kron d p = -1) : kindV d p = 1 := by unfold kindV; rw [if_neg h, if_neg (by omega), if_neg (by omega)]
theorem fnd_nn {d : Int} (h0 : d ≠ 0) (h1 : -1000000 ≤ d ∧ d ≤ 1000000) : (-4000000 ≤ (fnd d).1 ∧ (fnd d).1 ≤ 4000000) ∧ 0 ≤ (fnd d).2 ∧ (fnd d).2 ≤ 1000 := by
  obtain ⟨⟨b1, b2⟩, b3, b4⟩ := sqf_bd h0 h1
  by_cases hm : (sqf d).1 % 4 = 1
  · rw [fnd_one hm]; exact ⟨⟨by simp only []; omega, by simp only []; omega⟩, by simp only []; omega, by simp only []; omega⟩
  · rw [fnd_four hm]; exact ⟨⟨by simp only []; omega, by simp only []; omega⟩, by simp only []; omega, by simp only []; omega⟩
theorem impl_kindOfPrime (d p : Int) (v : Int) (w : World) (h : discB d = true) (hp : 2 ≤ p ∧ p ≤ 1000000) (hv : kindV d p = v) :
    Calls Try.prog 72 #[.int .i64 d, .int .i64 p] w fun e w' => e = .returned (.int .i64 v) ∧ Below w.heap.size w w' := by
  obtain ⟨p1, p2⟩ := hp
  have bd := discB_bd h
  have hd0 := disc_ne h
  have hd1 := (discB_iff.1 h).1
  obtain ⟨⟨f1, f2⟩, f3, f4⟩ := fnd_nn hd0 hd1
  clear h
  by_cases hm : (fnd d).2 % p = 0
  · have hb := beqT hm
    have Hv := Lib.hid (show (4 : Int) = v by rw [← hv, kind_four hm])
    clear hv hm
    go_enter Try.func72, Try.ntmps72
    go_wp2_with fail
    refine (impl_fundamental d _ hd0 hd1).mono ?_
    rintro e w' ⟨rfl, rfl⟩
    go_wp2_with fail
    go_ret
    exact ⟨rint Hv.out, by go_grown⟩
  · have hb := beqF hm
    have Hm := Lib.hid hm
    obtain ⟨k1, k2⟩ := kron_bd d p
    obtain hk | hk | hk : kron d p = -1 ∨ kron d p = 0 ∨ kron d p = 1 := by omega
    · have Hv := Lib.hid (show (1 : Int) = v by rw [← hv, kind_one hm hk])
      have Hk := Lib.hid hk
      clear hv hm hk k1 k2
      have i0 : ∀ w : World, (Instr.index 60 (.agg #[.int .i64 1, .int .i64 3, .int .i64 2]) (.int .i64 0)).run Try.prog w = .ok (.int .i64 1) w := fun _ => by kernel_rfl
      have i1 : ∀ w : World, (Instr.index 60 (.agg #[.int .i64 1, .int .i64 3, .int .i64 2]) (.int .i64 1)).run Try.prog w = .ok (.int .i64 3) w := fun _ => by kernel_rfl
      have i2 : ∀ w : World, (Instr.index 60 (.agg #[.int .i64 1, .int .i64 3, .int .i64 2]) (.int .i64 2)).run Try.prog w = .ok (.int .i64 2) w := fun _ => by kernel_rfl
      go_enter Try.func72, Try.ntmps72
      go_wp2_with fail
      refine (impl_fundamental d _ hd0 hd1).mono ?_
      rintro e w' ⟨rfl, rfl⟩
      go_wp2_with fail
      refine (impl_kronecker d p _ bd (by omega)).mono ?_
      rintro e w' ⟨rfl, rfl⟩
      rw [Hk.out]
      go_wp2_with fail
      go_ret
      exact ⟨rint Hv.out, by go_grown⟩
    · have Hv := Lib.hid (show (3 : Int) = v by rw [← hv, kind_three hm hk])
      have Hk := Lib.hid hk
      clear hv hm hk k1 k2
      have i0 : ∀ w : World, (Instr.index 60 (.agg #[.int .i64 1, .int .i64 3, .int .i64 2]) (.int .i64 0)).run Try.prog w = .ok (.int .i64 1) w := fun _ => by kernel_rfl
      have i1 : ∀ w : World, (Instr.index 60 (.agg #[.int .i64 1, .int .i64 3, .int .i64 2]) (.int .i64 1)).run Try.prog w = .ok (.int .i64 3) w := fun _ => by kernel_rfl
      have i2 : ∀ w : World, (Instr.index 60 (.agg #[.int .i64 1, .int .i64 3, .int .i64 2]) (.int .i64 2)).run Try.prog w = .ok (.int .i64 2) w := fun _ => by kernel_rfl
      go_enter Try.func72, Try.ntmps72
      go_wp2_with fail
      refine (impl_fundamental d _ hd0 hd1).mono ?_
      rintro e w' ⟨rfl, rfl⟩
      go_wp2_with fail
      refine (impl_kronecker d p _ bd (by omega)).mono ?_
      rintro e w' ⟨rfl, rfl⟩
      rw [Hk.out]
      go_wp2_with fail
      go_ret
      exact ⟨rint Hv.out, by go_grown⟩
    · have Hv := Lib.hid (show (2 : Int) = v by rw [← hv, kind_two hm hk])
      have Hk := Lib.hid hk
      clear hv hm hk k1 k2
      have i0 : ∀ w : World, (Instr.index 60 (.agg #[.int .i64 1, .int .i64 3, .int .i64 2]) (.int .i64 0)).run Try.prog w = .ok (.int .i64 1) w := fun _ => by kernel_rfl
      have i1 : ∀ w : World, (Instr.index 60 (.agg #[.int .i64 1, .int .i64 3, .int .i64 2]) (.int .i64 1)).run Try.prog w = .ok (.int .i64 3) w := fun _ => by kernel_rfl
      have i2 : ∀ w : World, (Instr.index 60 (.agg #[.int .i64 1, .int .i64 3, .int .i64 2]) (.int .i64 2)).run Try.prog w = .ok (.int .i64 2) w := fun _ => by kernel_rfl
      go_enter Try.func72, Try.ntmps72
      go_wp2_with fail
      refine (impl_fundamental d _ hd0 hd1).mono ?_
      rintro e w' ⟨rfl, rfl⟩
      go_wp2_with fail
      refine (impl_kronecker d p _ bd (by omega)).mono ?_
      rintro e w' ⟨rfl, rfl⟩
      rw [Hk.out]
      go_wp2_with fail
      go_ret
      exact ⟨rint Hv.out, by go_grown⟩
theorem spec_diKind (d p : Int) (v : Int) (w : World) (h : discB d = true) (hp : 2 ≤ p ∧ p ≤ 1000000) (hv : kindV d p = v) :
    Calls Try.prog 70 #[.int .i64 d, .int .i64 p] w fun e w' => e = .returned (.int .i64 v) ∧ Below w.heap.size w w' := by
  obtain ⟨p1, p2⟩ := hp
  have bd := discB_bd h
  have hd0 := disc_ne h
  have hd1 := (discB_iff.1 h).1
  obtain ⟨⟨f1, f2⟩, f3, f4⟩ := fnd_nn hd0 hd1
  clear h
  by_cases hm : (fnd d).2 % p = 0
  · have hb := beqT hm
    have Hv := Lib.hid (show (4 : Int) = v by rw [← hv, kind_four hm])
    clear hv hm
    go_enter Try.func70, Try.ntmps70
    go_wp2_with fail
    refine (spec_diSplit d _ hd0 hd1).mono ?_
    rintro e w' ⟨rfl, rfl⟩
    go_wp2_with fail
    go_ret
    exact ⟨rint Hv.out, by go_grown⟩
  · have hb := beqF hm
    have Hm := Lib.hid hm
    obtain ⟨k1, k2⟩ := kron_bd d p
    obtain hk | hk | hk : kron d p = -1 ∨ kron d p = 0 ∨ kron d p = 1 := by omega
    · have Hv := Lib.hid (show (1 : Int) = v by rw [← hv, kind_one hm hk])
      have Hk := Lib.hid hk
      clear hv hm hk k1 k2
      have i0 : ∀ w : World, (Instr.index 60 (.agg #[.int .i64 1, .int .i64 3, .int .i64 2]) (.int .i64 0)).run Try.prog w = .ok (.int .i64 1) w := fun _ => by kernel_rfl
      have i1 : ∀ w : World, (Instr.index 60 (.agg #[.int .i64 1, .int .i64 3, .int .i64 2]) (.int .i64 1)).run Try.prog w = .ok (.int .i64 3) w := fun _ => by kernel_rfl
      have i2 : ∀ w : World, (Instr.index 60 (.agg #[.int .i64 1, .int .i64 3, .int .i64 2]) (.int .i64 2)).run Try.prog w = .ok (.int .i64 2) w := fun _ => by kernel_rfl
      go_enter Try.func70, Try.ntmps70
      go_wp2_with fail
      refine (spec_diSplit d _ hd0 hd1).mono ?_
      rintro e w' ⟨rfl, rfl⟩
      go_wp2_with fail
      refine (spec_syKronecker d p _ bd (by omega)).mono ?_
      rintro e w1 ⟨rfl, hB1⟩
      rw [Hk.out]
      go_wp2_with fail
      go_ret
      exact ⟨rint Hv.out, by go_grown⟩
    · have Hv := Lib.hid (show (3 : Int) = v by rw [← hv, kind_three hm hk])
      have Hk := Lib.hid hk
      clear hv hm hk k1 k2
      have i0 : ∀ w : World, (Instr.index 60 (.agg #[.int .i64 1, .int .i64 3, .int .i64 2]) (.int .i64 0)).run Try.prog w = .ok (.int .i64 1) w := fun _ => by kernel_rfl
      have i1 : ∀ w : World, (Instr.index 60 (.agg #[.int .i64 1, .int .i64 3, .int .i64 2]) (.int .i64 1)).run Try.prog w = .ok (.int .i64 3) w := fun _ => by kernel_rfl
      have i2 : ∀ w : World, (Instr.index 60 (.agg #[.int .i64 1, .int .i64 3, .int .i64 2]) (.int .i64 2)).run Try.prog w = .ok (.int .i64 2) w := fun _ => by kernel_rfl
      go_enter Try.func70, Try.ntmps70
      go_wp2_with fail
      refine (spec_diSplit d _ hd0 hd1).mono ?_
      rintro e w' ⟨rfl, rfl⟩
      go_wp2_with fail
      refine (spec_syKronecker d p _ bd (by omega)).mono ?_
      rintro e w1 ⟨rfl, hB1⟩
      rw [Hk.out]
      go_wp2_with fail
      go_ret
      exact ⟨rint Hv.out, by go_grown⟩
    · have Hv := Lib.hid (show (2 : Int) = v by rw [← hv, kind_two hm hk])
      have Hk := Lib.hid hk
      clear hv hm hk k1 k2
      have i0 : ∀ w : World, (Instr.index 60 (.agg #[.int .i64 1, .int .i64 3, .int .i64 2]) (.int .i64 0)).run Try.prog w = .ok (.int .i64 1) w := fun _ => by kernel_rfl
      have i1 : ∀ w : World, (Instr.index 60 (.agg #[.int .i64 1, .int .i64 3, .int .i64 2]) (.int .i64 1)).run Try.prog w = .ok (.int .i64 3) w := fun _ => by kernel_rfl
      have i2 : ∀ w : World, (Instr.index 60 (.agg #[.int .i64 1, .int .i64 3, .int .i64 2]) (.int .i64 2)).run Try.prog w = .ok (.int .i64 2) w := fun _ => by kernel_rfl
      go_enter Try.func70, Try.ntmps70
      go_wp2_with fail
      refine (spec_diSplit d _ hd0 hd1).mono ?_
      rintro e w' ⟨rfl, rfl⟩
      go_wp2_with fail
      refine (spec_syKronecker d p _ bd (by omega)).mono ?_
      rintro e w1 ⟨rfl, hB1⟩
      rw [Hk.out]
      go_wp2_with fail
      go_ret
      exact ⟨rint Hv.out, by go_grown⟩
/-! the kind of a prime -/
theorem prime_two {p : Int} (h : primeB p = true) : 2 ≤ p := primeB_two h
noncomputable def koB (d p : Int) : Bool := discB d && (good p && primeB p)
theorem ko_yes {d p : Int} (h : koB d p = true) : discB d = true ∧ good p = true ∧ primeB p = true := by simpa [koB] using h
theorem ko_no {d p : Int} (h : koB d p = false) : discB d = true → (good p && primeB p) = false := by intro h1; simpa [koB, h1] using h
theorem impl_IsPrimeK (n : Int) (v : Bool) (w : World) (hv : (good n && primeB n) = v) :
    Calls Try.prog 71 #[.int .i64 n] w fun e w' => e = .returned (.bool v) ∧ Below w.heap.size w w' := by
  have Hv := Lib.hid hv
  clear hv
  by_cases h : good n = true
  · obtain ⟨h1, h2⟩ := good_iff.1 h
    have H := Lib.hid h
    clear h
    go_enter Try.func71, Try.ntmps71
    go_wp2_with fail
    refine (are1 n _ _ true _ H.out (by simp)).mono ?_
    rintro e w' ⟨rfl, rfl⟩
    go_wp2_with fail
    refine (impl_isPrime n _ _ (by omega) rfl).mono ?_
    rintro e w' ⟨rfl, rfl⟩
    go_wp2_with fail
    go_ret
    exact ⟨rbool (by rw [← Hv.out]; simp [H.out]), by go_grown⟩
  · have H := Lib.hid (Bool.not_eq_true _ ▸ h)
    clear h
    go_enter Try.func71, Try.ntmps71
    go_wp2_with fail
    refine (are1 n _ _ false _ H.out (by simp)).mono ?_
    rintro e w' ⟨rfl, rfl⟩
    go_wp2_with fail
    go_ret
    exact ⟨rbool (by rw [← Hv.out]; simp [H.out]), by go_grown⟩
theorem impl_KindOfPrime_yes (d p : Int) (w : World) (h : koB d p = true) :
    Calls Try.prog 41 #[.int .i64 d, .int .i64 p] w fun e w' => e = .returned (.tuple #[.int .i64 (kindV d p), .bool true]) ∧ Below w.heap.size w w' := by
  obtain ⟨hd, hg, hp⟩ := ko_yes h
  have p2 := primeB_two hp
  have p3 := good_iff.1 hg
  have Hp := Lib.hid (show (good p && primeB p) = true by rw [hg, hp]; rfl)
  clear h hg hp
  have H := Lib.hid hd
  clear hd
  go_enter Try.func41, Try.ntmps41
  go_wp2_with fail
  refine (impl_isDiscriminant d true _ H.out).mono ?_
  rintro e w1 ⟨rfl, hb1⟩
  have hB1 : Below w.heap.size w w1 := Below.after (by go_grown) hb1
  obtain ⟨hc1, hf1⟩ := bcell hb1
  have hy1 := hb1.size
  try simp at hy1
  first | (with_reducible have hx1 := Nat.lt_of_succ_le hy1) | skip
  first | (with_reducible have hv1 := Nat.lt_of_succ_lt hx1) | skip
  first | (with_reducible have hu1 := Nat.lt_of_succ_lt hv1) | skip
  first | (have hz1 : w.heap.size < w1.heap.size := by omega) | (have hz1 := hB1.size)
  clear hb1
  go_wp2_with fail
  refine (impl_IsPrimeK p true _ Hp.out).mono ?_
  rintro e w2 ⟨rfl, hb2⟩
  have hB2 : Below w.heap.size w w2 := Below.after (by go_grown) hb2
  obtain ⟨hc2, hf2⟩ := bcell hb2
  have hy2 := hb2.size
  try simp at hy2
  first | (with_reducible have hx2 := Nat.lt_of_succ_le hy2) | skip
  first | (with_reducible have hv2 := Nat.lt_of_succ_lt hx2) | skip
  first | (with_reducible have hu2 := Nat.lt_of_succ_lt hv2) | skip
  first | (have hz2 : w.heap.size < w2.heap.size := by omega) | (have hz2 := hB2.size)
  first | (have hq2 : w1.heap.size ≤ w2.heap.size := by omega) | skip
  first | (have hx1_2 := Nat.lt_of_lt_of_le hx1 hq2) | skip
  first | (have hv1_2 := Nat.lt_of_lt_of_le hv1 hq2) | skip
  first | (have hu1_2 := Nat.lt_of_lt_of_le hu1 hq2) | skip
  clear hb2
  go_wp2_with fail
  refine (impl_kindOfPrime d p _ _ H.out ⟨p2, p3.2⟩ rfl).mono ?_
  rintro e w3 ⟨rfl, hb3⟩
  have hB3 : Below w.heap.size w w3 := Below.after (by go_grown) hb3
  obtain ⟨hc3, hf3⟩ := bcell hb3
  have hy3 := hb3.size
  try simp at hy3
  first | (with_reducible have hx3 := Nat.lt_of_succ_le hy3) | skip
  first | (with_reducible have hv3 := Nat.lt_of_succ_lt hx3) | skip
  first | (with_reducible have hu3 := Nat.lt_of_succ_lt hv3) | skip
  first | (have hz3 : w.heap.size < w3.heap.size := by omega) | (have hz3 := hB3.size)
  first | (have hq3 : w2.heap.size ≤ w3.heap.size := by omega) | skip
  first | (have hx1_3 := Nat.lt_of_lt_of_le hx1_2 hq3) | skip
  first | (have hv1_3 := Nat.lt_of_lt_of_le hv1_2 hq3) | skip
  first | (have hu1_3 := Nat.lt_of_lt_of_le hu1_2 hq3) | skip
  first | (have hx2_3 := Nat.lt_of_lt_of_le hx2 hq3) | skip
  first | (have hv2_3 := Nat.lt_of_lt_of_le hv2 hq3) | skip
  first | (have hu2_3 := Nat.lt_of_lt_of_le hu2 hq3) | skip
  clear hb3
  go_wp2_with fail
  go_ret2
  exact ⟨rfl, by go_grown⟩
theorem impl_KindOfPrime_no (d p : Int) (w : World) (h : koB d p = false) :
    Calls Try.prog 41 #[.int .i64 d, .int .i64 p] w fun e w' => e = .returned (.tuple #[.int .i64 0, .bool false]) ∧ Below w.heap.size w w' := by
  by_cases hd : discB d = true
  · have Hp := Lib.hid (ko_no h hd)
    clear h
    have H := Lib.hid hd
    clear hd
    go_enter Try.func41, Try.ntmps41
    go_wp2_with fail
    refine (impl_isDiscriminant d true _ H.out).mono ?_
    rintro e w1 ⟨rfl, hb1⟩
    have hB1 : Below w.heap.size w w1 := Below.after (by go_grown) hb1
    obtain ⟨hc1, hf1⟩ := bcell hb1
    have hy1 := hb1.size
    try simp at hy1
    first | (with_reducible have hx1 := Nat.lt_of_succ_le hy1) | skip
    first | (with_reducible have hv1 := Nat.lt_of_succ_lt hx1) | skip
    first | (with_reducible have hu1 := Nat.lt_of_succ_lt hv1) | skip
    first | (have hz1 : w.heap.size < w1.heap.size := by omega) | (have hz1 := hB1.size)
    clear hb1
    go_wp2_with fail
    refine (impl_IsPrimeK p false _ Hp.out).mono ?_
    rintro e w2 ⟨rfl, hb2⟩
    have hB2 : Below w.heap.size w w2 := Below.after (by go_grown) hb2
    obtain ⟨hc2, hf2⟩ := bcell hb2
    have hy2 := hb2.size
    try simp at hy2
    first | (with_reducible have hx2 := Nat.lt_of_succ_le hy2) | skip
    first | (with_reducible have hv2 := Nat.lt_of_succ_lt hx2) | skip
    first | (with_reducible have hu2 := Nat.lt_of_succ_lt hv2) | skip
    first | (have hz2 : w.heap.size < w2.heap.size := by omega) | (have hz2 := hB2.size)
    first | (have hq2 : w1.heap.size ≤ w2.heap.size := by omega) | skip
    first | (have hx1_2 := Nat.lt_of_lt_of_le hx1 hq2) | skip
    first | (have hv1_2 := Nat.lt_of_lt_of_le hv1 hq2) | skip
    first | (have hu1_2 := Nat.lt_of_lt_of_le hu1 hq2) | skip
    clear hb2
    go_wp2_with fail
    go_ret2
    exact ⟨rfl, by go_grown⟩
  · clear h
    have H := Lib.hid (Bool.not_eq_true _ ▸ hd)
    clear hd
    go_enter Try.func41, Try.ntmps41
    go_wp2_with fail
    refine (impl_isDiscriminant d false _ H.out).mono ?_
    rintro e w1 ⟨rfl, hb1⟩
    have hB1 : Below w.heap.size w w1 := Below.after (by go_grown) hb1
    obtain ⟨hc1, hf1⟩ := bcell hb1
    have hy1 := hb1.size
    try simp at hy1
    first | (with_reducible have hx1 := Nat.lt_of_succ_le hy1) | skip
    first | (with_reducible have hv1 := Nat.lt_of_succ_lt hx1) | skip
    first | (with_reducible have hu1 := Nat.lt_of_succ_lt hv1) | skip
    first | (have hz1 : w.heap.size < w1.heap.size := by omega) | (have hz1 := hB1.size)
    clear hb1
    go_wp2_with fail
    go_ret2
    exact ⟨rfl, by go_grown⟩
theorem spec_KindOfPrime_yes (d p : Int) (w : World) (h : koB d p = true) :
    Calls Try.prog 40 #[.int .i64 d, .int .i64 p] w fun e w' => e = .returned (.tuple #[.int .i64 (kindV d p), .bool true]) ∧ Below w.heap.size w w' := by
  obtain ⟨hd, hg, hp⟩ := ko_yes h
  have p2 := primeB_two hp
  have p3 := good_iff.1 hg
  clear h
  have Hp := Lib.hid hp
  clear hp
  have Hg := Lib.hid hg
  clear hg
  have H := Lib.hid hd
  clear hd
  go_enter Try.func40, Try.ntmps40
  go_wp2_with fail
  refine (spec_diIs d true _ H.out).mono ?_
  rintro e w' ⟨rfl, rfl⟩
  go_wp2_with fail
  refine (spec_nuGood p true _ Hg.out).mono ?_
  rintro e w' ⟨rfl, rfl⟩
  go_wp2_with fail
  refine (spec_nuPrime p true _ (by omega) Hp.out).mono ?_
  rintro e w' ⟨rfl, rfl⟩
  go_wp2_with fail
  refine (spec_diKind d p _ _ H.out ⟨p2, p3.2⟩ rfl).mono ?_
  rintro e w1 ⟨rfl, hb1⟩
  have hB1 : Below w.heap.size w w1 := Below.after (by go_grown) hb1
  obtain ⟨hc1, hf1⟩ := bcell hb1
  have hy1 := hb1.size
  try simp at hy1
  first | (with_reducible have hx1 := Nat.lt_of_succ_le hy1) | skip
  first | (with_reducible have hv1 := Nat.lt_of_succ_lt hx1) | skip
  first | (with_reducible have hu1 := Nat.lt_of_succ_lt hv1) | skip
  first | (have hz1 : w.heap.size < w1.heap.size := by omega) | (have hz1 := hB1.size)
  clear hb1
  go_wp2_with fail
  go_ret2
  exact ⟨rfl, by go_grown⟩
theorem spec_KindOfPrime_no (d p : Int) (w : World) (h : koB d p = false) :
    Calls Try.prog 40 #[.int .i64 d, .int .i64 p] w fun e w' => e = .returned (.tuple #[.int .i64 0, .bool false]) ∧ Below w.heap.size w w' := by
  by_cases hd : discB d = true
  · have hp := ko_no h hd
    clear h
    have H := Lib.hid hd
    clear hd
    by_cases hg : good p = true
    · have p3 := good_iff.1 hg
      have Hp := Lib.hid (show primeB p = false by rw [hg] at hp; simpa using hp)
      clear hp
      have Hg := Lib.hid hg
      clear hg
      go_enter Try.func40, Try.ntmps40
      go_wp2_with fail
      refine (spec_diIs d true _ H.out).mono ?_
      rintro e w' ⟨rfl, rfl⟩
      go_wp2_with fail
      refine (spec_nuGood p true _ Hg.out).mono ?_
      rintro e w' ⟨rfl, rfl⟩
      go_wp2_with fail
      refine (spec_nuPrime p false _ (by omega) Hp.out).mono ?_
      rintro e w' ⟨rfl, rfl⟩
      go_wp2_with fail
      go_ret2
      exact ⟨rfl, by go_grown⟩
    · clear hp
      have Hg := Lib.hid (Bool.not_eq_true _ ▸ hg)
      clear hg
      go_enter Try.func40, Try.ntmps40
      go_wp2_with fail
      refine (spec_diIs d true _ H.out).mono ?_
      rintro e w' ⟨rfl, rfl⟩
      go_wp2_with fail
      refine (spec_nuGood p false _ Hg.out).mono ?_
      rintro e w' ⟨rfl, rfl⟩
      go_wp2_with fail
      go_ret2
      exact ⟨rfl, by go_grown⟩
  · clear h
    have H := Lib.hid (Bool.not_eq_true _ ▸ hd)
    clear hd
    go_enter Try.func40, Try.ntmps40
    go_wp2_with fail
    refine (spec_diIs d false _ H.out).mono ?_
    rintro e w' ⟨rfl, rfl⟩
    go_wp2_with fail
    go_ret2
    exact ⟨rfl, by go_grown⟩
theorem walkKindOfPrime (d p : Int) (w : World) (wd : (Lit.int .i64 d).wf = true) (wp : (Lit.int .i64 p).wf = true) :
    Calls Try.prog 12 #[.int .i64 d, .int .i64 p] w fun e w' => e = .returned (.bool true) ∧ Below w.heap.size w w' := by
  by_cases h : koB d p = true
  · have H := Lib.hid h
    clear h
    go_enter Try.func12, Try.ntmps12
    go_wp2_with fail
    refine (spec_KindOfPrime_yes d p _ H.out).mono ?_
    rintro e w1 ⟨rfl, hb1⟩
    have hB1 : Below w.heap.size w w1 := Below.after (by go_grown) hb1
    obtain ⟨hc1, hf1⟩ := bcell hb1
    have hy1 := hb1.size
    try simp at hy1
    first | (with_reducible have hx1 := Nat.lt_of_succ_le hy1) | skip
    first | (with_reducible have hv1 := Nat.lt_of_succ_lt hx1) | skip
    first | (with_reducible have hu1 := Nat.lt_of_succ_lt hv1) | skip
    first | (have hz1 : w.heap.size < w1.heap.size := by omega) | (have hz1 := hB1.size)
    clear hb1
    go_wp2_with fail
    refine (impl_KindOfPrime_yes d p _ H.out).mono ?_
    rintro e w2 ⟨rfl, hb2⟩
    have hB2 : Below w.heap.size w w2 := Below.after (by go_grown) hb2
    obtain ⟨hc2, hf2⟩ := bcell hb2
    have hy2 := hb2.size
    try simp at hy2
    first | (with_reducible have hx2 := Nat.lt_of_succ_le hy2) | skip
    first | (with_reducible have hv2 := Nat.lt_of_succ_lt hx2) | skip
    first | (with_reducible have hu2 := Nat.lt_of_succ_lt hv2) | skip
    first | (have hz2 : w.heap.size < w2.heap.size := by omega) | (have hz2 := hB2.size)
    first | (have hq2 : w1.heap.size ≤ w2.heap.size := by omega) | skip
    first | (have hx1_2 := Nat.lt_of_lt_of_le hx1 hq2) | skip
    first | (have hv1_2 := Nat.lt_of_lt_of_le hv1 hq2) | skip
    first | (have hu1_2 := Nat.lt_of_lt_of_le hu1 hq2) | skip
    clear hb2
    go_wp2_with fail
    go_ret
    exact ⟨rfl, by go_grown⟩
  · have H := Lib.hid (Bool.not_eq_true _ ▸ h)
    clear h
    go_enter Try.func12, Try.ntmps12
    go_wp2_with fail
    refine (spec_KindOfPrime_no d p _ H.out).mono ?_
    rintro e w1 ⟨rfl, hb1⟩
    have hB1 : Below w.heap.size w w1 := Below.after (by go_grown) hb1
    obtain ⟨hc1, hf1⟩ := bcell hb1
    have hy1 := hb1.size
    try simp at hy1
    first | (with_reducible have hx1 := Nat.lt_of_succ_le hy1) | skip
    first | (with_reducible have hv1 := Nat.lt_of_succ_lt hx1) | skip
    first | (with_reducible have hu1 := Nat.lt_of_succ_lt hv1) | skip
    first | (have hz1 : w.heap.size < w1.heap.size := by omega) | (have hz1 := hB1.size)
    clear hb1
    go_wp2_with fail
    refine (impl_KindOfPrime_no d p _ H.out).mono ?_
    rintro e w2 ⟨rfl, hb2⟩
    have hB2 : Below w.heap.size w w2 := Below.after (by go_grown) hb2
    obtain ⟨hc2, hf2⟩ := bcell hb2
    have hy2 := hb2.size
    try simp at hy2
    first | (with_reducible have hx2 := Nat.lt_of_succ_le hy2) | skip
    first | (with_reducible have hv2 := Nat.lt_of_succ_lt hx2) | skip
    first | (with_reducible have hu2 := Nat.lt_of_succ_lt hv2) | skip
    first | (have hz2 : w.heap.size < w2.heap.size := by omega) | (have hz2 := hB2.size)
    first | (have hq2 : w1.heap.size ≤ w2.heap.size := by omega) | skip
    first | (have hx1_2 := Nat.lt_of_lt_of_le hx1 hq2) | skip
    first | (have hv1_2 := Nat.lt_of_lt_of_le hv1 hq2) | skip
    first | (have hu1_2 := Nat.lt_of_lt_of_le hu1 hq2) | skip
    clear hb2
    go_wp2_with fail
    go_ret
    exact ⟨rfl, by go_grown⟩
end Go.Proofs.Ytafcbaganjcnlaa
