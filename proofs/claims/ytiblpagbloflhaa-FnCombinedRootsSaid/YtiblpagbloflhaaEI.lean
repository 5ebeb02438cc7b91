/- Contracts: the sums of Eisenstein. -/
import Derived.Test.YtiblpagbloflhaaSY
namespace Go.Proofs.Ytiblpagbloflhaa
set_option linter.unusedVariables false
open Go.ChangeShapes Go.WideShapes Go.ChangeAt Go.RowKit

noncomputable def eisB (p q : Int) : Bool := oddPrimeB p && oddPrimeB q && (decide (p ≤ 10000) && decide (q ≤ 10000) && decide (p ≠ q))
theorem eisB_yes {p q : Int} (h : eisB p q = true) : oddPrimeB p = true ∧ oddPrimeB q = true ∧ p ≤ 10000 ∧ q ≤ 10000 ∧ p ≠ q := by
  unfold eisB at h
  simpa [and_assoc] using h
theorem eisB_no {p q : Int} (h : eisB p q = false) : oddPrimeB p = false ∨ (oddPrimeB p = true ∧ oddPrimeB q = false) ∨ (oddPrimeB p = true ∧ oddPrimeB q = true ∧ 10000 < p) ∨ (oddPrimeB p = true ∧ oddPrimeB q = true ∧ p ≤ 10000 ∧ 10000 < q) ∨ (oddPrimeB p = true ∧ oddPrimeB q = true ∧ p ≤ 10000 ∧ q ≤ 10000 ∧ p = q) := by
  unfold eisB at h
  cases h1 : oddPrimeB p
  · exact .inl rfl
  · cases h2 : oddPrimeB q
    · exact .inr (.inl ⟨rfl, rfl⟩)
    · rw [h1, h2] at h
      by_cases h3 : p ≤ 10000
      · by_cases h4 : q ≤ 10000
        · refine .inr (.inr (.inr (.inr ⟨rfl, rfl, h3, h4, ?_⟩)))
          simpa [h3, h4] using h
        · exact .inr (.inr (.inr (.inl ⟨rfl, rfl, h3, by omega⟩)))
      · exact .inr (.inr (.inl ⟨rfl, rfl, by omega⟩))
theorem eis_bd (q p : Int) (h : Nat) (hp : 1 ≤ p) (hq0 : 0 ≤ q) (hq : q ≤ 10000) (hh : h ≤ 5000) : ∀ m, m ≤ h → sumN m (fun i => (q * (i + 1 : Nat) / p).toNat) ≤ m * 50000000
  | 0, _ => by simp [sumN]
  | m + 1, hm => by
    simp only [sumN]
    have ih := eis_bd q p h hp hq0 hq hh m (by omega)
    have h1 := mul_le (a := q) (b := ((m + 1 : Nat) : Int)) (A := 10000) (B := 5000) hq0 hq (by omega) (by omega)
    have h2 := Int.ediv_le_self p h1.1
    omega
set_option maxHeartbeats 1000000 in
theorem impl_Eis_yes (p q : Int) (h : Nat) (w : World) (hE : eisB p q = true) (hp : p = 2 * (h : Int) + 1) :
    Calls Try.prog 39 #[.int .i64 p, .int .i64 q] w fun e w' => e = .returned (.tuple #[.int .i64 (eis q p h : Nat), .bool true]) ∧ Below w.heap.size w w' := by
  obtain ⟨h1, h2, h3, h4, h5⟩ := eisB_yes hE
  obtain ⟨kq, hq, hq1, _⟩ := oddPrime_half h2
  obtain ⟨kp, hp', hp1, _⟩ := oddPrime_half h1
  have hh : (p - 1).tdiv 2 = (h : Int) := by rw [hp, show 2 * (h : Int) + 1 - 1 = 2 * h by omega, Int.mul_tdiv_cancel_left _ (by omega)]
  have hh2 : (p - 1) / 2 = (h : Int) := by omega
  have pn : ¬ p = 0 := by omega
  have bpq : (p == q) = false := beqF h5
  have p1 : 3 ≤ p := by omega
  have q1 : 3 ≤ q := by omega
  have hb : h ≤ 5000 := by omega
  have H1 := Lib.hid h1
  clear h1
  have H2 := Lib.hid h2
  clear h2
  clear hE hp hq hp' h5
  go_enter Try.func39, Try.ntmps39
  go_wp2_with fail
  refine (impl_isOddPrime p true _ H1.out).mono ?_
  rintro e w1 ⟨rfl, hb1⟩
  have hB1 : Below w.heap.size w w1 := Below.after (by go_grown) hb1
  obtain ⟨hc1, hf1⟩ := bcell hb1
  have hy1 := hb1.size
  try simp at hy1
  first | (with_reducible have hx1 := Nat.lt_of_succ_le hy1) | skip
  first | (with_reducible have hv1 := Nat.lt_of_succ_lt hx1) | skip
  first | (with_reducible have hu1 := Nat.lt_of_succ_lt hv1) | skip
  first | (have hz1 : w.heap.size < w1.heap.size := by omega) | (have hz1 := hB1.size)
  clear hb1
  go_wp2_with fail
  refine (impl_isOddPrime q true _ H2.out).mono ?_
  rintro e w2 ⟨rfl, hb2⟩
  have hB2 : Below w.heap.size w w2 := Below.after (by go_grown) hb2
  obtain ⟨hc2, hf2⟩ := bcell hb2
  have hy2 := hb2.size
  try simp at hy2
  first | (with_reducible have hx2 := Nat.lt_of_succ_le hy2) | skip
  first | (with_reducible have hv2 := Nat.lt_of_succ_lt hx2) | skip
  first | (with_reducible have hu2 := Nat.lt_of_succ_lt hv2) | skip
  first | (have hz2 : w.heap.size < w2.heap.size := by omega) | (have hz2 := hB2.size)
  first | (have hq2 : w1.heap.size ≤ w2.heap.size := by omega) | skip
  first | (have hx1_2 := Nat.lt_of_lt_of_le hx1 hq2) | skip
  first | (have hv1_2 := Nat.lt_of_lt_of_le hv1 hq2) | skip
  first | (have hu1_2 := Nat.lt_of_lt_of_le hu1 hq2) | skip
  clear hb2
  go_wp2_with fail
  go_loop [6, 7] (fun m i => ∃ j : Nat, m = .int .i64 (sumN j (fun i => (q * (i + 1 : Nat) / p).toNat) : Nat) ∧ i = .int .i64 (j + 1 : Nat) ∧ j ≤ h) (fun _ i => h + 1 - (intOf i).toNat)
  case atStart => exact ⟨0, rfl, rfl, by omega⟩
  case round =>
    obtain ⟨j, rfl, rfl, hj⟩ := hrel
    have hsb := eis_bd q p h (by omega) (by omega) h4 hb j hj
    obtain ⟨s, hse⟩ : ∃ s : Nat, sumN j (fun i => (q * (i + 1 : Nat) / p).toNat) = s := ⟨_, rfl⟩
    rw [hse] at hsb ⊢
    have Hs := Lib.hid hse
    clear hse
    by_cases hlt : j < h
    · have m1 := mul_le (a := (j : Int) + 1) (b := q) (A := 5000) (B := 10000) (by omega) (by omega) (by omega) h4
      obtain ⟨m2, m3⟩ := m1
      obtain ⟨d, hd⟩ : ∃ d : Int, (((j : Int) + 1) * q) / p = d := ⟨_, rfl⟩
      have hd0 : 0 ≤ d := by rw [← hd]; exact Int.ediv_nonneg m2 (by omega)
      have hd1 : d ≤ 50000000 := by rw [← hd]; have := Int.ediv_le_self p m2; omega
      have hdt : (((j : Int) + 1) * q).tdiv p = d := by rw [Int.tdiv_eq_ediv_of_nonneg m2]; exact hd
      have Hnx := Lib.hid (show sumN (j + 1) (fun i => (q * (i + 1 : Nat) / p).toNat) = s + d.toNat by
        show sumN j (fun i => (q * (i + 1 : Nat) / p).toNat) + (q * (j + 1 : Nat) / p).toNat = _
        rw [Hs.out, ← hd, Int.mul_comm q]
        rfl)
      go_wp2_with fail
      go_round
      case rel => exact ⟨j + 1, by rw [Hnx.out]; go_num, by go_num, by omega⟩
      case measure => simp [intOf]; omega
    · obtain rfl : j = h := by omega
      go_wp2_with fail
      refine bodyPost_ret (v := .tuple #[.int .i64 ((s : Nat) : Int), .bool true]) (by simp [results, Try.results39, go_sem, *] <;> rfl) rfl ⟨?_, by go_grown⟩
      have e : eis q p j = s := Hs.out
      rw [e]
theorem impl_Eis_no (p q : Int) (w : World) (hE : eisB p q = false) :
    Calls Try.prog 39 #[.int .i64 p, .int .i64 q] w fun e w' => e = .returned (.tuple #[.int .i64 0, .bool false]) ∧ Below w.heap.size w w' := by
  rcases eisB_no hE with h1 | ⟨h1, h2⟩ | ⟨h1, h2, h3⟩ | ⟨h1, h2, h3, h4⟩ | ⟨h1, h2, h3, h4, h5⟩
  · have H1 := Lib.hid h1
    clear h1
    clear hE
    go_enter Try.func39, Try.ntmps39
    go_wp2_with fail
    refine (impl_isOddPrime p false _ H1.out).mono ?_
    rintro e w1 ⟨rfl, hb1⟩
    have hB1 : Below w.heap.size w w1 := Below.after (by go_grown) hb1
    obtain ⟨hc1, hf1⟩ := bcell hb1
    have hy1 := hb1.size
    try simp at hy1
    first | (with_reducible have hx1 := Nat.lt_of_succ_le hy1) | skip
    first | (with_reducible have hv1 := Nat.lt_of_succ_lt hx1) | skip
    first | (with_reducible have hu1 := Nat.lt_of_succ_lt hv1) | skip
    first | (have hz1 : w.heap.size < w1.heap.size := by omega) | (have hz1 := hB1.size)
    clear hb1
    go_wp2_with fail
    refine bodyPost_ret (v := .tuple #[.int .i64 0, .bool false]) (by simp [results, Try.results39, go_sem, *] <;> rfl) rfl ⟨rfl, by go_grown⟩
  · have H1 := Lib.hid h1
    clear h1
    have H2 := Lib.hid h2
    clear h2
    clear hE
    go_enter Try.func39, Try.ntmps39
    go_wp2_with fail
    refine (impl_isOddPrime p true _ H1.out).mono ?_
    rintro e w1 ⟨rfl, hb1⟩
    have hB1 : Below w.heap.size w w1 := Below.after (by go_grown) hb1
    obtain ⟨hc1, hf1⟩ := bcell hb1
    have hy1 := hb1.size
    try simp at hy1
    first | (with_reducible have hx1 := Nat.lt_of_succ_le hy1) | skip
    first | (with_reducible have hv1 := Nat.lt_of_succ_lt hx1) | skip
    first | (with_reducible have hu1 := Nat.lt_of_succ_lt hv1) | skip
    first | (have hz1 : w.heap.size < w1.heap.size := by omega) | (have hz1 := hB1.size)
    clear hb1
    go_wp2_with fail
    refine (impl_isOddPrime q false _ H2.out).mono ?_
    rintro e w2 ⟨rfl, hb2⟩
    have hB2 : Below w.heap.size w w2 := Below.after (by go_grown) hb2
    obtain ⟨hc2, hf2⟩ := bcell hb2
    have hy2 := hb2.size
    try simp at hy2
    first | (with_reducible have hx2 := Nat.lt_of_succ_le hy2) | skip
    first | (with_reducible have hv2 := Nat.lt_of_succ_lt hx2) | skip
    first | (with_reducible have hu2 := Nat.lt_of_succ_lt hv2) | skip
    first | (have hz2 : w.heap.size < w2.heap.size := by omega) | (have hz2 := hB2.size)
    first | (have hq2 : w1.heap.size ≤ w2.heap.size := by omega) | skip
    first | (have hx1_2 := Nat.lt_of_lt_of_le hx1 hq2) | skip
    first | (have hv1_2 := Nat.lt_of_lt_of_le hv1 hq2) | skip
    first | (have hu1_2 := Nat.lt_of_lt_of_le hu1 hq2) | skip
    clear hb2
    go_wp2_with fail
    refine bodyPost_ret (v := .tuple #[.int .i64 0, .bool false]) (by simp [results, Try.results39, go_sem, *] <;> rfl) rfl ⟨rfl, by go_grown⟩
  · have H1 := Lib.hid h1
    clear h1
    have H2 := Lib.hid h2
    clear h2
    clear hE
    by_cases h5 : p = q
    · have bpq : (p == q) = true := beqT h5
      clear h5
      go_enter Try.func39, Try.ntmps39
      go_wp2_with fail
      refine (impl_isOddPrime p true _ H1.out).mono ?_
      rintro e w1 ⟨rfl, hb1⟩
      have hB1 : Below w.heap.size w w1 := Below.after (by go_grown) hb1
      obtain ⟨hc1, hf1⟩ := bcell hb1
      have hy1 := hb1.size
      try simp at hy1
      first | (with_reducible have hx1 := Nat.lt_of_succ_le hy1) | skip
      first | (with_reducible have hv1 := Nat.lt_of_succ_lt hx1) | skip
      first | (with_reducible have hu1 := Nat.lt_of_succ_lt hv1) | skip
      first | (have hz1 : w.heap.size < w1.heap.size := by omega) | (have hz1 := hB1.size)
      clear hb1
      go_wp2_with fail
      refine (impl_isOddPrime q true _ H2.out).mono ?_
      rintro e w2 ⟨rfl, hb2⟩
      have hB2 : Below w.heap.size w w2 := Below.after (by go_grown) hb2
      obtain ⟨hc2, hf2⟩ := bcell hb2
      have hy2 := hb2.size
      try simp at hy2
      first | (with_reducible have hx2 := Nat.lt_of_succ_le hy2) | skip
      first | (with_reducible have hv2 := Nat.lt_of_succ_lt hx2) | skip
      first | (with_reducible have hu2 := Nat.lt_of_succ_lt hv2) | skip
      first | (have hz2 : w.heap.size < w2.heap.size := by omega) | (have hz2 := hB2.size)
      first | (have hq2 : w1.heap.size ≤ w2.heap.size := by omega) | skip
      first | (have hx1_2 := Nat.lt_of_lt_of_le hx1 hq2) | skip
      first | (have hv1_2 := Nat.lt_of_lt_of_le hv1 hq2) | skip
      first | (have hu1_2 := Nat.lt_of_lt_of_le hu1 hq2) | skip
      clear hb2
      go_wp2_with fail
      refine bodyPost_ret (v := .tuple #[.int .i64 0, .bool false]) (by simp [results, Try.results39, go_sem, *] <;> rfl) rfl ⟨rfl, by go_grown⟩
    · have bpq : (p == q) = false := beqF h5
      clear h5
      go_enter Try.func39, Try.ntmps39
      go_wp2_with fail
      refine (impl_isOddPrime p true _ H1.out).mono ?_
      rintro e w1 ⟨rfl, hb1⟩
      have hB1 : Below w.heap.size w w1 := Below.after (by go_grown) hb1
      obtain ⟨hc1, hf1⟩ := bcell hb1
      have hy1 := hb1.size
      try simp at hy1
      first | (with_reducible have hx1 := Nat.lt_of_succ_le hy1) | skip
      first | (with_reducible have hv1 := Nat.lt_of_succ_lt hx1) | skip
      first | (with_reducible have hu1 := Nat.lt_of_succ_lt hv1) | skip
      first | (have hz1 : w.heap.size < w1.heap.size := by omega) | (have hz1 := hB1.size)
      clear hb1
      go_wp2_with fail
      refine (impl_isOddPrime q true _ H2.out).mono ?_
      rintro e w2 ⟨rfl, hb2⟩
      have hB2 : Below w.heap.size w w2 := Below.after (by go_grown) hb2
      obtain ⟨hc2, hf2⟩ := bcell hb2
      have hy2 := hb2.size
      try simp at hy2
      first | (with_reducible have hx2 := Nat.lt_of_succ_le hy2) | skip
      first | (with_reducible have hv2 := Nat.lt_of_succ_lt hx2) | skip
      first | (with_reducible have hu2 := Nat.lt_of_succ_lt hv2) | skip
      first | (have hz2 : w.heap.size < w2.heap.size := by omega) | (have hz2 := hB2.size)
      first | (have hq2 : w1.heap.size ≤ w2.heap.size := by omega) | skip
      first | (have hx1_2 := Nat.lt_of_lt_of_le hx1 hq2) | skip
      first | (have hv1_2 := Nat.lt_of_lt_of_le hv1 hq2) | skip
      first | (have hu1_2 := Nat.lt_of_lt_of_le hu1 hq2) | skip
      clear hb2
      go_wp2_with fail
      refine bodyPost_ret (v := .tuple #[.int .i64 0, .bool false]) (by simp [results, Try.results39, go_sem, *] <;> rfl) rfl ⟨rfl, by go_grown⟩
  · have H1 := Lib.hid h1
    clear h1
    have H2 := Lib.hid h2
    clear h2
    clear hE
    have bpq : (p == q) = false := beqF (by omega)
    go_enter Try.func39, Try.ntmps39
    go_wp2_with fail
    refine (impl_isOddPrime p true _ H1.out).mono ?_
    rintro e w1 ⟨rfl, hb1⟩
    have hB1 : Below w.heap.size w w1 := Below.after (by go_grown) hb1
    obtain ⟨hc1, hf1⟩ := bcell hb1
    have hy1 := hb1.size
    try simp at hy1
    first | (with_reducible have hx1 := Nat.lt_of_succ_le hy1) | skip
    first | (with_reducible have hv1 := Nat.lt_of_succ_lt hx1) | skip
    first | (with_reducible have hu1 := Nat.lt_of_succ_lt hv1) | skip
    first | (have hz1 : w.heap.size < w1.heap.size := by omega) | (have hz1 := hB1.size)
    clear hb1
    go_wp2_with fail
    refine (impl_isOddPrime q true _ H2.out).mono ?_
    rintro e w2 ⟨rfl, hb2⟩
    have hB2 : Below w.heap.size w w2 := Below.after (by go_grown) hb2
    obtain ⟨hc2, hf2⟩ := bcell hb2
    have hy2 := hb2.size
    try simp at hy2
    first | (with_reducible have hx2 := Nat.lt_of_succ_le hy2) | skip
    first | (with_reducible have hv2 := Nat.lt_of_succ_lt hx2) | skip
    first | (with_reducible have hu2 := Nat.lt_of_succ_lt hv2) | skip
    first | (have hz2 : w.heap.size < w2.heap.size := by omega) | (have hz2 := hB2.size)
    first | (have hq2 : w1.heap.size ≤ w2.heap.size := by omega) | skip
    first | (have hx1_2 := Nat.lt_of_lt_of_le hx1 hq2) | skip
    first | (have hv1_2 := Nat.lt_of_lt_of_le hv1 hq2) | skip
    first | (have hu1_2 := Nat.lt_of_lt_of_le hu1 hq2) | skip
    clear hb2
    go_wp2_with fail
    refine bodyPost_ret (v := .tuple #[.int .i64 0, .bool false]) (by simp [results, Try.results39, go_sem, *] <;> rfl) rfl ⟨rfl, by go_grown⟩
  · have H1 := Lib.hid h1
    clear h1
    have H2 := Lib.hid h2
    clear h2
    clear hE
    have bpq : (p == q) = true := beqT h5
    clear h5
    go_enter Try.func39, Try.ntmps39
    go_wp2_with fail
    refine (impl_isOddPrime p true _ H1.out).mono ?_
    rintro e w1 ⟨rfl, hb1⟩
    have hB1 : Below w.heap.size w w1 := Below.after (by go_grown) hb1
    obtain ⟨hc1, hf1⟩ := bcell hb1
    have hy1 := hb1.size
    try simp at hy1
    first | (with_reducible have hx1 := Nat.lt_of_succ_le hy1) | skip
    first | (with_reducible have hv1 := Nat.lt_of_succ_lt hx1) | skip
    first | (with_reducible have hu1 := Nat.lt_of_succ_lt hv1) | skip
    first | (have hz1 : w.heap.size < w1.heap.size := by omega) | (have hz1 := hB1.size)
    clear hb1
    go_wp2_with fail
    refine (impl_isOddPrime q true _ H2.out).mono ?_
    rintro e w2 ⟨rfl, hb2⟩
    have hB2 : Below w.heap.size w w2 := Below.after (by go_grown) hb2
    obtain ⟨hc2, hf2⟩ := bcell hb2
    have hy2 := hb2.size
    try simp at hy2
    first | (with_reducible have hx2 := Nat.lt_of_succ_le hy2) | skip
    first | (with_reducible have hv2 := Nat.lt_of_succ_lt hx2) | skip
    first | (with_reducible have hu2 := Nat.lt_of_succ_lt hv2) | skip
    first | (have hz2 : w.heap.size < w2.heap.size := by omega) | (have hz2 := hB2.size)
    first | (have hq2 : w1.heap.size ≤ w2.heap.size := by omega) | skip
    first | (have hx1_2 := Nat.lt_of_lt_of_le hx1 hq2) | skip
    first | (have hv1_2 := Nat.lt_of_lt_of_le hv1 hq2) | skip
    first | (have hu1_2 := Nat.lt_of_lt_of_le hu1 hq2) | skip
    clear hb2
    go_wp2_with fail
    refine bodyPost_ret (v := .tuple #[.int .i64 0, .bool false]) (by simp [results, Try.results39, go_sem, *] <;> rfl) rfl ⟨rfl, by go_grown⟩
set_option maxHeartbeats 1000000 in
theorem spec_Eis_yes (p q : Int) (h : Nat) (w : World) (hE : eisB p q = true) (hp : p = 2 * (h : Int) + 1) :
    Calls Try.prog 40 #[.int .i64 p, .int .i64 q] w fun e w' => e = .returned (.tuple #[.int .i64 (eis q p h : Nat), .bool true]) ∧ Below w.heap.size w w' := by
  obtain ⟨h1, h2, h3, h4, h5⟩ := eisB_yes hE
  obtain ⟨kq, hq, hq1, _⟩ := oddPrime_half h2
  obtain ⟨kp, hp', hp1, _⟩ := oddPrime_half h1
  have hh : (p - 1).tdiv 2 = (h : Int) := by rw [hp, show 2 * (h : Int) + 1 - 1 = 2 * h by omega, Int.mul_tdiv_cancel_left _ (by omega)]
  have hh2 : (p - 1) / 2 = (h : Int) := by omega
  have pn : ¬ p = 0 := by omega
  have bpq : (p == q) = false := beqF h5
  have p1 : 3 ≤ p := by omega
  have q1 : 3 ≤ q := by omega
  have hb : h ≤ 5000 := by omega
  have H1 := Lib.hid h1
  clear h1
  have H2 := Lib.hid h2
  clear h2
  clear hE hp hq hp' h5
  go_enter Try.func40, Try.ntmps40
  go_wp2_with fail
  refine (spec_syOddPrime p true _ H1.out).mono ?_
  rintro e w' ⟨rfl, rfl⟩
  go_wp2_with fail
  refine (spec_syOddPrime q true _ H2.out).mono ?_
  rintro e w' ⟨rfl, rfl⟩
  go_wp2_with fail
  go_loop [6, 7] (fun m i => ∃ j : Nat, m = .int .i64 (sumN j (fun i => (q * (i + 1 : Nat) / p).toNat) : Nat) ∧ i = .int .i64 (j + 1 : Nat) ∧ j ≤ h) (fun _ i => h + 1 - (intOf i).toNat)
  case atStart => exact ⟨0, rfl, rfl, by omega⟩
  case round =>
    obtain ⟨j, rfl, rfl, hj⟩ := hrel
    have hsb := eis_bd q p h (by omega) (by omega) h4 hb j hj
    obtain ⟨s, hse⟩ : ∃ s : Nat, sumN j (fun i => (q * (i + 1 : Nat) / p).toNat) = s := ⟨_, rfl⟩
    rw [hse] at hsb ⊢
    have Hs := Lib.hid hse
    clear hse
    by_cases hlt : j < h
    · have m1 := mul_le (a := (j : Int) + 1) (b := q) (A := 5000) (B := 10000) (by omega) (by omega) (by omega) h4
      obtain ⟨m2, m3⟩ := m1
      obtain ⟨d, hd⟩ : ∃ d : Int, (((j : Int) + 1) * q) / p = d := ⟨_, rfl⟩
      have hd0 : 0 ≤ d := by rw [← hd]; exact Int.ediv_nonneg m2 (by omega)
      have hd1 : d ≤ 50000000 := by rw [← hd]; have := Int.ediv_le_self p m2; omega
      have hdt : (((j : Int) + 1) * q).tdiv p = d := by rw [Int.tdiv_eq_ediv_of_nonneg m2]; exact hd
      have Hnx := Lib.hid (show sumN (j + 1) (fun i => (q * (i + 1 : Nat) / p).toNat) = s + d.toNat by
        show sumN j (fun i => (q * (i + 1 : Nat) / p).toNat) + (q * (j + 1 : Nat) / p).toNat = _
        rw [Hs.out, ← hd, Int.mul_comm q]
        rfl)
      go_wp2_with fail
      go_round
      case rel => exact ⟨j + 1, by rw [Hnx.out]; go_num, by go_num, by omega⟩
      case measure => simp [intOf]; omega
    · obtain rfl : j = h := by omega
      go_wp2_with fail
      refine bodyPost_ret (v := .tuple #[.int .i64 ((s : Nat) : Int), .bool true]) (by simp [results, Try.results40, go_sem, *] <;> rfl) rfl ⟨?_, by go_grown⟩
      have e : eis q p j = s := Hs.out
      rw [e]
theorem spec_Eis_no (p q : Int) (w : World) (hE : eisB p q = false) :
    Calls Try.prog 40 #[.int .i64 p, .int .i64 q] w fun e w' => e = .returned (.tuple #[.int .i64 0, .bool false]) ∧ Below w.heap.size w w' := by
  rcases eisB_no hE with h1 | ⟨h1, h2⟩ | ⟨h1, h2, h3⟩ | ⟨h1, h2, h3, h4⟩ | ⟨h1, h2, h3, h4, h5⟩
  · have H1 := Lib.hid h1
    clear h1
    clear hE
    go_enter Try.func40, Try.ntmps40
    go_wp2_with fail
    refine (spec_syOddPrime p false _ H1.out).mono ?_
    rintro e w' ⟨rfl, rfl⟩
    go_wp2_with fail
    refine bodyPost_ret (v := .tuple #[.int .i64 0, .bool false]) (by simp [results, Try.results40, go_sem, *] <;> rfl) rfl ⟨rfl, by go_grown⟩
  · have H1 := Lib.hid h1
    clear h1
    have H2 := Lib.hid h2
    clear h2
    clear hE
    go_enter Try.func40, Try.ntmps40
    go_wp2_with fail
    refine (spec_syOddPrime p true _ H1.out).mono ?_
    rintro e w' ⟨rfl, rfl⟩
    go_wp2_with fail
    refine (spec_syOddPrime q false _ H2.out).mono ?_
    rintro e w' ⟨rfl, rfl⟩
    go_wp2_with fail
    refine bodyPost_ret (v := .tuple #[.int .i64 0, .bool false]) (by simp [results, Try.results40, go_sem, *] <;> rfl) rfl ⟨rfl, by go_grown⟩
  · have H1 := Lib.hid h1
    clear h1
    have H2 := Lib.hid h2
    clear h2
    clear hE
    by_cases h5 : p = q
    · have bpq : (p == q) = true := beqT h5
      clear h5
      go_enter Try.func40, Try.ntmps40
      go_wp2_with fail
      refine (spec_syOddPrime p true _ H1.out).mono ?_
      rintro e w' ⟨rfl, rfl⟩
      go_wp2_with fail
      refine (spec_syOddPrime q true _ H2.out).mono ?_
      rintro e w' ⟨rfl, rfl⟩
      go_wp2_with fail
      refine bodyPost_ret (v := .tuple #[.int .i64 0, .bool false]) (by simp [results, Try.results40, go_sem, *] <;> rfl) rfl ⟨rfl, by go_grown⟩
    · have bpq : (p == q) = false := beqF h5
      clear h5
      go_enter Try.func40, Try.ntmps40
      go_wp2_with fail
      refine (spec_syOddPrime p true _ H1.out).mono ?_
      rintro e w' ⟨rfl, rfl⟩
      go_wp2_with fail
      refine (spec_syOddPrime q true _ H2.out).mono ?_
      rintro e w' ⟨rfl, rfl⟩
      go_wp2_with fail
      refine bodyPost_ret (v := .tuple #[.int .i64 0, .bool false]) (by simp [results, Try.results40, go_sem, *] <;> rfl) rfl ⟨rfl, by go_grown⟩
  · have H1 := Lib.hid h1
    clear h1
    have H2 := Lib.hid h2
    clear h2
    clear hE
    have bpq : (p == q) = false := beqF (by omega)
    go_enter Try.func40, Try.ntmps40
    go_wp2_with fail
    refine (spec_syOddPrime p true _ H1.out).mono ?_
    rintro e w' ⟨rfl, rfl⟩
    go_wp2_with fail
    refine (spec_syOddPrime q true _ H2.out).mono ?_
    rintro e w' ⟨rfl, rfl⟩
    go_wp2_with fail
    refine bodyPost_ret (v := .tuple #[.int .i64 0, .bool false]) (by simp [results, Try.results40, go_sem, *] <;> rfl) rfl ⟨rfl, by go_grown⟩
  · have H1 := Lib.hid h1
    clear h1
    have H2 := Lib.hid h2
    clear h2
    clear hE
    have bpq : (p == q) = true := beqT h5
    clear h5
    go_enter Try.func40, Try.ntmps40
    go_wp2_with fail
    refine (spec_syOddPrime p true _ H1.out).mono ?_
    rintro e w' ⟨rfl, rfl⟩
    go_wp2_with fail
    refine (spec_syOddPrime q true _ H2.out).mono ?_
    rintro e w' ⟨rfl, rfl⟩
    go_wp2_with fail
    refine bodyPost_ret (v := .tuple #[.int .i64 0, .bool false]) (by simp [results, Try.results40, go_sem, *] <;> rfl) rfl ⟨rfl, by go_grown⟩
end Go.Proofs.Ytiblpagbloflhaa
