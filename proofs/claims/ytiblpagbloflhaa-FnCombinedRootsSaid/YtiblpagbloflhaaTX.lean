/- Contracts: towers where there is none, the lifted root, the number of roots. -/
import Derived.Test.YtiblpagbloflhaaTW
namespace Go.Proofs.Ytiblpagbloflhaa
set_option linter.unusedVariables false
open Go.ChangeShapes Go.WideShapes Go.ChangeAt Go.RowKit

/-- no root, no tower -/
theorem tw_fr {b p : Int} {K : Nat} (g1 : good b = true) (g2 : oddPrimeB p = true) (g3 : ¬ b % p = 0) (g4 : 1 ≤ K) (g5 : K ≤ 13) (g6 : p ^ K ≤ 1000000) (h : ∀ x, TwA b p x K → False) : ∃ x, FrOut b p x false := by
  obtain ⟨x, v, hx⟩ := frOut_ex b p
  cases v with
  | false => exact ⟨x, hx⟩
  | true => exact absurd (h x ⟨g1, g2, g3, g4, g5, g6, hx⟩) id
set_option maxRecDepth 100000 in
set_option maxHeartbeats 2000000 in
theorem impl_Tower_no (b p k : Int) (w : World) (hp1 : 1 ≤ p) (hp2 : p ≤ 1009) (hk1 : -1 ≤ k) (hk : k ≤ 13 ∨ k = 4611686018427387904) (h : ∀ x (K : Nat), k = K → TwA b p x K → False) :
    Calls Try.prog 69 #[.int .i64 b, .int .i64 p, .int .i64 k] w fun e w' => ∃ v, e = .returned (.tuple #[v, .bool false]) ∧ Ints w' w.heap.size v [] ∧ Below w.heap.size w w' := by
  cases g : good2 b k with
  | false =>
    have G := Lib.hid g
    clear g h hk
    go_enter Try.func69, Try.ntmps69
    go_wp2_with fail
    refine (are2 b k _ _ false _ G.out (by simp) (by simp)).mono ?_
    rintro e w' ⟨rfl, rfl⟩
    go_wp2_with fail
    refine bodyPost_ret (v := .tuple #[.slice (some ⟨_, 0, none⟩) 0 0, .bool false]) (by simp [results, Try.results69, go_sem, *] <;> rfl) rfl ⟨_, rfl, Ints.emptyQ _ (by simp) (by go_size), by go_grown⟩
  | true =>
    have G := Lib.hid g
    have hg : good b = true ∧ k ≤ 1000000 := by
      unfold good2 good at g
      unfold good
      simp at g ⊢
      omega
    obtain ⟨g1, hk6⟩ := hg
    have hk13 : k ≤ 13 := by omega
    have pb := tmod_bd b (show 0 < p by omega)
    clear hk g
    cases g2 : oddPrimeB p with
    | false =>
      have G2 := Lib.hid g2
      clear g2 g1 h
      go_enter Try.func69, Try.ntmps69
      go_wp2_with fail
      refine (are2 b k _ _ true _ G.out (by simp) (by simp)).mono ?_
      rintro e w' ⟨rfl, rfl⟩
      go_wp2_with fail
      refine (impl_isOddPrime p false _ G2.out).mono ?_
      rintro e w1 ⟨rfl, hb1⟩
      have hB1 : Below w.heap.size w w1 := Below.after (by go_grown) hb1
      obtain ⟨hc1, hf1⟩ := bcell hb1
      have hy1 := hb1.size
      try simp at hy1
      first | (with_reducible have hx1 := Nat.lt_of_succ_le hy1) | skip
      first | (with_reducible have hv1 := Nat.lt_of_succ_lt hx1) | skip
      first | (with_reducible have hu1 := Nat.lt_of_succ_lt hv1) | skip
      first | (have hz1 : w.heap.size < w1.heap.size := by omega) | (have hz1 := hB1.size)
      clear hb1
      go_wp2_with fail
      refine bodyPost_ret (v := .tuple #[.slice (some ⟨_, 0, none⟩) 0 0, .bool false]) (by simp [results, Try.results69, go_sem, *] <;> rfl) rfl ⟨_, rfl, Ints.emptyQ _ (by simp) (by go_size), by go_grown⟩
    | true =>
      have G2 := Lib.hid g2
      by_cases g3 : b % p = 0
      · have nz2 : b.tmod p = 0 := Int.tmod_eq_zero_of_dvd (Int.dvd_of_emod_eq_zero g3)
        have nz4 : (b.tmod p == 0) = true := by rw [nz2]; rfl
        have nz5 : (b % p == 0) = true := by rw [g3]; rfl
        clear g2 g1 h
        go_enter Try.func69, Try.ntmps69
        go_wp2_with fail
        refine (are2 b k _ _ true _ G.out (by simp) (by simp)).mono ?_
        rintro e w' ⟨rfl, rfl⟩
        go_wp2_with fail
        refine (impl_isOddPrime p true _ G2.out).mono ?_
        rintro e w1 ⟨rfl, hb1⟩
        have hB1 : Below w.heap.size w w1 := Below.after (by go_grown) hb1
        obtain ⟨hc1, hf1⟩ := bcell hb1
        have hy1 := hb1.size
        try simp at hy1
        first | (with_reducible have hx1 := Nat.lt_of_succ_le hy1) | skip
        first | (with_reducible have hv1 := Nat.lt_of_succ_lt hx1) | skip
        first | (with_reducible have hu1 := Nat.lt_of_succ_lt hv1) | skip
        first | (have hz1 : w.heap.size < w1.heap.size := by omega) | (have hz1 := hB1.size)
        clear hb1
        go_wp2_with fail
        refine bodyPost_ret (v := .tuple #[.slice (some ⟨_, 0, none⟩) 0 0, .bool false]) (by simp [results, Try.results69, go_sem, *] <;> rfl) rfl ⟨_, rfl, Ints.emptyQ _ (by simp) (by go_size), by go_grown⟩
      · have nz2 : ¬ b.tmod p = 0 := fun e => g3 (Int.emod_eq_zero_of_dvd (Int.dvd_of_tmod_eq_zero e))
        have nz4 : (b.tmod p == 0) = false := beqF nz2
        have nz5 : (b % p == 0) = false := beqF g3
        by_cases g4 : k < 1
        · clear g2 g1 h
          go_enter Try.func69, Try.ntmps69
          go_wp2_with fail
          refine (are2 b k _ _ true _ G.out (by simp) (by simp)).mono ?_
          rintro e w' ⟨rfl, rfl⟩
          go_wp2_with fail
          refine (impl_isOddPrime p true _ G2.out).mono ?_
          rintro e w1 ⟨rfl, hb1⟩
          have hB1 : Below w.heap.size w w1 := Below.after (by go_grown) hb1
          obtain ⟨hc1, hf1⟩ := bcell hb1
          have hy1 := hb1.size
          try simp at hy1
          first | (with_reducible have hx1 := Nat.lt_of_succ_le hy1) | skip
          first | (with_reducible have hv1 := Nat.lt_of_succ_lt hx1) | skip
          first | (with_reducible have hu1 := Nat.lt_of_succ_lt hv1) | skip
          first | (have hz1 : w.heap.size < w1.heap.size := by omega) | (have hz1 := hB1.size)
          clear hb1
          go_wp2_with fail
          refine bodyPost_ret (v := .tuple #[.slice (some ⟨_, 0, none⟩) 0 0, .bool false]) (by simp [results, Try.results69, go_sem, *] <;> rfl) rfl ⟨_, rfl, Ints.emptyQ _ (by simp) (by go_size), by go_grown⟩
        · obtain ⟨K, rfl⟩ : ∃ K : Nat, k = K := ⟨k.toNat, by omega⟩
          by_cases g6 : p ^ K ≤ 1000000
          · obtain ⟨x, hx⟩ := tw_fr g1 g2 g3 (by omega) (by omega) g6 (fun x => h x K rfl)
            have hx0 : x = 0 := by
              rcases hx with ⟨e, _⟩ | ⟨_, e, _⟩
              · cases e
              · exact e
            subst hx0
            have HX := Lib.hid hx
            have G1 := Lib.hid g1
            have G3 := Lib.hid g3
            have G6 := Lib.hid g6
            clear g1 g2 g6 h hx
            go_enter Try.func69, Try.ntmps69
            go_wp2_with fail
            refine (are2 b K _ _ true _ G.out (by simp) (by simp)).mono ?_
            rintro e w' ⟨rfl, rfl⟩
            go_wp2_with fail
            refine (impl_isOddPrime p true _ G2.out).mono ?_
            rintro e w1 ⟨rfl, hb1⟩
            have hB1 : Below w.heap.size w w1 := Below.after (by go_grown) hb1
            obtain ⟨hc1, hf1⟩ := bcell hb1
            have hy1 := hb1.size
            try simp at hy1
            first | (with_reducible have hx1 := Nat.lt_of_succ_le hy1) | skip
            first | (with_reducible have hv1 := Nat.lt_of_succ_lt hx1) | skip
            first | (with_reducible have hu1 := Nat.lt_of_succ_lt hv1) | skip
            first | (have hz1 : w.heap.size < w1.heap.size := by omega) | (have hz1 := hB1.size)
            clear hb1
            go_wp2_with fail
            refine (impl_pow p K (p ^ K) true _ (by omega) (by omega) (by omega) (.inl ⟨G6.out, rfl, rfl⟩)).mono ?_
            rintro e w' ⟨rfl, rfl⟩
            go_wp2_with fail
            refine (impl_first b p 0 false _ G1.out G2.out G3.out (prime_copZ G2.out) HX.out).mono ?_
            rintro e w' ⟨rfl, rfl⟩
            go_wp2_with fail
            refine bodyPost_ret (v := .tuple #[.slice (some ⟨_, 0, none⟩) 0 0, .bool false]) (by simp [results, Try.results69, go_sem, *] <;> rfl) rfl ⟨_, rfl, Ints.emptyQ _ (by simp) (by go_size), by go_grown⟩
          · have G6 := Lib.hid (show 1000000 < p ^ K by omega)
            clear g2 g1 g6 h
            go_enter Try.func69, Try.ntmps69
            go_wp2_with fail
            refine (are2 b K _ _ true _ G.out (by simp) (by simp)).mono ?_
            rintro e w' ⟨rfl, rfl⟩
            go_wp2_with fail
            refine (impl_isOddPrime p true _ G2.out).mono ?_
            rintro e w1 ⟨rfl, hb1⟩
            have hB1 : Below w.heap.size w w1 := Below.after (by go_grown) hb1
            obtain ⟨hc1, hf1⟩ := bcell hb1
            have hy1 := hb1.size
            try simp at hy1
            first | (with_reducible have hx1 := Nat.lt_of_succ_le hy1) | skip
            first | (with_reducible have hv1 := Nat.lt_of_succ_lt hx1) | skip
            first | (with_reducible have hu1 := Nat.lt_of_succ_lt hv1) | skip
            first | (have hz1 : w.heap.size < w1.heap.size := by omega) | (have hz1 := hB1.size)
            clear hb1
            go_wp2_with fail
            refine (impl_pow p K 0 false _ (by omega) (by omega) (by omega) (.inr ⟨G6.out, rfl, rfl⟩)).mono ?_
            rintro e w' ⟨rfl, rfl⟩
            go_wp2_with fail
            refine bodyPost_ret (v := .tuple #[.slice (some ⟨_, 0, none⟩) 0 0, .bool false]) (by simp [results, Try.results69, go_sem, *] <;> rfl) rfl ⟨_, rfl, Ints.emptyQ _ (by simp) (by go_size), by go_grown⟩
set_option maxRecDepth 100000 in
set_option maxHeartbeats 2000000 in
theorem spec_Tower_no (b p k : Int) (w : World) (hp1 : 1 ≤ p) (hp2 : p ≤ 1009) (hk1 : -1 ≤ k) (hk : k ≤ 13 ∨ k = 4611686018427387904) (h : ∀ x (K : Nat), k = K → TwA b p x K → False) :
    Calls Try.prog 70 #[.int .i64 b, .int .i64 p, .int .i64 k] w fun e w' => e = .returned (.tuple #[.slice none 0 0, .bool false]) ∧ w = w' := by
  cases g : (good b && (oddPrimeB p && (b % p != 0))) with
  | false =>
    have G := Lib.hid g
    clear g h hk
    go_enter Try.func70, Try.ntmps70
    go_wp2_with fail
    refine (spec_roField b p false _ G.out).mono ?_
    rintro e w' ⟨rfl, rfl⟩
    go_wp2_with fail
    refine bodyPost_ret (v := .tuple #[.slice none 0 0, .bool false]) (by simp [results, Try.results70, go_sem, *] <;> rfl) rfl (⟨rfl, rfl⟩)
  | true =>
    have G := Lib.hid g
    have hg : good b = true ∧ oddPrimeB p = true ∧ ¬ b % p = 0 := by simpa using g
    obtain ⟨g1, g2, g3⟩ := hg
    clear g
    cases gl : (decide (1 ≤ k) && decide (k ≤ 20)) with
    | false =>
      have GL := Lib.hid gl
      clear g1 g2 g3 h hk gl
      go_enter Try.func70, Try.ntmps70
      go_wp2_with fail
      refine (spec_roField b p true _ G.out).mono ?_
      rintro e w' ⟨rfl, rfl⟩
      go_wp2_with fail
      refine (spec_l1In k 1 20 false _ GL.out).mono ?_
      rintro e w' ⟨rfl, rfl⟩
      go_wp2_with fail
      refine bodyPost_ret (v := .tuple #[.slice none 0 0, .bool false]) (by simp [results, Try.results70, go_sem, *] <;> rfl) rfl (⟨rfl, rfl⟩)
    | true =>
      have GL := Lib.hid gl
      have hkk : 1 ≤ k ∧ k ≤ 13 := by simp at gl; omega
      obtain ⟨k1, k2⟩ := hkk
      clear hk gl
      obtain ⟨K, rfl⟩ : ∃ K : Nat, k = K := ⟨k.toNat, by omega⟩
      by_cases g6 : p ^ K ≤ 1000000
      · obtain ⟨x, hx⟩ := tw_fr g1 g2 g3 (by omega) (by omega) g6 (fun x => h x K rfl)
        have hx0 : x = 0 := by
          rcases hx with ⟨e, _⟩ | ⟨_, e, _⟩
          · cases e
          · exact e
        subst hx0
        have hP := pow_pos' (show 1 ≤ p by omega) K
        obtain ⟨P, hPe⟩ : ∃ P, p ^ K = P := ⟨_, rfl⟩
        rw [hPe] at hP g6
        have HPe := Lib.hid hPe
        have hPn : ¬ P = 0 := by omega
        have HX := Lib.hid hx
        have G1 := Lib.hid g1
        have G2 := Lib.hid g2
        clear g1 g2 g3 h hx hPe
        go_enter Try.func70, Try.ntmps70
        go_wp2_with fail
        refine (spec_roField b p true _ G.out).mono ?_
        rintro e w' ⟨rfl, rfl⟩
        go_wp2_with fail
        refine (spec_l1In K 1 20 true _ GL.out).mono ?_
        rintro e w' ⟨rfl, rfl⟩
        go_wp2_with fail
        refine (spec_pow p K P _ (by omega) (by omega) (by omega) (.inl ⟨by rw [HPe.out]; omega, HPe.out.symm⟩)).mono ?_
        rintro e w' ⟨rfl, rfl⟩
        go_wp2_with fail
        refine (spec_first b p 0 false _ G1.out G2.out HX.out).mono ?_
        rintro e w' ⟨rfl, rfl⟩
        go_wp2_with fail
        refine bodyPost_ret (v := .tuple #[.slice none 0 0, .bool false]) (by simp [results, Try.results70, go_sem, *] <;> rfl) rfl (⟨rfl, rfl⟩)
      · have G6 := Lib.hid (show 1000000 < p ^ K by omega)
        clear g1 g2 g3 g6 h
        go_enter Try.func70, Try.ntmps70
        go_wp2_with fail
        refine (spec_roField b p true _ G.out).mono ?_
        rintro e w' ⟨rfl, rfl⟩
        go_wp2_with fail
        refine (spec_l1In K 1 20 true _ GL.out).mono ?_
        rintro e w' ⟨rfl, rfl⟩
        go_wp2_with fail
        refine (spec_pow p K 0 _ (by omega) (by omega) (by omega) (.inr ⟨G6.out, rfl⟩)).mono ?_
        rintro e w' ⟨rfl, rfl⟩
        go_wp2_with fail
        refine bodyPost_ret (v := .tuple #[.slice none 0 0, .bool false]) (by simp [results, Try.results70, go_sem, *] <;> rfl) rfl (⟨rfl, rfl⟩)
set_option maxRecDepth 100000 in
set_option maxHeartbeats 2000000 in
theorem impl_LiftRoot (b p x z : Int) (K : Nat) (w : World) (hb : good b = true) (hp : oddPrimeB p = true) (hz : ¬ b % p = 0) (hK1 : 1 ≤ K) (hK2 : K ≤ 13) (hpw : p ^ (K + 1) ≤ 1000000) (hr : Rt b p (p ^ K) x) (ha : Abv b p (p ^ K) x z) :
    Calls Try.prog 71 #[.int .i64 b, .int .i64 p, .int .i64 K, .int .i64 x] w fun e w' => e = .returned (.tuple #[.int .i64 z, .bool true]) ∧ Below w.heap.size w w' := by
  have p3 : 3 ≤ p := by obtain ⟨k, hk, hk1, _⟩ := oddPrime_half hp; omega
  have hpp := pow_pos' (show 1 ≤ p by omega) K
  have hn : p ^ K * p = p ^ (K + 1) := by rw [Int.pow_succ p K]
  have hle : p ^ K ≤ p ^ K * p := by
    have := Int.mul_le_mul_of_nonneg_left (show 1 ≤ p by omega) (show 0 ≤ p ^ K by omega)
    omega
  have hpl : p ≤ p ^ K * p := by
    have := Int.mul_le_mul_of_nonneg_right hpp (show 0 ≤ p by omega)
    omega
  have hd : p ∣ p ^ K := by
    obtain ⟨j, rfl⟩ : ∃ j, K = j + 1 := ⟨K - 1, by omega⟩
    exact dvd_pow' p j
  obtain ⟨Q, hQ⟩ : ∃ Q, p ^ K = Q := ⟨_, rfl⟩
  rw [hQ] at hpp hn hle hpl hd hr ha
  obtain ⟨v, hv⟩ := inv_total (show 1 ≤ p by omega) hr.2.2.2
  have hx0 := hr.1
  have hx1 := hr.2.1
  have hb2 := goodI hb
  obtain ⟨hb1, hb2⟩ := hb2
  have hrt : rtB b x Q = true := rtB_of hx0 hx1 hr.2.2.1
  have hun : ∀ y, Abv b p Q x y → y = z := fun y hy => st_uniq (by omega) (by omega) hd hr.2.2.2 hy ha
  have nz2 : ¬ b.tmod p = 0 := fun e => hz (Int.emod_eq_zero_of_dvd (Int.dvd_of_tmod_eq_zero e))
  have nz4 : (b.tmod p == 0) = false := beqF nz2
  have nz5 : (b % p == 0) = false := beqF hz
  have pb := tmod_bd b (show 0 < p by omega)
  have hQp : Q * p ≤ 1000000 := by omega
  have HG := Lib.hid (show good3 b K x = true by unfold good3 good; unfold good at hb; simp at hb ⊢; omega)
  have HQ := Lib.hid hQ
  have HN := Lib.hid hn
  have Hpw := Lib.hid hpw
  have Hp := Lib.hid hp
  have Hrt := Lib.hid hrt
  have Hun := Lib.hid hun
  have Hr := Lib.hid hr
  have Hv := Lib.hid hv
  have Hd := Lib.hid hd
  clear hQ hn hpw hp hrt hun hr hv hd ha hb
  go_enter Try.func71, Try.ntmps71
  go_wp2_with fail
  refine (are3 b K x _ _ true _ HG.out (by simp) (by simp) (by simp)).mono ?_
  rintro e w' ⟨rfl, rfl⟩
  go_wp2_with fail
  refine (impl_isOddPrime p true _ Hp.out).mono ?_
  rintro e w1 ⟨rfl, hb1⟩
  have hB1 : Below w.heap.size w w1 := Below.after (by go_grown) hb1
  obtain ⟨hc1, hf1⟩ := bcell hb1
  have hy1 := hb1.size
  try simp at hy1
  first | (with_reducible have hx1 := Nat.lt_of_succ_le hy1) | skip
  first | (with_reducible have hv1 := Nat.lt_of_succ_lt hx1) | skip
  first | (with_reducible have hu1 := Nat.lt_of_succ_lt hv1) | skip
  first | (have hz1 : w.heap.size < w1.heap.size := by omega) | (have hz1 := hB1.size)
  clear hb1
  go_wp2_with fail
  refine (impl_pow p (K + 1) (Q * p) true _ (by omega) (by omega) (by omega) (.inl ⟨Hpw.out, HN.out, rfl⟩)).mono ?_
  rintro e w' ⟨rfl, rfl⟩
  go_wp2_with fail
  refine (impl_pow p K Q true _ (by omega) (by omega) (by omega) (.inl ⟨by rw [HQ.out]; omega, HQ.out.symm, rfl⟩)).mono ?_
  rintro e w' ⟨rfl, rfl⟩
  go_wp2_with fail
  refine (impl_isRoot b x Q true _ hb1 hb2 (by omega) (by omega) Hrt.out).mono ?_
  rintro e w' ⟨rfl, rfl⟩
  go_wp2_with fail
  refine (impl_lift b p Q x v _ hb1 hb2 (by omega) (by omega) hQp Hd.out Hr.out Hv.out).mono ?_
  rintro e w' ⟨y, rfl, hy, rfl⟩
  obtain rfl := Hun.out y hy
  clear hy
  go_wp2_with fail
  refine bodyPost_ret (v := .tuple #[.int .i64 y, .bool true]) (by simp [results, Try.results71, go_sem, *] <;> rfl) rfl (⟨rfl, by go_grown⟩)
theorem impl_Count (a m : Int) (w : World) (h : sqrB a m = true) :
    Calls Try.prog 67 #[.int .i64 a, .int .i64 m] w fun e w' => e = .returned (.tuple #[.int .i64 ((qL a m m.toNat).length : Int), .bool true]) ∧ Below w.heap.size w w' := by
  have H := Lib.hid h
  clear h
  go_enter Try.func67, Try.ntmps67
  go_wp2_with fail
  refine (impl_SqR_yes a m _ H.out).mono ?_
  rintro e w1 ⟨v, rfl, hv, hB⟩
  obtain ⟨p, cap, rfl, _, _⟩ := hv.view
  clear hv
  go_wp2_with fail
  refine bodyPost_ret (v := .tuple #[.int .i64 ((qL a m m.toNat).length : Int), .bool true]) (by simp [results, Try.results67, go_sem, *] <;> rfl) rfl (⟨rfl, hB⟩)
end Go.Proofs.Ytiblpagbloflhaa
