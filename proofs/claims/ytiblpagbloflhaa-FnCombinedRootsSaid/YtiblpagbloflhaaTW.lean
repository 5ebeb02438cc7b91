/- Contracts: towers of roots. -/
import Derived.Test.YtiblpagbloflhaaPR
import Derived.Test.YtiblpagbloflhaaG
import Derived.Test.YtiblpagbloflhaaLR
import Derived.Test.YtiblpagbloflhaaEU
namespace Go.Proofs.Ytiblpagbloflhaa
set_option linter.unusedVariables false
open Go.ChangeShapes Go.WideShapes Go.ChangeAt Go.RowKit

theorem prime_copZ {p : Int} (hp : oddPrimeB p = true) (z : Int) (hz : z % p ≠ 0) : Int.gcd z p = 1 := by
  have h1 := oddPrime_prime hp
  refine Classical.byContradiction fun hg => ?_
  have hp2 := h1.1
  have hg0 : Int.gcd z p ≠ 0 := fun e => by
    have := Int.gcd_eq_zero_iff.1 e
    omega
  have a1 := prime_only h1 (d := (Int.gcd z p : Int)) (by omega) (Int.gcd_dvd_right z p)
  have a2 := Int.gcd_dvd_left z p
  rw [a1] at a2
  exact hz (Int.emod_eq_zero_of_dvd a2)
/-- a root modulo p is a start -/
theorem rt_start {b p x : Int} (hp : oddPrimeB p = true) (hbp : b % p ≠ 0) (h : FrOut b p x true) : Rt b p p x := by
  rcases h with ⟨_, h1, h2, h3, _⟩ | ⟨e, _⟩
  · obtain ⟨k, hk, hk1, _⟩ := oddPrime_half hp
    refine ⟨h1, by omega, h3, prime_copZ hp _ fun e => ?_⟩
    have hx : x % p ≠ 0 := fun e => hbp (by
      obtain ⟨d, hd⟩ := Int.dvd_of_emod_eq_zero e
      obtain ⟨f, hf⟩ := Int.dvd_of_emod_eq_zero h3
      refine Int.emod_eq_zero_of_dvd ⟨d * x - f, ?_⟩
      have e1 : x * x = p * d * x := by rw [← hd]
      grind)
    have hx2 := cop_mul (prime_copZ hp 2 (by rw [Int.emod_eq_of_lt (by omega) (by omega)]; omega)) e
    exact hx hx2
  · cases e
/-- what a tower is asked for -/
structure TwA (b p x : Int) (K : Nat) : Prop where
  gb : good b = true
  op : oddPrimeB p = true
  nz : b % p ≠ 0
  k1 : 1 ≤ K
  k2 : K ≤ 13
  pw : p ^ K ≤ 1000000
  fr : FrOut b p x true
set_option maxRecDepth 100000 in
set_option maxHeartbeats 2000000 in
theorem impl_Tower (b p x : Int) (K : Nat) (w : World) (A : TwA b p x K) :
    Calls Try.prog 69 #[.int .i64 b, .int .i64 p, .int .i64 K] w fun e w' => ∃ v L, e = .returned (.tuple #[v, .bool true]) ∧ Ints w' w.heap.size v L ∧ Tw b p x L ∧ L.length = K ∧ Below w.heap.size w w' := by
  have hb := goodI A.gb
  obtain ⟨hb1, hb2⟩ := hb
  have p3 : 3 ≤ p := by obtain ⟨k, hk, hk1, _⟩ := oddPrime_half A.op; omega
  have p4 : p ≤ 1000001 := by obtain ⟨k, hk, hk1, _⟩ := oddPrime_half A.op; omega
  have k1 := A.k1
  have k2 := A.k2
  have p5 : p ≤ 1000000 := by
    have := pow_le' (show 1 ≤ p by omega) k1
    rw [show (1 : Nat) = 0 + 1 by rfl, Int.pow_succ, Int.pow_zero, Int.one_mul] at this
    have := A.pw
    omega
  have HA := Lib.hid A
  have Hrt := Lib.hid (rt_start A.op A.nz A.fr)
  have nz2 : ¬ b.tmod p = 0 := fun e => A.nz (Int.emod_eq_zero_of_dvd (Int.dvd_of_tmod_eq_zero e))
  have nz3 : ¬ b % p = 0 := A.nz
  have nz4 : (b.tmod p == 0) = false := beqF nz2
  have nz5 : (b % p == 0) = false := beqF nz3
  have G := Lib.hid (show good2 b K = true by unfold good2; rw [A.gb]; unfold good; simp; omega)
  have pb := tmod_bd b (show 0 < p by omega)
  clear A
  go_enter Try.func69, Try.ntmps69
  go_wp2_with fail
  refine (are2 b K _ _ true _ G.out (by simp) (by simp)).mono ?_
  rintro e w' ⟨rfl, rfl⟩
  go_wp2_with fail
  refine (impl_isOddPrime p true _ HA.out.op).mono ?_
  rintro e w1 ⟨rfl, hb1⟩
  have hB1 : Below w.heap.size w w1 := Below.after (by go_grown) hb1
  obtain ⟨hc1, hf1⟩ := bcell hb1
  have hy1 := hb1.size
  try simp at hy1
  first | (with_reducible have hx1 := Nat.lt_of_succ_le hy1) | skip
  first | (with_reducible have hv1 := Nat.lt_of_succ_lt hx1) | skip
  first | (with_reducible have hu1 := Nat.lt_of_succ_lt hv1) | skip
  first | (have hz1 : w.heap.size < w1.heap.size := by omega) | (have hz1 := hB1.size)
  clear hb1
  go_wp2_with fail
  refine (impl_pow p K (p ^ K) true _ (by omega) p5 (by omega) (.inl ⟨HA.out.pw, rfl, rfl⟩)).mono ?_
  rintro e w' ⟨rfl, rfl⟩
  go_wp2_with fail
  refine (impl_first b p x true _ HA.out.gb HA.out.op HA.out.nz (prime_copZ HA.out.op) HA.out.fr).mono ?_
  rintro e w' ⟨rfl, rfl⟩
  go_wp2_with fail
  go_loopw [10, 12, 13] (fun xv vl mv wr => ∃ (j : Nat) (z Q : Int) (L : List Int), xv = .int .i64 z ∧ mv = .int .i64 Q ∧ 1 ≤ Q ∧ j + 1 ≤ K ∧ L.length = j + 1 ∧ Q = p ^ (j + 1) ∧ L[j]? = some z ∧ Tw b p x L ∧ Ints wr w.heap.size vl L ∧ Below w.heap.size w wr) (fun _ _ mv _ => (1000000000000 - intOf mv).toNat)
  case atStart => exact ⟨0, x, p, [x], rfl, rfl, by omega, by omega, rfl, by rw [Int.pow_succ, Int.pow_zero, Int.one_mul], rfl, tw_one b p x, Ints.one _ (by simp) (by go_size), by go_grown⟩
  case round =>
    obtain ⟨j, z, Q, L, rfl, rfl, hQ1, hj, hL, hQ, hz, hT, hown, hB⟩ := hrel
    have hs := hB.size
    obtain ⟨pp, cap, rfl, hml, _⟩ := hown.view
    have HT := Lib.hid hT
    have Hz := Lib.hid hz
    have HQ := Lib.hid hQ
    have HL := Lib.hid hL
    have Hown := Lib.hid hown
    have hlen : L.length ≤ 13 := by omega
    have hlj : (L.length : Int) = (j : Int) + 1 := by omega
    clear hown hz hT
    by_cases hlt : j + 1 < K
    · have hn : Q * p = p ^ (j + 1 + 1) := by rw [hQ, Int.pow_succ p (j + 1)]
      have hle := pow_le' (show 1 ≤ p by omega) (show j + 1 + 1 ≤ K by omega)
      have hpw := HA.out.pw
      have hQp : Q * p ≤ 1000000 := by omega
      have hgt : Q < Q * p := by
        have := Int.mul_le_mul_of_nonneg_left (show 2 ≤ p by omega) (show 0 ≤ Q by omega)
        omega
      have hr := tw_rt HT.out Hrt.out j z Hz.out
      rw [← hQ] at hr
      obtain ⟨v, hv⟩ := inv_total (show 1 ≤ p by omega) hr.2.2.2
      have hd : p ∣ Q := hQ ▸ dvd_pow' p j
      have HN := Lib.hid hn
      have Hr := Lib.hid hr
      have Hv := Lib.hid hv
      have Hd := Lib.hid hd
      clear hn hle hpw hr hv hd hQ hL
      go_wp2_with fail
      refine (impl_lift b p Q z v _ hb1 hb2 (by omega) (by omega) hQp Hd.out Hr.out Hv.out).mono ?_
      rintro e w' ⟨y, rfl, hy, rfl⟩
      have Hy := Lib.hid hy
      clear hy
      go_wp2_with (at_builtin; refine app_int w.heap.size L y (.slice pp L.length cap) _ _ _ rfl rfl rfl rfl (Hown.out.alloc _) (World.cell?_alloc_at _ _ _ _ rfl) (by omega) (by go_size) ?_)
      intro v3 w3 hown3 hgrow3 _
      have hB3 : Below w.heap.size w w3 := below_grown (hB.alloc hs _) (Hown.out.alloc _) hgrow3 (by go_size)
      have Hown3 := Lib.hid hown3
      clear hgrow3 hown3
      go_wp2_with fail
      go_roundw
      case rel => exact ⟨j + 1, y, Q * p, L ++ [y], rfl, rfl, by omega, by omega, by rw [List.length_append, HL.out]; rfl, HN.out, by rw [List.getElem?_append_right (by rw [HL.out]; omega), HL.out]; simp, tw_app HT.out HL.out Hz.out (HQ.out ▸ Hy.out), Hown3.out, hB3⟩
      case measure => simp [intOf]; omega
    · have hlK : (L.length : Int) = (K : Int) := by omega
      clear hQ hL
      go_wp2_with fail
      refine bodyPost_ret (v := .tuple #[.slice pp L.length cap, .bool true]) (by simp [results, Try.results69, go_sem, *] <;> rfl) rfl ⟨_, L, rfl, Hown.out, HT.out, by omega, hB⟩

theorem spec_roField (b p : Int) (v : Bool) (w : World) (hv : (good b && (oddPrimeB p && (b % p != 0))) = v) :
    Calls Try.prog 141 #[.int .i64 b, .int .i64 p] w fun e w' => e = .returned (.bool v) ∧ w = w' := by
  cases g1 : good b with
  | false =>
    have G := Lib.hid g1
    have hv2 : v = false := by rw [← hv, g1]; rfl
    subst hv2
    clear hv g1
    go_enter Try.func141, Try.ntmps141
    go_wp2_with fail
    refine (spec_nuGood b false _ G.out).mono ?_
    rintro e w' ⟨rfl, rfl⟩
    go_wp2_with fail
    go_ret
    exact ⟨rfl, rfl⟩
  | true =>
    cases g2 : oddPrimeB p with
    | false =>
      have G := Lib.hid g1
      have G2 := Lib.hid g2
      have hv2 : v = false := by rw [← hv, g1, g2]; rfl
      subst hv2
      clear hv g1 g2
      go_enter Try.func141, Try.ntmps141
      go_wp2_with fail
      refine (spec_nuGood b true _ G.out).mono ?_
      rintro e w' ⟨rfl, rfl⟩
      go_wp2_with fail
      refine (spec_syOddPrime p false _ G2.out).mono ?_
      rintro e w' ⟨rfl, rfl⟩
      go_wp2_with fail
      go_ret
      exact ⟨rfl, rfl⟩
    | true =>
      have p3 : 3 ≤ p := by obtain ⟨k, hk, hk1, _⟩ := oddPrime_half g2; omega
      have p4 : p ≤ 1000001 := by obtain ⟨k, hk, hk1, _⟩ := oddPrime_half g2; omega
      obtain ⟨b1, b2⟩ := goodI g1
      have pb := tmod_bd b (show 0 < p by omega)
      have hv2 : (b.tmod p != 0) = v := by
        rw [← hv, g1, g2, Bool.true_and, Bool.true_and]
        by_cases e : b % p = 0
        · have : b.tmod p = 0 := Int.tmod_eq_zero_of_dvd (Int.dvd_of_emod_eq_zero e)
          rw [e, this]
        · have : ¬ b.tmod p = 0 := fun e2 => e (Int.emod_eq_zero_of_dvd (Int.dvd_of_tmod_eq_zero e2))
          rw [bneT this, bneT e]
      have G := Lib.hid g1
      have G2 := Lib.hid g2
      have Hv := Lib.hid hv2
      clear hv g1 g2 hv2
      go_enter Try.func141, Try.ntmps141
      go_wp2_with fail
      refine (spec_nuGood b true _ G.out).mono ?_
      rintro e w' ⟨rfl, rfl⟩
      go_wp2_with fail
      refine (spec_syOddPrime p true _ G2.out).mono ?_
      rintro e w' ⟨rfl, rfl⟩
      go_wp2_with fail
      go_ret
      exact ⟨rbool Hv.out, rfl⟩

set_option maxRecDepth 100000 in
set_option maxHeartbeats 2000000 in
theorem spec_Tower (b p x : Int) (K : Nat) (w : World) (A : TwA b p x K) :
    Calls Try.prog 70 #[.int .i64 b, .int .i64 p, .int .i64 K] w fun e w' => ∃ v L, e = .returned (.tuple #[v, .bool true]) ∧ Ints w' w.heap.size v L ∧ Tw b p x L ∧ L.length = K ∧ Below w.heap.size w w' := by
  have hb := goodI A.gb
  obtain ⟨hb1, hb2⟩ := hb
  have p3 : 3 ≤ p := by obtain ⟨k, hk, hk1, _⟩ := oddPrime_half A.op; omega
  have p4 : p ≤ 1000001 := by obtain ⟨k, hk, hk1, _⟩ := oddPrime_half A.op; omega
  have k1 := A.k1
  have k2 := A.k2
  have p5 : p ≤ 1000000 := by
    have := pow_le' (show 1 ≤ p by omega) k1
    rw [show (1 : Nat) = 0 + 1 by rfl, Int.pow_succ, Int.pow_zero, Int.one_mul] at this
    have := A.pw
    omega
  have HA := Lib.hid A
  have Hrt := Lib.hid (rt_start A.op A.nz A.fr)
  have nz2 : ¬ b.tmod p = 0 := fun e => A.nz (Int.emod_eq_zero_of_dvd (Int.dvd_of_tmod_eq_zero e))
  have nz3 : ¬ b % p = 0 := A.nz
  have nz4 : (b.tmod p == 0) = false := beqF nz2
  have nz5 : (b % p == 0) = false := beqF nz3
  have G := Lib.hid (show (good b && (oddPrimeB p && (b % p != 0))) = true by rw [A.gb, A.op, bneT nz3]; rfl)
  have G2 := Lib.hid (show (decide (1 ≤ (K : Int)) && decide ((K : Int) ≤ 20)) = true by simp; omega)
  have hP := pow_pos' (show 1 ≤ p by omega) K
  have hP2 := A.pw
  obtain ⟨P, hPe⟩ : ∃ P, p ^ K = P := ⟨_, rfl⟩
  rw [hPe] at hP hP2
  have HPe := Lib.hid hPe
  have hPn : ¬ P = 0 := by omega
  clear A hPe
  go_enter Try.func70, Try.ntmps70
  go_wp2_with fail
  refine (spec_roField b p true _ G.out).mono ?_
  rintro e w' ⟨rfl, rfl⟩
  go_wp2_with fail
  refine (spec_l1In K 1 20 true _ G2.out).mono ?_
  rintro e w' ⟨rfl, rfl⟩
  go_wp2_with fail
  refine (spec_pow p K P _ (by omega) p5 (by omega) (.inl ⟨HA.out.pw, HPe.out.symm⟩)).mono ?_
  rintro e w' ⟨rfl, rfl⟩
  go_wp2_with fail
  refine (spec_first b p x true _ HA.out.gb HA.out.op HA.out.fr).mono ?_
  rintro e w' ⟨rfl, rfl⟩
  go_wp2_with fail
  go_loopw [8, 10, 11] (fun xv vl mv wr => ∃ (j : Nat) (z Q : Int) (L : List Int), xv = .int .i64 z ∧ mv = .int .i64 Q ∧ 1 ≤ Q ∧ j + 1 ≤ K ∧ L.length = j + 1 ∧ Q = p ^ (j + 1) ∧ L[j]? = some z ∧ Tw b p x L ∧ Ints wr w.heap.size vl L ∧ Below w.heap.size w wr) (fun _ _ mv _ => (1000000000000 - intOf mv).toNat)
  case atStart => exact ⟨0, x, p, [x], rfl, rfl, by omega, by omega, rfl, by rw [Int.pow_succ, Int.pow_zero, Int.one_mul], rfl, tw_one b p x, Ints.one _ (by simp) (by go_size), by go_grown⟩
  case round =>
    obtain ⟨j, z, Q, L, rfl, rfl, hQ1, hj, hL, hQ, hz, hT, hown, hB⟩ := hrel
    have hs := hB.size
    obtain ⟨pp, cap, rfl, hml, _⟩ := hown.view
    have HT := Lib.hid hT
    have Hz := Lib.hid hz
    have HQ := Lib.hid hQ
    have HL := Lib.hid hL
    have Hown := Lib.hid hown
    have hlen : L.length ≤ 13 := by omega
    have hlj : (L.length : Int) = (j : Int) + 1 := by omega
    clear hown hz hT
    by_cases hlt : j + 1 < K
    · have hn : Q * p = p ^ (j + 1 + 1) := by rw [hQ, Int.pow_succ p (j + 1)]
      have hle := pow_le' (show 1 ≤ p by omega) (show j + 1 + 1 ≤ K by omega)
      have hpw := HA.out.pw
      have hQp : Q * p ≤ 1000000 := by omega
      have hgt : Q < Q * p := by
        have := Int.mul_le_mul_of_nonneg_left (show 2 ≤ p by omega) (show 0 ≤ Q by omega)
        omega
      have hr := tw_rt HT.out Hrt.out j z Hz.out
      rw [← hQ] at hr
      obtain ⟨v, hv⟩ := inv_total (show 1 ≤ p by omega) hr.2.2.2
      have hd : p ∣ Q := hQ ▸ dvd_pow' p j
      obtain ⟨y, hy⟩ : ∃ y, Abv b p Q z y := by
        obtain ⟨d, hd2⟩ := Int.dvd_of_emod_eq_zero hr.2.2.1
        exact ⟨_, (lft_st (s := -d) (by omega) hQ1 hd hr hv (by rw [Int.mul_neg, ← hd2]; omega)).2.2⟩
      have HN := Lib.hid hn
      have Hr := Lib.hid hr
      have Hy := Lib.hid hy
      have Hd := Lib.hid hd
      clear hn hle hpw hr hv hd hQ hL hy
      go_wp2_with fail
      refine (spec_roLift b p Q z y _ hb1 hb2 (by omega) (by omega) hQp Hd.out Hr.out Hy.out).mono ?_
      rintro e w' ⟨rfl, rfl⟩
      go_wp2_with (at_builtin; refine app_int w.heap.size L y (.slice pp L.length cap) _ _ _ rfl rfl rfl rfl (Hown.out.alloc _) (World.cell?_alloc_at _ _ _ _ rfl) (by omega) (by go_size) ?_)
      intro v3 w3 hown3 hgrow3 _
      have hB3 : Below w.heap.size w w3 := below_grown (hB.alloc hs _) (Hown.out.alloc _) hgrow3 (by go_size)
      have Hown3 := Lib.hid hown3
      clear hgrow3 hown3
      go_wp2_with fail
      go_roundw
      case rel => exact ⟨j + 1, y, Q * p, L ++ [y], rfl, rfl, by omega, by omega, by rw [List.length_append, HL.out]; rfl, HN.out, by rw [List.getElem?_append_right (by rw [HL.out]; omega), HL.out]; simp, tw_app HT.out HL.out Hz.out (HQ.out ▸ Hy.out), Hown3.out, hB3⟩
      case measure => simp [intOf]; omega
    · have hlK : (L.length : Int) = (K : Int) := by omega
      clear hQ hL
      go_wp2_with fail
      refine bodyPost_ret (v := .tuple #[.slice pp L.length cap, .bool true]) (by simp [results, Try.results70, go_sem, *] <;> rfl) rfl ⟨_, L, rfl, Hown.out, HT.out, by omega, hB⟩
end Go.Proofs.Ytiblpagbloflhaa
