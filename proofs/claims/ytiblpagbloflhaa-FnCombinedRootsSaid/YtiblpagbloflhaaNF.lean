/- Contracts: solutions of x x + n y y = m from a root. -/
import Derived.Test.YtiblpagbloflhaaEU
namespace Go.Proofs.Ytiblpagbloflhaa
set_option linter.unusedVariables false
open Go.ChangeShapes Go.WideShapes Go.ChangeAt Go.RowKit

theorem nfB_yes {n m r : Int} (h : nfB n m r = true) : good2 n m = true ∧ (1 ≤ n ∧ n ≤ 1000000) ∧ (1 ≤ m ∧ m ≤ 1000000) ∧ 0 ≤ r ∧ r ≤ m ∧ (r * r + n).tmod m = 0 := by
  unfold nfB at h
  simp only [Bool.and_eq_true, decide_eq_true_eq, beq_iff_eq] at h
  obtain ⟨h0, h1, h2, h3, h4, h5⟩ := h
  have g := h0
  unfold good2 good at g
  simp only [Bool.and_eq_true, decide_eq_true_eq] at g
  exact ⟨h0, ⟨h1, g.1.2⟩, ⟨h2, g.2.2⟩, h3, h4, h5⟩
theorem sq_bd {r m : Int} (h0 : 0 ≤ r) (h1 : r ≤ m) (hm : m ≤ 1000000) : 0 ≤ r * r ∧ r * r ≤ 1000000000000 := by
  have h2 : (0 : Int) ≤ r * r := sqn r
  have h3 : r * r ≤ 1000000 * 1000000 := Int.mul_le_mul (by omega) (by omega) (by omega) (by omega)
  omega
theorem impl_NF_no (n m r : Int) (w : World) (h : nfB n m r = false) :
    Calls Try.prog 55 #[.int .i64 n, .int .i64 m, .int .i64 r] w fun e w' => e = .returned (.tuple #[.int .i64 0, .int .i64 0, .bool false]) ∧ Below w.heap.size w w' := by
  by_cases g : good2 n m = true
  · have gb : (-1000000 ≤ n ∧ n ≤ 1000000) ∧ -1000000 ≤ m ∧ m ≤ 1000000 := by
      unfold good2 good at g
      simp at g
      omega
    by_cases c1 : 1 ≤ n
    · by_cases c2 : 1 ≤ m
      · by_cases c3 : 0 ≤ r
        · by_cases c4 : r ≤ m
          · have c5 : ¬ (r * r + n).tmod m = 0 := by
              intro e
              have : nfB n m r = true := by unfold nfB; simp [g, c1, c2, c3, c4, e]
              rw [this] at h
              cases h
            have hb := sq_bd c3 c4 gb.2.2
            have c6 : ¬ (r * r + n) % m = 0 := by rw [Int.tmod_eq_emod_of_nonneg (by omega)] at c5; exact c5
            have b5 : ((r * r + n).tmod m != 0) = true := by simpa using c5
            have b6 : ((r * r + n) % m != 0) = true := by simpa using c6
            have G := Lib.hid g
            clear h g
            go_enter Try.func55, Try.ntmps55
            go_wp2_with fail
            refine (are2 n m _ _ true _ G.out (by simp) (by simp)).mono ?_
            rintro e w' ⟨rfl, rfl⟩
            go_wp2_with fail
            refine bodyPost_ret (v := .tuple #[.int .i64 0, .int .i64 0, .bool false]) (by simp [results, Try.results55, go_sem, *] <;> rfl) rfl (⟨rfl, by go_grown⟩)
          · have G := Lib.hid g
            clear h g
            go_enter Try.func55, Try.ntmps55
            go_wp2_with fail
            refine (are2 n m _ _ true _ G.out (by simp) (by simp)).mono ?_
            rintro e w' ⟨rfl, rfl⟩
            go_wp2_with fail
            refine bodyPost_ret (v := .tuple #[.int .i64 0, .int .i64 0, .bool false]) (by simp [results, Try.results55, go_sem, *] <;> rfl) rfl (⟨rfl, by go_grown⟩)
        · have G := Lib.hid g
          clear h g
          go_enter Try.func55, Try.ntmps55
          go_wp2_with fail
          refine (are2 n m _ _ true _ G.out (by simp) (by simp)).mono ?_
          rintro e w' ⟨rfl, rfl⟩
          go_wp2_with fail
          refine bodyPost_ret (v := .tuple #[.int .i64 0, .int .i64 0, .bool false]) (by simp [results, Try.results55, go_sem, *] <;> rfl) rfl (⟨rfl, by go_grown⟩)
      · have G := Lib.hid g
        clear h g
        go_enter Try.func55, Try.ntmps55
        go_wp2_with fail
        refine (are2 n m _ _ true _ G.out (by simp) (by simp)).mono ?_
        rintro e w' ⟨rfl, rfl⟩
        go_wp2_with fail
        refine bodyPost_ret (v := .tuple #[.int .i64 0, .int .i64 0, .bool false]) (by simp [results, Try.results55, go_sem, *] <;> rfl) rfl (⟨rfl, by go_grown⟩)
    · have G := Lib.hid g
      clear h g
      go_enter Try.func55, Try.ntmps55
      go_wp2_with fail
      refine (are2 n m _ _ true _ G.out (by simp) (by simp)).mono ?_
      rintro e w' ⟨rfl, rfl⟩
      go_wp2_with fail
      refine bodyPost_ret (v := .tuple #[.int .i64 0, .int .i64 0, .bool false]) (by simp [results, Try.results55, go_sem, *] <;> rfl) rfl (⟨rfl, by go_grown⟩)
  · have G := Lib.hid (show good2 n m = false by simpa using g)
    clear h g
    go_enter Try.func55, Try.ntmps55
    go_wp2_with fail
    refine (are2 n m _ _ false _ G.out (by simp) (by simp)).mono ?_
    rintro e w' ⟨rfl, rfl⟩
    go_wp2_with fail
    refine bodyPost_ret (v := .tuple #[.int .i64 0, .int .i64 0, .bool false]) (by simp [results, Try.results55, go_sem, *] <;> rfl) rfl (⟨rfl, by go_grown⟩)
theorem spec_NF_no (n m r : Int) (w : World) (h : nfB n m r = false) :
    Calls Try.prog 56 #[.int .i64 n, .int .i64 m, .int .i64 r] w fun e w' => e = .returned (.tuple #[.int .i64 0, .int .i64 0, .bool false]) ∧ Below w.heap.size w w' := by
  cases g1 : (decide (1 ≤ n) && decide (n ≤ 1000000)) with
  | false =>
    have G1 := Lib.hid g1
    clear h g1
    go_enter Try.func56, Try.ntmps56
    go_wp2_with fail
    refine (spec_l1In n 1 1000000 false _ G1.out).mono ?_
    rintro e w' ⟨rfl, rfl⟩
    go_wp2_with fail
    refine bodyPost_ret (v := .tuple #[.int .i64 0, .int .i64 0, .bool false]) (by simp [results, Try.results56, go_sem, *] <;> rfl) rfl (⟨rfl, by go_grown⟩)
  | true =>
    cases g2 : (decide (1 ≤ m) && decide (m ≤ 1000000)) with
    | false =>
      have G1 := Lib.hid g1
      have G2 := Lib.hid g2
      clear h g1 g2
      go_enter Try.func56, Try.ntmps56
      go_wp2_with fail
      refine (spec_l1In n 1 1000000 true _ G1.out).mono ?_
      rintro e w' ⟨rfl, rfl⟩
      go_wp2_with fail
      refine (spec_l1In m 1 1000000 false _ G2.out).mono ?_
      rintro e w' ⟨rfl, rfl⟩
      go_wp2_with fail
      refine bodyPost_ret (v := .tuple #[.int .i64 0, .int .i64 0, .bool false]) (by simp [results, Try.results56, go_sem, *] <;> rfl) rfl (⟨rfl, by go_grown⟩)
    | true =>
      cases g3 : (decide (0 ≤ r) && decide (r ≤ m)) with
      | false =>
        have G1 := Lib.hid g1
        have G2 := Lib.hid g2
        have G3 := Lib.hid g3
        clear h g1 g2 g3
        go_enter Try.func56, Try.ntmps56
        go_wp2_with fail
        refine (spec_l1In n 1 1000000 true _ G1.out).mono ?_
        rintro e w' ⟨rfl, rfl⟩
        go_wp2_with fail
        refine (spec_l1In m 1 1000000 true _ G2.out).mono ?_
        rintro e w' ⟨rfl, rfl⟩
        go_wp2_with fail
        refine (spec_l1In r 0 m false _ G3.out).mono ?_
        rintro e w' ⟨rfl, rfl⟩
        go_wp2_with fail
        refine bodyPost_ret (v := .tuple #[.int .i64 0, .int .i64 0, .bool false]) (by simp [results, Try.results56, go_sem, *] <;> rfl) rfl (⟨rfl, by go_grown⟩)
      | true =>
        have G1 := Lib.hid g1
        have G2 := Lib.hid g2
        have G3 := Lib.hid g3
        simp only [Bool.and_eq_true, decide_eq_true_eq] at g1 g2 g3
        have c5 : ¬ (r * r + n).tmod m = 0 := by
          intro e
          have : nfB n m r = true := by unfold nfB good2 good; simp [e]; omega
          rw [this] at h
          cases h
        have hb := sq_bd g3.1 g3.2 g2.2
        have c6 : ¬ (r * r + n) % m = 0 := by rw [Int.tmod_eq_emod_of_nonneg (by omega)] at c5; exact c5
        clear h
        go_enter Try.func56, Try.ntmps56
        go_wp2_with fail
        refine (spec_l1In n 1 1000000 true _ G1.out).mono ?_
        rintro e w' ⟨rfl, rfl⟩
        go_wp2_with fail
        refine (spec_l1In m 1 1000000 true _ G2.out).mono ?_
        rintro e w' ⟨rfl, rfl⟩
        go_wp2_with fail
        refine (spec_l1In r 0 m true _ G3.out).mono ?_
        rintro e w' ⟨rfl, rfl⟩
        go_wp2_with fail
        refine bodyPost_ret (v := .tuple #[.int .i64 0, .int .i64 0, .bool false]) (by simp [results, Try.results56, go_sem, *] <;> rfl) rfl (⟨rfl, by go_grown⟩)

theorem nfL_gt {n m z : Int} {t : List Int} (h : m < z * z) : nfL n m (z :: t) = nfL n m t := by conv => lhs; unfold nfL; rw [if_pos h]
theorem nfL_yes {n m z : Int} {t : List Int} (h : ¬ m < z * z) (h1 : (m - z * z).tmod n = 0) (h2 : sqB ((m - z * z).tdiv n) = true) : nfL n m (z :: t) = (z, isq ((m - z * z).tdiv n), true) := by unfold nfL; rw [if_neg h, if_pos ⟨h1, h2⟩]
theorem nfL_rem {n m z : Int} {t : List Int} (h : ¬ m < z * z) (h1 : ¬ (m - z * z).tmod n = 0) : nfL n m (z :: t) = (0, 0, false) := by unfold nfL; rw [if_neg h, if_neg (fun e => h1 e.1)]
theorem nfL_sq {n m z : Int} {t : List Int} (h : ¬ m < z * z) (h2 : sqB ((m - z * z).tdiv n) = false) : nfL n m (z :: t) = (0, 0, false) := by unfold nfL; rw [if_neg h, if_neg (fun e => by rw [h2] at e; cases e.2)]
theorem drop_cons (l : List Int) (k : Nat) (h : k < l.length) : l.drop k = l[k] :: l.drop (k + 1) := (List.getElem_cons_drop h).symm
theorem impl_NF_yes (n m r x y : Int) (b : Bool) (w : World) (h : nfB n m r = true) (hv : nfL n m (euT m.toNat r.toNat) = (x, y, b)) :
    Calls Try.prog 55 #[.int .i64 n, .int .i64 m, .int .i64 r] w fun e w' => e = .returned (.tuple #[.int .i64 x, .int .i64 y, .bool b]) ∧ Below w.heap.size w w' := by
  obtain ⟨hg, ⟨n1, n2⟩, ⟨m1, m2⟩, r1, r2, hr⟩ := nfB_yes h
  obtain ⟨M, rfl⟩ : ∃ M : Nat, m = M := ⟨m.toNat, by omega⟩
  obtain ⟨R, rfl⟩ : ∃ R : Nat, r = R := ⟨r.toNat, by omega⟩
  have hb := sq_bd r1 r2 m2
  have hr' : ((R : Int) * R + n) % M = 0 := by rw [← Int.tmod_eq_emod_of_nonneg (by omega)]; exact hr
  have b5 : (((R : Int) * R + n).tmod M != 0) = false := by rw [hr]; rfl
  have b6 : (((R : Int) * R + n) % M != 0) = false := by rw [hr']; rfl
  have hRM : R ≤ M := by omega
  have ht := euT_len hRM (by omega : M ≤ 1000000)
  have hel : ∀ z ∈ euT M R, 0 ≤ z ∧ z ≤ M := fun z hz => euT_mem hRM hz
  have hv' : nfL n M (euT M R) = (x, y, b) := by
    have e1 : (M : Int).toNat = M := rfl
    have e2 : (R : Int).toNat = R := rfl
    rw [e1, e2] at hv
    exact hv
  obtain ⟨T, hT⟩ : ∃ T, euT M R = T := ⟨_, rfl⟩
  rw [hT] at ht hel hv'
  have HT := Lib.hid hT
  have Hel := Lib.hid hel
  have Hv := Lib.hid hv'
  have G := Lib.hid hg
  clear h hv hg hT hel hv' hr hr'
  go_enter Try.func55, Try.ntmps55
  go_wp2_with fail
  refine (are2 n M _ _ true _ G.out (by simp) (by simp)).mono ?_
  rintro e w' ⟨rfl, rfl⟩
  go_wp2_with fail
  refine (impl_remainders M R _ hRM (by omega)).mono ?_
  rintro e w1 ⟨v0, rfl, hown, hB⟩
  rw [HT.out] at hown
  have HB : Below w.heap.size w w1 := Below.after (by go_grown) hB
  obtain ⟨p, cap, rfl, _, hrd⟩ := hown.view
  have Hr := Lib.hid hrd
  clear hown hrd hB
  go_wp2_with fail
  go_loop [48] (fun i => ∃ k : Nat, k ≤ T.length ∧ i = .int .i64 k ∧ nfL n M (T.drop k) = (x, y, b)) (fun i => T.length - (intOf i).toNat)
  case atStart => exact ⟨0, by omega, rfl, Hv.out⟩
  case round =>
    obtain ⟨k, hk, rfl, hj⟩ := hrel
    by_cases hlt : k < T.length
    · obtain ⟨g, rfl, _, hgz, hc, _⟩ := Hr.out k hlt
      rw [drop_cons T k hlt] at hj
      obtain ⟨z0, z1⟩ := Hel.out T[k] (List.getElem_mem hlt)
      have hzz := sq_bd z0 z1 m2
      obtain ⟨z, hz⟩ : ∃ z, T[k] = z := ⟨_, rfl⟩
      rw [hz] at hc hj z0 z1 hzz
      clear hz
      by_cases hgt : (M : Int) < z * z
      · rw [nfL_gt hgt] at hj
        have Hj := Lib.hid hj
        clear hj
        go_wp2_with fail
        go_round
        case rel => exact ⟨k + 1, by omega, by go_num, Hj.out⟩
        case measure => simp [intOf]; omega
      · have e1 : ((M : Int) - z * z).tmod n = ((M : Int) - z * z) % n := Int.tmod_eq_emod_of_nonneg (by omega)
        have e2 : ((M : Int) - z * z).tdiv n = ((M : Int) - z * z) / n := Int.tdiv_eq_ediv_of_nonneg (by omega)
        have q0 : 0 ≤ ((M : Int) - z * z) / n := Int.ediv_nonneg (by omega) (by omega)
        have q1 : ((M : Int) - z * z) / n ≤ 1000000 := Int.le_trans (Int.ediv_le_self _ (by omega)) (by omega)
        by_cases hrm : ((M : Int) - z * z) % n = 0
        · have bq : (((M : Int) - z * z) % n != 0) = false := by rw [hrm]; rfl
          cases hs : sqB (((M : Int) - z * z) / n) with
          | true =>
            rw [nfL_yes hgt (by rw [e1]; exact hrm) (by rw [e2]; exact hs)] at hj
            injection hj with j1 j2
            injection j2 with j2 j3
            subst j1
            subst j3
            rw [e2] at j2
            have Hs := Lib.hid hs
            have Hj := Lib.hid j2
            clear j2 hs e1 e2
            go_wp2_with fail
            refine (impl_isSquare (((M : Int) - z * z) / n) true _ (by omega) Hs.out).mono ?_
            rintro e w' ⟨rfl, rfl⟩
            go_wp2_with fail
            refine (impl_root (((M : Int) - z * z) / n) _ (by omega) (by omega)).mono ?_
            rintro e w' ⟨rfl, rfl⟩
            go_wp2_with fail
            rw [Hj.out]
            refine bodyPost_ret (v := .tuple #[.int .i64 z, .int .i64 y, .bool true]) (by simp [results, Try.results55, go_sem, *] <;> rfl) rfl ⟨rfl, HB⟩
          | false =>
            rw [nfL_sq hgt (by rw [e2]; exact hs)] at hj
            injection hj with j1 j2
            injection j2 with j2 j3
            subst j1
            subst j2
            subst j3
            have Hs := Lib.hid hs
            clear hs e1 e2
            go_wp2_with fail
            refine (impl_isSquare (((M : Int) - z * z) / n) false _ (by omega) Hs.out).mono ?_
            rintro e w' ⟨rfl, rfl⟩
            go_wp2_with fail
            refine bodyPost_ret (v := .tuple #[.int .i64 0, .int .i64 0, .bool false]) (by simp [results, Try.results55, go_sem, *] <;> rfl) rfl (⟨rfl, HB⟩)
        · have bq : (((M : Int) - z * z) % n != 0) = true := by simpa using hrm
          rw [nfL_rem hgt (by rw [e1]; exact hrm)] at hj
          injection hj with j1 j2
          injection j2 with j2 j3
          subst j1
          subst j2
          subst j3
          clear e1 e2
          go_wp2_with fail
          refine bodyPost_ret (v := .tuple #[.int .i64 0, .int .i64 0, .bool false]) (by simp [results, Try.results55, go_sem, *] <;> rfl) rfl (⟨rfl, HB⟩)
    · obtain rfl : k = T.length := by omega
      rw [List.drop_length] at hj
      unfold nfL at hj
      injection hj with j1 j2
      injection j2 with j2 j3
      subst j1
      subst j2
      subst j3
      go_wp2_with fail
      refine bodyPost_ret (v := .tuple #[.int .i64 0, .int .i64 0, .bool false]) (by simp [results, Try.results55, go_sem, *] <;> rfl) rfl (⟨rfl, HB⟩)
theorem spec_NF_yes (n m r x y : Int) (b : Bool) (w : World) (h : nfB n m r = true) (hv : nfL n m (euT m.toNat r.toNat) = (x, y, b)) :
    Calls Try.prog 56 #[.int .i64 n, .int .i64 m, .int .i64 r] w fun e w' => e = .returned (.tuple #[.int .i64 x, .int .i64 y, .bool b]) ∧ Below w.heap.size w w' := by
  obtain ⟨hg, ⟨n1, n2⟩, ⟨m1, m2⟩, r1, r2, hr⟩ := nfB_yes h
  obtain ⟨M, rfl⟩ : ∃ M : Nat, m = M := ⟨m.toNat, by omega⟩
  obtain ⟨R, rfl⟩ : ∃ R : Nat, r = R := ⟨r.toNat, by omega⟩
  have hb := sq_bd r1 r2 m2
  have hr' : ((R : Int) * R + n) % M = 0 := by rw [← Int.tmod_eq_emod_of_nonneg (by omega)]; exact hr
  have b5 : (((R : Int) * R + n).tmod M != 0) = false := by rw [hr]; rfl
  have b6 : (((R : Int) * R + n) % M != 0) = false := by rw [hr']; rfl
  have hRM : R ≤ M := by omega
  have ht := euT_len hRM (by omega : M ≤ 1000000)
  have hel : ∀ z ∈ euT M R, 0 ≤ z ∧ z ≤ M := fun z hz => euT_mem hRM hz
  have hv' : nfL n M (euT M R) = (x, y, b) := by
    have e1 : (M : Int).toNat = M := rfl
    have e2 : (R : Int).toNat = R := rfl
    rw [e1, e2] at hv
    exact hv
  obtain ⟨T, hT⟩ : ∃ T, euT M R = T := ⟨_, rfl⟩
  rw [hT] at ht hel hv'
  have HT := Lib.hid hT
  have Hel := Lib.hid hel
  have Hv := Lib.hid hv'
  (have G1 := Lib.hid (show (decide (1 ≤ n) && decide (n ≤ 1000000)) = true by simp; omega); have G2 := Lib.hid (show (decide (1 ≤ (M : Int)) && decide ((M : Int) ≤ 1000000)) = true by simp; omega); have G3 := Lib.hid (show (decide (0 ≤ (R : Int)) && decide ((R : Int) ≤ M)) = true by simp; omega))
  clear h hv hg hT hel hv' hr hr'
  go_enter Try.func56, Try.ntmps56
  go_wp2_with fail
  refine (spec_l1In n 1 1000000 true _ G1.out).mono ?_
  rintro e w' ⟨rfl, rfl⟩
  go_wp2_with fail
  refine (spec_l1In M 1 1000000 true _ G2.out).mono ?_
  rintro e w' ⟨rfl, rfl⟩
  go_wp2_with fail
  refine (spec_l1In R 0 M true _ G3.out).mono ?_
  rintro e w' ⟨rfl, rfl⟩
  go_wp2_with fail
  refine (spec_roEuclid M R _ hRM (by omega)).mono ?_
  rintro e w1 ⟨v0, rfl, hown, hB⟩
  rw [HT.out] at hown
  have HB : Below w.heap.size w w1 := Below.after (by go_grown) hB
  obtain ⟨p, cap, rfl, _, hrd⟩ := hown.view
  have Hr := Lib.hid hrd
  clear hown hrd hB
  go_wp2_with fail
  go_loop [40] (fun i => ∃ k : Nat, k ≤ T.length ∧ i = .int .i64 k ∧ nfL n M (T.drop k) = (x, y, b)) (fun i => T.length - (intOf i).toNat)
  case atStart => exact ⟨0, by omega, rfl, Hv.out⟩
  case round =>
    obtain ⟨k, hk, rfl, hj⟩ := hrel
    by_cases hlt : k < T.length
    · obtain ⟨g, rfl, _, hgz, hc, _⟩ := Hr.out k hlt
      rw [drop_cons T k hlt] at hj
      obtain ⟨z0, z1⟩ := Hel.out T[k] (List.getElem_mem hlt)
      have hzz := sq_bd z0 z1 m2
      obtain ⟨z, hz⟩ : ∃ z, T[k] = z := ⟨_, rfl⟩
      rw [hz] at hc hj z0 z1 hzz
      clear hz
      by_cases hgt : (M : Int) < z * z
      · rw [nfL_gt hgt] at hj
        have Hj := Lib.hid hj
        clear hj
        go_wp2_with fail
        go_round
        case rel => exact ⟨k + 1, by omega, by go_num, Hj.out⟩
        case measure => simp [intOf]; omega
      · have e1 : ((M : Int) - z * z).tmod n = ((M : Int) - z * z) % n := Int.tmod_eq_emod_of_nonneg (by omega)
        have e2 : ((M : Int) - z * z).tdiv n = ((M : Int) - z * z) / n := Int.tdiv_eq_ediv_of_nonneg (by omega)
        have q0 : 0 ≤ ((M : Int) - z * z) / n := Int.ediv_nonneg (by omega) (by omega)
        have q1 : ((M : Int) - z * z) / n ≤ 1000000 := Int.le_trans (Int.ediv_le_self _ (by omega)) (by omega)
        by_cases hrm : ((M : Int) - z * z) % n = 0
        · have bq : (((M : Int) - z * z) % n != 0) = false := by rw [hrm]; rfl
          cases hs : sqB (((M : Int) - z * z) / n) with
          | true =>
            rw [nfL_yes hgt (by rw [e1]; exact hrm) (by rw [e2]; exact hs)] at hj
            injection hj with j1 j2
            injection j2 with j2 j3
            subst j1
            subst j3
            rw [e2] at j2
            have Hs := Lib.hid hs
            have Hj := Lib.hid j2
            clear j2 hs e1 e2
            go_wp2_with fail
            refine (spec_nuSquare (((M : Int) - z * z) / n) true _ (by omega) Hs.out).mono ?_
            rintro e w' ⟨rfl, rfl⟩
            go_wp2_with fail
            refine (spec_nuRoot (((M : Int) - z * z) / n) _ (by omega) (by omega)).mono ?_
            rintro e w' ⟨rfl, rfl⟩
            go_wp2_with fail
            rw [Hj.out]
            refine bodyPost_ret (v := .tuple #[.int .i64 z, .int .i64 y, .bool true]) (by simp [results, Try.results56, go_sem, *] <;> rfl) rfl ⟨rfl, HB⟩
          | false =>
            rw [nfL_sq hgt (by rw [e2]; exact hs)] at hj
            injection hj with j1 j2
            injection j2 with j2 j3
            subst j1
            subst j2
            subst j3
            have Hs := Lib.hid hs
            clear hs e1 e2
            go_wp2_with fail
            refine (spec_nuSquare (((M : Int) - z * z) / n) false _ (by omega) Hs.out).mono ?_
            rintro e w' ⟨rfl, rfl⟩
            go_wp2_with fail
            refine bodyPost_ret (v := .tuple #[.int .i64 0, .int .i64 0, .bool false]) (by simp [results, Try.results56, go_sem, *] <;> rfl) rfl (⟨rfl, HB⟩)
        · have bq : (((M : Int) - z * z) % n != 0) = true := by simpa using hrm
          rw [nfL_rem hgt (by rw [e1]; exact hrm)] at hj
          injection hj with j1 j2
          injection j2 with j2 j3
          subst j1
          subst j2
          subst j3
          clear e1 e2
          go_wp2_with fail
          refine bodyPost_ret (v := .tuple #[.int .i64 0, .int .i64 0, .bool false]) (by simp [results, Try.results56, go_sem, *] <;> rfl) rfl (⟨rfl, HB⟩)
    · obtain rfl : k = T.length := by omega
      rw [List.drop_length] at hj
      unfold nfL at hj
      injection hj with j1 j2
      injection j2 with j2 j3
      subst j1
      subst j2
      subst j3
      go_wp2_with fail
      refine bodyPost_ret (v := .tuple #[.int .i64 0, .int .i64 0, .bool false]) (by simp [results, Try.results56, go_sem, *] <;> rfl) rfl (⟨rfl, HB⟩)
end Go.Proofs.Ytiblpagbloflhaa
