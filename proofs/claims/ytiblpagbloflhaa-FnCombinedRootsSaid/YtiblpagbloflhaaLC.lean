/- The law FnCombinedRoots. -/
import Derived.Test.YtiblpagbloflhaaTX
import Derived.Test.YtiblpagbloflhaaXP
import Derived.Test.YtiblpagbloflhaaDC
namespace Go.Proofs.Ytiblpagbloflhaa
set_option linter.unusedVariables false
open Go.ChangeShapes Go.WideShapes Go.ChangeAt Go.RowKit

theorem isRow_lenC {k : IntKind} {W : World} {a : Option Addr} {len cap : Nat} {zs : List Int} (h : IsRow k W a len cap zs) : len ≤ maxLen := by
  rcases h with ⟨_, rfl, _⟩ | ⟨x, _, h1, h2, _⟩
  · exact Nat.zero_le _
  · omega
/-- what the loop over a tower meets at the number j -/
theorem tw_at {b p x : Int} {K j : Nat} {L : List Int} (A : TwA b p x K) (hT : Tw b p x L) (hl : L.length = K) (hj : j < L.length) :
    1 ≤ p ^ j ∧ p ^ j * p ≤ 1000000 ∧ p ^ (j + 1) = p ^ j * p ∧ 0 ≤ L[j] ∧ L[j] < p ^ j * p ∧ (L[j] * L[j] - b) % (p ^ j * p) = 0 := by
  have p3 : 3 ≤ p := by obtain ⟨k, hk, hk1, _⟩ := oddPrime_half A.op; omega
  have hr := tw_rt hT (rt_start A.op A.nz A.fr) j L[j] (List.getElem?_eq_getElem hj)
  have e : p ^ (j + 1) = p ^ j * p := Int.pow_succ p j
  have hle := pow_le' (show 1 ≤ p by omega) (show j + 1 ≤ K by omega)
  have hpw := A.pw
  rw [e] at hr hle
  exact ⟨pow_pos' (by omega) j, by omega, e, hr.1, hr.2.1, hr.2.2.1⟩
theorem tw_step {b p x : Int} {K i : Nat} {L : List Int} (A : TwA b p x K) (hT : Tw b p x L) (hl : L.length = K) (hj : i + 1 < L.length) :
    Rt b p (p ^ (i + 1)) L[i] ∧ Abv b p (p ^ (i + 1)) L[i] L[i + 1] ∧ p ^ (i + 1 + 1) ≤ 1000000 := by
  have p3 : 3 ≤ p := by obtain ⟨k, hk, hk1, _⟩ := oddPrime_half A.op; omega
  have hle := pow_le' (show 1 ≤ p by omega) (show i + 1 + 1 ≤ K by omega)
  have hpw := A.pw
  exact ⟨tw_rt hT (rt_start A.op A.nz A.fr) i L[i] (List.getElem?_eq_getElem (by omega)), hT.2 i _ _ (List.getElem?_eq_getElem (by omega)) (List.getElem?_eq_getElem hj), by omega⟩
theorem z_bd {z b q : Int} (z0 : 0 ≤ z) (z1 : z < q) (hq : q ≤ 1000000) : 0 ≤ z * z ∧ z * z ≤ 1000000000000 := by
  have := mul_le (a := z) (b := z) (A := 1000000) (B := 1000000) z0 (by omega) z0 (by omega)
  omega
set_option maxRecDepth 100000 in
set_option maxHeartbeats 4000000 in
theorem walkCombinedRoots (a0 : Option Addr) (len0 cap0 : Nat) (z0 : List Int) (a1 : Option Addr) (len1 cap1 : Nat) (z1 : List Int) (w : World) (w0 : IsRow .u8 w a0 len0 cap0 z0) (w1 : IsRow .u8 w a1 len1 cap1 z1) :
    Calls Try.prog 13 #[.slice a0 len0 cap0, .slice a1 len1 cap1] w fun e w' => e = .returned (.bool true) ∧ Below w.heap.size w w' := by
  have l0 := isRow_lenC w0
  have l1 := isRow_lenC w1
  cases hv : (decide (1048576 < (len0 : Int)) || decide (1048576 - (len0 : Int) < (len1 : Int))) with
  | true =>
    have Hv := Lib.hid hv
    clear hv w0 w1
    go_enter Try.func13, Try.ntmps13
    go_wp2_with fail
    refine (laws_big _ _ _ _ _ _ true _ l0 l1 Hv.out).mono ?_
    rintro e w' ⟨rfl, rfl⟩
    go_wp2_with fail
    go_ret
    exact ⟨rfl, by go_grown⟩
  | false =>
    have h2 : len0 ≤ 1048576 ∧ len1 ≤ 1048576 := by simp at hv; omega
    have HA := Lib.hid (bytes_of w0 h2.1)
    have HB := Lib.hid (bytes_of w1 h2.2)
    have Hv := Lib.hid hv
    clear hv w0 w1 h2 z0 z1
    go_enter Try.func13, Try.ntmps13
    go_wp2_with fail
    refine (laws_big _ _ _ _ _ _ false _ l0 l1 Hv.out).mono ?_
    rintro e w' ⟨rfl, rfl⟩
    go_wp2_with fail
    refine (draw_CR _ _ HA.out).mono ?_
    rintro e wa ⟨a, x, m, y, n, rfl, ⟨a0, a1⟩, ⟨x0, x1⟩, ⟨m0, m1⟩, ⟨y0, y1⟩, ⟨n0, n1⟩, hBa⟩
    clear HA
    cases hE : crB a x m y n with
    | false =>
      have HE := Lib.hid hE
      clear hE
      go_wp2_with fail
      refine (impl_CR_no a x m y n _ m0 m1 n0 n1 x0 x1 y0 y1 HE.out).mono ?_
      rintro e wb ⟨rfl, hbb⟩
      have hBb : Below w.heap.size w wb := Below.after hBa hbb
      clear hbb hBa
      go_wp2_with fail
      refine (spec_CR_no a x m y n _ m0 m1 n0 n1 x0 x1 y0 y1 HE.out).mono ?_
      rintro e wc ⟨rfl, hbc⟩
      have hBk : Below w.heap.size w wc := Below.after hBb hbc
      clear hbc hBb HE
      clear a0 a1 m0 m1 n0 n1 x0 x1 y0 y1
      have hzk := hBk.size
      have HB1 := Lib.hid (HB.out.low (by omega) hBk)
      clear HB
      go_wp2_with fail
      refine (draw_RT _ _ (HB1.out.mono (by omega))).mono ?_
      rintro e wd ⟨b, p, k, rfl, hb64, ⟨p1, p2⟩, ⟨k1, k2⟩, hbd⟩
      have hBd : Below w.heap.size w wd := Below.after hBk hbd
      have hzd := hBd.size
      clear hbd hBk HB1
      by_cases hT : ∃ x, ∃ K : Nat, k = K ∧ TwA b p x K
      · obtain ⟨x, K, rfl, A⟩ := hT
        have HA := Lib.hid A
        have hK1 := A.k1
        have hK2 := A.k2
        obtain ⟨b1, b2⟩ := goodI A.gb
        clear A hb64 k1 k2
        go_wp2_with fail
        refine (impl_Tower b p x K _ HA.out).mono ?_
        rintro e we ⟨v, L, rfl, hv, ht, hl, hbe⟩
        have hBe : Below w.heap.size w we := Below.after hBd hbe
        have HV := Lib.hid hv
        have HT := Lib.hid ht
        have Hl := Lib.hid hl
        clear hbe hBd hv ht hl
        go_wp2_with fail
        refine (spec_Tower b p x K _ HA.out).mono ?_
        rintro e wf ⟨u, M, rfl, hu, ht2, hl2, hbf⟩
        obtain rfl : M = L := tw_uniq p1 ht2 HT.out (rt_start HA.out.op HA.out.nz HA.out.fr) (by rw [hl2, Hl.out])
        have hBf : Below w.heap.size w wf := Below.after hBe hbf
        have hzf := hBf.size
        have HV2 := Lib.hid (HV.out.below hbf)
        have HU := Lib.hid (hu.mono (B' := w.heap.size) (by have := hBe.size; omega))
        have hlm : M.length ≤ 13 := by rw [hl2]; exact hK2
        clear hbf hBe hu HV ht2 hl2
        go_wp2_with fail
        refine (laws_sameInts _ _ _ _ _ _ (by omega) HV2.out HU.out).mono ?_
        rintro e wg ⟨rfl, hbg⟩
        have hBg : Below w.heap.size w wg := Below.after hBf hbg
        have hU2 := HU.out.below hbg
        obtain ⟨pu, cu, rfl, _, _⟩ := hU2.view
        have HU2 := Lib.hid hU2
        clear hbg hBf HV2 HU hU2
        go_wp2_with fail
        go_loopw [27, 173] (fun q i wr => ∃ (j : Nat) (Q : Int), q = .int .i64 Q ∧ i = .int .i64 j ∧ j ≤ M.length ∧ Q = p ^ j ∧ Ints wr w.heap.size (.slice pu M.length cu) M ∧ Below w.heap.size w wr) (fun _ i _ => M.length - (intOf i).toNat)
        case atStart => exact ⟨0, 1, rfl, rfl, by omega, by simp, HU2.out, hBg⟩
        case round =>
          obtain ⟨j, Q, rfl, rfl, hj, hQ, hown, hB⟩ := hrel
          have hzr := hB.size
          have HQ := Lib.hid hQ
          have HO := Lib.hid hown
          clear hQ hown HU2 hBg
          by_cases hlt : j < M.length
          · have hat := tw_at HA.out HT.out Hl.out hlt
            rw [← HQ.out] at hat
            obtain ⟨q1, q2, q3, z0, z1, z2⟩ := hat
            have HN := Lib.hid q3
            clear q3
            have hQle : Q ≤ 1000000 := by
              have := Int.mul_le_mul_of_nonneg_left p1 (show 0 ≤ Q by omega)
              omega
            obtain ⟨g, rfl, _, hg1, hc, _⟩ := HO.out.read j hlt
            cases j with
            | zero =>
              have hQ1 : Q = 1 := by rw [HQ.out]; exact Int.pow_zero p
              subst hQ1
              rw [Int.one_mul] at q2 z1 z2 HN
              obtain ⟨z, hz⟩ : ∃ z, M[0] = z := ⟨_, rfl⟩
              rw [hz] at z0 z1 z2 hc
              obtain ⟨zz0, zz1⟩ := z_bd (b := b) z0 z1 q2
              have z3 : (z * z - b).tmod p = 0 := Int.tmod_eq_zero_of_dvd (Int.dvd_of_emod_eq_zero z2)
              have HN2 := Lib.hid HN.out
              clear z2 hz
              go_wp2_with fail
              go_roundw
              case rel => exact ⟨1, p, rfl, rfl, by omega, HN2.out.symm, HO.out, hB⟩
              case measure => simp [intOf]; omega
            | succ i =>
              obtain ⟨hr, ha, hpw⟩ := tw_step HA.out HT.out Hl.out hlt
              obtain ⟨g', e', _, hg2, hc2, _⟩ := HO.out.read i (by omega)
              injection e' with e'
              injection e' with e'
              subst e'
              have hzy := ha.2.2.2
              rw [← HQ.out] at hzy
              obtain ⟨z, hz⟩ : ∃ z, M[i + 1] = z := ⟨_, rfl⟩
              obtain ⟨y, hy⟩ : ∃ y, M[i]'(by omega) = y := ⟨_, rfl⟩
              rw [hz] at z0 z1 z2 hc ha hzy
              rw [hy] at hr ha hc2 hzy
              obtain ⟨zz0, zz1⟩ := z_bd (b := b) z0 z1 q2
              have z3 : (z * z - b).tmod (Q * p) = 0 := Int.tmod_eq_zero_of_dvd (Int.dvd_of_emod_eq_zero z2)
              have Hr := Lib.hid hr
              have Ha := Lib.hid ha
              have Hpw := Lib.hid hpw
              have Hzy := Lib.hid hzy
              have Hy := Lib.hid hy
              have HN2 := Lib.hid (show Q * p = p ^ (i + 1 + 1) from HN.out.symm)
              clear z2 hz hy hr ha hpw hzy HN
              have ei : ((i + 1 : Nat) : Int) - 1 = (i : Int) := by omega
              go_wp2_with fail
              refine (impl_LiftRoot b p y z (i + 1) _ HA.out.gb HA.out.op HA.out.nz (by omega) (by omega) Hpw.out Hr.out Ha.out).mono ?_
              rintro e wh ⟨rfl, hbh⟩
              have hBh : Below w.heap.size w wh := Below.after hB hbh
              have HO2 := Lib.hid (HO.out.below hbh)
              have hzh := hBh.size
              obtain ⟨g', e', _, hg3, hc3, _⟩ := HO2.out.read i (by omega)
              injection e' with e'
              injection e' with e'
              subst e'
              have q0 : ∀ x : Aft wh, x.w.cell? ⟨g, i, none⟩ = some (.int .i64 y) := fun x => x.cell (by omega) (by rw [← Hy.out]; exact hc3)
              have g1 : (z.tmod Q != y) = false := bneF (by rw [Int.tmod_eq_emod_of_nonneg z0]; exact Hzy.out)
              have g2 : (z % Q != y) = false := bneF Hzy.out
              have g3 : ¬ Q = 0 := by omega
              clear hbh hB HO hc hc2 hc3
              go_wp2_with fail
              refine region_aft (by kernel_rfl) (by kernel_rfl) ?_
              repeat go_big_quiet_step (fail)
              refine wpQuiet_nil ?_
              intro w2 hb2
              have hB2 : Below w.heap.size w w2 := Below.after hBh hb2
              have HO3 := Lib.hid (HO2.out.below hb2)
              clear hb2 hBh q0 HO2 g1 g2
              go_wp2_with fail
              go_roundw
              case rel => exact ⟨i + 1 + 1, Q * p, rfl, by go_num, by omega, HN2.out, HO3.out, hB2⟩
              case measure => simp [intOf]; omega
          · obtain rfl : j = M.length := by omega
            go_wp2_with fail
            go_ret
            exact ⟨rfl, hB⟩
      · have hno : ∀ x (K : Nat), k = K → TwA b p x K → False := fun x K h1 h2 => hT ⟨x, K, h1, h2⟩
        have Hno := Lib.hid hno
        clear hno hT
        go_wp2_with fail
        refine (impl_Tower_no b p k _ p1 p2 k1 k2 Hno.out).mono ?_
        rintro e we ⟨v, rfl, hv, hbe⟩
        have hBe : Below w.heap.size w we := Below.after hBd hbe
        obtain ⟨pv, cv, rfl, _, _⟩ := hv.view
        have HV := Lib.hid hv
        clear hbe hBd hv
        go_wp2_with fail
        refine (spec_Tower_no b p k _ p1 p2 k1 k2 Hno.out).mono ?_
        rintro e wf ⟨rfl, rfl⟩
        go_wp2_with fail
        refine (laws_sameInts [] _ _ _ 0 _ (by simp) HV.out (Ints.nil _ _)).mono ?_
        rintro e wg ⟨rfl, hbg⟩
        have hBg : Below w.heap.size w wg := Below.after hBe hbg
        clear hbg HV hBe
        go_wp2_with fail
        go_loopw [27, 173] (fun q i wr => q = .int .i64 1 ∧ i = .int .i64 0 ∧ Below w.heap.size w wr) (fun _ _ _ => 0)
        case atStart => exact ⟨rfl, rfl, hBg⟩
        case round =>
          obtain ⟨rfl, rfl, hB⟩ := hrel
          go_wp2_with fail
          go_ret
          exact ⟨rfl, hB⟩
    | true =>
      obtain ⟨hga, c1, c2, c4, c3, _, _⟩ := crB_yes hE
      obtain ⟨v, hv⟩ := inv_total c2 c3
      obtain ⟨r0, r1, rr, rx, ry⟩ := cr_root hE hv
      have hcnt := count_roots (a := a) c1 c2 c3
      obtain ⟨ha1, ha2⟩ := goodI hga
      have HV := Lib.hid hv
      have HE := Lib.hid hE
      have h1 := fun w => impl_CR_yes a x m y n w m0 m1 n0 n1 x0 x1 y0 y1 v HV.out HE.out
      have h2 := fun w => spec_CR_yes a x m y n w m0 m1 n0 n1 x0 x1 y0 y1 v HV.out HE.out
      obtain ⟨r, hr⟩ : ∃ r, crF x m y n v = r := ⟨_, rfl⟩
      rw [hr] at r0 r1 rr rx ry h1 h2
      have H1 := Lib.hid h1
      have H2 := Lib.hid h2
      have hqin : decide (r ∈ qL a (m * n) (m * n).toNat) = true := decide_eq_true (qL_mem.2 ⟨r0, by omega, qB_iff.2 rr⟩)
      have rr1 : (r * r - a).tmod (m * n) = 0 := Int.tmod_eq_zero_of_dvd (Int.dvd_of_emod_eq_zero rr)
      have rx1 : r.tmod m = x := by rw [Int.tmod_eq_emod_of_nonneg r0]; exact rx
      have ry1 : r.tmod n = y := by rw [Int.tmod_eq_emod_of_nonneg r0]; exact ry
      obtain ⟨q0, q1⟩ := mul_le (a := r) (b := r) (A := 1000000) (B := 1000000) r0 (by omega) r0 (by omega)
      have hmn1 : 1 ≤ m * n := by omega
      have Hq := Lib.hid hqin
      have Hc := Lib.hid hcnt
      clear hE hv hr rr hcnt hqin h1 h2 c3 hga HE HV
      go_wp2_with fail
      refine (H1.out _).mono ?_
      rintro e wb ⟨rfl, hbb⟩
      have hBb : Below w.heap.size w wb := Below.after hBa hbb
      clear hbb hBa
      go_wp2_with fail
      refine (H2.out _).mono ?_
      rintro e wc ⟨rfl, hbc⟩
      have hBc : Below w.heap.size w wc := Below.after hBb hbc
      clear hbc hBb H1 H2
      have f1 : ((r * r - a).tmod (m * n) != 0) = false := bneF rr1
      have f2 : (r.tmod m != x) = false := bneF rx1
      have f3 : (r.tmod n != y) = false := bneF ry1
      have f4 : (r % m != x) = false := bneF rx
      have f5 : (r % n != y) = false := bneF ry
      by_cases hs : m * n ≤ 10000
      · have hmle : m ≤ m * n := by
          have := Int.mul_le_mul_of_nonneg_left c2 m0
          omega
        have hnle : n ≤ m * n := by
          have := Int.mul_le_mul_of_nonneg_right c1 n0
          omega
        have s1 := Lib.hid (show sqrB a (m * n) = true by unfold sqrB good; simp; omega)
        have s2 := Lib.hid (show sqrB a m = true by unfold sqrB good; simp; omega)
        have s3 := Lib.hid (show sqrB a n = true by unfold sqrB good; simp; omega)
        have A1 := qL_len a m m.toNat
        have B1 := qL_len a n n.toNat
        have C1 := qL_len a (m * n) (m * n).toNat
        have hc1 := Hc.out
        have k1 := fun w => impl_Count a m w s2.out
        have k2 := fun w => impl_Count a n w s3.out
        have k3 := fun w => impl_SqR_yes a (m * n) w s1.out
        have hq := Hq.out
        obtain ⟨A, hA⟩ : ∃ A, (qL a m m.toNat).length = A := ⟨_, rfl⟩
        obtain ⟨B, hB⟩ : ∃ B, (qL a n n.toNat).length = B := ⟨_, rfl⟩
        obtain ⟨L, hL⟩ : ∃ L, qL a (m * n) (m * n).toNat = L := ⟨_, rfl⟩
        rw [hA] at A1 hc1 k1
        rw [hB] at B1 hc1 k2
        rw [hL] at C1 hc1 k3 hq
        have hlen : L.length ≤ 10000 := by omega
        have hAB : (L.length : Int) = (A : Int) * B := by rw [hc1]; exact Int.natCast_mul A B
        obtain ⟨ab0, ab1⟩ := mul_le (a := (A : Int)) (b := (B : Int)) (A := 10000) (B := 10000) (by omega) (by omega) (by omega) (by omega)
        have f6 : ((L.length : Int) != (A : Int) * B) = false := bneF hAB
        have K1 := Lib.hid k1
        have K2 := Lib.hid k2
        have K3 := Lib.hid k3
        have Hq2 := Lib.hid hq
        clear hA hB hL hc1 k1 k2 k3 hq Hq Hc s1 s2 s3 A1 B1 C1
        go_wp2_with fail
        refine (K3.out _).mono ?_
        rintro e wd ⟨vq, rfl, hvq, hbd⟩
        have hBd : Below w.heap.size w wd := Below.after hBc hbd
        obtain ⟨pq, cq, rfl, _, _⟩ := hvq.view
        have HQ := Lib.hid hvq
        clear hvq hbd hBc
        go_wp2_with fail
        refine (K1.out _).mono ?_
        rintro e we ⟨rfl, hbe⟩
        have hBe : Below w.heap.size w we := Below.after hBd hbe
        have HQ2 := Lib.hid (HQ.out.below hbe)
        clear hbe hBd HQ
        go_wp2_with fail
        refine (K2.out _).mono ?_
        rintro e wf ⟨rfl, hbf⟩
        have hBk : Below w.heap.size w wf := Below.after hBe hbf
        have HQ3 := Lib.hid (HQ2.out.below hbf)
        clear hbf hBe HQ2 K1 K2 K3
        go_wp2_with fail
        refine (laws_qIn L r _ true _ _ HQ3.out (by omega) Hq2.out).mono ?_
        rintro e w' ⟨rfl, rfl⟩
        clear HQ3 Hq2 hAB f6 ab0 ab1 hlen hmle hnle
        clear a0 a1 m0 m1 n0 n1 x0 x1 y0 y1 f1 f2 f3 f4 f5 rx ry rr1 rx1 ry1 q0 q1 r0 r1 hmn1 hs c1 c2 c4 ha1 ha2
        have hzk := hBk.size
        have HB1 := Lib.hid (HB.out.low (by omega) hBk)
        clear HB
        go_wp2_with fail
        refine (draw_RT _ _ (HB1.out.mono (by omega))).mono ?_
        rintro e wd ⟨b, p, k, rfl, hb64, ⟨p1, p2⟩, ⟨k1, k2⟩, hbd⟩
        have hBd : Below w.heap.size w wd := Below.after hBk hbd
        have hzd := hBd.size
        clear hbd hBk HB1
        by_cases hT : ∃ x, ∃ K : Nat, k = K ∧ TwA b p x K
        · obtain ⟨x, K, rfl, A⟩ := hT
          have HA := Lib.hid A
          have hK1 := A.k1
          have hK2 := A.k2
          obtain ⟨b1, b2⟩ := goodI A.gb
          clear A hb64 k1 k2
          go_wp2_with fail
          refine (impl_Tower b p x K _ HA.out).mono ?_
          rintro e we ⟨v, L, rfl, hv, ht, hl, hbe⟩
          have hBe : Below w.heap.size w we := Below.after hBd hbe
          have HV := Lib.hid hv
          have HT := Lib.hid ht
          have Hl := Lib.hid hl
          clear hbe hBd hv ht hl
          go_wp2_with fail
          refine (spec_Tower b p x K _ HA.out).mono ?_
          rintro e wf ⟨u, M, rfl, hu, ht2, hl2, hbf⟩
          obtain rfl : M = L := tw_uniq p1 ht2 HT.out (rt_start HA.out.op HA.out.nz HA.out.fr) (by rw [hl2, Hl.out])
          have hBf : Below w.heap.size w wf := Below.after hBe hbf
          have hzf := hBf.size
          have HV2 := Lib.hid (HV.out.below hbf)
          have HU := Lib.hid (hu.mono (B' := w.heap.size) (by have := hBe.size; omega))
          have hlm : M.length ≤ 13 := by rw [hl2]; exact hK2
          clear hbf hBe hu HV ht2 hl2
          go_wp2_with fail
          refine (laws_sameInts _ _ _ _ _ _ (by omega) HV2.out HU.out).mono ?_
          rintro e wg ⟨rfl, hbg⟩
          have hBg : Below w.heap.size w wg := Below.after hBf hbg
          have hU2 := HU.out.below hbg
          obtain ⟨pu, cu, rfl, _, _⟩ := hU2.view
          have HU2 := Lib.hid hU2
          clear hbg hBf HV2 HU hU2
          go_wp2_with fail
          go_loopw [27, 173] (fun q i wr => ∃ (j : Nat) (Q : Int), q = .int .i64 Q ∧ i = .int .i64 j ∧ j ≤ M.length ∧ Q = p ^ j ∧ Ints wr w.heap.size (.slice pu M.length cu) M ∧ Below w.heap.size w wr) (fun _ i _ => M.length - (intOf i).toNat)
          case atStart => exact ⟨0, 1, rfl, rfl, by omega, by simp, HU2.out, hBg⟩
          case round =>
            obtain ⟨j, Q, rfl, rfl, hj, hQ, hown, hB⟩ := hrel
            have hzr := hB.size
            have HQ := Lib.hid hQ
            have HO := Lib.hid hown
            clear hQ hown HU2 hBg
            by_cases hlt : j < M.length
            · have hat := tw_at HA.out HT.out Hl.out hlt
              rw [← HQ.out] at hat
              obtain ⟨q1, q2, q3, z0, z1, z2⟩ := hat
              have HN := Lib.hid q3
              clear q3
              have hQle : Q ≤ 1000000 := by
                have := Int.mul_le_mul_of_nonneg_left p1 (show 0 ≤ Q by omega)
                omega
              obtain ⟨g, rfl, _, hg1, hc, _⟩ := HO.out.read j hlt
              cases j with
              | zero =>
                have hQ1 : Q = 1 := by rw [HQ.out]; exact Int.pow_zero p
                subst hQ1
                rw [Int.one_mul] at q2 z1 z2 HN
                obtain ⟨z, hz⟩ : ∃ z, M[0] = z := ⟨_, rfl⟩
                rw [hz] at z0 z1 z2 hc
                obtain ⟨zz0, zz1⟩ := z_bd (b := b) z0 z1 q2
                have z3 : (z * z - b).tmod p = 0 := Int.tmod_eq_zero_of_dvd (Int.dvd_of_emod_eq_zero z2)
                have HN2 := Lib.hid HN.out
                clear z2 hz
                go_wp2_with fail
                go_roundw
                case rel => exact ⟨1, p, rfl, rfl, by omega, HN2.out.symm, HO.out, hB⟩
                case measure => simp [intOf]; omega
              | succ i =>
                obtain ⟨hr, ha, hpw⟩ := tw_step HA.out HT.out Hl.out hlt
                obtain ⟨g', e', _, hg2, hc2, _⟩ := HO.out.read i (by omega)
                injection e' with e'
                injection e' with e'
                subst e'
                have hzy := ha.2.2.2
                rw [← HQ.out] at hzy
                obtain ⟨z, hz⟩ : ∃ z, M[i + 1] = z := ⟨_, rfl⟩
                obtain ⟨y, hy⟩ : ∃ y, M[i]'(by omega) = y := ⟨_, rfl⟩
                rw [hz] at z0 z1 z2 hc ha hzy
                rw [hy] at hr ha hc2 hzy
                obtain ⟨zz0, zz1⟩ := z_bd (b := b) z0 z1 q2
                have z3 : (z * z - b).tmod (Q * p) = 0 := Int.tmod_eq_zero_of_dvd (Int.dvd_of_emod_eq_zero z2)
                have Hr := Lib.hid hr
                have Ha := Lib.hid ha
                have Hpw := Lib.hid hpw
                have Hzy := Lib.hid hzy
                have Hy := Lib.hid hy
                have HN2 := Lib.hid (show Q * p = p ^ (i + 1 + 1) from HN.out.symm)
                clear z2 hz hy hr ha hpw hzy HN
                have ei : ((i + 1 : Nat) : Int) - 1 = (i : Int) := by omega
                go_wp2_with fail
                refine (impl_LiftRoot b p y z (i + 1) _ HA.out.gb HA.out.op HA.out.nz (by omega) (by omega) Hpw.out Hr.out Ha.out).mono ?_
                rintro e wh ⟨rfl, hbh⟩
                have hBh : Below w.heap.size w wh := Below.after hB hbh
                have HO2 := Lib.hid (HO.out.below hbh)
                have hzh := hBh.size
                obtain ⟨g', e', _, hg3, hc3, _⟩ := HO2.out.read i (by omega)
                injection e' with e'
                injection e' with e'
                subst e'
                have q0 : ∀ x : Aft wh, x.w.cell? ⟨g, i, none⟩ = some (.int .i64 y) := fun x => x.cell (by omega) (by rw [← Hy.out]; exact hc3)
                have g1 : (z.tmod Q != y) = false := bneF (by rw [Int.tmod_eq_emod_of_nonneg z0]; exact Hzy.out)
                have g2 : (z % Q != y) = false := bneF Hzy.out
                have g3 : ¬ Q = 0 := by omega
                clear hbh hB HO hc hc2 hc3
                go_wp2_with fail
                refine region_aft (by kernel_rfl) (by kernel_rfl) ?_
                repeat go_big_quiet_step (fail)
                refine wpQuiet_nil ?_
                intro w2 hb2
                have hB2 : Below w.heap.size w w2 := Below.after hBh hb2
                have HO3 := Lib.hid (HO2.out.below hb2)
                clear hb2 hBh q0 HO2 g1 g2
                go_wp2_with fail
                go_roundw
                case rel => exact ⟨i + 1 + 1, Q * p, rfl, by go_num, by omega, HN2.out, HO3.out, hB2⟩
                case measure => simp [intOf]; omega
            · obtain rfl : j = M.length := by omega
              go_wp2_with fail
              go_ret
              exact ⟨rfl, hB⟩
        · have hno : ∀ x (K : Nat), k = K → TwA b p x K → False := fun x K h1 h2 => hT ⟨x, K, h1, h2⟩
          have Hno := Lib.hid hno
          clear hno hT
          go_wp2_with fail
          refine (impl_Tower_no b p k _ p1 p2 k1 k2 Hno.out).mono ?_
          rintro e we ⟨v, rfl, hv, hbe⟩
          have hBe : Below w.heap.size w we := Below.after hBd hbe
          obtain ⟨pv, cv, rfl, _, _⟩ := hv.view
          have HV := Lib.hid hv
          clear hbe hBd hv
          go_wp2_with fail
          refine (spec_Tower_no b p k _ p1 p2 k1 k2 Hno.out).mono ?_
          rintro e wf ⟨rfl, rfl⟩
          go_wp2_with fail
          refine (laws_sameInts [] _ _ _ 0 _ (by simp) HV.out (Ints.nil _ _)).mono ?_
          rintro e wg ⟨rfl, hbg⟩
          have hBg : Below w.heap.size w wg := Below.after hBe hbg
          clear hbg HV hBe
          go_wp2_with fail
          go_loopw [27, 173] (fun q i wr => q = .int .i64 1 ∧ i = .int .i64 0 ∧ Below w.heap.size w wr) (fun _ _ _ => 0)
          case atStart => exact ⟨rfl, rfl, hBg⟩
          case round =>
            obtain ⟨rfl, rfl, hB⟩ := hrel
            go_wp2_with fail
            go_ret
            exact ⟨rfl, hB⟩
      · have hBk := hBc
        clear hBc Hq Hc
        go_wp2_with fail
        clear a0 a1 m0 m1 n0 n1 x0 x1 y0 y1 f1 f2 f3 f4 f5 rx ry rr1 rx1 ry1 q0 q1 r0 r1 hmn1 hs c1 c2 c4 ha1 ha2
        have hzk := hBk.size
        have HB1 := Lib.hid (HB.out.low (by omega) hBk)
        clear HB
        go_wp2_with fail
        refine (draw_RT _ _ (HB1.out.mono (by omega))).mono ?_
        rintro e wd ⟨b, p, k, rfl, hb64, ⟨p1, p2⟩, ⟨k1, k2⟩, hbd⟩
        have hBd : Below w.heap.size w wd := Below.after hBk hbd
        have hzd := hBd.size
        clear hbd hBk HB1
        by_cases hT : ∃ x, ∃ K : Nat, k = K ∧ TwA b p x K
        · obtain ⟨x, K, rfl, A⟩ := hT
          have HA := Lib.hid A
          have hK1 := A.k1
          have hK2 := A.k2
          obtain ⟨b1, b2⟩ := goodI A.gb
          clear A hb64 k1 k2
          go_wp2_with fail
          refine (impl_Tower b p x K _ HA.out).mono ?_
          rintro e we ⟨v, L, rfl, hv, ht, hl, hbe⟩
          have hBe : Below w.heap.size w we := Below.after hBd hbe
          have HV := Lib.hid hv
          have HT := Lib.hid ht
          have Hl := Lib.hid hl
          clear hbe hBd hv ht hl
          go_wp2_with fail
          refine (spec_Tower b p x K _ HA.out).mono ?_
          rintro e wf ⟨u, M, rfl, hu, ht2, hl2, hbf⟩
          obtain rfl : M = L := tw_uniq p1 ht2 HT.out (rt_start HA.out.op HA.out.nz HA.out.fr) (by rw [hl2, Hl.out])
          have hBf : Below w.heap.size w wf := Below.after hBe hbf
          have hzf := hBf.size
          have HV2 := Lib.hid (HV.out.below hbf)
          have HU := Lib.hid (hu.mono (B' := w.heap.size) (by have := hBe.size; omega))
          have hlm : M.length ≤ 13 := by rw [hl2]; exact hK2
          clear hbf hBe hu HV ht2 hl2
          go_wp2_with fail
          refine (laws_sameInts _ _ _ _ _ _ (by omega) HV2.out HU.out).mono ?_
          rintro e wg ⟨rfl, hbg⟩
          have hBg : Below w.heap.size w wg := Below.after hBf hbg
          have hU2 := HU.out.below hbg
          obtain ⟨pu, cu, rfl, _, _⟩ := hU2.view
          have HU2 := Lib.hid hU2
          clear hbg hBf HV2 HU hU2
          go_wp2_with fail
          go_loopw [27, 173] (fun q i wr => ∃ (j : Nat) (Q : Int), q = .int .i64 Q ∧ i = .int .i64 j ∧ j ≤ M.length ∧ Q = p ^ j ∧ Ints wr w.heap.size (.slice pu M.length cu) M ∧ Below w.heap.size w wr) (fun _ i _ => M.length - (intOf i).toNat)
          case atStart => exact ⟨0, 1, rfl, rfl, by omega, by simp, HU2.out, hBg⟩
          case round =>
            obtain ⟨j, Q, rfl, rfl, hj, hQ, hown, hB⟩ := hrel
            have hzr := hB.size
            have HQ := Lib.hid hQ
            have HO := Lib.hid hown
            clear hQ hown HU2 hBg
            by_cases hlt : j < M.length
            · have hat := tw_at HA.out HT.out Hl.out hlt
              rw [← HQ.out] at hat
              obtain ⟨q1, q2, q3, z0, z1, z2⟩ := hat
              have HN := Lib.hid q3
              clear q3
              have hQle : Q ≤ 1000000 := by
                have := Int.mul_le_mul_of_nonneg_left p1 (show 0 ≤ Q by omega)
                omega
              obtain ⟨g, rfl, _, hg1, hc, _⟩ := HO.out.read j hlt
              cases j with
              | zero =>
                have hQ1 : Q = 1 := by rw [HQ.out]; exact Int.pow_zero p
                subst hQ1
                rw [Int.one_mul] at q2 z1 z2 HN
                obtain ⟨z, hz⟩ : ∃ z, M[0] = z := ⟨_, rfl⟩
                rw [hz] at z0 z1 z2 hc
                obtain ⟨zz0, zz1⟩ := z_bd (b := b) z0 z1 q2
                have z3 : (z * z - b).tmod p = 0 := Int.tmod_eq_zero_of_dvd (Int.dvd_of_emod_eq_zero z2)
                have HN2 := Lib.hid HN.out
                clear z2 hz
                go_wp2_with fail
                go_roundw
                case rel => exact ⟨1, p, rfl, rfl, by omega, HN2.out.symm, HO.out, hB⟩
                case measure => simp [intOf]; omega
              | succ i =>
                obtain ⟨hr, ha, hpw⟩ := tw_step HA.out HT.out Hl.out hlt
                obtain ⟨g', e', _, hg2, hc2, _⟩ := HO.out.read i (by omega)
                injection e' with e'
                injection e' with e'
                subst e'
                have hzy := ha.2.2.2
                rw [← HQ.out] at hzy
                obtain ⟨z, hz⟩ : ∃ z, M[i + 1] = z := ⟨_, rfl⟩
                obtain ⟨y, hy⟩ : ∃ y, M[i]'(by omega) = y := ⟨_, rfl⟩
                rw [hz] at z0 z1 z2 hc ha hzy
                rw [hy] at hr ha hc2 hzy
                obtain ⟨zz0, zz1⟩ := z_bd (b := b) z0 z1 q2
                have z3 : (z * z - b).tmod (Q * p) = 0 := Int.tmod_eq_zero_of_dvd (Int.dvd_of_emod_eq_zero z2)
                have Hr := Lib.hid hr
                have Ha := Lib.hid ha
                have Hpw := Lib.hid hpw
                have Hzy := Lib.hid hzy
                have Hy := Lib.hid hy
                have HN2 := Lib.hid (show Q * p = p ^ (i + 1 + 1) from HN.out.symm)
                clear z2 hz hy hr ha hpw hzy HN
                have ei : ((i + 1 : Nat) : Int) - 1 = (i : Int) := by omega
                go_wp2_with fail
                refine (impl_LiftRoot b p y z (i + 1) _ HA.out.gb HA.out.op HA.out.nz (by omega) (by omega) Hpw.out Hr.out Ha.out).mono ?_
                rintro e wh ⟨rfl, hbh⟩
                have hBh : Below w.heap.size w wh := Below.after hB hbh
                have HO2 := Lib.hid (HO.out.below hbh)
                have hzh := hBh.size
                obtain ⟨g', e', _, hg3, hc3, _⟩ := HO2.out.read i (by omega)
                injection e' with e'
                injection e' with e'
                subst e'
                have q0 : ∀ x : Aft wh, x.w.cell? ⟨g, i, none⟩ = some (.int .i64 y) := fun x => x.cell (by omega) (by rw [← Hy.out]; exact hc3)
                have g1 : (z.tmod Q != y) = false := bneF (by rw [Int.tmod_eq_emod_of_nonneg z0]; exact Hzy.out)
                have g2 : (z % Q != y) = false := bneF Hzy.out
                have g3 : ¬ Q = 0 := by omega
                clear hbh hB HO hc hc2 hc3
                go_wp2_with fail
                refine region_aft (by kernel_rfl) (by kernel_rfl) ?_
                repeat go_big_quiet_step (fail)
                refine wpQuiet_nil ?_
                intro w2 hb2
                have hB2 : Below w.heap.size w w2 := Below.after hBh hb2
                have HO3 := Lib.hid (HO2.out.below hb2)
                clear hb2 hBh q0 HO2 g1 g2
                go_wp2_with fail
                go_roundw
                case rel => exact ⟨i + 1 + 1, Q * p, rfl, by go_num, by omega, HN2.out, HO3.out, hB2⟩
                case measure => simp [intOf]; omega
            · obtain rfl : j = M.length := by omega
              go_wp2_with fail
              go_ret
              exact ⟨rfl, hB⟩
        · have hno : ∀ x (K : Nat), k = K → TwA b p x K → False := fun x K h1 h2 => hT ⟨x, K, h1, h2⟩
          have Hno := Lib.hid hno
          clear hno hT
          go_wp2_with fail
          refine (impl_Tower_no b p k _ p1 p2 k1 k2 Hno.out).mono ?_
          rintro e we ⟨v, rfl, hv, hbe⟩
          have hBe : Below w.heap.size w we := Below.after hBd hbe
          obtain ⟨pv, cv, rfl, _, _⟩ := hv.view
          have HV := Lib.hid hv
          clear hbe hBd hv
          go_wp2_with fail
          refine (spec_Tower_no b p k _ p1 p2 k1 k2 Hno.out).mono ?_
          rintro e wf ⟨rfl, rfl⟩
          go_wp2_with fail
          refine (laws_sameInts [] _ _ _ 0 _ (by simp) HV.out (Ints.nil _ _)).mono ?_
          rintro e wg ⟨rfl, hbg⟩
          have hBg : Below w.heap.size w wg := Below.after hBe hbg
          clear hbg HV hBe
          go_wp2_with fail
          go_loopw [27, 173] (fun q i wr => q = .int .i64 1 ∧ i = .int .i64 0 ∧ Below w.heap.size w wr) (fun _ _ _ => 0)
          case atStart => exact ⟨rfl, rfl, hBg⟩
          case round =>
            obtain ⟨rfl, rfl, hB⟩ := hrel
            go_wp2_with fail
            go_ret
            exact ⟨rfl, hB⟩
end Go.Proofs.Ytiblpagbloflhaa
