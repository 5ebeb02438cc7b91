/- The law FnNorms. -/
import Derived.Test.YtiblpagbloflhaaDP
namespace Go.Proofs.Ytiblpagbloflhaa
set_option linter.unusedVariables false
open Go.ChangeShapes Go.WideShapes Go.ChangeAt Go.RowKit

theorem isRow_lenN {k : IntKind} {W : World} {a : Option Addr} {len cap : Nat} {zs : List Int} (h : IsRow k W a len cap zs) : len ≤ maxLen := by
  rcases h with ⟨_, rfl, _⟩ | ⟨x, _, h1, h2, _⟩
  · exact Nat.zero_le _
  · omega
theorem Ints.anyB {w w' : World} {B : Nat} {v : Value} {l : List Int} (h : Ints w B v l) (hb : Below w.heap.size w w') : Ints w' B v l := h.below hb
set_option maxRecDepth 100000 in
set_option maxHeartbeats 4000000 in
theorem walkNorms (a0 : Option Addr) (len0 cap0 : Nat) (z0 : List Int) (a1 : Option Addr) (len1 cap1 : Nat) (z1 : List Int) (w : World) (w0 : IsRow .u8 w a0 len0 cap0 z0) (w1 : IsRow .u8 w a1 len1 cap1 z1) :
    Calls Try.prog 12 #[.slice a0 len0 cap0, .slice a1 len1 cap1] w fun e w' => e = .returned (.bool true) ∧ Below w.heap.size w w' := by
  have l0 := isRow_lenN w0
  have l1 := isRow_lenN w1
  cases hv : (decide (1048576 < (len0 : Int)) || decide (1048576 - (len0 : Int) < (len1 : Int))) with
  | true =>
    have Hv := Lib.hid hv
    clear hv w0 w1
    go_enter Try.func12, Try.ntmps12
    go_wp2_with fail
    refine (laws_big _ _ _ _ _ _ true _ l0 l1 Hv.out).mono ?_
    rintro e w' ⟨rfl, rfl⟩
    go_wp2_with fail
    go_ret
    exact ⟨rfl, by go_grown⟩
  | false =>
    have h2 : len0 ≤ 1048576 ∧ len1 ≤ 1048576 := by simp at hv; omega
    have HA := Lib.hid (bytes_of w0 h2.1)
    have HB := Lib.hid (bytes_of w1 h2.2)
    have Hv := Lib.hid hv
    clear hv w0 w1 h2
    go_enter Try.func12, Try.ntmps12
    go_wp2_with fail
    refine (laws_big _ _ _ _ _ _ false _ l0 l1 Hv.out).mono ?_
    rintro e w' ⟨rfl, rfl⟩
    go_wp2_with fail
    refine (draw_Norm _ _ HA.out).mono ?_
    rintro e wa ⟨n, m, r, rfl, _, _, _, hBa⟩
    clear HA
    cases hE : nfB n m r with
    | false =>
      have HE := Lib.hid hE
      clear hE
      go_wp2_with fail
      refine (impl_NF_no n m r _ HE.out).mono ?_
      rintro e wb ⟨rfl, hbb⟩
      have hBb : Below w.heap.size w wb := Below.after hBa hbb
      clear hbb hBa
      go_wp2_with fail
      refine (spec_NF_no n m r _ HE.out).mono ?_
      rintro e wc ⟨rfl, hbc⟩
      have hBk : Below w.heap.size w wc := Below.after hBb hbc
      clear hbc hBb
      have hzk := hBk.size
      have HB1 := Lib.hid (HB.out.low (by omega) hBk)
      clear HB
      go_wp2_with fail
      refine (draw_SqR _ _ (HB1.out.mono (by omega))).mono ?_
      rintro e wd ⟨c, k, rfl, hc64, hk64, hbd⟩
      have hBd : Below w.heap.size w wd := Below.after hBk hbd
      have hzd := hBd.size
      obtain ⟨c1, c2⟩ := hc64
      clear hbd hBk HB1 hk64
      cases hq : sqrB c k with
      | false =>
        have Hq := Lib.hid hq
        clear hq
        go_wp2_with fail
        refine (impl_SqR_no c k _ c1 c2 Hq.out).mono ?_
        rintro e we ⟨v, rfl, hv, hbe⟩
        have hBe : Below w.heap.size w we := Below.after hBd hbe
        obtain ⟨p, cap, rfl, _, _⟩ := hv.view
        have HV := Lib.hid hv
        clear hbe hBd hv
        go_wp2_with fail
        refine (spec_SqR_no c k _ Hq.out).mono ?_
        rintro e wf ⟨rfl, rfl⟩
        go_wp2_with fail
        refine (laws_sameInts [] _ _ _ 0 _ (by simp) HV.out (Ints.nil _ _)).mono ?_
        rintro e wg ⟨rfl, hbg⟩
        have hBg : Below w.heap.size w wg := Below.after hBe hbg
        clear hbg
        go_wp2_with fail
        go_ret
        exact ⟨rfl, hBg⟩
      | true =>
        obtain ⟨⟨y1, y2⟩, y3, y4⟩ := sqrB_yes hq
        have Hq := Lib.hid hq
        clear hq
        have hlen := qL_len c k k.toNat
        go_wp2_with fail
        refine (impl_SqR_yes c k _ Hq.out).mono ?_
        rintro e we ⟨v, rfl, hv, hbe⟩
        have hBe : Below w.heap.size w we := Below.after hBd hbe
        have HV := Lib.hid hv
        clear hbe hBd hv
        go_wp2_with fail
        refine (spec_SqR_yes c k _ Hq.out).mono ?_
        rintro e wf ⟨u, rfl, hu, hbf⟩
        have hBf : Below w.heap.size w wf := Below.after hBe hbf
        have HV2 := Lib.hid (HV.out.below hbf)
        have HU := Lib.hid hu
        clear hbf hBe hu HV
        go_wp2_with fail
        refine (laws_sameInts _ _ _ _ _ _ (by omega) HV2.out HU.out).mono ?_
        rintro e wg ⟨rfl, hbg⟩
        have hBg : Below w.heap.size w wg := Below.after hBf hbg
        have HU2 := Lib.hid (HU.out.below hbg)
        clear hbg hBf HU HV2
        go_wp2_with fail
        refine (impl_QR_yes c k _ Hq.out).mono ?_
        rintro e wh ⟨v2, rfl, hv2, hbh⟩
        have hBh : Below w.heap.size w wh := Below.after hBg hbh
        have HU3 := Lib.hid (HU2.out.below hbh)
        have HV3 := Lib.hid hv2
        clear hbh hBg HU2 hv2
        go_wp2_with fail
        refine (laws_sameInts _ _ _ _ _ _ (by omega) HV3.out HU3.out).mono ?_
        rintro e wi ⟨rfl, hbi⟩
        have hBi : Below w.heap.size w wi := Below.after hBh hbi
        clear hbi
        go_wp2_with fail
        go_ret
        exact ⟨rfl, hBi⟩
    | true =>
      obtain ⟨⟨x, y, b⟩, hres⟩ : ∃ t, nfL n m (euT m.toNat r.toNat) = t := ⟨_, rfl⟩
      have HE := Lib.hid hE
      have Hres := Lib.hid hres
      go_wp2_with fail
      refine (impl_NF_yes n m r x y b _ HE.out Hres.out).mono ?_
      rintro e wb ⟨rfl, hbb⟩
      have hBb : Below w.heap.size w wb := Below.after hBa hbb
      clear hbb hBa
      go_wp2_with fail
      refine (spec_NF_yes n m r x y b _ HE.out Hres.out).mono ?_
      rintro e wc ⟨rfl, hbc⟩
      have hBc : Below w.heap.size w wc := Below.after hBb hbc
      clear hbc hBb
      cases b with
      | false =>
        have hBk := hBc
        clear hBc hE hres
        have hzk := hBk.size
        have HB1 := Lib.hid (HB.out.low (by omega) hBk)
        clear HB
        go_wp2_with fail
        refine (draw_SqR _ _ (HB1.out.mono (by omega))).mono ?_
        rintro e wd ⟨c, k, rfl, hc64, hk64, hbd⟩
        have hBd : Below w.heap.size w wd := Below.after hBk hbd
        have hzd := hBd.size
        obtain ⟨c1, c2⟩ := hc64
        clear hbd hBk HB1 hk64
        cases hq : sqrB c k with
        | false =>
          have Hq := Lib.hid hq
          clear hq
          go_wp2_with fail
          refine (impl_SqR_no c k _ c1 c2 Hq.out).mono ?_
          rintro e we ⟨v, rfl, hv, hbe⟩
          have hBe : Below w.heap.size w we := Below.after hBd hbe
          obtain ⟨p, cap, rfl, _, _⟩ := hv.view
          have HV := Lib.hid hv
          clear hbe hBd hv
          go_wp2_with fail
          refine (spec_SqR_no c k _ Hq.out).mono ?_
          rintro e wf ⟨rfl, rfl⟩
          go_wp2_with fail
          refine (laws_sameInts [] _ _ _ 0 _ (by simp) HV.out (Ints.nil _ _)).mono ?_
          rintro e wg ⟨rfl, hbg⟩
          have hBg : Below w.heap.size w wg := Below.after hBe hbg
          clear hbg
          go_wp2_with fail
          go_ret
          exact ⟨rfl, hBg⟩
        | true =>
          obtain ⟨⟨y1, y2⟩, y3, y4⟩ := sqrB_yes hq
          have Hq := Lib.hid hq
          clear hq
          have hlen := qL_len c k k.toNat
          go_wp2_with fail
          refine (impl_SqR_yes c k _ Hq.out).mono ?_
          rintro e we ⟨v, rfl, hv, hbe⟩
          have hBe : Below w.heap.size w we := Below.after hBd hbe
          have HV := Lib.hid hv
          clear hbe hBd hv
          go_wp2_with fail
          refine (spec_SqR_yes c k _ Hq.out).mono ?_
          rintro e wf ⟨u, rfl, hu, hbf⟩
          have hBf : Below w.heap.size w wf := Below.after hBe hbf
          have HV2 := Lib.hid (HV.out.below hbf)
          have HU := Lib.hid hu
          clear hbf hBe hu HV
          go_wp2_with fail
          refine (laws_sameInts _ _ _ _ _ _ (by omega) HV2.out HU.out).mono ?_
          rintro e wg ⟨rfl, hbg⟩
          have hBg : Below w.heap.size w wg := Below.after hBf hbg
          have HU2 := Lib.hid (HU.out.below hbg)
          clear hbg hBf HU HV2
          go_wp2_with fail
          refine (impl_QR_yes c k _ Hq.out).mono ?_
          rintro e wh ⟨v2, rfl, hv2, hbh⟩
          have hBh : Below w.heap.size w wh := Below.after hBg hbh
          have HU3 := Lib.hid (HU2.out.below hbh)
          have HV3 := Lib.hid hv2
          clear hbh hBg HU2 hv2
          go_wp2_with fail
          refine (laws_sameInts _ _ _ _ _ _ (by omega) HV3.out HU3.out).mono ?_
          rintro e wi ⟨rfl, hbi⟩
          have hBi : Below w.heap.size w wi := Below.after hBh hbi
          clear hbi
          go_wp2_with fail
          go_ret
          exact ⟨rfl, hBi⟩
      | true =>
        obtain ⟨hg, ⟨n1, n2⟩, ⟨m1, m2⟩, r1, r2, hr⟩ := nfB_yes hE
        obtain ⟨hin, heq, hny, hy0, hyy⟩ := nfL_ok n1 (by omega) _ x y hres
        have hRM : r.toNat ≤ m.toNat := by omega
        have hx := euT_mem hRM hin
        have hlen := euT_len hRM (by omega)
        have hx2 : 0 ≤ x * x := sqn x
        have hy2 : y ≤ 1000 := by
          rcases Int.lt_or_le 1000 y with h | h
          · have := Int.mul_le_mul (show 1001 ≤ y by omega) (show 1001 ≤ y by omega) (by omega) hy0
            omega
          · exact h
        have a1 : 0 ≤ n * y := Int.mul_nonneg (by omega) hy0
        have a2 : n * y ≤ 1000000 * 1000 := Int.mul_le_mul n2 hy2 hy0 (by omega)
        have e3 : n * y * y = n * (y * y) := Int.mul_assoc n y y
        have e4 : (x * x + n * y * y != m) = false := by
          rw [e3, heq]
          simp
        have em : ((m.toNat : Nat) : Int) = m := by omega
        have er : ((r.toNat : Nat) : Int) = r := by omega
        have b1 : 0 ≤ n * y * y := by omega
        have b2 : n * y * y ≤ 1000000 := by omega
        have b3 : x * x ≤ 1000000 := by omega
        have hEu := fun w => impl_EuclidRem m.toNat r.toNat w hRM (by omega) (by omega)
        rw [em, er] at hEu
        have HEu := Lib.hid hEu
        have Hin := Lib.hid (decide_eq_true hin)
        clear hE hres hg hr hin heq hEu em er e3 hx hny hyy
        go_wp2_with fail
        refine (HEu.out _).mono ?_
        rintro e wd ⟨v, rfl, hv, hbd⟩
        have hBk : Below w.heap.size w wd := Below.after hBc hbd
        have HV := Lib.hid hv
        clear hbd hBc hv
        go_wp2_with fail
        refine (laws_qIn _ x v true _ _ HV.out (by omega) Hin.out).mono ?_
        rintro e w' ⟨rfl, rfl⟩
        clear HV HEu Hin
        have hzk := hBk.size
        have HB1 := Lib.hid (HB.out.low (by omega) hBk)
        clear HB
        go_wp2_with fail
        refine (draw_SqR _ _ (HB1.out.mono (by omega))).mono ?_
        rintro e wd ⟨c, k, rfl, hc64, hk64, hbd⟩
        have hBd : Below w.heap.size w wd := Below.after hBk hbd
        have hzd := hBd.size
        obtain ⟨c1, c2⟩ := hc64
        clear hbd hBk HB1 hk64
        cases hq : sqrB c k with
        | false =>
          have Hq := Lib.hid hq
          clear hq
          go_wp2_with fail
          refine (impl_SqR_no c k _ c1 c2 Hq.out).mono ?_
          rintro e we ⟨v, rfl, hv, hbe⟩
          have hBe : Below w.heap.size w we := Below.after hBd hbe
          obtain ⟨p, cap, rfl, _, _⟩ := hv.view
          have HV := Lib.hid hv
          clear hbe hBd hv
          go_wp2_with fail
          refine (spec_SqR_no c k _ Hq.out).mono ?_
          rintro e wf ⟨rfl, rfl⟩
          go_wp2_with fail
          refine (laws_sameInts [] _ _ _ 0 _ (by simp) HV.out (Ints.nil _ _)).mono ?_
          rintro e wg ⟨rfl, hbg⟩
          have hBg : Below w.heap.size w wg := Below.after hBe hbg
          clear hbg
          go_wp2_with fail
          go_ret
          exact ⟨rfl, hBg⟩
        | true =>
          obtain ⟨⟨y1, y2⟩, y3, y4⟩ := sqrB_yes hq
          have Hq := Lib.hid hq
          clear hq
          have hlen := qL_len c k k.toNat
          go_wp2_with fail
          refine (impl_SqR_yes c k _ Hq.out).mono ?_
          rintro e we ⟨v, rfl, hv, hbe⟩
          have hBe : Below w.heap.size w we := Below.after hBd hbe
          have HV := Lib.hid hv
          clear hbe hBd hv
          go_wp2_with fail
          refine (spec_SqR_yes c k _ Hq.out).mono ?_
          rintro e wf ⟨u, rfl, hu, hbf⟩
          have hBf : Below w.heap.size w wf := Below.after hBe hbf
          have HV2 := Lib.hid (HV.out.below hbf)
          have HU := Lib.hid hu
          clear hbf hBe hu HV
          go_wp2_with fail
          refine (laws_sameInts _ _ _ _ _ _ (by omega) HV2.out HU.out).mono ?_
          rintro e wg ⟨rfl, hbg⟩
          have hBg : Below w.heap.size w wg := Below.after hBf hbg
          have HU2 := Lib.hid (HU.out.below hbg)
          clear hbg hBf HU HV2
          go_wp2_with fail
          refine (impl_QR_yes c k _ Hq.out).mono ?_
          rintro e wh ⟨v2, rfl, hv2, hbh⟩
          have hBh : Below w.heap.size w wh := Below.after hBg hbh
          have HU3 := Lib.hid (HU2.out.below hbh)
          have HV3 := Lib.hid hv2
          clear hbh hBg HU2 hv2
          go_wp2_with fail
          refine (laws_sameInts _ _ _ _ _ _ (by omega) HV3.out HU3.out).mono ?_
          rintro e wi ⟨rfl, hbi⟩
          have hBi : Below w.heap.size w wi := Below.after hBh hbi
          clear hbi
          go_wp2_with fail
          go_ret
          exact ⟨rfl, hBi⟩
end Go.Proofs.Ytiblpagbloflhaa
