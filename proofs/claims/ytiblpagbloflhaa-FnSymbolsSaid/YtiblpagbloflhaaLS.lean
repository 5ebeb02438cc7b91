/- The walk of the law: symbols, the count of Gauss, signs of permutations. -/
import Derived.Test.YtiblpagbloflhaaSP
import Derived.Test.YtiblpagbloflhaaDR
namespace Go.Proofs.Ytiblpagbloflhaa
set_option linter.unusedVariables false
open Go.ChangeShapes Go.WideShapes Go.ChangeAt Go.RowKit

theorem isRow_len {k : IntKind} {W : World} {a : Option Addr} {len cap : Nat} {zs : List Int} (h : IsRow k W a len cap zs) : len ≤ maxLen := by
  rcases h with ⟨_, rfl, _⟩ | ⟨x, _, h1, h2, _⟩
  · unfold maxLen; omega
  · omega
theorem leg_zero {a : Int} {k : Nat} (hk : 1 ≤ k) (h : J a (2 * k + 1) ≠ 0) : a % (2 * (k : Int) + 1) ≠ 0 ∧ J a (2 * k + 1) = 1 - 2 * (((gauss k a : Nat) : Int) % 2) := by
  have hJ := J_law a k
  by_cases hg : Int.gcd a (2 * k + 1) = 1
  · rw [if_pos hg] at hJ
    refine ⟨fun e => ?_, ?_⟩
    · have h1 : (2 * (k : Int) + 1) ∣ a := Int.dvd_of_emod_eq_zero e
      have h2 : Int.gcd a (2 * k + 1) = (2 * (k : Int) + 1).natAbs := by
        rw [Int.gcd_comm]; exact Int.gcd_eq_natAbs_left h1
      omega
    · rw [hJ]
      unfold sgn
      split <;> omega
  · rw [if_neg hg] at hJ
    exact absurd hJ h
set_option maxRecDepth 100000 in
set_option maxHeartbeats 1000000 in
theorem walkSymbols (a0 : Option Addr) (len0 cap0 : Nat) (z0 : List Int) (a1 : Option Addr) (len1 cap1 : Nat) (z1 : List Int) (w : World) (w0 : IsRow .u8 w a0 len0 cap0 z0) (w1 : IsRow .u8 w a1 len1 cap1 z1) :
    Calls Try.prog 11 #[.slice a0 len0 cap0, .slice a1 len1 cap1] w fun e w' => e = .returned (.bool true) ∧ Below w.heap.size w w' := by
  have l0 := isRow_len w0
  have l1 := isRow_len w1
  cases hv : (decide (1048576 < (len0 : Int)) || decide (1048576 - (len0 : Int) < (len1 : Int))) with
  | true =>
    have Hv := Lib.hid hv
    clear hv w0 w1
    go_enter Try.func11, Try.ntmps11
    go_wp2_with fail
    refine (laws_big _ _ _ _ _ _ true _ l0 l1 Hv.out).mono ?_
    rintro e w' ⟨rfl, rfl⟩
    go_wp2_with fail
    go_ret
    exact ⟨rfl, by go_grown⟩
  | false =>
    have h2 : len0 ≤ 1048576 ∧ len1 ≤ 1048576 := by simp at hv; omega
    have HA := Lib.hid (bytes_of w0 h2.1)
    have HB := Lib.hid (bytes_of w1 h2.2)
    have Hv := Lib.hid hv
    clear hv w0 w1 h2
    go_enter Try.func11, Try.ntmps11
    go_wp2_with fail
    refine (laws_big _ _ _ _ _ _ false _ l0 l1 Hv.out).mono ?_
    rintro e w' ⟨rfl, rfl⟩
    go_wp2_with fail
    refine (draw_Leg _ _ HA.out).mono ?_
    rintro e wa ⟨a, p, rfl, ha64, hp64, hBa⟩
    clear HA
    cases hl : legB a p with
    | false =>
      have HL := Lib.hid hl
      clear hl
      go_wp2_with fail
      refine (impl_Leg_no a p _ HL.out).mono ?_
      rintro e wb ⟨rfl, hbb⟩
      have hBb : Below w.heap.size w wb := Below.after hBa hbb
      clear hbb hBa
      go_wp2_with fail
      refine (spec_Leg_no a p _ HL.out).mono ?_
      rintro e wc ⟨rfl, hbc⟩
      have hBk : Below w.heap.size w wc := Below.after hBb hbc
      have hzk := hBk.size
      clear hbc hBb
      have HB1 := Lib.hid (HB.out.low (by omega) hBk)
      clear HB
      go_wp2_with fail
      refine (draw_Perm _ _ (HB1.out.mono (by omega))).mono ?_
      rintro e wd ⟨b, n, rfl, hb64, hn64, hbd⟩
      have hBd : Below w.heap.size w wd := Below.after hBk hbd
      clear hbd hBk HB1
      cases hp : permB b n with
      | true =>
        have hp1 := (perm_yes hp).1
        have hp2 := (perm_yes hp).2.1
        have HP := Lib.hid hp
        have HP1 := Lib.hid hp1
        have HP2 := Lib.hid hp2
        obtain ⟨s, hs⟩ : ∃ s, J b n = s := ⟨_, rfl⟩
        clear hp hp1 hp2
        go_wp2_with fail
        refine (impl_Perm_yes b n _ HP.out).mono ?_
        rintro e we ⟨rfl, hbe⟩
        have hBe : Below w.heap.size w we := Below.after hBd hbe
        clear hbe hBd
        go_wp2_with fail
        refine (spec_Perm_yes b n _ HP.out).mono ?_
        rintro e wf ⟨rfl, hbf⟩
        have hBf : Below w.heap.size w wf := Below.after hBe hbf
        clear hbf hBe
        go_wp2_with fail
        refine (impl_Jac_yes b n _ HP1.out HP2.out).mono ?_
        rintro e wg ⟨rfl, hbg⟩
        have hBg : Below w.heap.size w wg := Below.after hBf hbg
        clear hbg hBf
        go_wp2_with fail
        go_ret
        exact ⟨by simp, hBg⟩
      | false =>
        have HP := Lib.hid hp
        clear hp
        go_wp2_with fail
        refine (impl_Perm_no b n _ HP.out).mono ?_
        rintro e we ⟨rfl, hbe⟩
        have hBe : Below w.heap.size w we := Below.after hBd hbe
        clear hbe hBd
        go_wp2_with fail
        refine (spec_Perm_no b n _ HP.out).mono ?_
        rintro e wf ⟨rfl, hbf⟩
        have hBf : Below w.heap.size w wf := Below.after hBe hbf
        clear hbf hBe
        go_wp2_with fail
        go_ret
        exact ⟨rfl, hBf⟩
    | true =>
      obtain ⟨h1, h2⟩ : good a = true ∧ oddPrimeB p = true := by unfold legB at hl; simpa using hl
      obtain ⟨k, hk, hk1, hk2⟩ := oddPrime_half h2
      have HL := Lib.hid hl
      have hpg : good p = true := by unfold oddPrimeB at h2; simp only [Bool.and_eq_true] at h2; exact h2.1.2
      have HM := Lib.hid (show oddM p = true from oddM_iff.2 ⟨good_iff.1 hpg, by omega, by omega⟩)
      have HK := Lib.hid (show good2 a p = true by unfold good2; rw [h1, hpg]; rfl)
      have Hkr := Lib.hid (kron_odd (a := a) (n := p) (by omega) (by omega))
      have H1 := Lib.hid h1
      have H2 := Lib.hid h2
      obtain ⟨l, hle⟩ : ∃ l, J a p = l := ⟨_, rfl⟩
      have Hle := Lib.hid hle
      have Hz := Lib.hid (fun hne : J a (2 * (k : Int) + 1) ≠ 0 => leg_zero hk1 hne)
      have Hk := Lib.hid hk
      have p1 : 3 ≤ p := by omega
      have p2 : p ≤ 1000001 := by omega
      clear hl h1 h2 hle hk hpg
      go_wp2_with fail
      refine (impl_Leg_yes a p _ HL.out).mono ?_
      rintro e wb ⟨rfl, hbb⟩
      have hBb : Below w.heap.size w wb := Below.after hBa hbb
      clear hbb hBa
      rw [Hle.out]
      go_wp2_with fail
      refine (spec_Leg_yes a p _ HL.out).mono ?_
      rintro e wc ⟨rfl, hbc⟩
      have hBc : Below w.heap.size w wc := Below.after hBb hbc
      clear hbc hBb
      rw [Hle.out]
      go_wp2_with fail
      refine (impl_Jac_yes a p _ H1.out HM.out).mono ?_
      rintro e wd ⟨rfl, hbd⟩
      have hBd : Below w.heap.size w wd := Below.after hBc hbd
      clear hbd hBc
      rw [Hle.out]
      go_wp2_with fail
      refine (impl_Kro_yes a p _ HK.out).mono ?_
      rintro e we ⟨rfl, hbe⟩
      have hBe : Below w.heap.size w we := Below.after hBd hbe
      clear hbe hBd
      rw [Hkr.out, Hle.out]
      by_cases hl0 : l = 0
      · subst hl0
        have hBk := hBe
        have hzk := hBk.size
        clear hBe
        have HB1 := Lib.hid (HB.out.low (by omega) hBk)
        clear HB
        go_wp2_with fail
        refine (draw_Perm _ _ (HB1.out.mono (by omega))).mono ?_
        rintro e wd ⟨b, n, rfl, hb64, hn64, hbd⟩
        have hBd : Below w.heap.size w wd := Below.after hBk hbd
        clear hbd hBk HB1
        cases hp : permB b n with
        | true =>
          have hp1 := (perm_yes hp).1
          have hp2 := (perm_yes hp).2.1
          have HP := Lib.hid hp
          have HP1 := Lib.hid hp1
          have HP2 := Lib.hid hp2
          obtain ⟨s, hs⟩ : ∃ s, J b n = s := ⟨_, rfl⟩
          clear hp hp1 hp2
          go_wp2_with fail
          refine (impl_Perm_yes b n _ HP.out).mono ?_
          rintro e we ⟨rfl, hbe⟩
          have hBe : Below w.heap.size w we := Below.after hBd hbe
          clear hbe hBd
          go_wp2_with fail
          refine (spec_Perm_yes b n _ HP.out).mono ?_
          rintro e wf ⟨rfl, hbf⟩
          have hBf : Below w.heap.size w wf := Below.after hBe hbf
          clear hbf hBe
          go_wp2_with fail
          refine (impl_Jac_yes b n _ HP1.out HP2.out).mono ?_
          rintro e wg ⟨rfl, hbg⟩
          have hBg : Below w.heap.size w wg := Below.after hBf hbg
          clear hbg hBf
          go_wp2_with fail
          go_ret
          exact ⟨by simp, hBg⟩
        | false =>
          have HP := Lib.hid hp
          clear hp
          go_wp2_with fail
          refine (impl_Perm_no b n _ HP.out).mono ?_
          rintro e we ⟨rfl, hbe⟩
          have hBe : Below w.heap.size w we := Below.after hBd hbe
          clear hbe hBd
          go_wp2_with fail
          refine (spec_Perm_no b n _ HP.out).mono ?_
          rintro e wf ⟨rfl, hbf⟩
          have hBf : Below w.heap.size w wf := Below.after hBe hbf
          clear hbf hBe
          go_wp2_with fail
          go_ret
          exact ⟨rfl, hBf⟩
      · have bl0 : (l != 0) = true := bneT hl0
        by_cases hp : p ≤ 10000
        · obtain ⟨k', hkk⟩ : ∃ k', k' = k := ⟨_, rfl⟩
          have hz := Hz.out (by rw [← Hk.out, Hle.out]; exact hl0)
          rw [← Hk.out, Hle.out] at hz
          obtain ⟨z1, z2⟩ := hz
          obtain ⟨g, hg⟩ : ∃ g : Nat, gauss k a = g := ⟨_, rfl⟩
          rw [hg] at z2
          have b1 : (l != 1 - 2 * ((g : Int) % 2)) = false := bneF z2
          have b2 : (l != 1 - 2 * ((g : Int).tmod 2)) = false := by rw [tmod2 (by omega)]; exact b1
          have Hg := Lib.hid hg
          have hG : ∀ w, Calls Try.prog 50 #[.int .i64 a, .int .i64 p] w fun e w' => e = .returned (.tuple #[.int .i64 (g : Int), .bool true]) ∧ Below w.heap.size w w' := fun w => by
            have h2 := H2.out
            have hp' := hp
            have z1' := z1
            rw [Hk.out] at h2 hp' z1'
            have := impl_Gauss a k w H1.out h2 (by omega) z1'
            rw [← Hk.out, Hg.out] at this
            exact this
          have HG := Lib.hid hG
          have hgl : g ≤ 10000 := by
            have : gauss k a ≤ k * 1 := by
              unfold gauss
              have key : ∀ m, sumN m (fun i => hng k (a * (i + 1 : Nat))) ≤ m * 1 := by
                intro m
                induction m with
                | zero => simp [sumN]
                | succ m ih =>
                  simp only [sumN]
                  have := hng_bd k (a * (m + 1 : Nat))
                  omega
              exact key k
            have := Hk.out
            omega
          have Hz2 := Lib.hid z2
          clear hG hg z1 z2 hkk
          go_wp2_with fail
          refine (HG.out _).mono ?_
          rintro e wf ⟨rfl, hbf⟩
          have hBk : Below w.heap.size w wf := Below.after hBe hbf
          have hzk := hBk.size
          clear hbf hBe
          have HB1 := Lib.hid (HB.out.low (by omega) hBk)
          clear HB
          go_wp2_with fail
          refine (draw_Perm _ _ (HB1.out.mono (by omega))).mono ?_
          rintro e wd ⟨b, n, rfl, hb64, hn64, hbd⟩
          have hBd : Below w.heap.size w wd := Below.after hBk hbd
          clear hbd hBk HB1
          cases hp : permB b n with
          | true =>
            have hp1 := (perm_yes hp).1
            have hp2 := (perm_yes hp).2.1
            have HP := Lib.hid hp
            have HP1 := Lib.hid hp1
            have HP2 := Lib.hid hp2
            obtain ⟨s, hs⟩ : ∃ s, J b n = s := ⟨_, rfl⟩
            clear hp hp1 hp2
            go_wp2_with fail
            refine (impl_Perm_yes b n _ HP.out).mono ?_
            rintro e we ⟨rfl, hbe⟩
            have hBe : Below w.heap.size w we := Below.after hBd hbe
            clear hbe hBd
            go_wp2_with fail
            refine (spec_Perm_yes b n _ HP.out).mono ?_
            rintro e wf ⟨rfl, hbf⟩
            have hBf : Below w.heap.size w wf := Below.after hBe hbf
            clear hbf hBe
            go_wp2_with fail
            refine (impl_Jac_yes b n _ HP1.out HP2.out).mono ?_
            rintro e wg ⟨rfl, hbg⟩
            have hBg : Below w.heap.size w wg := Below.after hBf hbg
            clear hbg hBf
            go_wp2_with fail
            go_ret
            exact ⟨by simp, hBg⟩
          | false =>
            have HP := Lib.hid hp
            clear hp
            go_wp2_with fail
            refine (impl_Perm_no b n _ HP.out).mono ?_
            rintro e we ⟨rfl, hbe⟩
            have hBe : Below w.heap.size w we := Below.after hBd hbe
            clear hbe hBd
            go_wp2_with fail
            refine (spec_Perm_no b n _ HP.out).mono ?_
            rintro e wf ⟨rfl, hbf⟩
            have hBf : Below w.heap.size w wf := Below.after hBe hbf
            clear hbf hBe
            go_wp2_with fail
            go_ret
            exact ⟨rfl, hBf⟩
        · have hBk := hBe
          have hzk := hBk.size
          clear hBe
          have HB1 := Lib.hid (HB.out.low (by omega) hBk)
          clear HB
          go_wp2_with fail
          refine (draw_Perm _ _ (HB1.out.mono (by omega))).mono ?_
          rintro e wd ⟨b, n, rfl, hb64, hn64, hbd⟩
          have hBd : Below w.heap.size w wd := Below.after hBk hbd
          clear hbd hBk HB1
          cases hp : permB b n with
          | true =>
            have hp1 := (perm_yes hp).1
            have hp2 := (perm_yes hp).2.1
            have HP := Lib.hid hp
            have HP1 := Lib.hid hp1
            have HP2 := Lib.hid hp2
            obtain ⟨s, hs⟩ : ∃ s, J b n = s := ⟨_, rfl⟩
            clear hp hp1 hp2
            go_wp2_with fail
            refine (impl_Perm_yes b n _ HP.out).mono ?_
            rintro e we ⟨rfl, hbe⟩
            have hBe : Below w.heap.size w we := Below.after hBd hbe
            clear hbe hBd
            go_wp2_with fail
            refine (spec_Perm_yes b n _ HP.out).mono ?_
            rintro e wf ⟨rfl, hbf⟩
            have hBf : Below w.heap.size w wf := Below.after hBe hbf
            clear hbf hBe
            go_wp2_with fail
            refine (impl_Jac_yes b n _ HP1.out HP2.out).mono ?_
            rintro e wg ⟨rfl, hbg⟩
            have hBg : Below w.heap.size w wg := Below.after hBf hbg
            clear hbg hBf
            go_wp2_with fail
            go_ret
            exact ⟨by simp, hBg⟩
          | false =>
            have HP := Lib.hid hp
            clear hp
            go_wp2_with fail
            refine (impl_Perm_no b n _ HP.out).mono ?_
            rintro e we ⟨rfl, hbe⟩
            have hBe : Below w.heap.size w we := Below.after hBd hbe
            clear hbe hBd
            go_wp2_with fail
            refine (spec_Perm_no b n _ HP.out).mono ?_
            rintro e wf ⟨rfl, hbf⟩
            have hBf : Below w.heap.size w wf := Below.after hBe hbf
            clear hbf hBe
            go_wp2_with fail
            go_ret
            exact ⟨rfl, hBf⟩
end Go.Proofs.Ytiblpagbloflhaa
