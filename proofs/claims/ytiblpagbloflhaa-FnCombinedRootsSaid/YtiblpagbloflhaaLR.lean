/- The walk of the law: the sums of Eisenstein and the proofs by reciprocity. -/
import Derived.Test.YtiblpagbloflhaaRI
import Derived.Test.YtiblpagbloflhaaEI
import Derived.Test.YtiblpagbloflhaaDR
namespace Go.Proofs.Ytiblpagbloflhaa
set_option linter.unusedVariables false
open Go.ChangeShapes Go.WideShapes Go.ChangeAt Go.RowKit

theorem isRow_len' {k : IntKind} {W : World} {a : Option Addr} {len cap : Nat} {zs : List Int} (h : IsRow k W a len cap zs) : len ≤ maxLen := by
  rcases h with ⟨_, rfl, _⟩ | ⟨x, _, h1, h2, _⟩
  · unfold maxLen; omega
  · omega
theorem prime_only {p d : Int} (hp : PrimeN p) (h2 : 2 ≤ d) (hd : d ∣ p) : d = p := by
  obtain ⟨e, he⟩ := hd
  obtain ⟨p2, hpd⟩ := hp
  have he0 : 0 < e := by
    refine Int.not_le.1 fun hc => ?_
    have := Int.mul_le_mul_of_nonneg_left hc (show 0 ≤ d by omega)
    rw [Int.mul_zero] at this
    omega
  by_cases h1 : e = 1
  · subst h1; omega
  · by_cases hdd : d * d ≤ p
    · exact absurd (by rw [he, Int.mul_emod_right]) (hpd d h2 hdd)
    · have hed : e < d := by
        refine Int.not_le.1 fun hc => hdd ?_
        rw [he]
        exact Int.mul_le_mul_of_nonneg_left hc (by omega)
      refine absurd ?_ (hpd e (by omega) ?_)
      · rw [he, Int.mul_emod_left]
      · rw [he]
        exact Int.mul_le_mul_of_nonneg_right (by omega) (by omega)
theorem oddPrime_prime {p : Int} (h : oddPrimeB p = true) : PrimeN p := by
  unfold oddPrimeB at h
  simp only [Bool.and_eq_true] at h
  refine Classical.byContradiction fun hn => ?_
  rw [primeB_false hn] at h
  cases h.2
theorem primes_cop {p q : Int} (hp : oddPrimeB p = true) (hq : oddPrimeB q = true) (hne : p ≠ q) : Int.gcd p q = 1 := by
  have h1 := oddPrime_prime hp
  have h2 := oddPrime_prime hq
  refine Classical.byContradiction fun hg => ?_
  have hp2 := h1.1
  have hg0 : Int.gcd p q ≠ 0 := fun e => by
    have := Int.gcd_eq_zero_iff.1 e
    omega
  have a1 := prime_only h1 (d := (Int.gcd p q : Int)) (by omega) (Int.gcd_dvd_left p q)
  have a2 := prime_only h2 (d := (Int.gcd p q : Int)) (by omega) (Int.gcd_dvd_right p q)
  omega
/-- both sums and both symbols -/
theorem eis_law {p q : Int} {h k : Nat} (hp : p = 2 * (h : Int) + 1) (hq : q = 2 * (k : Int) + 1) (hg : Int.gcd p q = 1) :
    eis q p h + eis p q k = h * k ∧ J q p = 1 - 2 * (((eis q p h : Nat) : Int) % 2) ∧ J p q = 1 - 2 * (((eis p q k : Nat) : Int) % 2) := by
  subst hp; subst hq
  have hg' : Int.gcd (2 * (k : Int) + 1) (2 * h + 1) = 1 := by rw [Int.gcd_comm]; exact hg
  refine ⟨eis_add hg', ?_, ?_⟩
  · rw [J_law, if_pos hg']
    have := gauss_eis hg' (by omega) (by omega)
    unfold sgn
    split <;> omega
  · rw [J_law, if_pos hg]
    have := gauss_eis hg (by omega) (by omega)
    unfold sgn
    split <;> omega
theorem Sts.setC {w : World} {B n cap g i : Nat} {l : List St} (h : Sts w B (.slice (some ⟨g, 0, none⟩) n cap) l) (hn : n = l.length) (hi : i < l.length) (c : Int) :
    Sts (w.setCell ⟨g, i * 3 + 2, none⟩ (.int .i64 c)) B (.slice (some ⟨g, 0, none⟩) n cap) (l.set i ⟨l[i].a, l[i].b, c⟩) ∧ w.grownBy (w.setCell ⟨g, i * 3 + 2, none⟩ (.int .i64 c)) (some g) := by
  subst hn
  obtain ⟨h1, h2⟩ := World.ownsRow.stored h (i * 3 + 2) (.int .i64 c)
  refine ⟨?_, h2⟩
  obtain ⟨e1, e2, e3⟩ := cellsS_get l i l[i] (by simp [hi])
  have key : ∀ (xs : List Value) (j : Nat) (v : Value), xs[j]? = some v → xs.set j v = xs := fun xs j v hx => by
    obtain ⟨hj, hv⟩ := List.getElem?_eq_some_iff.1 hx
    subst hv
    exact List.set_getElem_self hj
  unfold Sts
  rw [List.length_set, cellsS_set l i _ hi]
  have f1 : (cellsS l).set (i * 3) (.int .i64 l[i].a) = cellsS l := key _ _ _ e1
  have f2 : (cellsS l).set (i * 3 + 1) (.int .i64 l[i].b) = cellsS l := key _ _ _ e2
  show World.ownsRow _ _ _ _ _ _ ((((cellsS l).set (i * 3) (.int .i64 l[i].a)).set (i * 3 + 1) (.int .i64 l[i].b)).set (i * 3 + 2) (.int .i64 c))
  rw [f1, f2]
  exact h1
set_option maxRecDepth 100000 in
set_option maxHeartbeats 4000000 in
theorem walkReciprocity (a0 : Option Addr) (len0 cap0 : Nat) (z0 : List Int) (a1 : Option Addr) (len1 cap1 : Nat) (z1 : List Int) (w : World) (w0 : IsRow .u8 w a0 len0 cap0 z0) (w1 : IsRow .u8 w a1 len1 cap1 z1) :
    Calls Try.prog 10 #[.slice a0 len0 cap0, .slice a1 len1 cap1] w fun e w' => e = .returned (.bool true) ∧ Below w.heap.size w w' := by
  have l0 := isRow_len' w0
  have l1 := isRow_len' w1
  cases hv : (decide (1048576 < (len0 : Int)) || decide (1048576 - (len0 : Int) < (len1 : Int))) with
  | true =>
    have Hv := Lib.hid hv
    clear hv w0 w1
    go_enter Try.func10, Try.ntmps10
    go_wp2_with fail
    refine (laws_big _ _ _ _ _ _ true _ l0 l1 Hv.out).mono ?_
    rintro e w' ⟨rfl, rfl⟩
    go_wp2_with fail
    go_ret
    exact ⟨rfl, by go_grown⟩
  | false =>
    have h2 : len0 ≤ 1048576 ∧ len1 ≤ 1048576 := by simp at hv; omega
    have HA := Lib.hid (bytes_of w0 h2.1)
    have HB := Lib.hid (bytes_of w1 h2.2)
    have Hv := Lib.hid hv
    clear hv w0 w1 h2
    go_enter Try.func10, Try.ntmps10
    go_wp2_with fail
    refine (laws_big _ _ _ _ _ _ false _ l0 l1 Hv.out).mono ?_
    rintro e w' ⟨rfl, rfl⟩
    go_wp2_with fail
    refine (draw_Eis _ _ HA.out).mono ?_
    rintro e wa ⟨p, q, rfl, hp64, hq64, hBa⟩
    clear HA
    cases hE : eisB p q with
    | false =>
      have HE := Lib.hid hE
      clear hE
      go_wp2_with fail
      refine (impl_Eis_no p q _ HE.out).mono ?_
      rintro e wb ⟨rfl, hbb⟩
      have hBb : Below w.heap.size w wb := Below.after hBa hbb
      clear hbb hBa
      go_wp2_with fail
      refine (spec_Eis_no p q _ HE.out).mono ?_
      rintro e wc ⟨rfl, hbc⟩
      have hBk : Below w.heap.size w wc := Below.after hBb hbc
      clear hbc hBb
      have hzk := hBk.size
      have HB1 := Lib.hid (HB.out.low (by omega) hBk)
      clear HB
      go_wp2_with fail
      refine (draw_Rec _ _ (HB1.out.mono (by omega))).mono ?_
      rintro e wd ⟨b, n, rfl, hb64, hn64, hbd⟩
      have hBd : Below w.heap.size w wd := Below.after hBk hbd
      have hzd := hBd.size
      clear hbd hBk HB1
      obtain ⟨l, v, hrec⟩ := recOut_ex b n
      have HR := Lib.hid hrec
      clear hrec
      go_wp2_with fail
      refine (impl_RecProof b n l v _ HR.out).mono ?_
      rintro e we ⟨v1, rfl, h1, hbe⟩
      have hBe : Below w.heap.size w we := Below.after hBd hbe
      have hze := hBe.size
      have H1 := Lib.hid (h1.mono (B' := w.heap.size) hzd)
      clear hbe h1 hBd
      go_wp2_with fail
      refine (spec_RecProof b n l v _ HR.out).mono ?_
      rintro e wf ⟨v0, rfl, h0, hbf⟩
      have hBf : Below w.heap.size w wf := Below.after hBe hbf
      have hzf := hBf.size
      obtain ⟨p1, c1, rfl, hml, hr1⟩ := (H1.out.below hbf).view
      obtain ⟨p0, c0, rfl, hml0, hr0⟩ := h0.view
      have Hr1 := Lib.hid hr1
      have Hr0 := Lib.hid hr0
      have H0 := Lib.hid (h0.mono (B' := w.heap.size) hze)
      clear hbf h0 H1 hBe hr1 hr0 hml0
      have hml2 : (l.length : Int) ≤ 9223372036854775807 := by unfold maxLen at hml; omega
      clear hml
      go_wp2_with fail
      go_loopw [143] (fun i wr => (∃ k : Nat, i = .int .i64 k ∧ k ≤ l.length) ∧ Below wf.heap.size wf wr) (fun i _ => l.length - (intOf i).toNat)
      case atStart => exact ⟨⟨0, rfl, by omega⟩, Below.refl _ _⟩
      case round =>
        obtain ⟨⟨k, rfl, hk⟩, hB⟩ := hrel
        have hzr := hB.size
        by_cases hlt : k < l.length
        · obtain ⟨g, rfl, _, hg1, d0, d1, d2, _⟩ := Hr1.out k hlt
          obtain ⟨g', rfl, _, hg1', f0, f1, f2, _⟩ := Hr0.out k hlt
          rcases hx : l[k] with ⟨ta, tb, tc⟩
          rw [hx] at d0 d1 d2 f0 f1 f2
          have q0 : ∀ x : Aft wr, x.w.cell? ⟨g, k * 3, none⟩ = some (.int .i64 ta) := fun x => x.cell (by omega) ((hB.cell (p := ⟨g, k * 3, none⟩) hg1).trans d0)
          have q1 : ∀ x : Aft wr, x.w.cell? ⟨g, k * 3 + 1, none⟩ = some (.int .i64 tb) := fun x => x.cell (by omega) ((hB.cell (p := ⟨g, k * 3 + 1, none⟩) hg1).trans d1)
          have q2 : ∀ x : Aft wr, x.w.cell? ⟨g, k * 3 + 2, none⟩ = some (.int .i64 tc) := fun x => x.cell (by omega) ((hB.cell (p := ⟨g, k * 3 + 2, none⟩) hg1).trans d2)
          have q3 : ∀ x : Aft wr, x.w.cell? ⟨g', k * 3, none⟩ = some (.int .i64 ta) := fun x => x.cell (by omega) ((hB.cell (p := ⟨g', k * 3, none⟩) hg1').trans f0)
          have q4 : ∀ x : Aft wr, x.w.cell? ⟨g', k * 3 + 1, none⟩ = some (.int .i64 tb) := fun x => x.cell (by omega) ((hB.cell (p := ⟨g', k * 3 + 1, none⟩) hg1').trans f1)
          have q5 : ∀ x : Aft wr, x.w.cell? ⟨g', k * 3 + 2, none⟩ = some (.int .i64 tc) := fun x => x.cell (by omega) ((hB.cell (p := ⟨g', k * 3 + 2, none⟩) hg1').trans f2)
          clear d0 d1 d2 f0 f1 f2 hx
          go_wp2_with fail
          refine region_aft (by kernel_rfl) (by kernel_rfl) ?_
          repeat go_big_quiet_step (fail)
          refine wpQuiet_nil ?_
          intro w2 hb2
          have hB2 : Below wf.heap.size wf w2 := Below.after hB hb2
          clear hb2 hB q0 q1 q2 q3 q4 q5
          go_wp2_with fail
          go_roundw
          case rel => exact ⟨⟨k + 1, by go_num, by omega⟩, hB2⟩
          case measure => simp [intOf]; omega
        · obtain rfl : k = l.length := by omega
          have hBw : Below w.heap.size w wr := hBf.trans (hB.mono hzf)
          have H0' := Lib.hid (H0.out.below hB)
          clear hBf
          rcases HR.out with ⟨hg1, hg2, rfl, K, hK1, hK2, hll⟩ | ⟨_, rfl, hll⟩
          · have hlen : l.length = K + 1 := by rw [hll, itSL_len]
            rw [hlen]
            have hH0 := H0'.out
            rw [hlen, hll] at hH0
            obtain ⟨g, rfl, hgB, hgz, d0, d1, d2, hfz⟩ : ∃ g, p0 = some ⟨g, 0, none⟩ ∧ w.heap.size ≤ g ∧ g < wr.heap.size ∧ wr.cell? ⟨g, K * 3, none⟩ = some (.int .i64 (itS K ⟨b, n, 1⟩).a) ∧ wr.cell? ⟨g, K * 3 + 1, none⟩ = some (.int .i64 (itS K ⟨b, n, 1⟩).b) ∧ wr.cell? ⟨g, K * 3 + 2, none⟩ = some (.int .i64 (itS K ⟨b, n, 1⟩).c) ∧ ∀ j, wr.frozen? ⟨g, j, none⟩ = false := by
              obtain ⟨g, e, a1, a2, a3, a4, a5, a6⟩ := hH0.read K (by rw [itSL_len]; omega)
              rw [itSL_get] at a3 a4 a5
              exact ⟨g, e, a1, a2, a3, a4, a5, a6⟩
            rcases hs : itS K ⟨b, n, 1⟩ with ⟨ta, tb, tc⟩
            rw [hs] at d0 d1 d2
            have hok := okS_it (okS_start hg1 hg2) (oddM_iff.1 hg2).1.2 hK2 K (Nat.le_refl _)
            have hval := val_end hok hK2.1
            rw [hs] at hval hok
            have hc := hok.c1
            have hc1 : -1 ≤ tc := by have hc : tc = 1 ∨ tc = -1 := hc; omega
            have hc2 : tc ≤ 1 := by have hc : tc = 1 ∨ tc = -1 := hc; omega
            have HH0 := Lib.hid hH0
            have G1 := Lib.hid hg1
            have G2 := Lib.hid hg2
            have HK2 := Lib.hid hK2
            have Hs := Lib.hid hs
            have Hval := Lib.hid hval
            have ek : ((K + 1 : Nat) : Int) - 1 = (K : Int) := by omega
            have ek2 : (K : Int) + 1 - 1 = (K : Int) := by omega
            have z2 := hfz (K * 3 + 2)
            have Hone := Lib.hid (flS_one ⟨b, n, 1⟩ K)
            have Hneg := Lib.hid (flS_neg ⟨b, n, 1⟩ K)
            clear hg1 hg2 hK2 hs hok hval hH0 H0 H0' Hr1 Hr0 hfz hc hll hlen hB hzr
            go_wp2_with fail
            refine (impl_Jac_yes b n _ G1.out G2.out).mono ?_
            rintro e w2 ⟨rfl, hb2⟩
            have hB2 : Below w.heap.size w w2 := Below.after hBw hb2
            have hz2 := hB2.size
            have HH2 := Lib.hid (HH0.out.below hb2)
            have d0' := (hb2.cell (p := ⟨g, K * 3, none⟩) hgz).trans d0
            have d1' := (hb2.cell (p := ⟨g, K * 3 + 1, none⟩) hgz).trans d1
            have d2' := (hb2.cell (p := ⟨g, K * 3 + 2, none⟩) hgz).trans d2
            have hgz2 : g < w2.heap.size := Nat.lt_of_lt_of_le hgz hb2.size
            clear hb2 hBw d0 d1 d2 z2 HH0
            by_cases hta : ta = 0
            · have bta := beqT hta
              by_cases htb : 1 < tb
              · have Hj := Lib.hid (show J b n = 0 by rw [← Hval.out]; unfold valS; rw [if_pos ⟨hta, htb⟩])
                rw [Hj.out]
                clear hta
                go_wp2_with fail
                refine (impl_IsRP b n K 1 true _ w.heap.size _ _ G1.out G2.out HK2.out hK1 Hone.out (.inl ⟨rfl, rfl⟩) (HH2.out.alloc _)).mono ?_
                rintro e w5 ⟨rfl, hb5⟩
                have hB5 : Below w.heap.size w w5 := Below.after (hB2.alloc hz2 _) hb5
                have hz5 := hB5.size
                have hH5 := (HH2.out.alloc (.cells (cS ⟨ta, tb, tc⟩) 58)).below hb5
                have hbox : Holds w5 w2.heap.size (cS ⟨ta, tb, tc⟩) 58 := (Holds.new w2 _ _).below hb5
                have y0 : w5.cell? ⟨w2.heap.size, 0, none⟩ = some (.int .i64 ta) := Holds.cell hbox rfl
                have y1 : w5.cell? ⟨w2.heap.size, 1, none⟩ = some (.int .i64 tb) := Holds.cell hbox rfl
                have y2 : w5.cell? ⟨w2.heap.size, 2, none⟩ = some (.int .i64 tc) := Holds.cell hbox rfl
                have yf0 : w5.frozen? ⟨w2.heap.size, 0, none⟩ = false := Holds.free hbox
                have yf1 : w5.frozen? ⟨w2.heap.size, 1, none⟩ = false := Holds.free hbox
                have yf2 : w5.frozen? ⟨w2.heap.size, 2, none⟩ = false := Holds.free hbox
                obtain ⟨g5, e5, a1, a2, a3, a4, a5, a6⟩ := hH5.read K (by rw [itSL_len]; omega)
                injection e5 with e5
                injection e5 with e5
                subst e5
                rw [itSL_get, Hs.out] at a3 a4 a5
                have z2 := a6 (K * 3 + 2)
                obtain ⟨s1, s2⟩ := hH5.setC (i := K) (by rw [itSL_len]) (by rw [itSL_len]; omega) (-tc)
                have s1' : Sts (w5.setCell ⟨g, K * 3 + 2, none⟩ (.int .i64 (-tc))) w.heap.size (.slice (some ⟨g, 0, none⟩) (K + 1) c0) ((itSL ⟨b, n, 1⟩ (K + 1)).set K ⟨(itS K ⟨b, n, 1⟩).a, (itS K ⟨b, n, 1⟩).b, -(itS K ⟨b, n, 1⟩).c⟩) := by
                  have e1 : (itSL ⟨b, n, 1⟩ (K + 1))[K]'(by rw [itSL_len]; omega) = itS K ⟨b, n, 1⟩ := itSL_get _ _ _ _
                  rw [e1] at s1
                  rw [Hs.out] at s1 ⊢
                  exact s1
                have hB6 : Below w.heap.size w (w5.setCell ⟨g, K * 3 + 2, none⟩ (.int .i64 (-tc))) := hB5.grown s2 hz5 fun k' hk' => by injection hk' with hk'; omega
                have HS := Lib.hid s1'
                clear s1 s1' s2 hH5 hbox hb5 a6 HH2 d0' d1' d2'
                go_wp2_with fail
                refine (impl_IsRP b n K (-1) false _ w.heap.size _ _ G1.out G2.out HK2.out hK1 Hneg.out (.inr ⟨rfl, rfl⟩) HS.out).mono ?_
                rintro e w6 ⟨rfl, hb6⟩
                have hB7 : Below w.heap.size w w6 := Below.after hB6 hb6
                clear hb6
                go_wp2_with fail
                go_ret
                exact ⟨rfl, hB7⟩
              · have Hj := Lib.hid (show J b n = tc by rw [← Hval.out]; unfold valS; rw [if_neg (fun e => htb e.2)])
                rw [Hj.out]
                clear hta
                go_wp2_with fail
                refine (impl_IsRP b n K 1 true _ w.heap.size _ _ G1.out G2.out HK2.out hK1 Hone.out (.inl ⟨rfl, rfl⟩) (HH2.out.alloc _)).mono ?_
                rintro e w5 ⟨rfl, hb5⟩
                have hB5 : Below w.heap.size w w5 := Below.after (hB2.alloc hz2 _) hb5
                have hz5 := hB5.size
                have hH5 := (HH2.out.alloc (.cells (cS ⟨ta, tb, tc⟩) 58)).below hb5
                have hbox : Holds w5 w2.heap.size (cS ⟨ta, tb, tc⟩) 58 := (Holds.new w2 _ _).below hb5
                have y0 : w5.cell? ⟨w2.heap.size, 0, none⟩ = some (.int .i64 ta) := Holds.cell hbox rfl
                have y1 : w5.cell? ⟨w2.heap.size, 1, none⟩ = some (.int .i64 tb) := Holds.cell hbox rfl
                have y2 : w5.cell? ⟨w2.heap.size, 2, none⟩ = some (.int .i64 tc) := Holds.cell hbox rfl
                have yf0 : w5.frozen? ⟨w2.heap.size, 0, none⟩ = false := Holds.free hbox
                have yf1 : w5.frozen? ⟨w2.heap.size, 1, none⟩ = false := Holds.free hbox
                have yf2 : w5.frozen? ⟨w2.heap.size, 2, none⟩ = false := Holds.free hbox
                obtain ⟨g5, e5, a1, a2, a3, a4, a5, a6⟩ := hH5.read K (by rw [itSL_len]; omega)
                injection e5 with e5
                injection e5 with e5
                subst e5
                rw [itSL_get, Hs.out] at a3 a4 a5
                have z2 := a6 (K * 3 + 2)
                obtain ⟨s1, s2⟩ := hH5.setC (i := K) (by rw [itSL_len]) (by rw [itSL_len]; omega) (-tc)
                have s1' : Sts (w5.setCell ⟨g, K * 3 + 2, none⟩ (.int .i64 (-tc))) w.heap.size (.slice (some ⟨g, 0, none⟩) (K + 1) c0) ((itSL ⟨b, n, 1⟩ (K + 1)).set K ⟨(itS K ⟨b, n, 1⟩).a, (itS K ⟨b, n, 1⟩).b, -(itS K ⟨b, n, 1⟩).c⟩) := by
                  have e1 : (itSL ⟨b, n, 1⟩ (K + 1))[K]'(by rw [itSL_len]; omega) = itS K ⟨b, n, 1⟩ := itSL_get _ _ _ _
                  rw [e1] at s1
                  rw [Hs.out] at s1 ⊢
                  exact s1
                have hB6 : Below w.heap.size w (w5.setCell ⟨g, K * 3 + 2, none⟩ (.int .i64 (-tc))) := hB5.grown s2 hz5 fun k' hk' => by injection hk' with hk'; omega
                have HS := Lib.hid s1'
                clear s1 s1' s2 hH5 hbox hb5 a6 HH2 d0' d1' d2'
                go_wp2_with fail
                refine (impl_IsRP b n K (-1) false _ w.heap.size _ _ G1.out G2.out HK2.out hK1 Hneg.out (.inr ⟨rfl, rfl⟩) HS.out).mono ?_
                rintro e w6 ⟨rfl, hb6⟩
                have hB7 : Below w.heap.size w w6 := Below.after hB6 hb6
                clear hb6
                go_wp2_with fail
                go_ret
                exact ⟨rfl, hB7⟩
            · have bta := beqF hta
              have Hj := Lib.hid (show J b n = tc by rw [← Hval.out]; unfold valS; rw [if_neg (fun e => hta e.1)])
              rw [Hj.out]
              clear hta
              go_wp2_with fail
              refine (impl_IsRP b n K 1 true _ w.heap.size _ _ G1.out G2.out HK2.out hK1 Hone.out (.inl ⟨rfl, rfl⟩) (HH2.out.alloc _)).mono ?_
              rintro e w5 ⟨rfl, hb5⟩
              have hB5 : Below w.heap.size w w5 := Below.after (hB2.alloc hz2 _) hb5
              have hz5 := hB5.size
              have hH5 := (HH2.out.alloc (.cells (cS ⟨ta, tb, tc⟩) 58)).below hb5
              have hbox : Holds w5 w2.heap.size (cS ⟨ta, tb, tc⟩) 58 := (Holds.new w2 _ _).below hb5
              have y0 : w5.cell? ⟨w2.heap.size, 0, none⟩ = some (.int .i64 ta) := Holds.cell hbox rfl
              have y1 : w5.cell? ⟨w2.heap.size, 1, none⟩ = some (.int .i64 tb) := Holds.cell hbox rfl
              have y2 : w5.cell? ⟨w2.heap.size, 2, none⟩ = some (.int .i64 tc) := Holds.cell hbox rfl
              have yf0 : w5.frozen? ⟨w2.heap.size, 0, none⟩ = false := Holds.free hbox
              have yf1 : w5.frozen? ⟨w2.heap.size, 1, none⟩ = false := Holds.free hbox
              have yf2 : w5.frozen? ⟨w2.heap.size, 2, none⟩ = false := Holds.free hbox
              obtain ⟨g5, e5, a1, a2, a3, a4, a5, a6⟩ := hH5.read K (by rw [itSL_len]; omega)
              injection e5 with e5
              injection e5 with e5
              subst e5
              rw [itSL_get, Hs.out] at a3 a4 a5
              have z2 := a6 (K * 3 + 2)
              obtain ⟨s1, s2⟩ := hH5.setC (i := K) (by rw [itSL_len]) (by rw [itSL_len]; omega) (-tc)
              have s1' : Sts (w5.setCell ⟨g, K * 3 + 2, none⟩ (.int .i64 (-tc))) w.heap.size (.slice (some ⟨g, 0, none⟩) (K + 1) c0) ((itSL ⟨b, n, 1⟩ (K + 1)).set K ⟨(itS K ⟨b, n, 1⟩).a, (itS K ⟨b, n, 1⟩).b, -(itS K ⟨b, n, 1⟩).c⟩) := by
                have e1 : (itSL ⟨b, n, 1⟩ (K + 1))[K]'(by rw [itSL_len]; omega) = itS K ⟨b, n, 1⟩ := itSL_get _ _ _ _
                rw [e1] at s1
                rw [Hs.out] at s1 ⊢
                exact s1
              have hB6 : Below w.heap.size w (w5.setCell ⟨g, K * 3 + 2, none⟩ (.int .i64 (-tc))) := hB5.grown s2 hz5 fun k' hk' => by injection hk' with hk'; omega
              have HS := Lib.hid s1'
              clear s1 s1' s2 hH5 hbox hb5 a6 HH2 d0' d1' d2'
              go_wp2_with fail
              refine (impl_IsRP b n K (-1) false _ w.heap.size _ _ G1.out G2.out HK2.out hK1 Hneg.out (.inr ⟨rfl, rfl⟩) HS.out).mono ?_
              rintro e w6 ⟨rfl, hb6⟩
              have hB7 : Below w.heap.size w w6 := Below.after hB6 hb6
              clear hb6
              go_wp2_with fail
              go_ret
              exact ⟨rfl, hB7⟩
          · subst hll
            go_wp2_with fail
            go_ret
            exact ⟨rfl, hBw⟩
    | true =>
      obtain ⟨h1, h2, h3, h4, h5⟩ := eisB_yes hE
      obtain ⟨h, hp, hp1, _⟩ := oddPrime_half h1
      obtain ⟨k, hq, hq1, _⟩ := oddPrime_half h2
      have hE2 : eisB q p = true := by unfold eisB; rw [h1, h2]; simp [h3, h4, Ne.symm h5]
      have hgp : good p = true := by unfold oddPrimeB at h1; simp only [Bool.and_eq_true] at h1; exact h1.1.2
      have hgq : good q = true := by unfold oddPrimeB at h2; simp only [Bool.and_eq_true] at h2; exact h2.1.2
      have HL1 := Lib.hid (show legB p q = true by unfold legB; rw [hgp, h2]; rfl)
      have HL2 := Lib.hid (show legB q p = true by unfold legB; rw [hgq, h1]; rfl)
      obtain ⟨e1, e2, e3⟩ := eis_law hp hq (primes_cop h1 h2 h5)
      obtain ⟨x, hx⟩ : ∃ x : Nat, eis q p h = x := ⟨_, rfl⟩
      obtain ⟨y, hy⟩ : ∃ y : Nat, eis p q k = y := ⟨_, rfl⟩
      rw [hx, hy] at e1
      rw [hx] at e2
      rw [hy] at e3
      obtain ⟨s, hs⟩ : ∃ s, J p q = s := ⟨_, rfl⟩
      obtain ⟨t, ht⟩ : ∃ t, J q p = t := ⟨_, rfl⟩
      rw [hs] at e3
      rw [ht] at e2
      have hhk : (h : Int) * (k : Int) ≤ 25000000 := by
        have := mul_le (a := (h : Int)) (b := (k : Int)) (A := 5000) (B := 5000) (by omega) (by omega) (by omega) (by omega)
        omega
      have hhk0 : 0 ≤ (h : Int) * (k : Int) := Int.mul_nonneg (by omega) (by omega)
      have e1' : (x : Int) + (y : Int) = (h : Int) * (k : Int) := by
        have : ((x + y : Nat) : Int) = ((h * k : Nat) : Int) := by rw [e1]
        simpa using this
      have bsum : ((x : Int) + (y : Int) != (h : Int) * (k : Int)) = false := bneF e1'
      have bt1 : (t != 1 - 2 * ((x : Int) % 2)) = false := bneF e2
      have bt2 : (t != 1 - 2 * ((x : Int).tmod 2)) = false := by rw [tmod2 (by omega)]; exact bt1
      have bs1 : (s != 1 - 2 * ((y : Int) % 2)) = false := bneF e3
      have bs2 : (s != 1 - 2 * ((y : Int).tmod 2)) = false := by rw [tmod2 (by omega)]; exact bs1
      have hhp : (p - 1).tdiv 2 = (h : Int) := by rw [hp, show 2 * (h : Int) + 1 - 1 = 2 * h by omega, Int.mul_tdiv_cancel_left _ (by omega)]
      have hhq : (q - 1).tdiv 2 = (k : Int) := by rw [hq, show 2 * (k : Int) + 1 - 1 = 2 * k by omega, Int.mul_tdiv_cancel_left _ (by omega)]
      have hhp2 : (p - 1) / 2 = (h : Int) := by omega
      have hhq2 : (q - 1) / 2 = (k : Int) := by omega
      have p3 : 3 ≤ p := by omega
      have q3 : 3 ≤ q := by omega
      have xb : (x : Int) ≤ 25000000 := by omega
      have yb : (y : Int) ≤ 25000000 := by omega
      have HX := Lib.hid hx
      have HY := Lib.hid hy
      have Hs := Lib.hid hs
      have Ht := Lib.hid ht
      have HE := Lib.hid hE
      have HE2 := Lib.hid hE2
      have Hp := Lib.hid hp
      have Hq := Lib.hid hq
      clear hE hE2 h1 h2 h5 hp hq hgp hgq e1 e2 e3 e1' hx hy hs ht
      go_wp2_with fail
      refine (impl_Eis_yes p q h _ HE.out Hp.out).mono ?_
      rintro e wb ⟨rfl, hbb⟩
      have hBb : Below w.heap.size w wb := Below.after hBa hbb
      clear hbb hBa
      rw [HX.out]
      go_wp2_with fail
      refine (spec_Eis_yes p q h _ HE.out Hp.out).mono ?_
      rintro e wc ⟨rfl, hbc⟩
      have hBc : Below w.heap.size w wc := Below.after hBb hbc
      clear hbc hBb
      rw [HX.out]
      go_wp2_with fail
      refine (impl_Eis_yes q p k _ HE2.out Hq.out).mono ?_
      rintro e wd ⟨rfl, hbd⟩
      have hBd : Below w.heap.size w wd := Below.after hBc hbd
      clear hbd hBc
      rw [HY.out]
      go_wp2_with fail
      refine (impl_Leg_yes p q _ HL1.out).mono ?_
      rintro e we ⟨rfl, hbe⟩
      have hBe : Below w.heap.size w we := Below.after hBd hbe
      clear hbe hBd
      rw [Hs.out]
      go_wp2_with fail
      refine (impl_Leg_yes q p _ HL2.out).mono ?_
      rintro e wf ⟨rfl, hbf⟩
      have hBk : Below w.heap.size w wf := Below.after hBe hbf
      clear hbf hBe
      rw [Ht.out]
      have HZ := Lib.hid (And.intro hhk (And.intro hhk0 (And.intro xb yb)))
      have hzk := hBk.size
      have HB1 := Lib.hid (HB.out.low (by omega) hBk)
      clear HB
      go_wp2_with fail
      refine (draw_Rec _ _ (HB1.out.mono (by omega))).mono ?_
      rintro e wd ⟨b, n, rfl, hb64, hn64, hbd⟩
      have hBd : Below w.heap.size w wd := Below.after hBk hbd
      have hzd := hBd.size
      clear hbd hBk HB1
      obtain ⟨l, v, hrec⟩ := recOut_ex b n
      have HR := Lib.hid hrec
      clear hrec
      go_wp2_with fail
      refine (impl_RecProof b n l v _ HR.out).mono ?_
      rintro e we ⟨v1, rfl, h1, hbe⟩
      have hBe : Below w.heap.size w we := Below.after hBd hbe
      have hze := hBe.size
      have H1 := Lib.hid (h1.mono (B' := w.heap.size) hzd)
      clear hbe h1 hBd
      go_wp2_with fail
      refine (spec_RecProof b n l v _ HR.out).mono ?_
      rintro e wf ⟨v0, rfl, h0, hbf⟩
      have hBf : Below w.heap.size w wf := Below.after hBe hbf
      have hzf := hBf.size
      obtain ⟨p1, c1, rfl, hml, hr1⟩ := (H1.out.below hbf).view
      obtain ⟨p0, c0, rfl, hml0, hr0⟩ := h0.view
      have Hr1 := Lib.hid hr1
      have Hr0 := Lib.hid hr0
      have H0 := Lib.hid (h0.mono (B' := w.heap.size) hze)
      clear hbf h0 H1 hBe hr1 hr0 hml0
      have hml2 : (l.length : Int) ≤ 9223372036854775807 := by unfold maxLen at hml; omega
      clear hml
      go_wp2_with fail
      go_loopw [143] (fun i wr => (∃ k : Nat, i = .int .i64 k ∧ k ≤ l.length) ∧ Below wf.heap.size wf wr) (fun i _ => l.length - (intOf i).toNat)
      case atStart => exact ⟨⟨0, rfl, by omega⟩, Below.refl _ _⟩
      case round =>
        obtain ⟨⟨k, rfl, hk⟩, hB⟩ := hrel
        have hzr := hB.size
        by_cases hlt : k < l.length
        · obtain ⟨g, rfl, _, hg1, d0, d1, d2, _⟩ := Hr1.out k hlt
          obtain ⟨g', rfl, _, hg1', f0, f1, f2, _⟩ := Hr0.out k hlt
          rcases hx : l[k] with ⟨ta, tb, tc⟩
          rw [hx] at d0 d1 d2 f0 f1 f2
          have q0 : ∀ x : Aft wr, x.w.cell? ⟨g, k * 3, none⟩ = some (.int .i64 ta) := fun x => x.cell (by omega) ((hB.cell (p := ⟨g, k * 3, none⟩) hg1).trans d0)
          have q1 : ∀ x : Aft wr, x.w.cell? ⟨g, k * 3 + 1, none⟩ = some (.int .i64 tb) := fun x => x.cell (by omega) ((hB.cell (p := ⟨g, k * 3 + 1, none⟩) hg1).trans d1)
          have q2 : ∀ x : Aft wr, x.w.cell? ⟨g, k * 3 + 2, none⟩ = some (.int .i64 tc) := fun x => x.cell (by omega) ((hB.cell (p := ⟨g, k * 3 + 2, none⟩) hg1).trans d2)
          have q3 : ∀ x : Aft wr, x.w.cell? ⟨g', k * 3, none⟩ = some (.int .i64 ta) := fun x => x.cell (by omega) ((hB.cell (p := ⟨g', k * 3, none⟩) hg1').trans f0)
          have q4 : ∀ x : Aft wr, x.w.cell? ⟨g', k * 3 + 1, none⟩ = some (.int .i64 tb) := fun x => x.cell (by omega) ((hB.cell (p := ⟨g', k * 3 + 1, none⟩) hg1').trans f1)
          have q5 : ∀ x : Aft wr, x.w.cell? ⟨g', k * 3 + 2, none⟩ = some (.int .i64 tc) := fun x => x.cell (by omega) ((hB.cell (p := ⟨g', k * 3 + 2, none⟩) hg1').trans f2)
          clear d0 d1 d2 f0 f1 f2 hx
          go_wp2_with fail
          refine region_aft (by kernel_rfl) (by kernel_rfl) ?_
          repeat go_big_quiet_step (fail)
          refine wpQuiet_nil ?_
          intro w2 hb2
          have hB2 : Below wf.heap.size wf w2 := Below.after hB hb2
          clear hb2 hB q0 q1 q2 q3 q4 q5
          go_wp2_with fail
          go_roundw
          case rel => exact ⟨⟨k + 1, by go_num, by omega⟩, hB2⟩
          case measure => simp [intOf]; omega
        · obtain rfl : k = l.length := by omega
          have hBw : Below w.heap.size w wr := hBf.trans (hB.mono hzf)
          have H0' := Lib.hid (H0.out.below hB)
          clear hBf
          rcases HR.out with ⟨hg1, hg2, rfl, K, hK1, hK2, hll⟩ | ⟨_, rfl, hll⟩
          · have hlen : l.length = K + 1 := by rw [hll, itSL_len]
            rw [hlen]
            have hH0 := H0'.out
            rw [hlen, hll] at hH0
            obtain ⟨g, rfl, hgB, hgz, d0, d1, d2, hfz⟩ : ∃ g, p0 = some ⟨g, 0, none⟩ ∧ w.heap.size ≤ g ∧ g < wr.heap.size ∧ wr.cell? ⟨g, K * 3, none⟩ = some (.int .i64 (itS K ⟨b, n, 1⟩).a) ∧ wr.cell? ⟨g, K * 3 + 1, none⟩ = some (.int .i64 (itS K ⟨b, n, 1⟩).b) ∧ wr.cell? ⟨g, K * 3 + 2, none⟩ = some (.int .i64 (itS K ⟨b, n, 1⟩).c) ∧ ∀ j, wr.frozen? ⟨g, j, none⟩ = false := by
              obtain ⟨g, e, a1, a2, a3, a4, a5, a6⟩ := hH0.read K (by rw [itSL_len]; omega)
              rw [itSL_get] at a3 a4 a5
              exact ⟨g, e, a1, a2, a3, a4, a5, a6⟩
            rcases hs : itS K ⟨b, n, 1⟩ with ⟨ta, tb, tc⟩
            rw [hs] at d0 d1 d2
            have hok := okS_it (okS_start hg1 hg2) (oddM_iff.1 hg2).1.2 hK2 K (Nat.le_refl _)
            have hval := val_end hok hK2.1
            rw [hs] at hval hok
            have hc := hok.c1
            have hc1 : -1 ≤ tc := by have hc : tc = 1 ∨ tc = -1 := hc; omega
            have hc2 : tc ≤ 1 := by have hc : tc = 1 ∨ tc = -1 := hc; omega
            have HH0 := Lib.hid hH0
            have G1 := Lib.hid hg1
            have G2 := Lib.hid hg2
            have HK2 := Lib.hid hK2
            have Hs := Lib.hid hs
            have Hval := Lib.hid hval
            have ek : ((K + 1 : Nat) : Int) - 1 = (K : Int) := by omega
            have ek2 : (K : Int) + 1 - 1 = (K : Int) := by omega
            have z2 := hfz (K * 3 + 2)
            have Hone := Lib.hid (flS_one ⟨b, n, 1⟩ K)
            have Hneg := Lib.hid (flS_neg ⟨b, n, 1⟩ K)
            clear hg1 hg2 hK2 hs hok hval hH0 H0 H0' Hr1 Hr0 hfz hc hll hlen hB hzr
            go_wp2_with fail
            refine (impl_Jac_yes b n _ G1.out G2.out).mono ?_
            rintro e w2 ⟨rfl, hb2⟩
            have hB2 : Below w.heap.size w w2 := Below.after hBw hb2
            have hz2 := hB2.size
            have HH2 := Lib.hid (HH0.out.below hb2)
            have d0' := (hb2.cell (p := ⟨g, K * 3, none⟩) hgz).trans d0
            have d1' := (hb2.cell (p := ⟨g, K * 3 + 1, none⟩) hgz).trans d1
            have d2' := (hb2.cell (p := ⟨g, K * 3 + 2, none⟩) hgz).trans d2
            have hgz2 : g < w2.heap.size := Nat.lt_of_lt_of_le hgz hb2.size
            clear hb2 hBw d0 d1 d2 z2 HH0
            by_cases hta : ta = 0
            · have bta := beqT hta
              by_cases htb : 1 < tb
              · have Hj := Lib.hid (show J b n = 0 by rw [← Hval.out]; unfold valS; rw [if_pos ⟨hta, htb⟩])
                rw [Hj.out]
                clear hta
                go_wp2_with fail
                refine (impl_IsRP b n K 1 true _ w.heap.size _ _ G1.out G2.out HK2.out hK1 Hone.out (.inl ⟨rfl, rfl⟩) (HH2.out.alloc _)).mono ?_
                rintro e w5 ⟨rfl, hb5⟩
                have hB5 : Below w.heap.size w w5 := Below.after (hB2.alloc hz2 _) hb5
                have hz5 := hB5.size
                have hH5 := (HH2.out.alloc (.cells (cS ⟨ta, tb, tc⟩) 58)).below hb5
                have hbox : Holds w5 w2.heap.size (cS ⟨ta, tb, tc⟩) 58 := (Holds.new w2 _ _).below hb5
                have y0 : w5.cell? ⟨w2.heap.size, 0, none⟩ = some (.int .i64 ta) := Holds.cell hbox rfl
                have y1 : w5.cell? ⟨w2.heap.size, 1, none⟩ = some (.int .i64 tb) := Holds.cell hbox rfl
                have y2 : w5.cell? ⟨w2.heap.size, 2, none⟩ = some (.int .i64 tc) := Holds.cell hbox rfl
                have yf0 : w5.frozen? ⟨w2.heap.size, 0, none⟩ = false := Holds.free hbox
                have yf1 : w5.frozen? ⟨w2.heap.size, 1, none⟩ = false := Holds.free hbox
                have yf2 : w5.frozen? ⟨w2.heap.size, 2, none⟩ = false := Holds.free hbox
                obtain ⟨g5, e5, a1, a2, a3, a4, a5, a6⟩ := hH5.read K (by rw [itSL_len]; omega)
                injection e5 with e5
                injection e5 with e5
                subst e5
                rw [itSL_get, Hs.out] at a3 a4 a5
                have z2 := a6 (K * 3 + 2)
                obtain ⟨s1, s2⟩ := hH5.setC (i := K) (by rw [itSL_len]) (by rw [itSL_len]; omega) (-tc)
                have s1' : Sts (w5.setCell ⟨g, K * 3 + 2, none⟩ (.int .i64 (-tc))) w.heap.size (.slice (some ⟨g, 0, none⟩) (K + 1) c0) ((itSL ⟨b, n, 1⟩ (K + 1)).set K ⟨(itS K ⟨b, n, 1⟩).a, (itS K ⟨b, n, 1⟩).b, -(itS K ⟨b, n, 1⟩).c⟩) := by
                  have e1 : (itSL ⟨b, n, 1⟩ (K + 1))[K]'(by rw [itSL_len]; omega) = itS K ⟨b, n, 1⟩ := itSL_get _ _ _ _
                  rw [e1] at s1
                  rw [Hs.out] at s1 ⊢
                  exact s1
                have hB6 : Below w.heap.size w (w5.setCell ⟨g, K * 3 + 2, none⟩ (.int .i64 (-tc))) := hB5.grown s2 hz5 fun k' hk' => by injection hk' with hk'; omega
                have HS := Lib.hid s1'
                clear s1 s1' s2 hH5 hbox hb5 a6 HH2 d0' d1' d2'
                go_wp2_with fail
                refine (impl_IsRP b n K (-1) false _ w.heap.size _ _ G1.out G2.out HK2.out hK1 Hneg.out (.inr ⟨rfl, rfl⟩) HS.out).mono ?_
                rintro e w6 ⟨rfl, hb6⟩
                have hB7 : Below w.heap.size w w6 := Below.after hB6 hb6
                clear hb6
                go_wp2_with fail
                go_ret
                exact ⟨rfl, hB7⟩
              · have Hj := Lib.hid (show J b n = tc by rw [← Hval.out]; unfold valS; rw [if_neg (fun e => htb e.2)])
                rw [Hj.out]
                clear hta
                go_wp2_with fail
                refine (impl_IsRP b n K 1 true _ w.heap.size _ _ G1.out G2.out HK2.out hK1 Hone.out (.inl ⟨rfl, rfl⟩) (HH2.out.alloc _)).mono ?_
                rintro e w5 ⟨rfl, hb5⟩
                have hB5 : Below w.heap.size w w5 := Below.after (hB2.alloc hz2 _) hb5
                have hz5 := hB5.size
                have hH5 := (HH2.out.alloc (.cells (cS ⟨ta, tb, tc⟩) 58)).below hb5
                have hbox : Holds w5 w2.heap.size (cS ⟨ta, tb, tc⟩) 58 := (Holds.new w2 _ _).below hb5
                have y0 : w5.cell? ⟨w2.heap.size, 0, none⟩ = some (.int .i64 ta) := Holds.cell hbox rfl
                have y1 : w5.cell? ⟨w2.heap.size, 1, none⟩ = some (.int .i64 tb) := Holds.cell hbox rfl
                have y2 : w5.cell? ⟨w2.heap.size, 2, none⟩ = some (.int .i64 tc) := Holds.cell hbox rfl
                have yf0 : w5.frozen? ⟨w2.heap.size, 0, none⟩ = false := Holds.free hbox
                have yf1 : w5.frozen? ⟨w2.heap.size, 1, none⟩ = false := Holds.free hbox
                have yf2 : w5.frozen? ⟨w2.heap.size, 2, none⟩ = false := Holds.free hbox
                obtain ⟨g5, e5, a1, a2, a3, a4, a5, a6⟩ := hH5.read K (by rw [itSL_len]; omega)
                injection e5 with e5
                injection e5 with e5
                subst e5
                rw [itSL_get, Hs.out] at a3 a4 a5
                have z2 := a6 (K * 3 + 2)
                obtain ⟨s1, s2⟩ := hH5.setC (i := K) (by rw [itSL_len]) (by rw [itSL_len]; omega) (-tc)
                have s1' : Sts (w5.setCell ⟨g, K * 3 + 2, none⟩ (.int .i64 (-tc))) w.heap.size (.slice (some ⟨g, 0, none⟩) (K + 1) c0) ((itSL ⟨b, n, 1⟩ (K + 1)).set K ⟨(itS K ⟨b, n, 1⟩).a, (itS K ⟨b, n, 1⟩).b, -(itS K ⟨b, n, 1⟩).c⟩) := by
                  have e1 : (itSL ⟨b, n, 1⟩ (K + 1))[K]'(by rw [itSL_len]; omega) = itS K ⟨b, n, 1⟩ := itSL_get _ _ _ _
                  rw [e1] at s1
                  rw [Hs.out] at s1 ⊢
                  exact s1
                have hB6 : Below w.heap.size w (w5.setCell ⟨g, K * 3 + 2, none⟩ (.int .i64 (-tc))) := hB5.grown s2 hz5 fun k' hk' => by injection hk' with hk'; omega
                have HS := Lib.hid s1'
                clear s1 s1' s2 hH5 hbox hb5 a6 HH2 d0' d1' d2'
                go_wp2_with fail
                refine (impl_IsRP b n K (-1) false _ w.heap.size _ _ G1.out G2.out HK2.out hK1 Hneg.out (.inr ⟨rfl, rfl⟩) HS.out).mono ?_
                rintro e w6 ⟨rfl, hb6⟩
                have hB7 : Below w.heap.size w w6 := Below.after hB6 hb6
                clear hb6
                go_wp2_with fail
                go_ret
                exact ⟨rfl, hB7⟩
            · have bta := beqF hta
              have Hj := Lib.hid (show J b n = tc by rw [← Hval.out]; unfold valS; rw [if_neg (fun e => hta e.1)])
              rw [Hj.out]
              clear hta
              go_wp2_with fail
              refine (impl_IsRP b n K 1 true _ w.heap.size _ _ G1.out G2.out HK2.out hK1 Hone.out (.inl ⟨rfl, rfl⟩) (HH2.out.alloc _)).mono ?_
              rintro e w5 ⟨rfl, hb5⟩
              have hB5 : Below w.heap.size w w5 := Below.after (hB2.alloc hz2 _) hb5
              have hz5 := hB5.size
              have hH5 := (HH2.out.alloc (.cells (cS ⟨ta, tb, tc⟩) 58)).below hb5
              have hbox : Holds w5 w2.heap.size (cS ⟨ta, tb, tc⟩) 58 := (Holds.new w2 _ _).below hb5
              have y0 : w5.cell? ⟨w2.heap.size, 0, none⟩ = some (.int .i64 ta) := Holds.cell hbox rfl
              have y1 : w5.cell? ⟨w2.heap.size, 1, none⟩ = some (.int .i64 tb) := Holds.cell hbox rfl
              have y2 : w5.cell? ⟨w2.heap.size, 2, none⟩ = some (.int .i64 tc) := Holds.cell hbox rfl
              have yf0 : w5.frozen? ⟨w2.heap.size, 0, none⟩ = false := Holds.free hbox
              have yf1 : w5.frozen? ⟨w2.heap.size, 1, none⟩ = false := Holds.free hbox
              have yf2 : w5.frozen? ⟨w2.heap.size, 2, none⟩ = false := Holds.free hbox
              obtain ⟨g5, e5, a1, a2, a3, a4, a5, a6⟩ := hH5.read K (by rw [itSL_len]; omega)
              injection e5 with e5
              injection e5 with e5
              subst e5
              rw [itSL_get, Hs.out] at a3 a4 a5
              have z2 := a6 (K * 3 + 2)
              obtain ⟨s1, s2⟩ := hH5.setC (i := K) (by rw [itSL_len]) (by rw [itSL_len]; omega) (-tc)
              have s1' : Sts (w5.setCell ⟨g, K * 3 + 2, none⟩ (.int .i64 (-tc))) w.heap.size (.slice (some ⟨g, 0, none⟩) (K + 1) c0) ((itSL ⟨b, n, 1⟩ (K + 1)).set K ⟨(itS K ⟨b, n, 1⟩).a, (itS K ⟨b, n, 1⟩).b, -(itS K ⟨b, n, 1⟩).c⟩) := by
                have e1 : (itSL ⟨b, n, 1⟩ (K + 1))[K]'(by rw [itSL_len]; omega) = itS K ⟨b, n, 1⟩ := itSL_get _ _ _ _
                rw [e1] at s1
                rw [Hs.out] at s1 ⊢
                exact s1
              have hB6 : Below w.heap.size w (w5.setCell ⟨g, K * 3 + 2, none⟩ (.int .i64 (-tc))) := hB5.grown s2 hz5 fun k' hk' => by injection hk' with hk'; omega
              have HS := Lib.hid s1'
              clear s1 s1' s2 hH5 hbox hb5 a6 HH2 d0' d1' d2'
              go_wp2_with fail
              refine (impl_IsRP b n K (-1) false _ w.heap.size _ _ G1.out G2.out HK2.out hK1 Hneg.out (.inr ⟨rfl, rfl⟩) HS.out).mono ?_
              rintro e w6 ⟨rfl, hb6⟩
              have hB7 : Below w.heap.size w w6 := Below.after hB6 hb6
              clear hb6
              go_wp2_with fail
              go_ret
              exact ⟨rfl, hB7⟩
          · subst hll
            go_wp2_with fail
            go_ret
            exact ⟨rfl, hBw⟩
end Go.Proofs.Ytiblpagbloflhaa
