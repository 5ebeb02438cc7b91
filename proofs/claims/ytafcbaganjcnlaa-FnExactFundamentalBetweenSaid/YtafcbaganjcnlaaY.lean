/- Contracts and walks: fundamental discriminants between two numbers. -/
import Derived.Test.YtafcbaganjcnlaaX
namespace Go.Proofs.Ytafcbaganjcnlaa
set_option linter.unusedVariables false
open Go.ChangeShapes Go.WideShapes Go.ChangeAt Go.RowKit

theorem Ints.empty_at (w : World) {B : Nat} (b : Nat) (hb : w.heap.size = b) (hB : B ≤ b) : Ints (w.alloc (.cells #[] 3)) B (.slice (some ⟨b, 0, none⟩) 0 0) [] := by
  subst hb; exact Ints.made w [] #[] rfl hB (by simp)
def fundB (d : Int) : Bool := discB d && ((fnd d).2 == 1)
def fbPre (lo : Int) (k : Nat) : List Int := ((List.range k).map fun (i : Nat) => lo + (i : Int)).filter fundB
theorem fbPre_zero (lo : Int) : fbPre lo 0 = [] := rfl
theorem fbPre_yes {lo : Int} {k : Nat} (h : fundB (lo + k) = true) : fbPre lo (k + 1) = fbPre lo k ++ [lo + k] := by simp [fbPre, List.range_succ, h]
theorem fbPre_no {lo : Int} {k : Nat} (h : fundB (lo + k) = false) : fbPre lo (k + 1) = fbPre lo k := by simp [fbPre, List.range_succ, h]
theorem fbPre_len (lo : Int) (k : Nat) : (fbPre lo k).length ≤ k := by
  unfold fbPre
  have := List.length_filter_le fundB ((List.range k).map fun (i : Nat) => lo + (i : Int))
  simpa using this
def fbB (lo hi : Int) : Bool := good2 lo hi && decide (hi - lo ≤ 2000)
def fbL (lo hi : Int) : List Int := if fbB lo hi = true then fbPre lo (hi - lo + 1).toNat else []
theorem fbB_iff {lo hi : Int} : fbB lo hi = true ↔ ((-1000000 ≤ lo ∧ lo ≤ 1000000) ∧ (-1000000 ≤ hi ∧ hi ≤ 1000000)) ∧ hi - lo ≤ 2000 := by
  unfold fbB; rw [Bool.and_eq_true, good2_iff, decide_eq_true_iff]
theorem fbL_yes {lo hi : Int} (h : fbB lo hi = true) : fbL lo hi = fbPre lo (hi - lo + 1).toNat := by unfold fbL; rw [if_pos h]
theorem fbL_no {lo hi : Int} (h : fbB lo hi = false) : fbL lo hi = [] := by unfold fbL; rw [if_neg (by rw [h]; simp)]
theorem fbL_len (lo hi : Int) : (fbL lo hi).length ≤ 1000000 := by
  by_cases h : fbB lo hi = true
  · have h1 := fbB_iff.1 h
    have := fbPre_len lo (hi - lo + 1).toNat
    rw [fbL_yes h]; omega
  · rw [fbL_no (by simpa using h)]; simp
theorem impl_IsFundamental_any (d : Int) (v : Bool) (w : World) (hv : fundB d = v) :
    Calls Try.prog 18 #[.int .i64 d] w fun e w' => e = .returned (.tuple #[.bool v, .bool (discB d)]) ∧ Below w.heap.size w w' := by
  by_cases h : discB d = true
  · exact (impl_IsFundamental_yes d w h).mono fun e w' ⟨he, hb⟩ => ⟨by rw [he, ← hv, h]; simp [fundB, h], hb⟩
  · have h' : discB d = false := by simpa using h
    exact (impl_IsFundamental_no d w h').mono fun e w' ⟨he, hb⟩ => ⟨by rw [he, ← hv, h']; simp [fundB, h'], hb⟩
theorem impl_FundamentalBetween (lo hi : Int) (w : World) :
    Calls Try.prog 25 #[.int .i64 lo, .int .i64 hi] w fun e w' => ∃ v, e = .returned (.tuple #[v, .bool (fbB lo hi)]) ∧ Ints w' w.heap.size v (fbL lo hi) ∧ Below w.heap.size w w' := by
  by_cases hg : good2 lo hi = true
  · obtain ⟨⟨l1, l2⟩, ⟨h1, h2⟩⟩ := good2_iff.1 hg
    have Hg := Lib.hid hg
    by_cases hd : hi - lo ≤ 2000
    · have hb : fbB lo hi = true := by unfold fbB; rw [hg]; simpa using hd
      have HL := Lib.hid (fbL_yes hb)
      have Hb := Lib.hid hb
      clear hb hg
      go_enter Try.func25, Try.ntmps25
      go_wp2_with fail
      refine (are2 lo hi _ _ true _ Hg.out (by simp) (by simp)).mono ?_
      rintro e w' ⟨rfl, rfl⟩
      go_wp2_with fail
      go_loopw [6, 7] (fun v d wr => ∃ k : Nat, d = .int .i64 (lo + (k : Int)) ∧ k ≤ (hi - lo + 1).toNat ∧ Ints wr w.heap.size v (fbPre lo k) ∧ Below w.heap.size w wr) (fun _ d _ => (hi + 1 - intOf d).toNat)
      case atStart => exact ⟨0, by go_num, by omega, Ints.empty_at _ (w.heap.size + 1) (by simp) (by omega), by go_grown⟩
      case round =>
        obtain ⟨k, rfl, hk, hown, hB⟩ := hrel
        have hs := hB.size
        have hfl := fbPre_len lo k
        have Hown := Lib.hid hown
        clear hown
        by_cases hlt : lo + (k : Int) ≤ hi
        · by_cases hf : fundB (lo + (k : Int)) = true
          · have Hf := Lib.hid hf
            clear hf
            go_wp2_with fail
            refine (impl_IsFundamental_any _ true _ Hf.out).mono ?_
            rintro e w2 ⟨rfl, hb2⟩
            have hB2 : Below w.heap.size w w2 := Below.after hB hb2
            have Hown2 := Lib.hid (Hown.out.below hb2)
            have hs2 := hB2.size
            clear hb2
            go_wp2_with (at_builtin; refine app_int w.heap.size (fbPre lo k) (lo + (k : Int)) u6 _ _ _ rfl rfl rfl rfl (Hown2.out.alloc _) (World.cell?_alloc_at _ _ _ _ rfl) (by omega) (by go_size) ?_)
            intro v3 w3 hown3 hgrow3 _
            have hB3 : Below w.heap.size w w3 := below_grown (hB2.alloc hs2 _) (Hown2.out.alloc _) hgrow3 (by go_size)
            have Hown3 := Lib.hid (rpl hown3 (fbPre_yes Hf.out).symm)
            clear hgrow3 hown3
            go_wp2_with fail
            go_roundw
            case rel => exact ⟨k + 1, by go_num, by omega, Hown3.out, hB3⟩
            case measure => simp [intOf]; omega
          · have Hf := Lib.hid (show fundB (lo + (k : Int)) = false by simpa using hf)
            clear hf
            go_wp2_with fail
            refine (impl_IsFundamental_any _ false _ Hf.out).mono ?_
            rintro e w2 ⟨rfl, hb2⟩
            have hB2 : Below w.heap.size w w2 := Below.after hB hb2
            have Hown2 := Lib.hid (rpl (Hown.out.below hb2) (fbPre_no Hf.out).symm)
            clear hb2
            go_wp2_with fail
            go_roundw
            case rel => exact ⟨k + 1, by go_num, by omega, Hown2.out, hB2⟩
            case measure => simp [intOf]; omega
        · go_wp2_with fail
          go_ret2
          have hk' : k = (hi - lo + 1).toNat := by omega
          exact ⟨_, by rw [Hb.out]; rfl, rpl Hown.out (by rw [HL.out, hk']), hB⟩
    · have hb : fbB lo hi = false := by unfold fbB; rw [hg]; simpa using hd
      have HL := Lib.hid (fbL_no hb)
      have Hb := Lib.hid hb
      clear hb hg
      go_enter Try.func25, Try.ntmps25
      go_wp2_with fail
      refine (are2 lo hi _ _ true _ Hg.out (by simp) (by simp)).mono ?_
      rintro e w' ⟨rfl, rfl⟩
      go_wp2_with fail
      go_ret2
      exact ⟨_, by rw [Hb.out]; rfl, rpl (Ints.empty_at _ (w.heap.size + 1) (by simp) (by omega)) HL.out.symm, by go_grown⟩
  · have hg' : good2 lo hi = false := by simpa using hg
    have hb : fbB lo hi = false := by unfold fbB; rw [hg']; rfl
    have HL := Lib.hid (fbL_no hb)
    have Hb := Lib.hid hb
    have Hg := Lib.hid hg'
    clear hb hg hg'
    go_enter Try.func25, Try.ntmps25
    go_wp2_with fail
    refine (are2 lo hi _ _ false _ Hg.out (by simp) (by simp)).mono ?_
    rintro e w' ⟨rfl, rfl⟩
    go_wp2_with fail
    go_ret2
    exact ⟨_, by rw [Hb.out]; rfl, rpl (Ints.empty_at _ (w.heap.size + 1) (by simp) (by omega)) HL.out.symm, by go_grown⟩
theorem spec_FundamentalBetween (lo hi : Int) (w : World) :
    Calls Try.prog 24 #[.int .i64 lo, .int .i64 hi] w fun e w' => ∃ v, e = .returned (.tuple #[v, .bool (fbB lo hi)]) ∧ Ints w' w.heap.size v (fbL lo hi) ∧ Below w.heap.size w w' := by
  by_cases hg1 : good lo = true
  · by_cases hg2 : good hi = true
    · obtain ⟨l1, l2⟩ := good_iff.1 hg1
      obtain ⟨h1, h2⟩ := good_iff.1 hg2
      have Hg1 := Lib.hid hg1
      have Hg2 := Lib.hid hg2
      by_cases hd : hi - lo ≤ 2000
      · have hb : fbB lo hi = true := by unfold fbB good2; rw [hg1, hg2]; simpa using hd
        have HL := Lib.hid (fbL_yes hb)
        have Hb := Lib.hid hb
        clear hb hg1 hg2
        go_enter Try.func24, Try.ntmps24
        go_wp2_with fail
        refine (spec_nuGood lo true _ Hg1.out).mono ?_
        rintro e w' ⟨rfl, rfl⟩
        go_wp2_with fail
        refine (spec_nuGood hi true _ Hg2.out).mono ?_
        rintro e w' ⟨rfl, rfl⟩
        go_wp2_with fail
        go_loopw [6, 7] (fun v d wr => ∃ k : Nat, d = .int .i64 (lo + (k : Int)) ∧ k ≤ (hi - lo + 1).toNat ∧ Ints wr w.heap.size v (fbPre lo k) ∧ Below w.heap.size w wr) (fun _ d _ => (hi + 1 - intOf d).toNat)
        case atStart => exact ⟨0, by go_num, by omega, Ints.nil _ _, by go_grown⟩
        case round =>
          obtain ⟨k, rfl, hk, hown, hB⟩ := hrel
          have hs := hB.size
          have hfl := fbPre_len lo k
          have Hown := Lib.hid hown
          clear hown
          by_cases hlt : lo + (k : Int) ≤ hi
          · by_cases hdisc : discB (lo + (k : Int)) = true
            · have Hdisc := Lib.hid hdisc
              have Hne := Lib.hid (disc_ne hdisc)
              by_cases hf : (fnd (lo + (k : Int))).2 = 1
              · have hf' : ((fnd (lo + (k : Int))).2 == 1) = true := by simpa using hf
                have Hf := Lib.hid (show fundB (lo + (k : Int)) = true by unfold fundB; rw [hdisc, hf']; rfl)
                clear hf hdisc
                go_wp2_with fail
                refine (spec_diIs _ true _ Hdisc.out).mono ?_
                rintro e w' ⟨rfl, rfl⟩
                go_wp2_with fail
                refine (spec_diSplit _ _ Hne.out (by omega)).mono ?_
                rintro e w' ⟨rfl, rfl⟩
                go_wp2_with (at_builtin; refine app_int w.heap.size (fbPre lo k) (lo + (k : Int)) u6 _ _ _ rfl rfl rfl rfl (Hown.out.alloc _) (World.cell?_alloc_at _ _ _ _ rfl) (by omega) (by go_size) ?_)
                intro v3 w3 hown3 hgrow3 _
                have hB3 : Below w.heap.size w w3 := below_grown (hB.alloc hs _) (Hown.out.alloc _) hgrow3 (by go_size)
                have Hown3 := Lib.hid (rpl hown3 (fbPre_yes Hf.out).symm)
                clear hgrow3 hown3
                go_wp2_with fail
                go_roundw
                case rel => exact ⟨k + 1, by go_num, by omega, Hown3.out, hB3⟩
                case measure => simp [intOf]; omega
              · have hf' : ((fnd (lo + (k : Int))).2 == 1) = false := by simpa using hf
                have Hf := Lib.hid (show fundB (lo + (k : Int)) = false by unfold fundB; rw [hdisc, hf']; rfl)
                have Hown2 := Lib.hid (rpl Hown.out (fbPre_no Hf.out).symm)
                clear hf hdisc
                go_wp2_with fail
                refine (spec_diIs _ true _ Hdisc.out).mono ?_
                rintro e w' ⟨rfl, rfl⟩
                go_wp2_with fail
                refine (spec_diSplit _ _ Hne.out (by omega)).mono ?_
                rintro e w' ⟨rfl, rfl⟩
                go_wp2_with fail
                go_roundw
                case rel => exact ⟨k + 1, by go_num, by omega, Hown2.out, hB⟩
                case measure => simp [intOf]; omega
            · have hdisc' : discB (lo + (k : Int)) = false := by simpa using hdisc
              have Hdisc := Lib.hid hdisc'
              have Hf := Lib.hid (show fundB (lo + (k : Int)) = false by unfold fundB; rw [hdisc']; rfl)
              have Hown2 := Lib.hid (rpl Hown.out (fbPre_no Hf.out).symm)
              clear hdisc hdisc'
              go_wp2_with fail
              refine (spec_diIs _ false _ Hdisc.out).mono ?_
              rintro e w' ⟨rfl, rfl⟩
              go_wp2_with fail
              go_roundw
              case rel => exact ⟨k + 1, by go_num, by omega, Hown2.out, hB⟩
              case measure => simp [intOf]; omega
          · go_wp2_with fail
            go_ret2
            have hk' : k = (hi - lo + 1).toNat := by omega
            exact ⟨_, by rw [Hb.out]; rfl, rpl Hown.out (by rw [HL.out, hk']), hB⟩
      · have hb : fbB lo hi = false := by unfold fbB good2; rw [hg1, hg2]; simpa using hd
        have HL := Lib.hid (fbL_no hb)
        have Hb := Lib.hid hb
        clear hb hg1 hg2
        go_enter Try.func24, Try.ntmps24
        go_wp2_with fail
        refine (spec_nuGood lo true _ Hg1.out).mono ?_
        rintro e w' ⟨rfl, rfl⟩
        go_wp2_with fail
        refine (spec_nuGood hi true _ Hg2.out).mono ?_
        rintro e w' ⟨rfl, rfl⟩
        go_wp2_with fail
        go_ret2
        exact ⟨_, by rw [Hb.out]; rfl, rpl (Ints.nil _ _) HL.out.symm, by go_grown⟩
    · have hg2' : good hi = false := by simpa using hg2
      have hb : fbB lo hi = false := by unfold fbB good2; rw [hg1, hg2']; rfl
      have HL := Lib.hid (fbL_no hb)
      have Hb := Lib.hid hb
      have Hg1 := Lib.hid hg1
      have Hg2 := Lib.hid hg2'
      clear hb hg1 hg2 hg2'
      go_enter Try.func24, Try.ntmps24
      go_wp2_with fail
      refine (spec_nuGood lo true _ Hg1.out).mono ?_
      rintro e w' ⟨rfl, rfl⟩
      go_wp2_with fail
      refine (spec_nuGood hi false _ Hg2.out).mono ?_
      rintro e w' ⟨rfl, rfl⟩
      go_wp2_with fail
      go_ret2
      exact ⟨_, by rw [Hb.out]; rfl, rpl (Ints.nil _ _) HL.out.symm, by go_grown⟩
  · have hg1' : good lo = false := by simpa using hg1
    have hb : fbB lo hi = false := by unfold fbB good2; rw [hg1']; rfl
    have HL := Lib.hid (fbL_no hb)
    have Hb := Lib.hid hb
    have Hg1 := Lib.hid hg1'
    clear hb hg1 hg1'
    go_enter Try.func24, Try.ntmps24
    go_wp2_with fail
    refine (spec_nuGood lo false _ Hg1.out).mono ?_
    rintro e w' ⟨rfl, rfl⟩
    go_wp2_with fail
    go_ret2
    exact ⟨_, by rw [Hb.out]; rfl, rpl (Ints.nil _ _) HL.out.symm, by go_grown⟩
theorem walkFundamentalBetween (lo hi : Int) (w : World) (wl : (Lit.int .i64 lo).wf = true) (wh : (Lit.int .i64 hi).wf = true) :
    Calls Try.prog 6 #[.int .i64 lo, .int .i64 hi] w fun e w' => e = .returned (.bool true) ∧ Below w.heap.size w w' := by
  have hlen : (fbL lo hi).length ≤ 1000000 := fbL_len lo hi
  obtain ⟨L, hL⟩ : ∃ L : List Int, L = fbL lo hi := ⟨_, rfl⟩
  obtain ⟨b, hb⟩ : ∃ b : Bool, b = fbB lo hi := ⟨_, rfl⟩
  rw [← hL] at hlen
  have HL := Lib.hid hL
  have Hb := Lib.hid hb
  clear hL hb
  go_enter Try.func6, Try.ntmps6
  go_wp2_with fail
  refine (spec_FundamentalBetween lo hi _).mono ?_
  rintro e w1 ⟨v0, rfl, h0, hB1⟩
  rw [← HL.out] at h0
  rw [← Hb.out]
  have hs1 := hB1.size
  go_wp2_with fail
  refine (impl_FundamentalBetween lo hi _).mono ?_
  rintro e w2 ⟨v1, rfl, h1, hb2⟩
  rw [← HL.out] at h1
  rw [← Hb.out]
  have hB2 : Below w.heap.size w w2 := Below.after hB1 hb2
  have hs2 := hB2.size
  have hsep : v0.ownBlock = none ∨ v0.ownBlock ≠ v1.ownBlock := sep_of h0 h1
  have h0' := h0.below hb2
  clear h0 hb2 hB1
  have H0 := Lib.hid h0'
  have H1 := Lib.hid h1
  have Hsep := Lib.hid hsep
  clear h0' h1 hsep
  go_wp2_with fail
  refine (laws_eqIntS L v1 v0 w1.heap.size w.heap.size _ hlen H1.out H0.out).mono ?_
  rintro e w' ⟨rfl, n1, rfl⟩
  go_wp2_with fail
  refine (laws_markIntS L v1 w1.heap.size _ hlen (H1.out.drewN n1)).mono ?_
  rintro e w3 ⟨rfl, h3, hg3⟩
  have hB3 : Below w.heap.size w w3 := below_grown (below_drewN hB2 n1) ((H1.out.drewN n1).mono hs1) hg3 hs2
  have hs3 := hB3.size
  have H03 := Lib.hid (((H0.out.drewN n1)).kept hg3 Hsep.out)
  have H3 := Lib.hid h3
  clear h3 hg3
  go_wp2_with fail
  refine (laws_heldIntS L.length v1 w1.heap.size _ hlen H3.out).mono ?_
  rintro e w' ⟨rfl, rfl⟩
  go_wp2_with fail
  refine (impl_FundamentalBetween lo hi _).mono ?_
  rintro e w4 ⟨v2, rfl, h4, hb4⟩
  rw [← HL.out] at h4
  rw [← Hb.out]
  have hB4 : Below w.heap.size w w4 := Below.after hB3 hb4
  have H04 := Lib.hid (H03.out.below hb4)
  have H34 := Lib.hid (H3.out.below hb4)
  have H4 := Lib.hid h4
  clear h4 hb4
  go_wp2_with fail
  refine (laws_eqIntS L v2 v0 _ w.heap.size _ hlen H4.out H04.out).mono ?_
  rintro e w' ⟨rfl, n2, rfl⟩
  go_wp2_with fail
  refine (laws_heldIntS L.length v1 w1.heap.size _ hlen (H34.out.drewN n2)).mono ?_
  rintro e w' ⟨rfl, rfl⟩
  go_wp2_with fail
  go_ret
  exact ⟨rfl, below_drewN hB4 n2⟩
end Go.Proofs.Ytafcbaganjcnlaa
