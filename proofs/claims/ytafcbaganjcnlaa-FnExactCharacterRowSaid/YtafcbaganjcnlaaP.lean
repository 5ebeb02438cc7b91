/- Contracts and walks: rows of symbols. -/
import Derived.Test.YtafcbaganjcnlaaW
namespace Go.Proofs.Ytafcbaganjcnlaa
set_option linter.unusedVariables false
open Go.ChangeShapes Go.WideShapes Go.ChangeAt Go.RowKit

theorem Ints.empty_atP (w : World) {B : Nat} (b : Nat) (hb : w.heap.size = b) (hB : B ≤ b) : Ints (w.alloc (.cells #[] 3)) B (.slice (some ⟨b, 0, none⟩) 0 0) [] := by
  subst hb; exact Ints.made w [] #[] rfl hB (by simp)
def crPre (d : Int) (k : Nat) : List Int := (List.range k).map fun (i : Nat) => kron d (i : Int)
theorem crPre_next (d : Int) (k : Nat) : crPre d (k + 1) = crPre d k ++ [kron d (k : Int)] := by simp [crPre, List.range_succ]
theorem crPre_len (d : Int) (k : Nat) : (crPre d k).length = k := by simp [crPre]
def crB (d : Int) : Bool := discB d && decide ((d.natAbs : Int) ≤ 2000)
def crL (d : Int) : List Int := if crB d = true then crPre d d.natAbs else []
theorem crL_yes {d : Int} (h : crB d = true) : crL d = crPre d d.natAbs := by unfold crL; rw [if_pos h]
theorem crL_no {d : Int} (h : crB d = false) : crL d = [] := by unfold crL; rw [if_neg (by rw [h]; simp)]
theorem crL_len (d : Int) : (crL d).length ≤ 1000000 := by
  by_cases h : crB d = true
  · rw [crL_yes h, crPre_len]
    unfold crB at h
    rw [Bool.and_eq_true, decide_eq_true_iff] at h
    omega
  · rw [crL_no (by simpa using h)]; simp
theorem impl_CharacterRow (d : Int) (w : World) :
    Calls Try.prog 37 #[.int .i64 d] w fun e w' => ∃ v, e = .returned (.tuple #[v, .bool (crB d)]) ∧ Ints w' w.heap.size v (crL d) ∧ Below w.heap.size w w' := by
  by_cases h : discB d = true
  · have hd := discB_bd h
    have h1 := (discB_iff.1 h).1
    by_cases hl : (d.natAbs : Int) ≤ 2000
    · have hb : crB d = true := by unfold crB; rw [h]; simpa using hl
      have HL := Lib.hid (crL_yes hb)
      have Hb := Lib.hid hb
      have H := Lib.hid h
      clear h
      clear hb
      go_enter Try.func37, Try.ntmps37
      go_wp2_with fail
      refine (impl_isDiscriminant d true _ H.out).mono ?_
      rintro e w1 ⟨rfl, hb1⟩
      have hB1 : Below w.heap.size w w1 := Below.after (by go_grown) hb1
      obtain ⟨hc1, hf1⟩ := bcell hb1
      have hy1 := hb1.size
      try simp at hy1
      first | (with_reducible have hx1 := Nat.lt_of_succ_le hy1) | skip
      first | (with_reducible have hv1 := Nat.lt_of_succ_lt hx1) | skip
      first | (with_reducible have hu1 := Nat.lt_of_succ_lt hv1) | skip
      first | (have hz1 : w.heap.size < w1.heap.size := by omega) | (have hz1 := hB1.size)
      clear hb1
      go_wp2_with fail
      refine (impl_abs d _ (by omega) (by omega)).mono ?_
      rintro e w' ⟨rfl, rfl⟩
      go_wp2_with fail
      go_loopw [4, 5] (fun v n wr => ∃ k : Nat, n = .int .i64 (k : Int) ∧ k ≤ d.natAbs ∧ Ints wr w.heap.size v (crPre d k) ∧ Below w.heap.size w wr) (fun _ n _ => d.natAbs - (intOf n).toNat)
      case atStart => exact ⟨0, rfl, by omega, Ints.empty_atP _ _ rfl (by go_size), by go_grown⟩
      case round =>
        obtain ⟨k, rfl, hk, hown, hB⟩ := hrel
        have hs := hB.size
        have hfl := crPre_len d k
        have Hown := Lib.hid hown
        clear hown
        go_wp2_with fail
        refine (impl_abs d _ (by omega) (by omega)).mono ?_
        rintro e w' ⟨rfl, rfl⟩
        by_cases hlt : k < d.natAbs
        · have hlt' : (k : Int) < (d.natAbs : Int) := by omega
          go_wp2_with fail
          refine (impl_kronecker d k _ hd (by omega)).mono ?_
          rintro e w' ⟨rfl, rfl⟩
          obtain ⟨q, hq⟩ : ∃ q, q = kron d k := ⟨_, rfl⟩
          rw [← hq]
          have Hq := Lib.hid hq
          clear hq
          go_wp2_with (at_builtin; refine app_int w.heap.size (crPre d k) q u4 _ _ _ rfl rfl rfl rfl (Hown.out.alloc _) (World.cell?_alloc_at _ _ _ _ rfl) (by omega) (by go_size) ?_)
          intro v3 w3 hown3 hgrow3 _
          have hB3 : Below w.heap.size w w3 := below_grown (hB.alloc hs _) (Hown.out.alloc _) hgrow3 (by go_size)
          have Hown3 := Lib.hid hown3
          clear hgrow3 hown3
          go_wp2_with fail
          go_roundw
          case rel => exact ⟨k + 1, by go_num, by omega, by rw [crPre_next, ← Hq.out]; exact Hown3.out, hB3⟩
          case measure => simp [intOf]; omega
        · go_wp2_with fail
          go_ret2
          have hk' : k = d.natAbs := by omega
          exact ⟨_, by rw [Hb.out]; rfl, by rw [HL.out, ← hk']; exact Hown.out, hB⟩
    · have hb : crB d = false := by unfold crB; rw [h]; simpa using hl
      have HL := Lib.hid (crL_no hb)
      have Hb := Lib.hid hb
      have H := Lib.hid h
      clear h
      clear hb
      go_enter Try.func37, Try.ntmps37
      go_wp2_with fail
      refine (impl_isDiscriminant d true _ H.out).mono ?_
      rintro e w1 ⟨rfl, hb1⟩
      have hB1 : Below w.heap.size w w1 := Below.after (by go_grown) hb1
      obtain ⟨hc1, hf1⟩ := bcell hb1
      have hy1 := hb1.size
      try simp at hy1
      first | (with_reducible have hx1 := Nat.lt_of_succ_le hy1) | skip
      first | (with_reducible have hv1 := Nat.lt_of_succ_lt hx1) | skip
      first | (with_reducible have hu1 := Nat.lt_of_succ_lt hv1) | skip
      first | (have hz1 : w.heap.size < w1.heap.size := by omega) | (have hz1 := hB1.size)
      clear hb1
      go_wp2_with fail
      refine (impl_abs d _ (by omega) (by omega)).mono ?_
      rintro e w' ⟨rfl, rfl⟩
      go_wp2_with fail
      go_ret2
      exact ⟨_, by rw [Hb.out]; rfl, by rw [HL.out]; exact Ints.empty_atP _ _ rfl (by go_size), by go_grown⟩
  · have h' : discB d = false := by simpa using h
    have hb : crB d = false := by unfold crB; rw [h']; rfl
    have HL := Lib.hid (crL_no hb)
    have Hb := Lib.hid hb
    have H := Lib.hid h'
    clear hb h h'
    go_enter Try.func37, Try.ntmps37
    go_wp2_with fail
    refine (impl_isDiscriminant d false _ H.out).mono ?_
    rintro e w1 ⟨rfl, hb1⟩
    have hB1 : Below w.heap.size w w1 := Below.after (by go_grown) hb1
    obtain ⟨hc1, hf1⟩ := bcell hb1
    have hy1 := hb1.size
    try simp at hy1
    first | (with_reducible have hx1 := Nat.lt_of_succ_le hy1) | skip
    first | (with_reducible have hv1 := Nat.lt_of_succ_lt hx1) | skip
    first | (with_reducible have hu1 := Nat.lt_of_succ_lt hv1) | skip
    first | (have hz1 : w.heap.size < w1.heap.size := by omega) | (have hz1 := hB1.size)
    clear hb1
    go_wp2_with fail
    go_ret2
    exact ⟨_, by rw [Hb.out]; rfl, by rw [HL.out]; exact Ints.empty_atP _ _ rfl (by go_size), by go_grown⟩
theorem spec_CharacterRow (d : Int) (w : World) :
    Calls Try.prog 36 #[.int .i64 d] w fun e w' => ∃ v, e = .returned (.tuple #[v, .bool (crB d)]) ∧ Ints w' w.heap.size v (crL d) ∧ Below w.heap.size w w' := by
  by_cases h : discB d = true
  · have hd := discB_bd h
    have h1 := (discB_iff.1 h).1
    by_cases hl : (d.natAbs : Int) ≤ 2000
    · have hb : crB d = true := by unfold crB; rw [h]; simpa using hl
      have HL := Lib.hid (crL_yes hb)
      have Hb := Lib.hid hb
      have H := Lib.hid h
      clear h
      clear hb
      go_enter Try.func36, Try.ntmps36
      go_wp2_with fail
      refine (spec_diIs d true _ H.out).mono ?_
      rintro e w' ⟨rfl, rfl⟩
      go_wp2_with fail
      refine (spec_l1Abs d _ (by omega) (by omega)).mono ?_
      rintro e w' ⟨rfl, rfl⟩
      go_wp2_with fail
      go_loopw [4, 5] (fun v n wr => ∃ k : Nat, n = .int .i64 (k : Int) ∧ k ≤ d.natAbs ∧ Ints wr w.heap.size v (crPre d k) ∧ Below w.heap.size w wr) (fun _ n _ => d.natAbs - (intOf n).toNat)
      case atStart => exact ⟨0, rfl, by omega, Ints.nil _ _, by go_grown⟩
      case round =>
        obtain ⟨k, rfl, hk, hown, hB⟩ := hrel
        have hs := hB.size
        have hfl := crPre_len d k
        have Hown := Lib.hid hown
        clear hown
        go_wp2_with fail
        refine (spec_l1Abs d _ (by omega) (by omega)).mono ?_
        rintro e w' ⟨rfl, rfl⟩
        by_cases hlt : k < d.natAbs
        · have hlt' : (k : Int) < (d.natAbs : Int) := by omega
          go_wp2_with fail
          refine (spec_syKronecker d k _ hd (by omega)).mono ?_
          rintro e w2 ⟨rfl, hb2⟩
          have hB2 : Below w.heap.size w w2 := Below.after hB hb2
          have Hown2 := Lib.hid (Hown.out.below hb2)
          have hs2 := hB2.size
          clear hb2
          obtain ⟨q, hq⟩ : ∃ q, q = kron d k := ⟨_, rfl⟩
          rw [← hq]
          have Hq := Lib.hid hq
          clear hq
          go_wp2_with (at_builtin; refine app_int w.heap.size (crPre d k) q u4 _ _ _ rfl rfl rfl rfl (Hown2.out.alloc _) (World.cell?_alloc_at _ _ _ _ rfl) (by omega) (by go_size) ?_)
          intro v3 w3 hown3 hgrow3 _
          have hB3 : Below w.heap.size w w3 := below_grown (hB2.alloc hs2 _) (Hown2.out.alloc _) hgrow3 (by go_size)
          have Hown3 := Lib.hid hown3
          clear hgrow3 hown3
          go_wp2_with fail
          go_roundw
          case rel => exact ⟨k + 1, by go_num, by omega, by rw [crPre_next, ← Hq.out]; exact Hown3.out, hB3⟩
          case measure => simp [intOf]; omega
        · go_wp2_with fail
          go_ret2
          have hk' : k = d.natAbs := by omega
          exact ⟨_, by rw [Hb.out]; rfl, by rw [HL.out, ← hk']; exact Hown.out, hB⟩
    · have hb : crB d = false := by unfold crB; rw [h]; simpa using hl
      have HL := Lib.hid (crL_no hb)
      have Hb := Lib.hid hb
      have H := Lib.hid h
      clear h
      clear hb
      go_enter Try.func36, Try.ntmps36
      go_wp2_with fail
      refine (spec_diIs d true _ H.out).mono ?_
      rintro e w' ⟨rfl, rfl⟩
      go_wp2_with fail
      refine (spec_l1Abs d _ (by omega) (by omega)).mono ?_
      rintro e w' ⟨rfl, rfl⟩
      go_wp2_with fail
      go_ret2
      exact ⟨_, by rw [Hb.out]; rfl, by rw [HL.out]; exact Ints.nil _ _, by go_grown⟩
  · have h' : discB d = false := by simpa using h
    have hb : crB d = false := by unfold crB; rw [h']; rfl
    have HL := Lib.hid (crL_no hb)
    have Hb := Lib.hid hb
    have H := Lib.hid h'
    clear hb h h'
    go_enter Try.func36, Try.ntmps36
    go_wp2_with fail
    refine (spec_diIs d false _ H.out).mono ?_
    rintro e w' ⟨rfl, rfl⟩
    go_wp2_with fail
    go_ret2
    exact ⟨_, by rw [Hb.out]; rfl, by rw [HL.out]; exact Ints.nil _ _, by go_grown⟩
theorem walkCharacterRow (d : Int) (w : World) (wd : (Lit.int .i64 d).wf = true) :
    Calls Try.prog 10 #[.int .i64 d] w fun e w' => e = .returned (.bool true) ∧ Below w.heap.size w w' := by
  have hlen : (crL d).length ≤ 1000000 := crL_len d
  obtain ⟨L, hL⟩ : ∃ L : List Int, L = crL d := ⟨_, rfl⟩
  obtain ⟨b, hb⟩ : ∃ b : Bool, b = crB d := ⟨_, rfl⟩
  rw [← hL] at hlen
  have HL := Lib.hid hL
  have Hb := Lib.hid hb
  clear hL hb
  go_enter Try.func10, Try.ntmps10
  go_wp2_with fail
  refine (spec_CharacterRow d _).mono ?_
  rintro e w1 ⟨v0, rfl, h0, hB1⟩
  rw [← HL.out] at h0
  rw [← Hb.out]
  have hs1 := hB1.size
  go_wp2_with fail
  refine (impl_CharacterRow d _).mono ?_
  rintro e w2 ⟨v1, rfl, h1, hb2⟩
  rw [← HL.out] at h1
  rw [← Hb.out]
  have hB2 : Below w.heap.size w w2 := Below.after hB1 hb2
  have hs2 := hB2.size
  have hsep : v0.ownBlock = none ∨ v0.ownBlock ≠ v1.ownBlock := sep_of h0 h1
  have h0' := h0.below hb2
  clear h0 hb2 hB1
  have H0 := Lib.hid h0'
  have H1 := Lib.hid h1
  have Hsep := Lib.hid hsep
  clear h0' h1 hsep
  go_wp2_with fail
  refine (laws_eqIntS L v1 v0 w1.heap.size w.heap.size _ hlen H1.out H0.out).mono ?_
  rintro e w' ⟨rfl, n1, rfl⟩
  go_wp2_with fail
  refine (laws_markIntS L v1 w1.heap.size _ hlen (H1.out.drewN n1)).mono ?_
  rintro e w3 ⟨rfl, h3, hg3⟩
  have hB3 : Below w.heap.size w w3 := below_grown (below_drewN hB2 n1) ((H1.out.drewN n1).mono hs1) hg3 hs2
  have hs3 := hB3.size
  have H03 := Lib.hid (((H0.out.drewN n1)).kept hg3 Hsep.out)
  have H3 := Lib.hid h3
  clear h3 hg3
  go_wp2_with fail
  refine (laws_heldIntS L.length v1 w1.heap.size _ hlen H3.out).mono ?_
  rintro e w' ⟨rfl, rfl⟩
  go_wp2_with fail
  refine (impl_CharacterRow d _).mono ?_
  rintro e w4 ⟨v2, rfl, h4, hb4⟩
  rw [← HL.out] at h4
  rw [← Hb.out]
  have hB4 : Below w.heap.size w w4 := Below.after hB3 hb4
  have H04 := Lib.hid (H03.out.below hb4)
  have H34 := Lib.hid (H3.out.below hb4)
  have H4 := Lib.hid h4
  clear h4 hb4
  go_wp2_with fail
  refine (laws_eqIntS L v2 v0 _ w.heap.size _ hlen H4.out H04.out).mono ?_
  rintro e w' ⟨rfl, n2, rfl⟩
  go_wp2_with fail
  refine (laws_heldIntS L.length v1 w1.heap.size _ hlen (H34.out.drewN n2)).mono ?_
  rintro e w' ⟨rfl, rfl⟩
  go_wp2_with fail
  go_ret
  exact ⟨rfl, below_drewN hB4 n2⟩
end Go.Proofs.Ytafcbaganjcnlaa
