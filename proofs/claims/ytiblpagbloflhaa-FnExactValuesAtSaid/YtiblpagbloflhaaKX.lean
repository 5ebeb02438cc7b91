/- Contracts and the walk of the law: values of the assigned characters at an integer. -/
import Derived.Test.YtiblpagbloflhaaKW
namespace Go.Proofs.Ytiblpagbloflhaa
set_option linter.unusedVariables false
open Go.ChangeShapes Go.WideShapes Go.ChangeAt Go.RowKit

theorem Ints.emptyAt (w : World) {B b : Nat} (hb : b = w.heap.size) (hB : B ≤ w.heap.size) : Ints (w.alloc (.cells #[] 3)) B (.slice (some ⟨b, 0, none⟩) 0 0) [] := by
  subst hb; exact Ints.made w [] #[] rfl hB (by simp)
def cpB (d n : Int) : Bool := negD d && (good n && decide ((Int.gcd n (2 * d) : Int) = 1))
def vaLs (d n : Int) : List Int := if cpB d n = true then valL (-d) n else []
theorem cpB_neg {d n : Int} (h : cpB d n = true) : negD d = true ∧ good n = true := by
  unfold cpB at h
  rw [Bool.and_eq_true, Bool.and_eq_true] at h
  exact ⟨h.1, h.2.1⟩
theorem vaLs_len (d n : Int) : (vaLs d n).length ≤ 1000000 := by
  unfold vaLs
  split
  · rename_i h
    obtain ⟨n1, n2, _⟩ := negD_iff.1 (cpB_neg h).1
    have := valL_len (D := -d) n (by omega)
    omega
  · simp
theorem vaLs_yes {d n : Int} (h : cpB d n = true) : vaLs d n = valL (-d) n := by unfold vaLs; rw [if_pos h]
theorem vaLs_no {d n : Int} (h : cpB d n = false) : vaLs d n = [] := by unfold vaLs; rw [if_neg (by simp [h])]
theorem cp_cases (d n : Int) : negD d = false ∨ (negD d = true ∧ good n = false) ∨ (negD d = true ∧ good n = true) := by
  cases negD d <;> cases good n <;> simp
theorem spec_chPrime (d n : Int) (v : Bool) (w : World) (hv : cpB d n = v) :
    Calls Try.prog 100 #[.int .i64 d, .int .i64 n] w fun e w' => e = .returned (.bool v) ∧ Below w.heap.size w w' := by
  have Hv := Lib.hid hv
  clear hv
  rcases cp_cases d n with hd | ⟨hd, hn⟩ | ⟨hd, hn⟩
  · have Hd := Lib.hid hd
    clear hd
    go_enter Try.func100, Try.ntmps100
    go_wp2_with fail
    refine (spec_reDisc d false _ Hd.out).mono ?_
    rintro e w' ⟨rfl, rfl⟩
    go_wp2_with fail
    go_ret
    exact ⟨rbool (by rw [← Hv.out]; simp [cpB, Hd.out]), by go_grown⟩
  · have Hd := Lib.hid hd
    clear hd
    have Hn := Lib.hid hn
    clear hn
    go_enter Try.func100, Try.ntmps100
    go_wp2_with fail
    refine (spec_reDisc d true _ Hd.out).mono ?_
    rintro e w' ⟨rfl, rfl⟩
    go_wp2_with fail
    refine (spec_nuGood n false _ Hn.out).mono ?_
    rintro e w' ⟨rfl, rfl⟩
    go_wp2_with fail
    go_ret
    exact ⟨rbool (by rw [← Hv.out]; simp [cpB, Hd.out, Hn.out]), by go_grown⟩
  · obtain ⟨d1, d2, _⟩ := negD_iff.1 hd
    obtain ⟨n1, n2⟩ := good_iff.1 hn
    have Hd := Lib.hid hd
    clear hd
    have Hn := Lib.hid hn
    clear hn
    go_enter Try.func100, Try.ntmps100
    go_wp2_with fail
    refine (spec_reDisc d true _ Hd.out).mono ?_
    rintro e w' ⟨rfl, rfl⟩
    go_wp2_with fail
    refine (spec_nuGood n true _ Hn.out).mono ?_
    rintro e w' ⟨rfl, rfl⟩
    go_wp2_with fail
    refine (spec_nuGcd n (2 * d) _ (by omega) (by omega)).mono ?_
    rintro e w1 ⟨rfl, hb1⟩
    have hB1 : Below w.heap.size w w1 := Below.after (by go_grown) hb1
    obtain ⟨hc1, hf1⟩ := bcell hb1
    have hy1 := hb1.size
    try simp at hy1
    first | (with_reducible have hx1 := Nat.lt_of_succ_le hy1) | skip
    first | (with_reducible have hv1 := Nat.lt_of_succ_lt hx1) | skip
    first | (with_reducible have hu1 := Nat.lt_of_succ_lt hv1) | skip
    first | (have hz1 : w.heap.size < w1.heap.size := by omega) | (have hz1 := hB1.size)
    clear hb1
    go_wp2_with fail
    all_goals (try go_ret)
    all_goals exact ⟨rbool (by rw [← Hv.out, Bool.eq_iff_iff]; simp [cpB, Hd.out, Hn.out]), by go_grown⟩
theorem spec_ValuesAt (d n : Int) (w : World) :
    Calls Try.prog 32 #[.int .i64 d, .int .i64 n] w fun e w' => ∃ v, e = .returned (.tuple #[v, .bool (cpB d n)]) ∧ Ints w' w.heap.size v (vaLs d n) ∧ Below w.heap.size w w' := by
  by_cases h : cpB d n = true
  · obtain ⟨hd, hn⟩ := cpB_neg h
    obtain ⟨d1, d2, _⟩ := negD_iff.1 hd
    obtain ⟨n1, n2⟩ := good_iff.1 hn
    obtain ⟨D, hD⟩ : ∃ D, D = -d := ⟨_, rfl⟩
    obtain rfl : d = -D := by omega
    have Hl := Lib.hid (show vaLs (-D) n = valL D n by rw [vaLs_yes h, Int.neg_neg])
    have Hb := Lib.hid h
    clear h hd hn hD
    go_enter Try.func32, Try.ntmps32
    go_wp2_with fail
    refine (spec_chPrime (-D) n true _ Hb.out).mono ?_
    rintro e w1 ⟨rfl, hb1⟩
    have hB1 : Below w.heap.size w w1 := Below.after (by go_grown) hb1
    obtain ⟨hc1, hf1⟩ := bcell hb1
    have hy1 := hb1.size
    try simp at hy1
    first | (with_reducible have hx1 := Nat.lt_of_succ_le hy1) | skip
    first | (with_reducible have hv1 := Nat.lt_of_succ_lt hx1) | skip
    first | (with_reducible have hu1 := Nat.lt_of_succ_lt hv1) | skip
    first | (have hz1 : w.heap.size < w1.heap.size := by omega) | (have hz1 := hB1.size)
    clear hb1
    go_wp2_with fail
    refine (spec_chList D n _ (by omega) (by omega) (by omega) (by omega)).mono ?_
    rintro e w2 ⟨v, rfl, hv, hb2⟩
    have hB2 : Below w.heap.size w w2 := Below.after hB1 hb2
    have hs1 := hB1.size
    have K := Lib.hid (And.intro (hv.mono (B' := w.heap.size) (by omega)) hB2)
    clear hv hb2 hB2 hB1
    go_wp2_with fail
    go_ret2
    exact ⟨_, by rw [Hb.out]; rfl, by rw [Hl.out]; exact K.out.1, K.out.2⟩
  · have h' : cpB d n = false := by simpa using h
    have Hl := Lib.hid (vaLs_no h')
    have Hb := Lib.hid h'
    clear h h'
    go_enter Try.func32, Try.ntmps32
    go_wp2_with fail
    refine (spec_chPrime d n false _ Hb.out).mono ?_
    rintro e w1 ⟨rfl, hb1⟩
    have hB1 : Below w.heap.size w w1 := Below.after (by go_grown) hb1
    obtain ⟨hc1, hf1⟩ := bcell hb1
    have hy1 := hb1.size
    try simp at hy1
    first | (with_reducible have hx1 := Nat.lt_of_succ_le hy1) | skip
    first | (with_reducible have hv1 := Nat.lt_of_succ_lt hx1) | skip
    first | (with_reducible have hu1 := Nat.lt_of_succ_lt hv1) | skip
    first | (have hz1 : w.heap.size < w1.heap.size := by omega) | (have hz1 := hB1.size)
    clear hb1
    go_wp2_with fail
    go_ret2
    exact ⟨_, by rw [Hb.out]; rfl, by rw [Hl.out]; exact Ints.nil _ _, by go_grown⟩
theorem impl_ValuesAt (d n : Int) (w : World) :
    Calls Try.prog 33 #[.int .i64 d, .int .i64 n] w fun e w' => ∃ v, e = .returned (.tuple #[v, .bool (cpB d n)]) ∧ Ints w' w.heap.size v (vaLs d n) ∧ Below w.heap.size w w' := by
  rcases cp_cases d n with hd | ⟨hd, hn⟩ | ⟨hd, hn⟩
  · have h' : cpB d n = false := by simp [cpB, hd]
    have Hl := Lib.hid (vaLs_no h')
    have Hb := Lib.hid h'
    have Hd := Lib.hid hd
    clear hd
    clear h'
    go_enter Try.func33, Try.ntmps33
    go_wp2_with fail
    refine (impl_isNegativeDisc d false _ Hd.out).mono ?_
    rintro e w' ⟨rfl, rfl⟩
    go_wp2_with fail
    go_ret2
    exact ⟨_, by rw [Hb.out]; rfl, by rw [Hl.out]; exact Ints.emptyAt _ (by first | rfl | simp) (by first | omega | (simp; done) | (simp; omega)), by go_grown⟩
  · have h' : cpB d n = false := by simp [cpB, hd, hn]
    have Hl := Lib.hid (vaLs_no h')
    have Hb := Lib.hid h'
    have Hd := Lib.hid hd
    clear hd
    have Hn := Lib.hid hn
    clear hn
    clear h'
    go_enter Try.func33, Try.ntmps33
    go_wp2_with fail
    refine (impl_isNegativeDisc d true _ Hd.out).mono ?_
    rintro e w' ⟨rfl, rfl⟩
    go_wp2_with fail
    refine (are1 n _ _ false _ Hn.out (by simp)).mono ?_
    rintro e w' ⟨rfl, rfl⟩
    go_wp2_with fail
    go_ret2
    exact ⟨_, by rw [Hb.out]; rfl, by rw [Hl.out]; exact Ints.emptyAt _ (by first | rfl | simp) (by first | omega | (simp; done) | (simp; omega)), by go_grown⟩
  · obtain ⟨d1, d2, _⟩ := negD_iff.1 hd
    obtain ⟨n1, n2⟩ := good_iff.1 hn
    obtain ⟨D, hD⟩ : ∃ D, D = -d := ⟨_, rfl⟩
    obtain rfl : d = -D := by omega
    obtain ⟨G, hG⟩ : ∃ G : Int, (Int.gcd n (2 * -D) : Int) = G := ⟨_, rfl⟩
    have HG := Lib.hid hG
    by_cases h1 : G = 1
    · subst h1
      have h : cpB (-D) n = true := by unfold cpB; rw [hd, hn, hG]; rfl
      have Hl := Lib.hid (show vaLs (-D) n = valL D n by rw [vaLs_yes h, Int.neg_neg])
      have Hb := Lib.hid h
      have Hd := Lib.hid hd
      clear hd
      have Hn := Lib.hid hn
      clear hn
      clear h hD hG
      go_enter Try.func33, Try.ntmps33
      go_wp2_with fail
      refine (impl_isNegativeDisc (-D) true _ Hd.out).mono ?_
      rintro e w' ⟨rfl, rfl⟩
      go_wp2_with fail
      refine (are1 n _ _ true _ Hn.out (by simp)).mono ?_
      rintro e w' ⟨rfl, rfl⟩
      go_wp2_with fail
      refine (impl_gcd n (2 * -D) _ (by omega) (by omega)).mono ?_
      rintro e w1 ⟨rfl, hb1⟩
      rw [HG.out]
      have hB1 : Below w.heap.size w w1 := Below.after (by go_grown) hb1
      clear hb1
      go_wp2_with fail
      refine (impl_valuesAt D n _ (by omega) (by omega) (by omega) (by omega)).mono ?_
      rintro e w2 ⟨v, rfl, hv, hb2⟩
      have hB2 : Below w.heap.size w w2 := Below.after hB1 hb2
      have hs1 := hB1.size
      have K := Lib.hid (And.intro (hv.mono (B' := w.heap.size) (by omega)) hB2)
      clear hv hb2 hB2 hB1
      go_wp2_with fail
      go_ret2
      exact ⟨_, by rw [Hb.out]; rfl, by rw [Hl.out]; exact K.out.1, K.out.2⟩
    · have h : cpB (-D) n = false := by unfold cpB; rw [hd, hn, hG]; simp [h1]
      have Hl := Lib.hid (vaLs_no h)
      have Hb := Lib.hid h
      have h1' : (G != 1) = true := by simpa using h1
      have Hd := Lib.hid hd
      clear hd
      have Hn := Lib.hid hn
      clear hn
      clear h hD hG h1
      go_enter Try.func33, Try.ntmps33
      go_wp2_with fail
      refine (impl_isNegativeDisc (-D) true _ Hd.out).mono ?_
      rintro e w' ⟨rfl, rfl⟩
      go_wp2_with fail
      refine (are1 n _ _ true _ Hn.out (by simp)).mono ?_
      rintro e w' ⟨rfl, rfl⟩
      go_wp2_with fail
      refine (impl_gcd n (2 * -D) _ (by omega) (by omega)).mono ?_
      rintro e w1 ⟨rfl, hb1⟩
      rw [HG.out]
      have hB1 : Below w.heap.size w w1 := Below.after (by go_grown) hb1
      have hs1 := hB1.size
      clear hb1
      go_wp2_with fail
      go_ret2
      exact ⟨_, by rw [Hb.out]; rfl, by rw [Hl.out]; exact Ints.emptyAt _ (by first | rfl | simp) (by first | omega | (simp; done) | (simp; omega)), by go_grown⟩
theorem walkValuesAt (d n : Int) (w : World) (wd : (Lit.int .i64 d).wf = true) (wn : (Lit.int .i64 n).wf = true) :
    Calls Try.prog 9 #[.int .i64 d, .int .i64 n] w fun e w' => e = .returned (.bool true) ∧ Below w.heap.size w w' := by
  have hlen : (vaLs d n).length ≤ 1000000 := vaLs_len d n
  obtain ⟨L, hL⟩ : ∃ L : List Int, L = vaLs d n := ⟨_, rfl⟩
  obtain ⟨b, hb⟩ : ∃ b : Bool, b = cpB d n := ⟨_, rfl⟩
  rw [← hL] at hlen
  have HL := Lib.hid hL
  have Hb := Lib.hid hb
  clear hL hb
  go_enter Try.func9, Try.ntmps9
  go_wp2_with fail
  refine (spec_ValuesAt d n _).mono ?_
  rintro e w1 ⟨v0, rfl, h0, hB1⟩
  rw [← HL.out] at h0
  rw [← Hb.out]
  have hs1 := hB1.size
  go_wp2_with fail
  refine (impl_ValuesAt d n _).mono ?_
  rintro e w2 ⟨v1, rfl, h1, hb2⟩
  rw [← HL.out] at h1
  rw [← Hb.out]
  have hB2 : Below w.heap.size w w2 := Below.after hB1 hb2
  have hs2 := hB2.size
  have hsep : v0.ownBlock = none ∨ v0.ownBlock ≠ v1.ownBlock := sep_of h0 h1
  have h0' := h0.below hb2
  clear h0 hb2 hB1
  have H0 := Lib.hid h0'
  have H1 := Lib.hid h1
  have Hsep := Lib.hid hsep
  clear h0' h1 hsep
  go_wp2_with fail
  refine (laws_eqIntS L v1 v0 w1.heap.size w.heap.size _ hlen H1.out H0.out).mono ?_
  rintro e w' ⟨rfl, n1, rfl⟩
  go_wp2_with fail
  refine (laws_markIntS L v1 w1.heap.size _ hlen (H1.out.drewN n1)).mono ?_
  rintro e w3 ⟨rfl, h3, hg3⟩
  have hB3 : Below w.heap.size w w3 := below_grown (below_drewN hB2 n1) ((H1.out.drewN n1).mono hs1) hg3 hs2
  have hs3 := hB3.size
  have H03 := Lib.hid (((H0.out.drewN n1)).kept hg3 Hsep.out)
  have H3 := Lib.hid h3
  clear h3 hg3
  go_wp2_with fail
  refine (laws_heldIntS L.length v1 w1.heap.size _ hlen H3.out).mono ?_
  rintro e w' ⟨rfl, rfl⟩
  go_wp2_with fail
  refine (impl_ValuesAt d n _).mono ?_
  rintro e w4 ⟨v2, rfl, h4, hb4⟩
  rw [← HL.out] at h4
  rw [← Hb.out]
  have hB4 : Below w.heap.size w w4 := Below.after hB3 hb4
  have H04 := Lib.hid (H03.out.below hb4)
  have H34 := Lib.hid (H3.out.below hb4)
  have H4 := Lib.hid h4
  clear h4 hb4
  go_wp2_with fail
  refine (laws_eqIntS L v2 v0 _ w.heap.size _ hlen H4.out H04.out).mono ?_
  rintro e w' ⟨rfl, n2, rfl⟩
  go_wp2_with fail
  refine (laws_heldIntS L.length v1 w1.heap.size _ hlen (H34.out.drewN n2)).mono ?_
  rintro e w' ⟨rfl, rfl⟩
  go_wp2_with fail
  go_ret
  exact ⟨rfl, below_drewN hB4 n2⟩
end Go.Proofs.Ytiblpagbloflhaa
