/- Contracts and walks: primes that divide a discriminant, fundamental discriminants between two numbers. -/
import Derived.Test.YtafcbaganjcnlaaU
import Derived.Test.YtafcbaganjcnlaaV
namespace Go.Proofs.Ytafcbaganjcnlaa
set_option linter.unusedVariables false
open Go.ChangeShapes Go.WideShapes Go.ChangeAt Go.RowKit

theorem rpl {l m : List Int} {w : World} {B : Nat} {v : Value} (h : Ints w B v l) (e : l = m) : Ints w B v m := e ▸ h
/-! primes that divide a discriminant -/
def rpL (d : Int) : List Int := if discB d = true then prs d.natAbs else []
theorem rpL_yes {d : Int} (h : discB d = true) : rpL d = prs d.natAbs := by unfold rpL; rw [if_pos h]
theorem rpL_no {d : Int} (h : discB d = false) : rpL d = [] := by unfold rpL; rw [if_neg (by rw [h]; simp)]
theorem rpL_len (d : Int) : (rpL d).length ≤ 1000000 := by
  by_cases h : discB d = true
  · rw [rpL_yes h]
    have h0 := disc_ne h
    have h1 := (discB_iff.1 h).1
    have := prs_len (n := (d.natAbs : Int)) (by omega)
    omega
  · rw [rpL_no (by simpa using h)]; simp
theorem impl_RamifiedPrimes (d : Int) (w : World) :
    Calls Try.prog 20 #[.int .i64 d] w fun e w' => ∃ v, e = .returned (.tuple #[v, .bool (discB d)]) ∧ Ints w' w.heap.size v (rpL d) ∧ Below w.heap.size w w' := by
  by_cases h : discB d = true
  · have h0 := disc_ne h
    have h1 := (discB_iff.1 h).1
    have Hr := Lib.hid (rpL_yes h)
    have H := Lib.hid h
    clear h
    go_enter Try.func20, Try.ntmps20
    go_wp2_with fail
    refine (impl_isDiscriminant d true _ H.out).mono ?_
    rintro e w1 ⟨rfl, hb1⟩
    have hB1 : Below w.heap.size w w1 := Below.after (by go_grown) hb1
    obtain ⟨hc1, hf1⟩ := bcell hb1
    have hy1 := hb1.size
    try simp at hy1
    first | (with_reducible have hx1 := Nat.lt_of_succ_le hy1) | skip
    first | (with_reducible have hv1 := Nat.lt_of_succ_lt hx1) | skip
    first | (with_reducible have hu1 := Nat.lt_of_succ_lt hv1) | skip
    first | (have hz1 : w.heap.size < w1.heap.size := by omega) | (have hz1 := hB1.size)
    clear hb1
    go_wp2_with fail
    refine (impl_abs d _ (by omega) (by omega)).mono ?_
    rintro e w' ⟨rfl, rfl⟩
    go_wp2_with fail
    refine (impl_primesOf d.natAbs _ (by omega) (by omega)).mono ?_
    rintro e w2 ⟨v, rfl, h2, hb2⟩
    have hB2 : Below w.heap.size w w2 := Below.after (by go_grown) hb2
    have h2' := h2.mono (B' := w.heap.size) (by go_size)
    clear h2 hb2
    go_wp2_with fail
    go_ret2
    exact ⟨v, by rw [H.out]; rfl, rpl h2' Hr.out.symm, hB2⟩
  · have h' : discB d = false := by simpa using h
    have Hr := Lib.hid (rpL_no h')
    have H := Lib.hid h'
    clear h'
    clear h
    go_enter Try.func20, Try.ntmps20
    go_wp2_with fail
    refine (impl_isDiscriminant d false _ H.out).mono ?_
    rintro e w1 ⟨rfl, hb1⟩
    have hB1 : Below w.heap.size w w1 := Below.after (by go_grown) hb1
    obtain ⟨hc1, hf1⟩ := bcell hb1
    have hy1 := hb1.size
    try simp at hy1
    first | (with_reducible have hx1 := Nat.lt_of_succ_le hy1) | skip
    first | (with_reducible have hv1 := Nat.lt_of_succ_lt hx1) | skip
    first | (with_reducible have hu1 := Nat.lt_of_succ_lt hv1) | skip
    first | (have hz1 : w.heap.size < w1.heap.size := by omega) | (have hz1 := hB1.size)
    clear hb1
    go_wp2_with fail
    go_ret2
    exact ⟨_, by rw [H.out]; rfl, rpl (Ints.made w1 [] _ rfl hB1.size (by simp)) Hr.out.symm, by go_grown⟩
theorem spec_RamifiedPrimes (d : Int) (w : World) :
    Calls Try.prog 19 #[.int .i64 d] w fun e w' => ∃ v, e = .returned (.tuple #[v, .bool (discB d)]) ∧ Ints w' w.heap.size v (rpL d) ∧ Below w.heap.size w w' := by
  by_cases h : discB d = true
  · have h0 := disc_ne h
    have h1 := (discB_iff.1 h).1
    have Hr := Lib.hid (rpL_yes h)
    have H := Lib.hid h
    clear h
    go_enter Try.func19, Try.ntmps19
    go_wp2_with fail
    refine (spec_diIs d true _ H.out).mono ?_
    rintro e w' ⟨rfl, rfl⟩
    go_wp2_with fail
    refine (spec_l1Abs d _ (by omega) (by omega)).mono ?_
    rintro e w' ⟨rfl, rfl⟩
    go_wp2_with fail
    refine (spec_nuPrimes d.natAbs _ (by omega) (by omega)).mono ?_
    rintro e w2 ⟨v, rfl, h2, hb2⟩
    have hB2 : Below w.heap.size w w2 := Below.after (by go_grown) hb2
    have h2' := h2.mono (B' := w.heap.size) (by go_size)
    clear h2 hb2
    go_wp2_with fail
    go_ret2
    exact ⟨v, by rw [H.out]; rfl, rpl h2' Hr.out.symm, hB2⟩
  · have h' : discB d = false := by simpa using h
    have Hr := Lib.hid (rpL_no h')
    have H := Lib.hid h'
    clear h'
    clear h
    go_enter Try.func19, Try.ntmps19
    go_wp2_with fail
    refine (spec_diIs d false _ H.out).mono ?_
    rintro e w' ⟨rfl, rfl⟩
    go_wp2_with fail
    go_ret2
    exact ⟨_, by rw [H.out]; rfl, rpl (Ints.nil _ _) Hr.out.symm, by go_grown⟩
theorem walkRamifiedPrimes (d : Int) (w : World) (wd : (Lit.int .i64 d).wf = true) :
    Calls Try.prog 5 #[.int .i64 d] w fun e w' => e = .returned (.bool true) ∧ Below w.heap.size w w' := by
  have hlen : (rpL d).length ≤ 1000000 := rpL_len d
  obtain ⟨L, hL⟩ : ∃ L : List Int, L = rpL d := ⟨_, rfl⟩
  obtain ⟨b, hb⟩ : ∃ b : Bool, b = discB d := ⟨_, rfl⟩
  rw [← hL] at hlen
  have HL := Lib.hid hL
  have Hb := Lib.hid hb
  clear hL hb
  go_enter Try.func5, Try.ntmps5
  go_wp2_with fail
  refine (spec_RamifiedPrimes d _).mono ?_
  rintro e w1 ⟨v0, rfl, h0, hB1⟩
  rw [← HL.out] at h0
  rw [← Hb.out]
  have hs1 := hB1.size
  go_wp2_with fail
  refine (impl_RamifiedPrimes d _).mono ?_
  rintro e w2 ⟨v1, rfl, h1, hb2⟩
  rw [← HL.out] at h1
  rw [← Hb.out]
  have hB2 : Below w.heap.size w w2 := Below.after hB1 hb2
  have hs2 := hB2.size
  have hsep : v0.ownBlock = none ∨ v0.ownBlock ≠ v1.ownBlock := sep_of h0 h1
  have h0' := h0.below hb2
  clear h0 hb2 hB1
  have H0 := Lib.hid h0'
  have H1 := Lib.hid h1
  have Hsep := Lib.hid hsep
  clear h0' h1 hsep
  go_wp2_with fail
  refine (laws_eqIntS L v1 v0 w1.heap.size w.heap.size _ hlen H1.out H0.out).mono ?_
  rintro e w' ⟨rfl, n1, rfl⟩
  go_wp2_with fail
  refine (laws_markIntS L v1 w1.heap.size _ hlen (H1.out.drewN n1)).mono ?_
  rintro e w3 ⟨rfl, h3, hg3⟩
  have hB3 : Below w.heap.size w w3 := below_grown (below_drewN hB2 n1) ((H1.out.drewN n1).mono hs1) hg3 hs2
  have hs3 := hB3.size
  have H03 := Lib.hid (((H0.out.drewN n1)).kept hg3 Hsep.out)
  have H3 := Lib.hid h3
  clear h3 hg3
  go_wp2_with fail
  refine (laws_heldIntS L.length v1 w1.heap.size _ hlen H3.out).mono ?_
  rintro e w' ⟨rfl, rfl⟩
  go_wp2_with fail
  refine (impl_RamifiedPrimes d _).mono ?_
  rintro e w4 ⟨v2, rfl, h4, hb4⟩
  rw [← HL.out] at h4
  rw [← Hb.out]
  have hB4 : Below w.heap.size w w4 := Below.after hB3 hb4
  have H04 := Lib.hid (H03.out.below hb4)
  have H34 := Lib.hid (H3.out.below hb4)
  have H4 := Lib.hid h4
  clear h4 hb4
  go_wp2_with fail
  refine (laws_eqIntS L v2 v0 _ w.heap.size _ hlen H4.out H04.out).mono ?_
  rintro e w' ⟨rfl, n2, rfl⟩
  go_wp2_with fail
  refine (laws_heldIntS L.length v1 w1.heap.size _ hlen (H34.out.drewN n2)).mono ?_
  rintro e w' ⟨rfl, rfl⟩
  go_wp2_with fail
  go_ret
  exact ⟨rfl, below_drewN hB4 n2⟩
end Go.Proofs.Ytafcbaganjcnlaa
