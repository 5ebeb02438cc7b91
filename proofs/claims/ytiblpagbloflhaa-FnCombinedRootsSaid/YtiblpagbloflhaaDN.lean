/- Contracts: drawn roots and norms. -/
import Derived.Test.YtiblpagbloflhaaNF
import Derived.Test.YtiblpagbloflhaaDR
import Derived.Test.YtiblpagbloflhaaIV
import Derived.Test.YtiblpagbloflhaaCS
namespace Go.Proofs.Ytiblpagbloflhaa
set_option linter.unusedVariables false
open Go.ChangeShapes Go.WideShapes Go.ChangeAt Go.RowKit

theorem CurW.drew {w : World} {c N m : Nat} (h : CurW w c N m) : CurW w.drew c N m := h
theorem spec_l1Least (a b : Int) (w : World) :
    Calls Try.prog 170 #[.int .i64 a, .int .i64 b] w fun e w' => e = .returned (.int .i64 (if a < b then a else b)) ∧ w = w' := by
  by_cases h : a < b
  · rw [if_pos h]
    go_enter Try.func170, Try.ntmps170
    go_wp2
    go_ret
    exact ⟨rfl, rfl⟩
  · rw [if_neg h]
    go_enter Try.func170, Try.ntmps170
    go_wp2
    go_ret
    exact ⟨rfl, rfl⟩
theorem cur_natural (c N m : Nat) (w : World) (hm : m ≤ 1000000) (hN : N ≤ w.heap.size) (h : CurW w c N m) :
    Calls Try.prog 125 #[.pointer (some ⟨c, 0, none⟩)] w fun e w' => ∃ v : Int, e = .returned (.int .i64 v) ∧ I64 v ∧ CurW w' c N (m + 10) ∧ w.grownBy w' (some c) := by
  have H := Lib.hid h
  have HG0 := Lib.hid (grow_drewN w 0 (some c))
  clear h
  go_enter Try.func125, Try.ntmps125
  go_wp2_with fail
  refine (cur_pick 10 c N m _ (by omega) (by omega) hN H.out).mono ?_
  rintro e w1 ⟨x1, rfl, a1, b1, hc, hg⟩
  have hz1 := hg.size
  have HC1 := Lib.hid hc
  have HG1 := Lib.hid (cg_trans HG0.out hg)
  clear hc hg
  by_cases e0 : x1 = 0
  · have f0 := beqT e0
    clear e0
    go_wp2_with fail
    refine (cur_number c N (m + 2) _ (by omega) (by omega) HC1.out).mono ?_
    rintro e w2 ⟨v, rfl, hv, hc, hg⟩
    have HC := Lib.hid hc
    have HG := Lib.hid (cg_trans HG1.out hg)
    clear hc hg
    go_wp2_with fail
    go_ret
    exact ⟨v, rfl, hv, HC.out.up (by omega), HG.out⟩
  · have f0 := beqF e0
    by_cases e1 : x1 = 1
    · have f1 := beqT e1
      clear e0 e1
      go_wp2_with fail
      refine (cur_lit [1, 1024, 720720, 510510, 999983, 998001, 46656, 1000000] _ rfl (by simp) (by simp) c N (m + 2) _ (by omega) (by omega) HC1.out).mono ?_
      rintro e w2 ⟨v, rfl, hv, hc, hg⟩
      have hb : I64 v := by unfold I64; simp at hv; omega
      have HC := Lib.hid hc
      have HG := Lib.hid (cg_trans HG1.out hg)
      clear hc hg hv
      go_wp2_with fail
      go_ret
      exact ⟨v, rfl, hb, HC.out.up (by omega), HG.out⟩
    · have f1 := beqF e1
      by_cases e3 : x1 = 2 ∨ x1 = 3
      · have f3 : (x1 == 2) = true ∨ ((x1 == 2) = false ∧ (x1 == 3) = true) := by
          rcases e3 with e | e
          · exact .inl (beqT e)
          · exact .inr ⟨beqF (by omega), beqT e⟩
        clear e0 e1 e3
        rcases f3 with f3 | ⟨f3, f4⟩
        all_goals
          go_wp2_with fail
          refine (cur_pick 20000 c N (m + 2) _ (by omega) (by omega) (by omega) HC1.out).mono ?_
          rintro e w2 ⟨x2, rfl, a2, b2, hc, hg⟩
          have hz2 := hg.size
          have HC2 := Lib.hid hc
          have HG2 := Lib.hid (cg_trans HG1.out hg)
          clear hc hg
          go_wp2_with fail
          refine (cur_pick 40 c N (m + 2 + 2) _ (by omega) (by omega) (by omega) HC2.out).mono ?_
          rintro e w3 ⟨x3, rfl, a3, b3, hc, hg⟩
          have hz3 := hg.size
          have HC3 := Lib.hid hc
          have HG3 := Lib.hid (cg_trans HG2.out hg)
          clear hc hg
          obtain ⟨q1, q2⟩ := mulb (a := x2) (b := 1 + x3) (A := 20000) (B := 40) (by omega) (by omega) (by omega) (by omega)
          go_wp2_with fail
          go_ret
          exact ⟨_, rfl, ⟨by omega, by omega⟩, HC3.out.up (by omega), HG3.out⟩
      · have f3 := beqF (show ¬ x1 = 2 by omega)
        have f4 := beqF (show ¬ x1 = 3 by omega)
        clear e0 e1 e3
        go_wp2_with fail
        refine (cur_pick 200 c N (m + 2) _ (by omega) (by omega) (by omega) HC1.out).mono ?_
        rintro e w2 ⟨x2, rfl, a2, b2, hc, hg⟩
        have hz2 := hg.size
        have HC2 := Lib.hid hc
        have HG2 := Lib.hid (cg_trans HG1.out hg)
        clear hc hg
        go_wp2_with fail
        go_ret
        exact ⟨_, rfl, ⟨by omega, by omega⟩, HC2.out.up (by omega), HG2.out⟩
theorem cur_squareModulo (q : Int) (c N m : Nat) (w : World) (hm : m ≤ 900000) (hN : N ≤ w.heap.size) (h : CurW w c N m) :
    Calls Try.prog 132 #[.pointer (some ⟨c, 0, none⟩), .int .i64 q] w fun e w' => ∃ v : Int, e = .returned (.int .i64 v) ∧ I64 v ∧ CurW w' c N (m + 12) ∧ w.grownBy w' (some c) := by
  have H := Lib.hid h
  clear h
  go_enter Try.func132, Try.ntmps132
  go_wp2_with fail
  refine (cur_one 5 c N m _ (by omega) (by omega) hN H.out).mono ?_
  rintro e w1 ⟨b, rfl, hc, hg⟩
  have hz1 := hg.size
  have HC1 := Lib.hid hc
  have HG1 := Lib.hid hg
  clear hc hg
  cases b with
  | true =>
    go_wp2_with fail
    refine (cur_small c N (m + 2) _ (by omega) (by omega) HC1.out).mono ?_
    rintro e w2 ⟨v, rfl, hv, hc, hg⟩
    have HC2 := Lib.hid hc
    have HG2 := Lib.hid (cg_trans HG1.out hg)
    clear hc hg
    go_wp2_with fail
    go_ret
    exact ⟨v, rfl, hv, HC2.out.up (by omega), HG2.out⟩
  | false =>
    cases g : (decide (1 ≤ q) && decide (q ≤ 1000000)) with
    | false =>
      have G := Lib.hid g
      clear g
      go_wp2_with fail
      refine (spec_l1In q 1 1000000 false _ G.out).mono ?_
      rintro e w' ⟨rfl, rfl⟩
      go_wp2_with fail
      refine (cur_small c N (m + 2) _ (by omega) (by omega) HC1.out).mono ?_
      rintro e w2 ⟨v, rfl, hv, hc, hg⟩
      have HC2 := Lib.hid hc
      have HG2 := Lib.hid (cg_trans HG1.out hg)
      clear hc hg
      go_wp2_with fail
      go_ret
      exact ⟨v, rfl, hv, HC2.out.up (by omega), HG2.out⟩
    | true =>
      have hq : 1 ≤ q ∧ q ≤ 1000000 := by simpa using g
      obtain ⟨q1, q2⟩ := hq
      have G := Lib.hid g
      clear g
      go_wp2_with fail
      refine (spec_l1In q 1 1000000 true _ G.out).mono ?_
      rintro e w' ⟨rfl, rfl⟩
      obtain ⟨t, ht⟩ : ∃ t : Int, (if q < 30000 then q else 30000) = t := ⟨_, rfl⟩
      have ht1 : 1 ≤ t ∧ t ≤ 30000 := by rw [← ht]; split <;> omega
      have Ht := Lib.hid ht
      clear ht
      go_wp2_with fail
      refine (spec_l1Least q 30000 _).mono ?_
      rintro e w' ⟨rfl, rfl⟩
      rw [Ht.out]
      go_wp2_with fail
      refine (cur_pick t c N (m + 2) _ (by omega) (by omega) (by omega) HC1.out).mono ?_
      rintro e w2 ⟨x2, rfl, a2, b2, hc, hg⟩
      have hz2 := hg.size
      have HC2 := Lib.hid hc
      have HG2 := Lib.hid (cg_trans HG1.out hg)
      clear hc hg
      have hx := sqn x2
      have hx2 : x2 * x2 ≤ 30000 * 30000 := Int.mul_le_mul (by omega) (by omega) (by omega) (by omega)
      have e1 := Int.emod_nonneg (x2 * x2) (show q ≠ 0 by omega)
      have e2 := Int.emod_lt_of_pos (x2 * x2) (show 0 < q by omega)
      go_wp2_with fail
      refine (cur_one 3 c N (m + 2 + 2) _ (by omega) (by omega) (by omega) HC2.out).mono ?_
      rintro e w3 ⟨b, rfl, hc, hg⟩
      have HC3 := Lib.hid hc
      have HG3 := Lib.hid (cg_trans HG2.out hg)
      clear hc hg
      cases b with
      | true =>
        go_wp2_with fail
        go_ret
        exact ⟨_, rfl, ⟨by omega, by omega⟩, HC3.out.up (by omega), HG3.out⟩
      | false =>
        go_wp2_with fail
        go_ret
        exact ⟨_, rfl, ⟨by omega, by omega⟩, HC3.out.up (by omega), HG3.out⟩
theorem draw_SqR (sv : Value) (w : World) (h : BytesAt w w.heap.size sv) :
    Calls Try.prog 59 #[sv] w fun e w' => ∃ x y : Int, e = .returned (.tuple #[.int .i64 x, .int .i64 y]) ∧ I64 x ∧ I64 y ∧ Below w.heap.size w w' := by
  have H := Lib.hid (cur_new h)
  have HG0 := Lib.hid (grow_alloc w (.cells #[sv, .int .i64 0, .int .u64 0] 93) (some w.heap.size))
  have hz0 : w.heap.size ≤ (w.alloc (.cells #[sv, .int .i64 0, .int .u64 0] 93)).heap.size := by simp
  obtain ⟨p, len, cap, rfl, hlen, hbt⟩ := h
  clear hbt
  go_enter Try.func59, Try.ntmps59
  go_wp2_with fail
  refine (cur_pick 400 w.heap.size w.heap.size 0 _ (by omega) (by omega) (by simp) H.out).mono ?_
  rintro e w1 ⟨z1, rfl, za1, zb1, hc, hg⟩
  have hz1 : w.heap.size ≤ w1.heap.size := Nat.le_trans hz0 hg.size
  have HC1 := Lib.hid hc
  have HG1 := Lib.hid (cg_trans HG0.out hg)
  clear hc hg
  go_wp2_with fail
  refine (cur_pick 400 w.heap.size w.heap.size (0 + 2) _ (by omega) (by omega) (by omega) HC1.out).mono ?_
  rintro e w2 ⟨z2, rfl, za2, zb2, hc, hg⟩
  have hz2 : w.heap.size ≤ w2.heap.size := Nat.le_trans hz1 hg.size
  have HC2 := Lib.hid hc
  have HG2 := Lib.hid (cg_trans HG1.out hg)
  clear hc hg
  go_wp2_with fail
  refine (cur_pick 400 w.heap.size w.heap.size (0 + 2 + 2) _ (by omega) (by omega) (by omega) HC2.out).mono ?_
  rintro e w3 ⟨z3, rfl, za3, zb3, hc, hg⟩
  have hz3 : w.heap.size ≤ w3.heap.size := Nat.le_trans hz2 hg.size
  have HC3 := Lib.hid hc
  have HG3 := Lib.hid (cg_trans HG2.out hg)
  clear hc hg
  go_wp2_with fail
  refine (cur_lit [1, 2, 4, 8, 16, 24, 120, 360, 9, 27, 81, 0, -1, 10000, 10001, 9973, 1 + z1, 1 + z2, 1 + z3] _ rfl (by simp) (by simp) w.heap.size w.heap.size (0 + 2 + 2 + 2) _ (by omega) (by omega) HC3.out).mono ?_
  rintro e w4 ⟨y, rfl, hy, hc, hg⟩
  have hz4 : w.heap.size ≤ w4.heap.size := Nat.le_trans hz3 hg.size
  have HC4 := Lib.hid hc
  have HG4 := Lib.hid (cg_trans HG3.out hg)
  clear hc hg
  have hy2 : -10 ≤ y ∧ y ≤ 10001 := by simp at hy; omega
  go_wp2_with fail
  refine (cur_squareModulo y w.heap.size w.heap.size (0 + 2 + 2 + 2 + 2) _ (by omega) (by omega) HC4.out).mono ?_
  rintro e w5 ⟨x, rfl, hx, hc, hg⟩
  have hz5 : w.heap.size ≤ w5.heap.size := Nat.le_trans hz4 hg.size
  have HC5 := Lib.hid hc
  have HG5 := Lib.hid (cg_trans HG4.out hg)
  clear hc hg
  go_wp2_with fail
  refine bodyPost_ret (v := .tuple #[.int .i64 x, .int .i64 y]) (by simp [results, Try.results59, go_sem, *] <;> rfl) rfl (⟨x, y, rfl, hx, I64_of hy2 (by omega) (by omega), below_of_cur HG5.out⟩)
end Go.Proofs.Ytiblpagbloflhaa
