/- Contracts: the drawn arguments of CombineRoots and RootTower. -/
import Derived.Test.YtiblpagbloflhaaDN
namespace Go.Proofs.Ytiblpagbloflhaa
set_option linter.unusedVariables false
open Go.ChangeShapes Go.WideShapes Go.ChangeAt Go.RowKit

theorem spec_most_v (a b v : Int) (w : World) (hv : (if b < a then a else b) = v) :
    Calls Try.prog 133 #[.int .i64 a, .int .i64 b] w fun e w' => e = .returned (.int .i64 v) ∧ w = w' := by
  by_cases h : b < a
  · rw [if_pos h] at hv
    subst hv
    go_enter Try.func133, Try.ntmps133
    go_wp2
    go_ret
    exact ⟨rfl, rfl⟩
  · rw [if_neg h] at hv
    subst hv
    go_enter Try.func133, Try.ntmps133
    go_wp2
    go_ret
    exact ⟨rfl, rfl⟩
theorem most_ex (m : Int) (h0 : 0 ≤ m) (h1 : m ≤ 1000000) : ∃ v : Int, (if 1 < m then m else 1) = v ∧ 1 ≤ v ∧ v ≤ 1000000 := by
  refine ⟨_, rfl, ?_⟩
  split <;> omega
set_option maxRecDepth 100000 in
set_option maxHeartbeats 1000000 in
theorem draw_CR (sv : Value) (w : World) (h : BytesAt w w.heap.size sv) :
    Calls Try.prog 64 #[sv] w fun e w' => ∃ a x m y n : Int, e = .returned (.tuple #[.int .i64 a, .int .i64 x, .int .i64 m, .int .i64 y, .int .i64 n]) ∧ (0 ≤ a ∧ a ≤ 4000000) ∧ (0 ≤ x ∧ x ≤ 1000000) ∧ (0 ≤ m ∧ m ≤ 1000000) ∧ (0 ≤ y ∧ y ≤ 1000000) ∧ (0 ≤ n ∧ n ≤ 1000000) ∧ Below w.heap.size w w' := by
  have H := Lib.hid (cur_new h)
  have HG0 := Lib.hid (grow_alloc w (.cells #[sv, .int .i64 0, .int .u64 0] 93) (some w.heap.size))
  have hz0 : w.heap.size ≤ (w.alloc (.cells #[sv, .int .i64 0, .int .u64 0] 93)).heap.size := by simp
  obtain ⟨p, len, cap, rfl, hlen, hbt⟩ := h
  clear hbt
  go_enter Try.func64, Try.ntmps64
  go_wp2_with fail
  refine (cur_pick 60 w.heap.size w.heap.size 0 _ (by omega) (by omega) (by simp) H.out).mono ?_
  rintro e w1 ⟨m, rfl, ma, mb, hc, hg⟩
  have hz1 : w.heap.size ≤ w1.heap.size := Nat.le_trans hz0 hg.size
  have HC1 := Lib.hid hc
  have HG1 := Lib.hid (cg_trans HG0.out hg)
  clear hc hg
  go_wp2_with fail
  refine (cur_pick 60 w.heap.size w.heap.size (0 + 2) _ (by omega) (by omega) (by omega) HC1.out).mono ?_
  rintro e w2 ⟨n, rfl, na, nb, hc, hg⟩
  have hz2 : w.heap.size ≤ w2.heap.size := Nat.le_trans hz1 hg.size
  have HC2 := Lib.hid hc
  have HG2 := Lib.hid (cg_trans HG1.out hg)
  clear hc hg
  go_wp2_with fail
  refine (cur_one 8 w.heap.size w.heap.size (0 + 2 + 2) _ (by omega) (by omega) (by omega) HC2.out).mono ?_
  rintro e w3 ⟨b, rfl, hc, hg⟩
  have hz3 : w.heap.size ≤ w3.heap.size := Nat.le_trans hz2 hg.size
  have HC3 := Lib.hid hc
  have HG3 := Lib.hid (cg_trans HG2.out hg)
  clear hc hg
  have mb2 : m ≤ 59 := by omega
  have nb2 : n ≤ 59 := by omega
  clear mb nb
  cases b with
  | true =>
    go_wp2_with fail
    refine (cur_lit [1000, 999, 1, 0, 1001] _ rfl (by simp) (by simp) w.heap.size w.heap.size (0 + 2 + 2 + 2) _ (by omega) (by omega) HC3.out).mono ?_
    rintro e w4 ⟨M, rfl, hM, hc, hg⟩
    have hz4 : w.heap.size ≤ w4.heap.size := Nat.le_trans hz3 hg.size
    have HC4 := Lib.hid hc
    have HG4 := Lib.hid (cg_trans HG3.out hg)
    clear hc hg
    have hM2 : 0 ≤ M ∧ M ≤ 1001 := by simp at hM; omega
    obtain ⟨M0, M1⟩ := hM2
    go_wp2_with fail
    refine (cur_lit [999, 1000, 1, 1001, 1000000] _ rfl (by simp) (by simp) w.heap.size w.heap.size (0 + 2 + 2 + 2 + 2) _ (by omega) (by omega) HC4.out).mono ?_
    rintro e w5 ⟨N, rfl, hN, hc, hg⟩
    have hz5 : w.heap.size ≤ w5.heap.size := Nat.le_trans hz4 hg.size
    have HC5 := Lib.hid hc
    have HG5 := Lib.hid (cg_trans HG4.out hg)
    clear hc hg
    have hN2 : 0 ≤ N ∧ N ≤ 1000000 := by simp at hN; omega
    obtain ⟨N0, N1⟩ := hN2
    clear hM hN
    go_wp2_with fail
    refine (cur_pick 2000 w.heap.size w.heap.size (0 + 2 + 2 + 2 + 2 + 2) _ (by omega) (by omega) (by omega) HC5.out).mono ?_
    rintro e w6 ⟨r, rfl, r0, rb, hc, hg⟩
    have hz6 : w.heap.size ≤ w6.heap.size := Nat.le_trans hz5 hg.size
    have HC6 := Lib.hid hc
    have HG6 := Lib.hid (cg_trans HG5.out hg)
    clear hc hg
    have rb2 : r ≤ 1999 := by omega
    clear rb
    obtain ⟨q0, q1⟩ := mul_le (a := r) (b := r) (A := 1999) (B := 1999) r0 rb2 r0 rb2
    go_wp2_with fail
    refine (cur_one 6 w.heap.size w.heap.size (0 + 2 + 2 + 2 + 2 + 2 + 2) _ (by omega) (by omega) (by omega) HC6.out).mono ?_
    rintro e w7 ⟨b, rfl, hc, hg⟩
    have hz7 : w.heap.size ≤ w7.heap.size := Nat.le_trans hz6 hg.size
    have HC7 := Lib.hid hc
    have HG7 := Lib.hid (cg_trans HG6.out hg)
    clear hc hg
    cases b with
    | true =>
      obtain ⟨mm, hmm, mm1, mm2⟩ := most_ex (M) (by omega) (by omega)
      obtain ⟨nn, hnn, nn1, nn2⟩ := most_ex (N) (by omega) (by omega)
      have r1 := Int.emod_nonneg r (show mm ≠ 0 by omega)
      have r2 := Int.emod_lt_of_pos r (show 0 < mm by omega)
      have r3 := Int.emod_nonneg r (show nn ≠ 0 by omega)
      have r4 := Int.emod_lt_of_pos r (show 0 < nn by omega)
      have Hmm := Lib.hid hmm
      have Hnn := Lib.hid hnn
      clear hmm hnn
      go_wp2_with fail
      go_quiet ((go_at_call 133; refine Calls.quiet_of_same (same (spec_most_v _ _ _ _ (by first | with_reducible exact Hmm.out | with_reducible exact Hnn.out)))))
      go_wp2_with fail
      refine bodyPost_ret (v := .tuple #[.int .i64 (r * r + 1), .int .i64 (r % mm), .int .i64 (M), .int .i64 (r % nn), .int .i64 (N)]) (by simp [results, Try.results64, go_sem, *] <;> rfl) rfl ⟨_, _, _, _, _, rfl, ⟨by omega, by omega⟩, ⟨by omega, by omega⟩, ⟨by omega, by omega⟩, ⟨by omega, by omega⟩, ⟨by omega, by omega⟩, below_drewN (below_of_cur HG7.out) _⟩
    | false =>
      obtain ⟨mm, hmm, mm1, mm2⟩ := most_ex (M) (by omega) (by omega)
      obtain ⟨nn, hnn, nn1, nn2⟩ := most_ex (N) (by omega) (by omega)
      have r1 := Int.emod_nonneg r (show mm ≠ 0 by omega)
      have r2 := Int.emod_lt_of_pos r (show 0 < mm by omega)
      have r3 := Int.emod_nonneg r (show nn ≠ 0 by omega)
      have r4 := Int.emod_lt_of_pos r (show 0 < nn by omega)
      have Hmm := Lib.hid hmm
      have Hnn := Lib.hid hnn
      clear hmm hnn
      go_wp2_with fail
      go_quiet ((go_at_call 133; refine Calls.quiet_of_same (same (spec_most_v _ _ _ _ (by first | with_reducible exact Hmm.out | with_reducible exact Hnn.out)))))
      go_wp2_with fail
      refine bodyPost_ret (v := .tuple #[.int .i64 (r * r), .int .i64 (r % mm), .int .i64 (M), .int .i64 (r % nn), .int .i64 (N)]) (by simp [results, Try.results64, go_sem, *] <;> rfl) rfl ⟨_, _, _, _, _, rfl, ⟨by omega, by omega⟩, ⟨by omega, by omega⟩, ⟨by omega, by omega⟩, ⟨by omega, by omega⟩, ⟨by omega, by omega⟩, below_drewN (below_of_cur HG7.out) _⟩
  | false =>
    go_wp2_with fail
    refine (cur_pick 2000 w.heap.size w.heap.size (0 + 2 + 2 + 2) _ (by omega) (by omega) (by omega) HC3.out).mono ?_
    rintro e w6 ⟨r, rfl, r0, rb, hc, hg⟩
    have hz6 : w.heap.size ≤ w6.heap.size := Nat.le_trans hz3 hg.size
    have HC6 := Lib.hid hc
    have HG6 := Lib.hid (cg_trans HG3.out hg)
    clear hc hg
    have rb2 : r ≤ 1999 := by omega
    clear rb
    obtain ⟨q0, q1⟩ := mul_le (a := r) (b := r) (A := 1999) (B := 1999) r0 rb2 r0 rb2
    go_wp2_with fail
    refine (cur_one 6 w.heap.size w.heap.size (0 + 2 + 2 + 2 + 2) _ (by omega) (by omega) (by omega) HC6.out).mono ?_
    rintro e w7 ⟨b, rfl, hc, hg⟩
    have hz7 : w.heap.size ≤ w7.heap.size := Nat.le_trans hz6 hg.size
    have HC7 := Lib.hid hc
    have HG7 := Lib.hid (cg_trans HG6.out hg)
    clear hc hg
    cases b with
    | true =>
      obtain ⟨mm, hmm, mm1, mm2⟩ := most_ex (1 + m) (by omega) (by omega)
      obtain ⟨nn, hnn, nn1, nn2⟩ := most_ex (1 + n) (by omega) (by omega)
      have r1 := Int.emod_nonneg r (show mm ≠ 0 by omega)
      have r2 := Int.emod_lt_of_pos r (show 0 < mm by omega)
      have r3 := Int.emod_nonneg r (show nn ≠ 0 by omega)
      have r4 := Int.emod_lt_of_pos r (show 0 < nn by omega)
      have Hmm := Lib.hid hmm
      have Hnn := Lib.hid hnn
      clear hmm hnn
      go_wp2_with fail
      go_quiet ((go_at_call 133; refine Calls.quiet_of_same (same (spec_most_v _ _ _ _ (by first | with_reducible exact Hmm.out | with_reducible exact Hnn.out)))))
      go_wp2_with fail
      refine bodyPost_ret (v := .tuple #[.int .i64 (r * r + 1), .int .i64 (r % mm), .int .i64 (1 + m), .int .i64 (r % nn), .int .i64 (1 + n)]) (by simp [results, Try.results64, go_sem, *] <;> rfl) rfl ⟨_, _, _, _, _, rfl, ⟨by omega, by omega⟩, ⟨by omega, by omega⟩, ⟨by omega, by omega⟩, ⟨by omega, by omega⟩, ⟨by omega, by omega⟩, below_drewN (below_of_cur HG7.out) _⟩
    | false =>
      obtain ⟨mm, hmm, mm1, mm2⟩ := most_ex (1 + m) (by omega) (by omega)
      obtain ⟨nn, hnn, nn1, nn2⟩ := most_ex (1 + n) (by omega) (by omega)
      have r1 := Int.emod_nonneg r (show mm ≠ 0 by omega)
      have r2 := Int.emod_lt_of_pos r (show 0 < mm by omega)
      have r3 := Int.emod_nonneg r (show nn ≠ 0 by omega)
      have r4 := Int.emod_lt_of_pos r (show 0 < nn by omega)
      have Hmm := Lib.hid hmm
      have Hnn := Lib.hid hnn
      clear hmm hnn
      go_wp2_with fail
      go_quiet ((go_at_call 133; refine Calls.quiet_of_same (same (spec_most_v _ _ _ _ (by first | with_reducible exact Hmm.out | with_reducible exact Hnn.out)))))
      go_wp2_with fail
      refine bodyPost_ret (v := .tuple #[.int .i64 (r * r), .int .i64 (r % mm), .int .i64 (1 + m), .int .i64 (r % nn), .int .i64 (1 + n)]) (by simp [results, Try.results64, go_sem, *] <;> rfl) rfl ⟨_, _, _, _, _, rfl, ⟨by omega, by omega⟩, ⟨by omega, by omega⟩, ⟨by omega, by omega⟩, ⟨by omega, by omega⟩, ⟨by omega, by omega⟩, below_drewN (below_of_cur HG7.out) _⟩
/-- the block of the literal by name -/
theorem cur_litB (l : List Int) (cs : Array Value) (hcs : cs.toList = l.map (Value.int .i64)) (hl : l ≠ []) (hl2 : l.length ≤ 1000) (c N m : Nat) (w : World) (b : Nat) (hb : b = w.heap.size) (hm : m ≤ 100000000) (hN : N ≤ w.heap.size) (h : CurW w c N m) :
    Calls Try.prog 121 #[.pointer (some ⟨c, 0, none⟩), .slice (some ⟨b, 0, none⟩) l.length l.length] (w.alloc (.cells cs 3)) fun e w' => ∃ v : Int, e = .returned (.int .i64 v) ∧ v ∈ l ∧ CurW w' c N (m + 2) ∧ w.grownBy w' (some c) := by
  subst hb
  exact cur_lit l cs hcs hl hl2 c N m w hm hN h
set_option maxRecDepth 100000 in
set_option maxHeartbeats 1000000 in
theorem draw_RT (sv : Value) (w : World) (h : BytesAt w w.heap.size sv) :
    Calls Try.prog 68 #[sv] w fun e w' => ∃ b p k : Int, e = .returned (.tuple #[.int .i64 b, .int .i64 p, .int .i64 k]) ∧ I64 b ∧ (1 ≤ p ∧ p ≤ 1009) ∧ (-1 ≤ k ∧ (k ≤ 13 ∨ k = 4611686018427387904)) ∧ Below w.heap.size w w' := by
  have H := Lib.hid (cur_new h)
  have HG0 := Lib.hid (grow_alloc w (.cells #[sv, .int .i64 0, .int .u64 0] 93) (some w.heap.size))
  have hz0 : w.heap.size ≤ (w.alloc (.cells #[sv, .int .i64 0, .int .u64 0] 93)).heap.size := by simp
  obtain ⟨p, len, cap, rfl, hlen, hbt⟩ := h
  clear hbt
  go_enter Try.func68, Try.ntmps68
  go_wp2_with fail
  refine (cur_litB [3, 5, 7, 11, 13, 97, 991, 1009, 2, 9, 1] _ rfl (by simp) (by simp) w.heap.size w.heap.size 0 _ _ (by simp) (by omega) (by simp) H.out).mono ?_
  rintro e w1 ⟨p, rfl, hp, hc, hg⟩
  have hz1 : w.heap.size ≤ w1.heap.size := Nat.le_trans hz0 hg.size
  have HC1 := Lib.hid hc
  have HG1 := Lib.hid (cg_trans HG0.out hg)
  clear hc hg
  have hp2 : 1 ≤ p ∧ p ≤ 1009 := by simp at hp; omega
  clear hp
  go_wp2_with fail
  refine (cur_squareModulo p w.heap.size w.heap.size (0 + 2) _ (by omega) (by omega) HC1.out).mono ?_
  rintro e w2 ⟨b, rfl, hb, hc, hg⟩
  have hz2 : w.heap.size ≤ w2.heap.size := Nat.le_trans hz1 hg.size
  have HC2 := Lib.hid hc
  have HG2 := Lib.hid (cg_trans HG1.out hg)
  clear hc hg
  go_wp2_with fail
  refine (cur_lit [1, 2, 2, 3, 3, 4, 5, 6, 7, 8, 12, 13, 0, -1, 4611686018427387904] _ rfl (by simp) (by simp) w.heap.size w.heap.size (0 + 2 + 12) _ (by omega) (by omega) HC2.out).mono ?_
  rintro e w3 ⟨k, rfl, hk, hc, hg⟩
  have hz3 : w.heap.size ≤ w3.heap.size := Nat.le_trans hz2 hg.size
  have HC3 := Lib.hid hc
  have HG3 := Lib.hid (cg_trans HG2.out hg)
  clear hc hg
  have hk2 : -1 ≤ k ∧ (k ≤ 13 ∨ k = 4611686018427387904) := by simp at hk; omega
  go_wp2_with fail
  refine bodyPost_ret (v := .tuple #[.int .i64 b, .int .i64 p, .int .i64 k]) (by simp [results, Try.results68, go_sem, *] <;> rfl) rfl (⟨b, p, k, rfl, hb, hp2, hk2, below_of_cur HG3.out⟩)
end Go.Proofs.Ytiblpagbloflhaa
