/- Contracts: the completed form. -/
import Derived.Test.YtiblpagbloflhaaCW
import Derived.Test.YtiblpagbloflhaaRF
namespace Go.Proofs.Ytiblpagbloflhaa
set_option linter.unusedVariables false
open Go.ChangeShapes Go.WideShapes Go.ChangeAt Go.RowKit

def k3 (a b c : Int) : Array Value := #[.int .i64 a, .int .i64 b, .int .i64 c]
def k4 (a b c d : Int) : Array Value := #[.int .i64 a, .int .i64 b, .int .i64 c, .int .i64 d]
theorem spec_nuGcd_one (a b : Int) (w : World) (ha : -4000000000000000000 ≤ a ∧ a ≤ 4000000000000000000) (hb : -4000000000000000000 ≤ b ∧ b ≤ 4000000000000000000) (hg : Int.gcd a b = 1) :
    Calls Try.prog 88 #[.int .i64 a, .int .i64 b] w fun e w' => e = .returned (.int .i64 1) ∧ Below w.heap.size w w' := by
  have := spec_nuGcd a b w ha hb
  rw [hg] at this
  exact this
theorem spec_nuMod_r (a m r : Int) (w : World) (h0 : 0 < m) (h1 : m ≤ 4000000000000000000) (h : a % m = r) :
    Calls Try.prog 122 #[.int .i64 a, .int .i64 m] w fun e w' => e = .returned (.int .i64 r) ∧ w = w' := h ▸ spec_nuMod a m w h0 h1
theorem spec_l1Sign (n r : Int) (w : World) (h : (0 < n ∧ r = 1) ∨ (n < 0 ∧ r = -1) ∨ (n = 0 ∧ r = 0)) :
    Calls Try.prog 171 #[.int .i64 n] w fun e w' => e = .returned (.int .i64 r) ∧ w = w' := by
  rcases h with ⟨h, rfl⟩ | ⟨h, rfl⟩ | ⟨rfl, rfl⟩
  all_goals
    go_enter Try.func171, Try.ntmps171
    go_wp2
    go_ret
    exact ⟨rfl, rfl⟩
theorem impl_floorDiv (a m r : Int) (w : World) (h0 : 1 ≤ m) (h1 : m ≤ 4000000000000000000) (h2 : -4000000000000000000 ≤ a) (h3 : a ≤ 4000000000000000000) (hr : a / m = r) :
    Calls Try.prog 159 #[.int .i64 a, .int .i64 m] w fun e w' => e = .returned (.int .i64 r) ∧ w = w' := by
  have k1 := Int.emod_nonneg a (show m ≠ 0 by omega)
  have k2 := Int.emod_lt_of_pos a (show 0 < m by omega)
  have Hr := Lib.hid (show (a - a % m).tdiv m = r by
    have := Int.emod_add_mul_ediv a m
    rw [show a - a % m = m * (a / m) by omega, Int.mul_tdiv_cancel_left _ (by omega), hr])
  have hm : ¬ m = 0 := by omega
  clear hr
  go_enter Try.func159, Try.ntmps159
  go_wp2_with fail
  refine (impl_mod a m _ (by omega) (by omega)).mono ?_
  rintro e w' ⟨rfl, rfl⟩
  go_wp2_with fail
  go_ret
  exact ⟨rint Hr.out, rfl⟩
theorem spec_nuBezout_1 (x y q s : Int) (w : World) (hx : -1000 ≤ x ∧ x ≤ 1000) (hy : -1000 ≤ y ∧ y ≤ 1000) (hq : -1001 ≤ q ∧ q ≤ 1001) (hs : -1000 ≤ s ∧ s ≤ 1000) (hg : Int.gcd x y = 1)
    (h : (y = 0 ∧ q = 0 ∧ s = x) ∨ (y ≠ 0 ∧ Inv x y.natAbs s ∧ x * s - 1 = y * q)) :
    Calls Try.prog 155 #[.int .i64 x, .int .i64 y] w fun e w' => e = .returned (.tuple #[.int .i64 1, .int .i64 s, .int .i64 (-q)]) ∧ Below w.heap.size w w' := by
  obtain ⟨x1, x2⟩ := hx
  obtain ⟨y1, y2⟩ := hy
  obtain ⟨q1, q2⟩ := hq
  obtain ⟨s1, s2⟩ := hs
  rcases h with ⟨rfl, rfl, rfl⟩ | ⟨h0, hi, hd⟩
  · have hx : (0 < s ∧ s = 1) ∨ (s < 0 ∧ s = -1) ∨ (s = 0 ∧ s = 0) := by
      have : s.natAbs = 1 := by simpa using hg
      omega
    have Hg := Lib.hid hg
    clear hg
    have Hx := Lib.hid hx
    clear hx
    go_enter Try.func155, Try.ntmps155
    go_wp2_with fail
    refine (spec_nuGcd_one _ _ _ (by omega) (by omega) Hg.out).mono ?_
    rintro e w1 ⟨rfl, hb1⟩
    have hB1 : Below w.heap.size w w1 := Below.after (by go_grown) hb1
    obtain ⟨hc1, hf1⟩ := bcell hb1
    have hy1 := hb1.size
    try simp at hy1
    first | (with_reducible have hx1 := Nat.lt_of_succ_le hy1) | skip
    first | (with_reducible have hv1 := Nat.lt_of_succ_lt hx1) | skip
    first | (with_reducible have hu1 := Nat.lt_of_succ_lt hv1) | skip
    first | (have hz1 : w.heap.size < w1.heap.size := by omega) | (have hz1 := hB1.size)
    clear hb1
    go_wp2_with fail
    refine (spec_l1Sign s s _ Hx.out).mono ?_
    rintro e w' ⟨rfl, rfl⟩
    go_wp2_with fail
    refine bodyPost_ret (v := .tuple #[.int .i64 1, .int .i64 s, .int .i64 0]) (by simp [results, Try.results155, go_sem, *] <;> rfl) rfl ⟨rfl, by go_grown⟩
  · have Hg2 := Lib.hid (show Int.gcd x y.natAbs = 1 by rw [← hg]; simp [Int.gcd])
    have hd2 : (1 - x * s).tdiv y = -q := by rw [show 1 - x * s = y * (-q) by rw [Int.mul_neg]; omega, Int.mul_tdiv_cancel_left _ h0]
    have xs := mulb (a := x) (b := s) (A := 1000) (B := 1000) x1 x2 s1 s2
    obtain ⟨xs1, xs2⟩ := xs
    have Hd := Lib.hid (show wrap64 ((1 - x * s).tdiv y) = -q by rw [hd2]; exact IntWalk.wrap64_in _ (by omega))
    have Hg := Lib.hid hg
    clear hg
    have Hi := Lib.hid hi
    clear hi
    have b0 : (y == 0) = false := by simpa using h0
    clear hd hd2
    go_enter Try.func155, Try.ntmps155
    go_wp2_with fail
    refine (spec_nuGcd_one _ _ _ (by omega) (by omega) Hg.out).mono ?_
    rintro e w1 ⟨rfl, hb1⟩
    have hB1 : Below w.heap.size w w1 := Below.after (by go_grown) hb1
    obtain ⟨hc1, hf1⟩ := bcell hb1
    have hy1 := hb1.size
    try simp at hy1
    first | (with_reducible have hx1 := Nat.lt_of_succ_le hy1) | skip
    first | (with_reducible have hv1 := Nat.lt_of_succ_lt hx1) | skip
    first | (with_reducible have hu1 := Nat.lt_of_succ_lt hv1) | skip
    first | (have hz1 : w.heap.size < w1.heap.size := by omega) | (have hz1 := hB1.size)
    clear hb1
    go_wp2_with fail
    have l1 : IntKind.i64.wrap x = x := IntWalk.i64_in _ (by omega)
    have l2 : IntKind.i64.wrap (y.natAbs : Int) = y.natAbs := IntWalk.i64_in _ (by omega)
    have L1 := Lib.hid l1
    have L2 := Lib.hid l2
    clear l1 l2
    go_quiet ((first | (go_at_call 154; refine Calls.quiet_of_same (same (spec_l1Abs _ _ (by omega) (by omega)))) | (go_at_call 123; rw [L1.out, L2.out]; refine Calls.quiet_of_same (same (spec_nuInverse x _ s _ (by omega) (by omega) Hi.out Hg2.out)))))
    go_wp2_with fail
    go_quiet (fail)
    go_wp2_with fail
    have e9 := Hd.out
    refine bodyPost_ret (v := .tuple #[.int .i64 1, .int .i64 s, .int .i64 (-q)]) (by simp [results, Try.results155, go_sem, *] <;> rfl) rfl ⟨rfl, below_drewN (below_drewN (by go_grown) _) _⟩
theorem spec_vaComplete (a b c x y q s n B0 T Q S B C : Int) (w : World) (h : good3 a b c = true) (hx : cin x = true) (hy : cin y = true) (hg : Int.gcd x y = 1) (hn : n ≤ 1000000) (F : CmF a b c x y q s n B0 T Q S B C) :
    Calls Try.prog 91 #[.agg #[.int .i64 a, .int .i64 b, .int .i64 c], .int .i64 x, .int .i64 y] w fun e w' => e = .returned (.tuple #[.agg #[.int .i64 n, .int .i64 B, .int .i64 C], .agg #[.int .i64 x, .int .i64 Q, .int .i64 y, .int .i64 S]]) ∧ Below w.heap.size w w' := by
  obtain ⟨x1, x2⟩ := cin_iff.1 hx
  obtain ⟨y1, y2⟩ := cin_iff.1 hy
  obtain ⟨hb, q1, q2, s1, s2, hn0, n1, n2, hB0, b1, b2, hT, t1, t2, tq, u1, u2, v1, v2, hQ, hS, hB, B1, B2, hBt, m1, m2, hBP, hC, C1, C2, hCq⟩ := F
  have hbb := mul_le (a := B) (b := B) (A := 2000000) (B := 2000000) B1 (by omega) B1 (by omega)
  obtain ⟨g1, g2⟩ := hbb
  obtain ⟨_, _, ⟨d1, d2⟩⟩ := disc_bd h
  have Hg := Lib.hid hg
  have Hb := Lib.hid hb
  have Hn0 := Lib.hid hn0
  have HB0 := Lib.hid hB0
  have Htq := Lib.hid tq
  have HQ := Lib.hid hQ
  have HS := Lib.hid hS
  have HB := Lib.hid hB
  have HBt := Lib.hid hBt
  have HCq := Lib.hid (hCq hn)
  have H := Lib.hid h
  clear hg hb hn0 hB0 tq hQ hS hB hBt hCq h hT hBP hC hx hy
  go_enter Try.func91, Try.ntmps91
  go_wp2_with fail
  refine (spec_nuBezout_1 x y q s _ ⟨x1, x2⟩ ⟨y1, y2⟩ ⟨q1, q2⟩ ⟨s1, s2⟩ Hg.out Hb.out).mono ?_
  rintro e w1 ⟨rfl, hb1⟩
  have hB1 : Below w.heap.size w w1 := Below.after (by go_grown) hb1
  have a1 : Holds w1 w.heap.size (k3 a b c) 26 := by
    refine Holds.below ?_ hb1
    repeat (first | (refine Holds.new' _ _ _ ?_; simp; done) | refine Holds.alloc ?_ _ | refine Holds.far ?_ (by first | omega | (simp; done) | (simp; omega)))
  have a2 : Holds w1 (w.heap.size + 1) (k3 0 0 0) 26 := by
    refine Holds.below ?_ hb1
    repeat (first | (refine Holds.new' _ _ _ ?_; simp; done) | refine Holds.alloc ?_ _ | refine Holds.far ?_ (by first | omega | (simp; done) | (simp; omega)))
  have a3 : Holds w1 (w.heap.size + 1 + 1) (k4 0 0 0 0) 39 := by
    refine Holds.below ?_ hb1
    repeat (first | (refine Holds.new' _ _ _ ?_; simp; done) | refine Holds.alloc ?_ _ | refine Holds.far ?_ (by first | omega | (simp; done) | (simp; omega)))
  clear hb1
  have y0 : w1.cell? ⟨w.heap.size, 0, none⟩ = some (.int .i64 a) := Holds.cell a1 rfl
  have y1 : w1.cell? ⟨w.heap.size, 1, none⟩ = some (.int .i64 b) := Holds.cell a1 rfl
  have y2 : w1.cell? ⟨w.heap.size, 2, none⟩ = some (.int .i64 c) := Holds.cell a1 rfl
  have yf0 : w1.frozen? ⟨w.heap.size, 0, none⟩ = false := Holds.free a1
  have yf1 : w1.frozen? ⟨w.heap.size, 1, none⟩ = false := Holds.free a1
  have yf2 : w1.frozen? ⟨w.heap.size, 2, none⟩ = false := Holds.free a1
  go_wp2_with fail
  refine (spec_foValue_r _ _ _ _ _ n _ H.out Hn0.out (by omega) (by omega)).mono ?_
  rintro e w2 ⟨rfl, hb2⟩
  have hB2 : Below w.heap.size w w2 := Below.after (by go_grown) hb2
  clear y0 y1 y2 yf0 yf1 yf2
  have b1' := Holds.below a1 hb2
  have b2' := Holds.below a2 hb2
  have b3' := Holds.below a3 hb2
  clear hb2 hB1 a1 a2 a3
  have y0 : w2.cell? ⟨w.heap.size, 0, none⟩ = some (.int .i64 a) := Holds.cell b1' rfl
  have y1 : w2.cell? ⟨w.heap.size, 1, none⟩ = some (.int .i64 b) := Holds.cell b1' rfl
  have y2 : w2.cell? ⟨w.heap.size, 2, none⟩ = some (.int .i64 c) := Holds.cell b1' rfl
  have yf0 : w2.frozen? ⟨w.heap.size, 0, none⟩ = false := Holds.free b1'
  have yf1 : w2.frozen? ⟨w.heap.size, 1, none⟩ = false := Holds.free b1'
  have yf2 : w2.frozen? ⟨w.heap.size, 2, none⟩ = false := Holds.free b1'
  go_wp2_with fail
  refine (spec_foPolar_r _ _ _ _ _ _ _ B0 _ H.out HB0.out (by omega) (by omega)).mono ?_
  rintro e w3 ⟨rfl, hb3⟩
  have hB3 : Below w.heap.size w w3 := Below.after (by go_grown) hb3
  clear y0 y1 y2 yf0 yf1 yf2
  have a1 := Holds.below b1' hb3
  have a2 := Holds.below b2' hb3
  have a3 := Holds.below b3' hb3
  clear hb3 hB2 b1' b2' b3'
  go_wp2_with fail
  refine (spec_nuMod_r B0 (2 * n) B _ (by omega) (by omega) HB.out).mono ?_
  rintro e w' ⟨rfl, rfl⟩
  have e1 := Htq.out
  have e2 := HQ.out
  have e3 := HS.out
  have e4 := HBt.out
  have e5 := HCq.out
  rw [Int.mul_comm] at u1 u2 v1 v2 e2 e3
  have l4 : ¬ 4 * n = 0 := by omega
  go_wp2_with fail
  refine region_named (fun W hW => ?_)
  have hz := hB3.size
  have hB4 : Below w.heap.size w W := by rw [hW]; go_grown
  have i1 : Holds W w.heap.size (k3 a b c) 26 := by rw [hW]; exact a1.alloc _
  have i2 : Holds W (w.heap.size + 1) (k3 0 0 0) 26 := by rw [hW]; exact a2.alloc _
  have i3 : Holds W (w.heap.size + 1 + 1) (k4 0 0 0 0) 39 := by rw [hW]; exact a3.alloc _
  have i4 : Holds W w3.heap.size (k4 x Q y S) 39 := by rw [hW]; repeat (first | (refine Holds.new' _ _ _ ?_; simp; done) | refine Holds.alloc ?_ _ | refine Holds.far ?_ (by first | omega | (simp; done) | (simp; omega)))
  have hz3 := a3.lt
  clear hW a1 a2 a3
  have y0 := AftX.cell (j := 0) (v := .int .i64 a) i1 rfl
  have y1 := AftX.cell (j := 1) (v := .int .i64 b) i1 rfl
  have y2 := AftX.cell (j := 2) (v := .int .i64 c) i1 rfl
  have v0 := AftX.cell (j := 0) (v := .int .i64 x) i4 rfl
  have v1 := AftX.cell (j := 1) (v := .int .i64 Q) i4 rfl
  have v2 := AftX.cell (j := 2) (v := .int .i64 y) i4 rfl
  have v3 := AftX.cell (j := 3) (v := .int .i64 S) i4 rfl
  have ka0 := AftX.cell (j := 0) (v := .int .i64 0) i2 rfl
  have ka1 := AftX.cell (j := 1) (v := .int .i64 0) i2 rfl
  have ka2 := AftX.cell (j := 2) (v := .int .i64 0) i2 rfl
  have kb0 := AftX.cell (j := 0) (v := .int .i64 0) i3 rfl
  have kb1 := AftX.cell (j := 1) (v := .int .i64 0) i3 rfl
  have kb2 := AftX.cell (j := 2) (v := .int .i64 0) i3 rfl
  have kb3 := AftX.cell (j := 3) (v := .int .i64 0) i3 rfl
  have yf0 := AftX.free (j := 0) i2
  have yf1 := AftX.free (j := 1) i2
  have yf2 := AftX.free (j := 2) i2
  have vf0 := AftX.free (j := 0) i3
  have vf1 := AftX.free (j := 1) i3
  have vf2 := AftX.free (j := 2) i3
  have vf3 := AftX.free (j := 3) i3
  have hs1 := i1.lt
  have hs2 := i2.lt
  have hs3 := i3.lt
  have hs4 := i4.lt
  have hn1 : ¬ w3.heap.size = w.heap.size + 1 := by omega
  have hn2 : ¬ w.heap.size + 1 + 1 = w.heap.size + 1 := by omega
  have l1 : IntKind.i64.wrap (B * B) = B * B := IntWalk.i64_in _ (by omega)
  have l2 : IntKind.i64.wrap (B * B - disc a b c) = B * B - disc a b c := IntWalk.i64_in _ (by omega)
  have l3 : IntKind.i64.wrap (4 * n) = 4 * n := IntWalk.i64_in _ (by omega)
  have l5 : IntKind.i64.wrap C = C := IntWalk.i64_in _ (by omega)
  refine region_flow2 13 (w.heap.size + 1) 26 (k3 n B C) 14 (w.heap.size + 1 + 1) 39 (k4 x Q y S) (by kernel_rfl) (by kernel_rfl) hs2 hs3 (by omega) (by decide) ?_
  refine wpFlow_step (([] : List Nat)) (by kernel_rfl) (by kernel_rfl) (fun K hK => ?_)
  go_simp
  (refine hK _ ?_; clear hK K)
  refine wpFlow_step (([] : List Nat)) (by kernel_rfl) (by kernel_rfl) (fun K hK => ?_)
  go_simp
  (refine hK _ ?_; clear hK K)
  refine wpFlow_step (([] : List Nat)) (by kernel_rfl) (by kernel_rfl) (fun K hK => ?_)
  go_simp
  (refine hK _ ?_; clear hK K)
  refine wpFlow_step (([] : List Nat)) (by kernel_rfl) (by kernel_rfl) (fun K hK => ?_)
  go_simp
  (refine hK _ ?_; clear hK K)
  refine wpFlow_step (([] : List Nat)) (by kernel_rfl) (by kernel_rfl) (fun K hK => ?_)
  go_simp
  (refine hK _ ?_; clear hK K)
  refine wpFlow_step (([] : List Nat)) (by kernel_rfl) (by kernel_rfl) (fun K hK => ?_)
  go_simp
  (refine hK _ ?_; clear hK K)
  refine wpFlow_step (([] : List Nat)) (by kernel_rfl) (by kernel_rfl) (fun K hK => ?_)
  go_simp
  apply Exists.intro
  refine ⟨fun _ => ?_, hK _ ?_⟩
  · exact spec_foDisc a b c _ H.out
  clear hK K
  refine wpFlow_step (([] : List Nat)) (by kernel_rfl) (by kernel_rfl) (fun K hK => ?_)
  go_simp
  (refine hK _ ?_; clear hK K)
  refine wpFlow_step (([] : List Nat)) (by kernel_rfl) (by kernel_rfl) (fun K hK => ?_)
  go_simp
  (refine hK _ ?_; clear hK K)
  refine wpFlow_step (([] : List Nat)) (by kernel_rfl) (by kernel_rfl) (fun K hK => ?_)
  go_simp
  (refine hK _ ?_; clear hK K)
  refine wpFlow_step (([] : List Nat)) (by kernel_rfl) (by kernel_rfl) (fun K hK => ?_)
  go_simp
  (refine hK _ ?_; clear hK K)
  refine wpFlow_step (([] : List Nat)) (by kernel_rfl) (by kernel_rfl) (fun K hK => ?_)
  go_simp
  (refine hK _ ?_; clear hK K)
  refine wpFlow_step ([w.heap.size + 1]) (by kernel_rfl) (by kernel_rfl) (fun K hK => ?_)
  go_simp
  (refine hK _ ?_; clear hK K)
  refine wpFlow_store (([] : List Nat)) (13, w.heap.size + 1, 26, k3 n B C) (by kernel_rfl) (by kernel_rfl) rfl (fun x => ?_) ?_
  · refine ⟨_, ?_, Holds.set3 (x.holds i2 (by simp <;> omega)), BelowX.run3⟩
    go_simp
    try rfl
  refine wpFlow_store ([w.heap.size + 1]) (14, w.heap.size + 1 + 1, 39, k4 x Q y S) (by kernel_rfl) (by kernel_rfl) rfl (fun x => ?_) ?_
  · refine ⟨_, ?_, Holds.set4 (x.holds i3 (by simp <;> omega)), BelowX.run4⟩
    go_simp
    try rfl
  refine wpFlow_nil ?_
  intro w4 hb4 j2 j3
  have hB5 : Below w.heap.size w w4 := hb4.below hB4 (by omega) (by simp <;> omega)
  clear hb4 hB4 i1 i2 i3 i4 l1 l2 l3 l5 ka0 ka1 ka2 kb0 kb1 kb2 kb3 y0 y1 y2 yf0 yf1 yf2 v0 v1 v2 v3 vf0 vf1 vf2 vf3 hs1 hs2 hs3 hs4
  have y0 : w4.cell? ⟨w.heap.size + 1, 0, none⟩ = some (.int .i64 n) := Holds.cell j2 rfl
  have y1 : w4.cell? ⟨w.heap.size + 1, 1, none⟩ = some (.int .i64 B) := Holds.cell j2 rfl
  have y2 : w4.cell? ⟨w.heap.size + 1, 2, none⟩ = some (.int .i64 C) := Holds.cell j2 rfl
  have yf0 : w4.frozen? ⟨w.heap.size + 1, 0, none⟩ = false := Holds.free j2
  have yf1 : w4.frozen? ⟨w.heap.size + 1, 1, none⟩ = false := Holds.free j2
  have yf2 : w4.frozen? ⟨w.heap.size + 1, 2, none⟩ = false := Holds.free j2
  have v0 : w4.cell? ⟨w.heap.size + 1 + 1, 0, none⟩ = some (.int .i64 x) := Holds.cell j3 rfl
  have v1 : w4.cell? ⟨w.heap.size + 1 + 1, 1, none⟩ = some (.int .i64 Q) := Holds.cell j3 rfl
  have v2 : w4.cell? ⟨w.heap.size + 1 + 1, 2, none⟩ = some (.int .i64 y) := Holds.cell j3 rfl
  have v3 : w4.cell? ⟨w.heap.size + 1 + 1, 3, none⟩ = some (.int .i64 S) := Holds.cell j3 rfl
  have vf0 : w4.frozen? ⟨w.heap.size + 1 + 1, 0, none⟩ = false := Holds.free j3
  have vf1 : w4.frozen? ⟨w.heap.size + 1 + 1, 1, none⟩ = false := Holds.free j3
  have vf2 : w4.frozen? ⟨w.heap.size + 1 + 1, 2, none⟩ = false := Holds.free j3
  have vf3 : w4.frozen? ⟨w.heap.size + 1 + 1, 3, none⟩ = false := Holds.free j3
  go_wp2_with fail
  refine bodyPost_ret (v := .tuple #[.agg #[.int .i64 n, .int .i64 B, .int .i64 C], .agg #[.int .i64 x, .int .i64 Q, .int .i64 y, .int .i64 S]]) (by simp [results, Try.results91, go_sem, *] <;> rfl) rfl ⟨rfl, by go_grown⟩
theorem Holds.setS {w : World} {b j : Nat} {cs cs' : Array Value} {ty : TypeId} {v : Value} (h : Holds w b cs ty) (e : cs.setIfInBounds j v = cs') : Holds (w.setCell ⟨b, j, none⟩ v) b cs' ty := e ▸ h.set
set_option maxHeartbeats 1000000 in
theorem impl_complete (a b c x y q s n B0 T Q S B C : Int) (w : World) (h : good3 a b c = true) (hx : cin x = true) (hy : cin y = true) (hg : Int.gcd x y = 1) (F : CmF a b c x y q s n B0 T Q S B C) :
    Calls Try.prog 96 #[.agg #[.int .i64 a, .int .i64 b, .int .i64 c], .int .i64 x, .int .i64 y] w fun e w' => e = .returned (.tuple #[.agg #[.int .i64 n, .int .i64 B, .int .i64 C], .agg #[.int .i64 x, .int .i64 Q, .int .i64 y, .int .i64 S]]) ∧ Below w.heap.size w w' := by
  obtain ⟨x1, x2⟩ := cin_iff.1 hx
  obtain ⟨y1, y2⟩ := cin_iff.1 hy
  obtain ⟨hb, q1, q2, s1, s2, hn0, n1, n2, hB0, b1, b2, hT, t1, t2, tq, u1, u2, v1, v2, hQ, hS, hB, B1, B2, hBt, m1, m2, hBP, hC, C1, C2, hCq⟩ := F
  obtain ⟨C0, hC0⟩ : ∃ C0, fV a b c q s = C0 := ⟨_, rfl⟩
  have hC0b : -9000000000000 ≤ C0 ∧ C0 ≤ 9000000000000 := by
    obtain ⟨⟨a1, a2⟩, ⟨b1, b2⟩, ⟨c1, c2⟩⟩ := good3_iff.1 h
    rw [← hC0]; unfold fV
    have g1 := mulb (a := a) (b := q) (A := 1000000) (B := 1001) a1 a2 q1 q2
    have g2 := mulb (a := a * q) (b := q) (A := 1001000000) (B := 1001) (by omega) (by omega) q1 q2
    have g3 := mulb (a := b) (b := q) (A := 1000000) (B := 1001) b1 b2 q1 q2
    have g4 := mulb (a := b * q) (b := s) (A := 1001000000) (B := 1000) (by omega) (by omega) s1 s2
    have g5 := mulb (a := c) (b := s) (A := 1000000) (B := 1000) c1 c2 s1 s2
    have g6 := mulb (a := c * s) (b := s) (A := 1000000000) (B := 1000) (by omega) (by omega) s1 s2
    omega
  obtain ⟨z1, z2⟩ := hC0b
  obtain ⟨D, hD⟩ : ∃ D, B0 / (2 * n) = D := ⟨_, rfl⟩
  rw [hD] at hT
  have HD := Lib.hid hD
  have HT := Lib.hid hT
  have HC0 := Lib.hid hC0
  have Hn0 := Lib.hid hn0
  have HB0 := Lib.hid hB0
  have HQ := Lib.hid hQ
  have HS := Lib.hid hS
  have HBP := Lib.hid hBP
  have HC := Lib.hid hC
  have H := Lib.hid h
  clear hn0 hB0 tq hQ hS hB hBt hCq h hT hBP hC hx hy hC0 hD
  rcases hb with ⟨rfl, rfl, rfl⟩ | ⟨h0, hi, hd⟩
  · have hS := HS.out
    have hQ := HQ.out
    rw [Int.mul_zero, Int.add_zero] at hS
    rw [Int.zero_add] at hQ
    clear HS HQ
    subst hS
    have HQ := Lib.hid hQ
    clear hQ
    go_enter Try.func96, Try.ntmps96
    go_wp2_with fail
    go_wp2_with fail
    refine (impl_subst_r _ _ _ _ _ _ _ n B0 C0 _ H.out Hn0.out HB0.out HC0.out (by omega) (by omega) (by omega) (by omega) (by omega) (by omega)).mono ?_
    rintro e w1 ⟨rfl, hb1⟩
    have hB1 : Below w.heap.size w w1 := Below.after (by go_grown) hb1
    have a1 : Holds w1 w.heap.size (k3 a b c) 26 := Holds.below (by repeat (first | (refine Holds.new' _ _ _ ?_; simp; done) | refine Holds.alloc ?_ _ | refine Holds.far ?_ (by first | omega | (simp; done) | (simp; omega)))) hb1
    have a2 : Holds w1 (w.heap.size + 1) (k3 0 0 0) 26 := Holds.below (by repeat (first | (refine Holds.new' _ _ _ ?_; simp; done) | refine Holds.alloc ?_ _ | refine Holds.far ?_ (by first | omega | (simp; done) | (simp; omega)))) hb1
    have a3 : Holds w1 (w.heap.size + 1 + 1) (k4 0 0 0 0) 39 := Holds.below (by repeat (first | (refine Holds.new' _ _ _ ?_; simp; done) | refine Holds.alloc ?_ _ | refine Holds.far ?_ (by first | omega | (simp; done) | (simp; omega)))) hb1
    have a4 : Holds w1 (w.heap.size + 1 + 1 + 1) (k4 s 0 0 s) 39 := Holds.below (by repeat (first | (refine Holds.new' _ _ _ ?_; simp; done) | refine Holds.alloc ?_ _ | refine Holds.far ?_ (by first | omega | (simp; done) | (simp; omega)))) hb1
    clear hb1
    have hz1 := a4.lt
    have v0 : w1.cell? ⟨w.heap.size + 1 + 1 + 1, 0, none⟩ = some (.int .i64 s) := Holds.cell a4 rfl
    have v1 : w1.cell? ⟨w.heap.size + 1 + 1 + 1, 1, none⟩ = some (.int .i64 0) := Holds.cell a4 rfl
    have v2 : w1.cell? ⟨w.heap.size + 1 + 1 + 1, 2, none⟩ = some (.int .i64 0) := Holds.cell a4 rfl
    have v3 : w1.cell? ⟨w.heap.size + 1 + 1 + 1, 3, none⟩ = some (.int .i64 s) := Holds.cell a4 rfl
    have vf0 : w1.frozen? ⟨w.heap.size + 1 + 1 + 1, 0, none⟩ = false := Holds.free a4
    have vf1 : w1.frozen? ⟨w.heap.size + 1 + 1 + 1, 1, none⟩ = false := Holds.free a4
    have vf2 : w1.frozen? ⟨w.heap.size + 1 + 1 + 1, 2, none⟩ = false := Holds.free a4
    have vf3 : w1.frozen? ⟨w.heap.size + 1 + 1 + 1, 3, none⟩ = false := Holds.free a4
    go_wp2_with fail
    refine (impl_floorDiv B0 (2 * n) D _ (by omega) (by omega) (by omega) (by omega) HD.out).mono ?_
    rintro e w' ⟨rfl, rfl⟩
    have f1 := HT.out
    have f2 := HQ.out
    go_wp2_with fail
    refine region_named (fun W hW => ?_)
    have hB4 : Below w.heap.size w W := by rw [hW]; go_grown
    have i1 : Holds W w.heap.size (k3 a b c) 26 := by rw [hW]; exact ((a1.far (by omega)).far (by omega)).alloc _
    have i2 : Holds W (w.heap.size + 1) (k3 0 0 0) 26 := by rw [hW]; exact ((a2.far (by omega)).far (by omega)).alloc _
    have i3 : Holds W (w.heap.size + 1 + 1) (k4 0 0 0 0) 39 := by rw [hW]; exact ((a3.far (by omega)).far (by omega)).alloc _
    have i4 : Holds W (w.heap.size + 1 + 1 + 1) (k4 s Q 0 s) 39 := by rw [hW]; exact ((a4.setS (cs' := k4 s Q 0 s) rfl).setS (cs' := k4 s Q 0 s) rfl).alloc _
    clear v0 v1 v2 v3 vf0 vf1 vf2 vf3
    clear hW a1 a2 a3 a4
    have y0 := AftX.cell (j := 0) (v := .int .i64 a) i1 rfl
    have y1 := AftX.cell (j := 1) (v := .int .i64 b) i1 rfl
    have y2 := AftX.cell (j := 2) (v := .int .i64 c) i1 rfl
    have v0 := AftX.cell (j := 0) (v := .int .i64 s) i4 rfl
    have v1 := AftX.cell (j := 1) (v := .int .i64 Q) i4 rfl
    have v2 := AftX.cell (j := 2) (v := .int .i64 0) i4 rfl
    have v3 := AftX.cell (j := 3) (v := .int .i64 s) i4 rfl
    have ka0 := AftX.cell (j := 0) (v := .int .i64 0) i2 rfl
    have ka1 := AftX.cell (j := 1) (v := .int .i64 0) i2 rfl
    have ka2 := AftX.cell (j := 2) (v := .int .i64 0) i2 rfl
    have kb0 := AftX.cell (j := 0) (v := .int .i64 0) i3 rfl
    have kb1 := AftX.cell (j := 1) (v := .int .i64 0) i3 rfl
    have kb2 := AftX.cell (j := 2) (v := .int .i64 0) i3 rfl
    have kb3 := AftX.cell (j := 3) (v := .int .i64 0) i3 rfl
    have yf0 := AftX.free (j := 0) i2
    have yf1 := AftX.free (j := 1) i2
    have yf2 := AftX.free (j := 2) i2
    have vf0 := AftX.free (j := 0) i3
    have vf1 := AftX.free (j := 1) i3
    have vf2 := AftX.free (j := 2) i3
    have vf3 := AftX.free (j := 3) i3
    have hs1 := i1.lt
    have hs2 := i2.lt
    have hs3 := i3.lt
    have hs4 := i4.lt
    have hn1 : ¬ w.heap.size + 1 + 1 + 1 = w.heap.size + 1 := by omega
    have hn3 : ¬ w.heap.size + 1 + 1 = w.heap.size := by omega
    have hn4 : ¬ w.heap.size + 1 = w.heap.size := by omega
    have hn5 : ¬ w.heap.size + 2 = w.heap.size := by omega
    have hn2 : ¬ w.heap.size + 1 + 1 = w.heap.size + 1 := by omega
    refine region_flow2 4 (w.heap.size + 1) 26 (k3 n B C) 5 (w.heap.size + 1 + 1) 39 (k4 s Q 0 s) (by kernel_rfl) (by kernel_rfl) hs2 hs3 (by omega) (by decide) ?_
    refine wpFlow_step (([] : List Nat)) (by kernel_rfl) (by kernel_rfl) (fun K hK => ?_)
    go_simp
    (refine hK _ ?_; clear hK K)
    refine wpFlow_step (([] : List Nat)) (by kernel_rfl) (by kernel_rfl) (fun K hK => ?_)
    go_simp
    (refine hK _ ?_; clear hK K)
    refine wpFlow_step (([] : List Nat)) (by kernel_rfl) (by kernel_rfl) (fun K hK => ?_)
    go_simp
    apply Exists.intro
    refine ⟨fun _ => ?_, hK _ ?_⟩
    · exact impl_subst_r _ _ _ _ _ _ _ n B C _ H.out Hn0.out HBP.out HC.out (by omega) (by omega) (by omega) (by omega) (by omega) (by omega)
    clear hK K
    refine wpFlow_step ([w.heap.size + 1]) (by kernel_rfl) (by kernel_rfl) (fun K hK => ?_)
    go_simp
    (refine hK _ ?_; clear hK K)
    refine wpFlow_store (([] : List Nat)) (4, w.heap.size + 1, 26, k3 n B C) (by kernel_rfl) (by kernel_rfl) rfl (fun x => ?_) ?_
    · refine ⟨_, ?_, Holds.set3 (x.holds i2 (by simp <;> omega)), BelowX.run3⟩
      go_simp
      try rfl
    refine wpFlow_store ([w.heap.size + 1]) (5, w.heap.size + 1 + 1, 39, k4 s Q 0 s) (by kernel_rfl) (by kernel_rfl) rfl (fun x => ?_) ?_
    · refine ⟨_, ?_, Holds.set4 (x.holds i3 (by simp <;> omega)), BelowX.run4⟩
      go_simp
      try rfl
    refine wpFlow_nil ?_
    intro w4 hb4 j2 j3
    have hB5 : Below w.heap.size w w4 := hb4.below hB4 (by omega) (by simp <;> omega)
    clear hb4 hB4 i1 i2 i3 i4 ka0 ka1 ka2 kb0 kb1 kb2 kb3 y0 yf0 yf1 yf2 v0 v3 vf0 vf1 vf2 vf3 hs1 hs2 hs3 hs4
    have g0 : w4.cell? ⟨w.heap.size + 1, 0, none⟩ = some (.int .i64 n) := Holds.cell j2 rfl
    have g1 : w4.cell? ⟨w.heap.size + 1, 1, none⟩ = some (.int .i64 B) := Holds.cell j2 rfl
    have g2 : w4.cell? ⟨w.heap.size + 1, 2, none⟩ = some (.int .i64 C) := Holds.cell j2 rfl
    have gf0 : w4.frozen? ⟨w.heap.size + 1, 0, none⟩ = false := Holds.free j2
    have gf1 : w4.frozen? ⟨w.heap.size + 1, 1, none⟩ = false := Holds.free j2
    have gf2 : w4.frozen? ⟨w.heap.size + 1, 2, none⟩ = false := Holds.free j2
    have k0 : w4.cell? ⟨w.heap.size + 1 + 1, 0, none⟩ = some (.int .i64 s) := Holds.cell j3 rfl
    have k1 : w4.cell? ⟨w.heap.size + 1 + 1, 1, none⟩ = some (.int .i64 Q) := Holds.cell j3 rfl
    have k2 : w4.cell? ⟨w.heap.size + 1 + 1, 2, none⟩ = some (.int .i64 0) := Holds.cell j3 rfl
    have k3 : w4.cell? ⟨w.heap.size + 1 + 1, 3, none⟩ = some (.int .i64 s) := Holds.cell j3 rfl
    have kf0 : w4.frozen? ⟨w.heap.size + 1 + 1, 0, none⟩ = false := Holds.free j3
    have kf1 : w4.frozen? ⟨w.heap.size + 1 + 1, 1, none⟩ = false := Holds.free j3
    have kf2 : w4.frozen? ⟨w.heap.size + 1 + 1, 2, none⟩ = false := Holds.free j3
    have kf3 : w4.frozen? ⟨w.heap.size + 1 + 1, 3, none⟩ = false := Holds.free j3
    go_wp2_with fail
    refine bodyPost_ret (v := .tuple #[.agg #[.int .i64 n, .int .i64 B, .int .i64 C], .agg #[.int .i64 (s), .int .i64 Q, .int .i64 (0), .int .i64 (s)]]) (by simp [results, Try.results96, go_sem, *] <;> rfl) rfl ⟨rfl, by go_grown⟩
  · have Hg2 := Lib.hid (show Int.gcd x y.natAbs = 1 by rw [← hg]; simp [Int.gcd])
    have hd2 : (x * s - 1).tdiv y = q := by rw [hd, Int.mul_tdiv_cancel_left _ h0]
    obtain ⟨xs1, xs2⟩ := mulb (a := x) (b := s) (A := 1000) (B := 1000) x1 x2 s1 s2
    have b0 : (y == 0) = false := by simpa using h0
    have Hi := Lib.hid hi
    clear hi
    have Hd := Lib.hid hd2
    clear hd hd2 hg
    go_enter Try.func96, Try.ntmps96
    go_wp2_with fail
    refine (impl_abs y _ (by omega) (by omega)).mono ?_
    rintro e w' ⟨rfl, rfl⟩
    go_wp2_with fail
    refine (impl_inverse x _ s _ (by omega) (by omega) Hi.out Hg2.out).mono ?_
    rintro e w' ⟨rfl, rfl⟩
    have e1 := Hd.out
    have f3 := HS.out
    go_wp2_with fail
    refine (impl_subst_r _ _ _ _ _ _ _ n B0 C0 _ H.out Hn0.out HB0.out HC0.out (by omega) (by omega) (by omega) (by omega) (by omega) (by omega)).mono ?_
    rintro e w1 ⟨rfl, hb1⟩
    have hB1 : Below w.heap.size w w1 := Below.after (by go_grown) hb1
    have a1 : Holds w1 w.heap.size (k3 a b c) 26 := Holds.below (by repeat (first | (refine Holds.new' _ _ _ ?_; simp; done) | refine Holds.alloc ?_ _ | refine Holds.far ?_ (by first | omega | (simp; done) | (simp; omega)))) hb1
    have a2 : Holds w1 (w.heap.size + 1) (k3 0 0 0) 26 := Holds.below (by repeat (first | (refine Holds.new' _ _ _ ?_; simp; done) | refine Holds.alloc ?_ _ | refine Holds.far ?_ (by first | omega | (simp; done) | (simp; omega)))) hb1
    have a3 : Holds w1 (w.heap.size + 1 + 1) (k4 0 0 0 0) 39 := Holds.below (by repeat (first | (refine Holds.new' _ _ _ ?_; simp; done) | refine Holds.alloc ?_ _ | refine Holds.far ?_ (by first | omega | (simp; done) | (simp; omega)))) hb1
    have a4 : Holds w1 (w.heap.size + 1 + 1 + 1) (k4 x q y s) 39 := Holds.below (by repeat (first | (refine Holds.new' _ _ _ ?_; simp; done) | refine Holds.alloc ?_ _ | refine Holds.far ?_ (by first | omega | (simp; done) | (simp; omega)))) hb1
    clear hb1
    have hz1 := a4.lt
    have v0 : w1.cell? ⟨w.heap.size + 1 + 1 + 1, 0, none⟩ = some (.int .i64 x) := Holds.cell a4 rfl
    have v1 : w1.cell? ⟨w.heap.size + 1 + 1 + 1, 1, none⟩ = some (.int .i64 q) := Holds.cell a4 rfl
    have v2 : w1.cell? ⟨w.heap.size + 1 + 1 + 1, 2, none⟩ = some (.int .i64 y) := Holds.cell a4 rfl
    have v3 : w1.cell? ⟨w.heap.size + 1 + 1 + 1, 3, none⟩ = some (.int .i64 s) := Holds.cell a4 rfl
    have vf0 : w1.frozen? ⟨w.heap.size + 1 + 1 + 1, 0, none⟩ = false := Holds.free a4
    have vf1 : w1.frozen? ⟨w.heap.size + 1 + 1 + 1, 1, none⟩ = false := Holds.free a4
    have vf2 : w1.frozen? ⟨w.heap.size + 1 + 1 + 1, 2, none⟩ = false := Holds.free a4
    have vf3 : w1.frozen? ⟨w.heap.size + 1 + 1 + 1, 3, none⟩ = false := Holds.free a4
    go_wp2_with fail
    refine (impl_floorDiv B0 (2 * n) D _ (by omega) (by omega) (by omega) (by omega) HD.out).mono ?_
    rintro e w' ⟨rfl, rfl⟩
    have f1 := HT.out
    have f2 := HQ.out
    go_wp2_with fail
    refine region_named (fun W hW => ?_)
    have hB4 : Below w.heap.size w W := by rw [hW]; go_grown
    have i1 : Holds W w.heap.size (k3 a b c) 26 := by rw [hW]; exact ((a1.far (by omega)).far (by omega)).alloc _
    have i2 : Holds W (w.heap.size + 1) (k3 0 0 0) 26 := by rw [hW]; exact ((a2.far (by omega)).far (by omega)).alloc _
    have i3 : Holds W (w.heap.size + 1 + 1) (k4 0 0 0 0) 39 := by rw [hW]; exact ((a3.far (by omega)).far (by omega)).alloc _
    have i4 : Holds W (w.heap.size + 1 + 1 + 1) (k4 x Q y S) 39 := by rw [hW]; exact ((a4.setS (cs' := k4 x Q y s) rfl).setS (cs' := k4 x Q y S) rfl).alloc _
    clear v0 v1 v2 v3 vf0 vf1 vf2 vf3
    clear hW a1 a2 a3 a4
    have y0 := AftX.cell (j := 0) (v := .int .i64 a) i1 rfl
    have y1 := AftX.cell (j := 1) (v := .int .i64 b) i1 rfl
    have y2 := AftX.cell (j := 2) (v := .int .i64 c) i1 rfl
    have v0 := AftX.cell (j := 0) (v := .int .i64 x) i4 rfl
    have v1 := AftX.cell (j := 1) (v := .int .i64 Q) i4 rfl
    have v2 := AftX.cell (j := 2) (v := .int .i64 y) i4 rfl
    have v3 := AftX.cell (j := 3) (v := .int .i64 S) i4 rfl
    have ka0 := AftX.cell (j := 0) (v := .int .i64 0) i2 rfl
    have ka1 := AftX.cell (j := 1) (v := .int .i64 0) i2 rfl
    have ka2 := AftX.cell (j := 2) (v := .int .i64 0) i2 rfl
    have kb0 := AftX.cell (j := 0) (v := .int .i64 0) i3 rfl
    have kb1 := AftX.cell (j := 1) (v := .int .i64 0) i3 rfl
    have kb2 := AftX.cell (j := 2) (v := .int .i64 0) i3 rfl
    have kb3 := AftX.cell (j := 3) (v := .int .i64 0) i3 rfl
    have yf0 := AftX.free (j := 0) i2
    have yf1 := AftX.free (j := 1) i2
    have yf2 := AftX.free (j := 2) i2
    have vf0 := AftX.free (j := 0) i3
    have vf1 := AftX.free (j := 1) i3
    have vf2 := AftX.free (j := 2) i3
    have vf3 := AftX.free (j := 3) i3
    have hs1 := i1.lt
    have hs2 := i2.lt
    have hs3 := i3.lt
    have hs4 := i4.lt
    have hn1 : ¬ w.heap.size + 1 + 1 + 1 = w.heap.size + 1 := by omega
    have hn3 : ¬ w.heap.size + 1 + 1 = w.heap.size := by omega
    have hn4 : ¬ w.heap.size + 1 = w.heap.size := by omega
    have hn5 : ¬ w.heap.size + 2 = w.heap.size := by omega
    have hn2 : ¬ w.heap.size + 1 + 1 = w.heap.size + 1 := by omega
    refine region_flow2 4 (w.heap.size + 1) 26 (k3 n B C) 5 (w.heap.size + 1 + 1) 39 (k4 x Q y S) (by kernel_rfl) (by kernel_rfl) hs2 hs3 (by omega) (by decide) ?_
    refine wpFlow_step (([] : List Nat)) (by kernel_rfl) (by kernel_rfl) (fun K hK => ?_)
    go_simp
    (refine hK _ ?_; clear hK K)
    refine wpFlow_step (([] : List Nat)) (by kernel_rfl) (by kernel_rfl) (fun K hK => ?_)
    go_simp
    (refine hK _ ?_; clear hK K)
    refine wpFlow_step (([] : List Nat)) (by kernel_rfl) (by kernel_rfl) (fun K hK => ?_)
    go_simp
    apply Exists.intro
    refine ⟨fun _ => ?_, hK _ ?_⟩
    · exact impl_subst_r _ _ _ _ _ _ _ n B C _ H.out Hn0.out HBP.out HC.out (by omega) (by omega) (by omega) (by omega) (by omega) (by omega)
    clear hK K
    refine wpFlow_step ([w.heap.size + 1]) (by kernel_rfl) (by kernel_rfl) (fun K hK => ?_)
    go_simp
    (refine hK _ ?_; clear hK K)
    refine wpFlow_store (([] : List Nat)) (4, w.heap.size + 1, 26, k3 n B C) (by kernel_rfl) (by kernel_rfl) rfl (fun x => ?_) ?_
    · refine ⟨_, ?_, Holds.set3 (x.holds i2 (by simp <;> omega)), BelowX.run3⟩
      go_simp
      try rfl
    refine wpFlow_store ([w.heap.size + 1]) (5, w.heap.size + 1 + 1, 39, k4 x Q y S) (by kernel_rfl) (by kernel_rfl) rfl (fun x => ?_) ?_
    · refine ⟨_, ?_, Holds.set4 (x.holds i3 (by simp <;> omega)), BelowX.run4⟩
      go_simp
      try rfl
    refine wpFlow_nil ?_
    intro w4 hb4 j2 j3
    have hB5 : Below w.heap.size w w4 := hb4.below hB4 (by omega) (by simp <;> omega)
    clear hb4 hB4 i1 i2 i3 i4 ka0 ka1 ka2 kb0 kb1 kb2 kb3 y0 yf0 yf1 yf2 v0 v3 vf0 vf1 vf2 vf3 hs1 hs2 hs3 hs4
    have g0 : w4.cell? ⟨w.heap.size + 1, 0, none⟩ = some (.int .i64 n) := Holds.cell j2 rfl
    have g1 : w4.cell? ⟨w.heap.size + 1, 1, none⟩ = some (.int .i64 B) := Holds.cell j2 rfl
    have g2 : w4.cell? ⟨w.heap.size + 1, 2, none⟩ = some (.int .i64 C) := Holds.cell j2 rfl
    have gf0 : w4.frozen? ⟨w.heap.size + 1, 0, none⟩ = false := Holds.free j2
    have gf1 : w4.frozen? ⟨w.heap.size + 1, 1, none⟩ = false := Holds.free j2
    have gf2 : w4.frozen? ⟨w.heap.size + 1, 2, none⟩ = false := Holds.free j2
    have k0 : w4.cell? ⟨w.heap.size + 1 + 1, 0, none⟩ = some (.int .i64 x) := Holds.cell j3 rfl
    have k1 : w4.cell? ⟨w.heap.size + 1 + 1, 1, none⟩ = some (.int .i64 Q) := Holds.cell j3 rfl
    have k2 : w4.cell? ⟨w.heap.size + 1 + 1, 2, none⟩ = some (.int .i64 y) := Holds.cell j3 rfl
    have k3 : w4.cell? ⟨w.heap.size + 1 + 1, 3, none⟩ = some (.int .i64 S) := Holds.cell j3 rfl
    have kf0 : w4.frozen? ⟨w.heap.size + 1 + 1, 0, none⟩ = false := Holds.free j3
    have kf1 : w4.frozen? ⟨w.heap.size + 1 + 1, 1, none⟩ = false := Holds.free j3
    have kf2 : w4.frozen? ⟨w.heap.size + 1 + 1, 2, none⟩ = false := Holds.free j3
    have kf3 : w4.frozen? ⟨w.heap.size + 1 + 1, 3, none⟩ = false := Holds.free j3
    go_wp2_with fail
    refine bodyPost_ret (v := .tuple #[.agg #[.int .i64 n, .int .i64 B, .int .i64 C], .agg #[.int .i64 (x), .int .i64 Q, .int .i64 (y), .int .i64 (S)]]) (by simp [results, Try.results96, go_sem, *] <;> rfl) rfl ⟨rfl, by go_grown⟩
end Go.Proofs.Ytiblpagbloflhaa
