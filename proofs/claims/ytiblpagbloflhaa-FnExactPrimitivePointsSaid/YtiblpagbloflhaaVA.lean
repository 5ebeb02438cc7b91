/- Contracts: the points at which a definite form has a value, the program's list. -/
import Derived.Test.YtiblpagbloflhaaVH
import Derived.Deep.Cut
namespace Go.Proofs.Ytiblpagbloflhaa
set_option linter.unusedVariables false
open Go.ChangeShapes Go.WideShapes Go.ChangeAt Go.RowKit

/-- a form of this chapter and a number in range -/
def VOk (a b c n : Int) : Prop := shownB a b c = true ∧ 1 ≤ n ∧ n ≤ 10000
theorem vok_bd {a b c n : Int} (h : VOk a b c n) : good3 a b c = true ∧ (1 ≤ a ∧ a ≤ 1000000) ∧ (-1000000 ≤ b ∧ b ≤ 1000000) ∧ (1 ≤ c ∧ c ≤ 1000000) ∧ (-2000 ≤ disc a b c ∧ disc a b c ≤ -1) := by
  have hd : definB a b c = true ∧ -2000 ≤ disc a b c := by simpa [shownB] using h.1
  obtain ⟨h1, h2, h3⟩ := definB_iff.1 hd.1
  obtain ⟨g1, g2, g3⟩ := good3_iff.1 h1
  have hc : 0 < c := by
    refine Int.not_le.1 fun hc => ?_
    have h4 : 0 ≤ a * -c := Int.mul_nonneg (by omega) (by omega)
    rw [Int.mul_neg] at h4
    have h5 : 0 ≤ b * b := by rcases Int.le_total 0 b with h | h
                              · exact Int.mul_nonneg h h
                              · have := Int.mul_nonneg (show 0 ≤ -b by omega) (show 0 ≤ -b by omega); rw [Int.neg_mul_neg] at this; exact this
    unfold disc at h2
    rw [Int.mul_assoc] at h2
    omega
  exact ⟨h1, by omega, g2, by omega, by omega⟩
def bndX (a b c n : Int) : Int := isq ((4 * c * n) / (-disc a b c))
theorem bndX_bd {a b c n : Int} (h : VOk a b c n) : 0 ≤ bndX a b c n ∧ bndX a b c n ≤ 200000 ∧ (0 ≤ 4 * c * n ∧ 4 * c * n ≤ 40000000000) ∧ (0 ≤ (4 * c * n) / (-disc a b c) ∧ (4 * c * n) / (-disc a b c) ≤ 40000000000) := by
  obtain ⟨_, ha, hb, ⟨c1, c2⟩, d1, d2⟩ := vok_bd h
  have h1 : 0 ≤ 4 * c * n := Int.mul_nonneg (by omega) (by have := h.2.1; omega)
  have h2 : 4 * c * n ≤ 4000000 * 10000 := Int.mul_le_mul (by omega) h.2.2 (by have := h.2.1; omega) (by omega)
  have h3 : 0 ≤ (4 * c * n) / (-disc a b c) := Int.ediv_nonneg h1 (by omega)
  have h4 : (4 * c * n) / (-disc a b c) ≤ 4 * c * n := Int.ediv_le_self _ h1
  refine ⟨isq_nonneg _, isq_le h3 (by omega) (by omega) (by omega), ⟨h1, by omega⟩, h3, by omega⟩
theorem sqX_bd {a b c n x : Int} (h : VOk a b c n) (h1 : -bndX a b c n ≤ x) (h2 : x ≤ bndX a b c n) : (-400000000 ≤ disc a b c * x ∧ disc a b c * x ≤ 400000000) ∧ (-40000000000 ≤ disc a b c * x * x ∧ disc a b c * x * x ≤ 0) ∧ 0 ≤ sqX a b c n x ∧ sqX a b c n x ≤ 40000000000 ∧
    (0 ≤ isq (sqX a b c n x) ∧ isq (sqX a b c n x) ≤ 200000) ∧ (-200000000000 ≤ -b * x ∧ -b * x ≤ 200000000000) := by
  obtain ⟨_, ha, hb, ⟨c1, c2⟩, d1, d2⟩ := vok_bd h
  obtain ⟨b1, b2, ⟨e1, e2⟩, f1, f2⟩ := bndX_bd h
  have hxx : x * x ≤ bndX a b c n * bndX a b c n := by
    have : x.natAbs ≤ (bndX a b c n).natAbs := by omega
    have h3 := Nat.mul_le_mul this this
    rw [← Int.natAbs_mul, ← Int.natAbs_mul] at h3
    have h4 : 0 ≤ bndX a b c n * bndX a b c n := Int.mul_nonneg b1 b1
    omega
  have hsq := (isq_spec f1 (by omega)).1
  have hx0 : 0 ≤ x * x := by rcases Int.le_total 0 x with h | h
                             · exact Int.mul_nonneg h h
                             · have := Int.mul_nonneg (show 0 ≤ -x by omega) (show 0 ≤ -x by omega); rw [Int.neg_mul_neg] at this; exact this
  have hle : (-disc a b c) * (x * x) ≤ 4 * c * n := by
    have h3 : (-disc a b c) * (x * x) ≤ (-disc a b c) * ((4 * c * n) / (-disc a b c)) := Int.mul_le_mul_of_nonneg_left (by unfold bndX at hxx; omega) (by omega)
    have h4 := Int.mul_ediv_self_le (x := 4 * c * n) (k := -disc a b c) (by omega)
    omega
  have hnn : 0 ≤ (-disc a b c) * (x * x) := Int.mul_nonneg (by omega) hx0
  have e : disc a b c * x * x = -((-disc a b c) * (x * x)) := by rw [Int.neg_mul, Int.neg_neg, Int.mul_assoc]
  have hdx : -400000000 ≤ disc a b c * x ∧ disc a b c * x ≤ 400000000 := mulb (A := 2000) (B := 200000) (by omega) (by omega) (by omega) (by omega)
  have hbx : -200000000000 ≤ -b * x ∧ -b * x ≤ 200000000000 := mulb (A := 1000000) (B := 200000) (by omega) (by omega) (by omega) (by omega)
  have hs1 : 0 ≤ sqX a b c n x := by unfold sqX; omega
  have hs2 : sqX a b c n x ≤ 40000000000 := by unfold sqX; omega
  exact ⟨hdx, by omega, hs1, hs2, ⟨isq_nonneg _, isq_le hs1 (by omega) (by omega) (by omega)⟩, hbx⟩
/-- beyond the bound the square is negative -/
theorem sqX_out {a b c n x : Int} (h : VOk a b c n) (hs : 0 ≤ sqX a b c n x) : -bndX a b c n ≤ x ∧ x ≤ bndX a b c n := by
  obtain ⟨_, ha, hb, ⟨c1, c2⟩, d1, d2⟩ := vok_bd h
  obtain ⟨b1, b2, ⟨e1, e2⟩, f1, f2⟩ := bndX_bd h
  have hsq := (isq_spec f1 (by omega)).2
  have hle : (-disc a b c) * (x * x) ≤ 4 * c * n := by
    have e : disc a b c * x * x = -((-disc a b c) * (x * x)) := by rw [Int.neg_mul, Int.neg_neg, Int.mul_assoc]
    unfold sqX at hs; omega
  have hx : x * x ≤ (4 * c * n) / (-disc a b c) := by
    refine (Int.le_ediv_iff_mul_le (by omega)).2 ?_
    rw [Int.mul_comm]; exact hle
  have h3 : x * x < (bndX a b c n + 1) * (bndX a b c n + 1) := by unfold bndX; omega
  constructor
  · have := sq_lt (a := -x) (b := bndX a b c n + 1)
    refine Int.not_lt.1 fun hc => ?_
    have h4 := Int.mul_le_mul (show bndX a b c n + 1 ≤ -x by omega) (show bndX a b c n + 1 ≤ -x by omega) (by omega) (by omega)
    rw [Int.neg_mul_neg] at h4
    omega
  · refine Int.not_lt.1 fun hc => ?_
    have h4 := Int.mul_le_mul (show bndX a b c n + 1 ≤ x by omega) (show bndX a b c n + 1 ≤ x by omega) (by omega) (by omega)
    omega
theorem sqX_le {a b c n : Int} (h : VOk a b c n) (x : Int) : sqX a b c n x ≤ 10000000000000000000 := by
  by_cases hs : 0 ≤ sqX a b c n x
  · obtain ⟨h1, h2⟩ := sqX_out h hs
    have := (sqX_bd h h1 h2).2.2.2.1
    omega
  · omega
theorem Pts.ne {w : World} {B b : Nat} {v : Value} {l : List Pt} (h : Pts w B v l) (hb : b < B) : some b ≠ v.ownBlock := fun e => by
  have := (h.lt b e.symm).1; omega
theorem high_cases (a b c n x : Int) : (isq (sqX a b c n x) ≤ 0 ∧ highI a b c n x = []) ∨ (0 < isq (sqX a b c n x) ∧ ((-b * x + isq (sqX a b c n x)).tmod (2 * c) == 0) = false ∧ highI a b c n x = []) ∨
    (0 < isq (sqX a b c n x) ∧ ((-b * x + isq (sqX a b c n x)).tmod (2 * c) == 0) = true ∧ highI a b c n x = [⟨x, (-b * x + isq (sqX a b c n x)).tdiv (2 * c)⟩]) := by
  by_cases h0 : 0 < isq (sqX a b c n x)
  · cases ht : ((-b * x + isq (sqX a b c n x)).tmod (2 * c) == 0) with
    | true => exact .inr (.inr ⟨h0, rfl, by unfold highI; rw [if_pos (by simp only [ht, Bool.and_true, decide_eq_true_eq]; exact h0)]⟩)
    | false => exact .inr (.inl ⟨h0, rfl, by unfold highI; rw [if_neg (by simp only [ht, Bool.and_false]; decide)]⟩)
  · exact .inl ⟨by omega, by unfold highI; rw [if_neg (by simp only [Bool.and_eq_true, decide_eq_true_eq]; exact fun h => h0 h.1)]⟩
theorem low_cases (a b c n x : Int) : (((-b * x - isq (sqX a b c n x)).tmod (2 * c) == 0) = false ∧ lowI a b c n x = []) ∨ (((-b * x - isq (sqX a b c n x)).tmod (2 * c) == 0) = true ∧ lowI a b c n x = [⟨x, (-b * x - isq (sqX a b c n x)).tdiv (2 * c)⟩]) := by
  cases ht : ((-b * x - isq (sqX a b c n x)).tmod (2 * c) == 0) with
  | true => exact .inr ⟨rfl, by unfold lowI; rw [if_pos ht]⟩
  | false => exact .inl ⟨rfl, by unfold lowI; rw [if_neg (by rw [ht]; decide)]⟩
set_option maxHeartbeats 2000000 in
set_option maxRecDepth 100000 in
theorem impl_points (a b c n : Int) (w : World) (h : VOk a b c n) :
    Calls Try.prog 85 #[.agg #[.int .i64 a, .int .i64 b, .int .i64 c], .int .i64 n] w fun e w' => ∃ v, e = .returned v ∧ Pts w' w.heap.size v (listI a b c n (bndX a b c n) (2 * bndX a b c n + 1).toNat) ∧ Below w.heap.size w w' := by
  obtain ⟨hg, ⟨ha1, ha2⟩, ⟨hb1, hb2⟩, ⟨hc1, hc2⟩, hd1, hd2⟩ := vok_bd h
  obtain ⟨q1, q2, ⟨q3, q4⟩, q5, q6⟩ := bndX_bd h
  obtain ⟨hn1, hn2⟩ := h.2
  have H := Lib.hid h
  have Hg := Lib.hid hg
  clear hg
  clear h
  go_enter Try.func85, Try.ntmps85
  go_wp2_with fail
  refine (impl_disc a b c _ Hg.out).mono ?_
  rintro e w1 ⟨rfl, hb1'⟩
  have hB1 : Below w.heap.size w w1 := Below.after (by go_grown) hb1'
  have a1 : Holds w1 w.heap.size #[.int .i64 a, .int .i64 b, .int .i64 c] 26 := Holds.below (by repeat (first | (refine Holds.new' _ _ _ ?_; simp; done) | refine Holds.alloc ?_ _ | refine Holds.far ?_ (by first | omega | (simp; done) | (simp; omega)))) hb1'
  have p1 : Pts w1 (w.heap.size + 1) (.slice (some ⟨w.heap.size + 1, 0, none⟩) 0 0) [] := (Pts.empty _ (by simp) (by simp)).below hb1'
  clear hb1'
  have y0 : w1.cell? ⟨w.heap.size, 0, none⟩ = some (.int .i64 a) := Holds.cell a1 rfl
  have y1 : w1.cell? ⟨w.heap.size, 1, none⟩ = some (.int .i64 b) := Holds.cell a1 rfl
  have y2 : w1.cell? ⟨w.heap.size, 2, none⟩ = some (.int .i64 c) := Holds.cell a1 rfl
  have yf0 : w1.frozen? ⟨w.heap.size, 0, none⟩ = false := Holds.free a1
  have yf1 : w1.frozen? ⟨w.heap.size, 1, none⟩ = false := Holds.free a1
  have yf2 : w1.frozen? ⟨w.heap.size, 2, none⟩ = false := Holds.free a1
  go_wp2_with fail
  have hdv : wrap64 (-(4 * c * n).tdiv (disc a b c)) = (4 * c * n) / (-disc a b c) := by
    rw [← Int.tdiv_neg, Int.tdiv_eq_ediv_of_nonneg (by omega)]
    exact IntWalk.wrap64_in _ (by omega)
  rw [hdv]
  clear hdv
  refine (impl_root ((4 * c * n) / (-disc a b c)) _ q5 (by omega)).mono ?_
  rintro e w' ⟨rfl, rfl⟩
  obtain ⟨B, hBe⟩ : ∃ B, bndX a b c n = B := ⟨_, rfl⟩
  rw [show isq ((4 * c * n) / (-disc a b c)) = B from hBe]
  rw [hBe] at q1 q2
  have HBe := Lib.hid hBe
  have P1 := Lib.hid p1
  have A1 := Lib.hid a1
  clear hBe p1 a1
  go_wp2_with fail
  go_loopw [5, 8] (fun vl i wr => ∃ (k : Nat) (x : Int), i = .int .i64 x ∧ x = -B + k ∧ (k : Int) ≤ 2 * B + 1 ∧ Pts wr (w.heap.size + 1) vl (listI a b c n B k) ∧ Below w.heap.size w wr ∧ Holds wr w.heap.size #[.int .i64 a, .int .i64 b, .int .i64 c] 26) (fun _ i _ => (B + 1 - intOf i).toNat)
  case atStart => exact ⟨0, -B, rfl, by omega, by omega, P1.out, hB1, A1.out⟩
  case round =>
    clear y0 y1 y2 yf0 yf1 yf2
    obtain ⟨k, x, rfl, hx, hk, hpt, hB, h0⟩ := hrel
    have hz0 := h0.lt
    have hlen := listI_len a b c n B k
    have hs := hB.size
    by_cases hlt : x ≤ B
    · have HX := H.out
      obtain ⟨⟨x1, x2⟩, ⟨x3, x4⟩, x5, x6, ⟨x7, x8⟩, x9, x10⟩ := sqX_bd (x := x) HX (by rw [HBe.out]; omega) (by rw [HBe.out]; exact hlt)
      clear HX
      have hcL := low_cases a b c n x
      have hcH := high_cases a b c n x
      have hnext : listI a b c n B (k + 1) = listI a b c n B k ++ pieceI a b c n x := by rw [hx]; rfl
      have hxl : -200000 ≤ x := by omega
      have HX1 := Lib.hid hx
      clear hx
      obtain ⟨r, hr⟩ : ∃ r, isq (sqX a b c n x) = r := ⟨_, rfl⟩
      have h4cn : 0 ≤ 4 * c := by omega
      cases hsq : sqB (sqX a b c n x) with
      | false =>
        have HN : Hid (listI a b c n B (k + 1) = listI a b c n B k) := Lib.hid (by rw [hnext]; unfold pieceI; rw [if_neg (by rw [hsq]; decide), List.append_nil])
        have Hsq : Hid (sqB (disc a b c * x * x + 4 * c * n) = false) := Lib.hid hsq
        have Hpt := Lib.hid hpt
        have Hh0 := Lib.hid h0
        have y0 : wr.cell? ⟨w.heap.size, 0, none⟩ = some (.int .i64 a) := Holds.cell h0 rfl
        have y1 : wr.cell? ⟨w.heap.size, 1, none⟩ = some (.int .i64 b) := Holds.cell h0 rfl
        have y2 : wr.cell? ⟨w.heap.size, 2, none⟩ = some (.int .i64 c) := Holds.cell h0 rfl
        have yf0 : wr.frozen? ⟨w.heap.size, 0, none⟩ = false := Holds.free h0
        have yf1 : wr.frozen? ⟨w.heap.size, 1, none⟩ = false := Holds.free h0
        have yf2 : wr.frozen? ⟨w.heap.size, 2, none⟩ = false := Holds.free h0
        clear hcL hcH hnext hsq hr hpt h0
        go_wp2_with fail
        refine (impl_isSquare _ false _ (by unfold sqX at x6; omega) Hsq.out).mono ?_
        rintro e w' ⟨rfl, rfl⟩
        go_wp2_with fail
        go_roundw
        case rel => exact ⟨k + 1, x + 1, rfl, by have := HX1.out; omega, by have := HX1.out; omega, by rw [HN.out]; exact Hpt.out, hB, Hh0.out⟩
        case measure => simp [intOf]; omega
      | true =>
        have hnext2 : listI a b c n B (k + 1) = listI a b c n B k ++ (lowI a b c n x ++ highI a b c n x) := by rw [hnext]; unfold pieceI; rw [if_pos hsq]
        have Hsq : Hid (sqB (disc a b c * x * x + 4 * c * n) = true) := Lib.hid hsq
        have Hr : Hid (isq (disc a b c * x * x + 4 * c * n) = r) := Lib.hid hr
        rw [hr] at hcL hcH x7 x8
        have x5' : 0 ≤ disc a b c * x * x + 4 * c * n := x5
        have x6' : disc a b c * x * x + 4 * c * n ≤ 40000000000 := x6
        clear hnext hsq hr x5 x6
        have Hh0 := Lib.hid h0
        have y0 : wr.cell? ⟨w.heap.size, 0, none⟩ = some (.int .i64 a) := Holds.cell h0 rfl
        have y1 : wr.cell? ⟨w.heap.size, 1, none⟩ = some (.int .i64 b) := Holds.cell h0 rfl
        have y2 : wr.cell? ⟨w.heap.size, 2, none⟩ = some (.int .i64 c) := Holds.cell h0 rfl
        have yf0 : wr.frozen? ⟨w.heap.size, 0, none⟩ = false := Holds.free h0
        have yf1 : wr.frozen? ⟨w.heap.size, 1, none⟩ = false := Holds.free h0
        have yf2 : wr.frozen? ⟨w.heap.size, 2, none⟩ = false := Holds.free h0
        rcases hcL with ⟨tl, hL⟩ | ⟨tl, hL⟩
        · rw [hL, List.nil_append] at hnext2
          obtain ⟨hl, hhl⟩ : ∃ hl, listI a b c n B k = hl := ⟨_, rfl⟩
          rw [hhl] at hnext2 hpt hlen
          have HN := Lib.hid hnext2
          have HcH := Lib.hid hcH
          have hhB := hB
          have Hhp := Lib.hid hpt
          clear hnext2 hL hpt h0 hcH hhl
          go_wp2_with fail
          refine (impl_isSquare _ true _ (by omega) Hsq.out).mono ?_
          rintro e w' ⟨rfl, rfl⟩
          go_wp2_with fail
          refine (impl_root _ _ x5' (by omega)).mono ?_
          rintro e w' ⟨rfl, rfl⟩
          rw [Hr.out]
          go_upto_region 12 with (fail)
          clear y0 y1 y2 yf0 yf1 yf2
          have hcH := HcH.out
          have hhp := Hhp.out
          have hh0 := Hh0.out
          clear HcH Hhp
          have hzh := hh0.lt
          have hlh : hl.length ≤ 1000000 := by omega
          have Hpt := Lib.hid hhp
          have Hh0 := Lib.hid hh0
          have HBh := Lib.hid hhB
          have y0 : wr.cell? ⟨w.heap.size, 0, none⟩ = some (.int .i64 a) := Holds.cell hh0 rfl
          have y1 : wr.cell? ⟨w.heap.size, 1, none⟩ = some (.int .i64 b) := Holds.cell hh0 rfl
          have y2 : wr.cell? ⟨w.heap.size, 2, none⟩ = some (.int .i64 c) := Holds.cell hh0 rfl
          have yf0 : wr.frozen? ⟨w.heap.size, 0, none⟩ = false := Holds.free hh0
          have yf1 : wr.frozen? ⟨w.heap.size, 1, none⟩ = false := Holds.free hh0
          have yf2 : wr.frozen? ⟨w.heap.size, 2, none⟩ = false := Holds.free hh0
          rcases hcH with ⟨hr0, hH⟩ | ⟨hr0, ht, hH⟩ | ⟨hr0, ht, hH⟩
          · have HH := Lib.hid hH
            clear hH hhp hh0
            go_wp2_with fail
            go_roundw
            case rel => exact ⟨k + 1, x + 1, rfl, by have := HX1.out; omega, by have := HX1.out; omega, by rw [HN.out, HH.out, List.append_nil]; exact Hpt.out, HBh.out, Hh0.out⟩
            case measure => simp [intOf]; omega
          · have HH := Lib.hid hH
            clear hH hhp hh0
            go_wp2_with fail
            go_roundw
            case rel => exact ⟨k + 1, x + 1, rfl, by have := HX1.out; omega, by have := HX1.out; omega, by rw [HN.out, HH.out, List.append_nil]; exact Hpt.out, HBh.out, Hh0.out⟩
            case measure => simp [intOf]; omega
          · have HH := Lib.hid hH
            obtain ⟨Y, hY⟩ : ∃ Y, (-b * x + r).tdiv (2 * c) = Y := ⟨_, rfl⟩
            have hY1 : -300000000000 ≤ (-b * x + r).tdiv (2 * c) ∧ (-b * x + r).tdiv (2 * c) ≤ 300000000000 := by have := Int.natAbs_tdiv_le_natAbs (-b * x + r) (2 * c); omega
            rw [hY] at hY1
            obtain ⟨hY2, hY3⟩ := hY1
            have HY := Lib.hid hY
            have Hpt2 := Lib.hid (Hpt.out.alloc (.cells (cP ⟨x, Y⟩) 80))
            have Hn2 : Hid (Holds ((wr).alloc (.cells (cP ⟨x, Y⟩) 80)) (wr).heap.size (cP ⟨x, Y⟩) 80) := Lib.hid (Holds.new _ _ _)
            have H02 := Lib.hid (Hh0.out.alloc (.cells (cP ⟨x, Y⟩) 80))
            have HB2 := Lib.hid (HBh.out.alloc HBh.out.size (.cells (cP ⟨x, Y⟩) 80))
            clear hH hhp hh0 HBh Hh0 Hpt hhB
            go_wp2_with (at_builtin; refine app_pt (w.heap.size + 1) hl ⟨x, Y⟩ u5 _ _ _ rfl rfl rfl rfl Hpt2.out Hn2.out hlh (by simp; omega) ?_)
            intro v6 w6 hown6 hgrow6
            have hB6 : Below w.heap.size w w6 := below_grownP HB2.out (Hpt2.out.mono (by omega)) hgrow6 (by simp; omega)
            have h06 : Holds w6 w.heap.size #[.int .i64 a, .int .i64 b, .int .i64 c] 26 := (hgrow6.block _ H02.out.lt (Hpt2.out.ne (by omega))).trans H02.out
            have K := Lib.hid (And.intro hown6 (And.intro hB6 h06))
            clear y0 y1 y2 yf0 yf1 yf2
            clear hown6 hgrow6 hB6 h06 Hpt2 Hn2 H02 HB2
            go_wp2_with fail
            go_roundw
            case rel => exact ⟨k + 1, x + 1, rfl, by have := HX1.out; omega, by have := HX1.out; omega, by rw [HN.out, HH.out, HY.out]; exact K.out.1, K.out.2.1, K.out.2.2⟩
            case measure => simp [intOf]; omega
        · rw [hL, ← List.append_assoc] at hnext2
          obtain ⟨Y, hY⟩ : ∃ Y, (-b * x - r).tdiv (2 * c) = Y := ⟨_, rfl⟩
          have hY1 : -300000000000 ≤ (-b * x - r).tdiv (2 * c) ∧ (-b * x - r).tdiv (2 * c) ≤ 300000000000 := by have := Int.natAbs_tdiv_le_natAbs (-b * x - r) (2 * c); omega
          rw [hY] at hY1 hnext2
          obtain ⟨hY2, hY3⟩ := hY1
          obtain ⟨hl, hhl⟩ : ∃ hl, listI a b c n B k ++ [⟨x, Y⟩] = hl := ⟨_, rfl⟩
          rw [hhl] at hnext2
          have hlen2 : hl.length ≤ 2 * k + 1 := by rw [← hhl]; simp; omega
          have Hhl := Lib.hid hhl
          have HN := Lib.hid hnext2
          have HcH := Lib.hid hcH
          have HY := Lib.hid hY
          have hl0 : (listI a b c n B k).length ≤ 1000000 := by omega
          have Hpt2 := Lib.hid (hpt.alloc (.cells (cP ⟨x, Y⟩) 80))
          have Hn2 : Hid (Holds (wr.alloc (.cells (cP ⟨x, Y⟩) 80)) wr.heap.size (cP ⟨x, Y⟩) 80) := Lib.hid (Holds.new _ _ _)
          have H02 := Lib.hid (h0.alloc (.cells (cP ⟨x, Y⟩) 80))
          have HB2 := Lib.hid (hB.alloc hs (.cells (cP ⟨x, Y⟩) 80))
          clear hnext2 hL hpt h0 hcH hhl
          go_wp2_with fail
          refine (impl_isSquare _ true _ (by omega) Hsq.out).mono ?_
          rintro e w' ⟨rfl, rfl⟩
          go_wp2_with fail
          refine (impl_root _ _ x5' (by omega)).mono ?_
          rintro e w' ⟨rfl, rfl⟩
          rw [Hr.out]
          go_wp2_with (at_builtin; refine app_pt (w.heap.size + 1) (listI a b c n B k) ⟨x, Y⟩ u5 _ _ _ rfl rfl rfl rfl Hpt2.out Hn2.out hl0 (by simp; omega) ?_)
          intro v3 w3 hown3 hgrow3
          have hB3 : Below w.heap.size w w3 := below_grownP HB2.out (Hpt2.out.mono (by omega)) hgrow3 (by simp; omega)
          have h03 : Holds w3 w.heap.size #[.int .i64 a, .int .i64 b, .int .i64 c] 26 := (hgrow3.block _ H02.out.lt (Hpt2.out.ne (by omega))).trans H02.out
          have hhp3 : Pts w3 (w.heap.size + 1) v3 hl := by rw [← Hhl.out]; exact hown3
          have hcH := HcH.out
          have hhp := hhp3
          have hh0 := h03
          have hhB := hB3
          have hlen := hlen2
          have hs3 := hB3.size
          clear y0 y1 y2 yf0 yf1 yf2
          clear hown3 hgrow3 hB3 h03 hhp3 Hpt2 Hn2 H02 HB2 HcH hY Hh0 hB hlen2
          have hzh := hh0.lt
          have hlh : hl.length ≤ 1000000 := by omega
          have Hpt := Lib.hid hhp
          have Hh0 := Lib.hid hh0
          have HBh := Lib.hid hhB
          have y0 : w3.cell? ⟨w.heap.size, 0, none⟩ = some (.int .i64 a) := Holds.cell hh0 rfl
          have y1 : w3.cell? ⟨w.heap.size, 1, none⟩ = some (.int .i64 b) := Holds.cell hh0 rfl
          have y2 : w3.cell? ⟨w.heap.size, 2, none⟩ = some (.int .i64 c) := Holds.cell hh0 rfl
          have yf0 : w3.frozen? ⟨w.heap.size, 0, none⟩ = false := Holds.free hh0
          have yf1 : w3.frozen? ⟨w.heap.size, 1, none⟩ = false := Holds.free hh0
          have yf2 : w3.frozen? ⟨w.heap.size, 2, none⟩ = false := Holds.free hh0
          rcases hcH with ⟨hr0, hH⟩ | ⟨hr0, ht, hH⟩ | ⟨hr0, ht, hH⟩
          · have HH := Lib.hid hH
            clear hH hhp hh0
            go_wp2_with fail
            go_roundw
            case rel => exact ⟨k + 1, x + 1, rfl, by have := HX1.out; omega, by have := HX1.out; omega, by rw [HN.out, HH.out, List.append_nil]; exact Hpt.out, HBh.out, Hh0.out⟩
            case measure => simp [intOf]; omega
          · have HH := Lib.hid hH
            clear hH hhp hh0
            go_wp2_with fail
            go_roundw
            case rel => exact ⟨k + 1, x + 1, rfl, by have := HX1.out; omega, by have := HX1.out; omega, by rw [HN.out, HH.out, List.append_nil]; exact Hpt.out, HBh.out, Hh0.out⟩
            case measure => simp [intOf]; omega
          · have HH := Lib.hid hH
            obtain ⟨Y, hY⟩ : ∃ Y, (-b * x + r).tdiv (2 * c) = Y := ⟨_, rfl⟩
            have hY1 : -300000000000 ≤ (-b * x + r).tdiv (2 * c) ∧ (-b * x + r).tdiv (2 * c) ≤ 300000000000 := by have := Int.natAbs_tdiv_le_natAbs (-b * x + r) (2 * c); omega
            rw [hY] at hY1
            obtain ⟨hY2, hY3⟩ := hY1
            have HY := Lib.hid hY
            have Hpt2 := Lib.hid (Hpt.out.alloc (.cells (cP ⟨x, Y⟩) 80))
            have Hn2 : Hid (Holds ((w3).alloc (.cells (cP ⟨x, Y⟩) 80)) (w3).heap.size (cP ⟨x, Y⟩) 80) := Lib.hid (Holds.new _ _ _)
            have H02 := Lib.hid (Hh0.out.alloc (.cells (cP ⟨x, Y⟩) 80))
            have HB2 := Lib.hid (HBh.out.alloc HBh.out.size (.cells (cP ⟨x, Y⟩) 80))
            clear hH hhp hh0 HBh Hh0 Hpt hhB
            go_wp2_with (at_builtin; refine app_pt (w.heap.size + 1) hl ⟨x, Y⟩ v3 _ _ _ rfl rfl rfl rfl Hpt2.out Hn2.out hlh (by simp; omega) ?_)
            intro v6 w6 hown6 hgrow6
            have hB6 : Below w.heap.size w w6 := below_grownP HB2.out (Hpt2.out.mono (by omega)) hgrow6 (by simp; omega)
            have h06 : Holds w6 w.heap.size #[.int .i64 a, .int .i64 b, .int .i64 c] 26 := (hgrow6.block _ H02.out.lt (Hpt2.out.ne (by omega))).trans H02.out
            have K := Lib.hid (And.intro hown6 (And.intro hB6 h06))
            clear y0 y1 y2 yf0 yf1 yf2
            clear hown6 hgrow6 hB6 h06 Hpt2 Hn2 H02 HB2
            go_wp2_with fail
            go_roundw
            case rel => exact ⟨k + 1, x + 1, rfl, by have := HX1.out; omega, by have := HX1.out; omega, by rw [HN.out, HH.out, HY.out]; exact K.out.1, K.out.2.1, K.out.2.2⟩
            case measure => simp [intOf]; omega
    · have hkB : (2 * B + 1).toNat = k := by omega
      have Hk := Lib.hid hkB
      have Hpt := Lib.hid (hpt.mono (B' := w.heap.size) (by omega))
      clear hkB hx hpt h0
      go_wp2_with fail
      go_ret
      exact ⟨_, rfl, by rw [HBe.out, Hk.out]; exact Hpt.out, hB⟩
end Go.Proofs.Ytiblpagbloflhaa
