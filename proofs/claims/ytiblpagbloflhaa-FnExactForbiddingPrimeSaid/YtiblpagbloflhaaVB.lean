/- Contracts: the points at which a definite form has a value, the reference's list. -/
import Derived.Test.YtiblpagbloflhaaVA
import Derived.Test.YtiblpagbloflhaaS
namespace Go.Proofs.Ytiblpagbloflhaa
set_option linter.unusedVariables false
open Go.ChangeShapes Go.WideShapes Go.ChangeAt Go.RowKit

theorem disc_swap (a b c : Int) : disc c b a = disc a b c := by unfold disc; grind
theorem vok_swap {a b c n : Int} (h : VOk a b c n) : VOk c b a n := by
  obtain ⟨h1, h2, h3, h4, h5, h6⟩ := vok_bd h
  refine ⟨?_, h.2⟩
  have hd : definB c b a = true := by
    refine definB_iff.2 ⟨?_, by rw [disc_swap]; omega, by omega⟩
    obtain ⟨g1, g2, g3⟩ := good3_iff.1 h1
    exact good3_iff.2 ⟨g3, g2, g1⟩
  have hs : -2000 ≤ disc c b a := by rw [disc_swap]; exact h5
  simp [shownB, hd, hs]
theorem sqY_swap (a b c n y : Int) : sqY a b c n y = sqX c b a n y := by unfold sqY sqX; rw [disc_swap]
def bndY (a b c n : Int) : Int := bndX c b a n
theorem bndY_bd {a b c n : Int} (h : VOk a b c n) : 0 ≤ bndY a b c n ∧ bndY a b c n ≤ 200000 ∧ 0 ≤ 4 * a * n ∧ 4 * a * n ≤ 40000000000 := by
  obtain ⟨h1, h2, ⟨h3, h4⟩, _⟩ := bndX_bd (vok_swap h)
  exact ⟨h1, h2, h3, h4⟩
theorem sqY_bd {a b c n y : Int} (h : VOk a b c n) (h1 : 0 ≤ y) (h2 : y ≤ bndY a b c n) : (-400000000 ≤ disc a b c * y ∧ disc a b c * y ≤ 400000000) ∧ (-40000000000 ≤ disc a b c * y * y ∧ disc a b c * y * y ≤ 0) ∧ 0 ≤ sqY a b c n y ∧ sqY a b c n y ≤ 40000000000 ∧ 0 ≤ isq (sqY a b c n y) ∧ isq (sqY a b c n y) ≤ 200000 := by
  have := sqX_bd (x := y) (vok_swap h) (by unfold bndY at h2; have := (bndX_bd (vok_swap h)).1; omega) h2
  rw [disc_swap, ← sqY_swap] at this
  exact ⟨this.1, this.2.1, this.2.2.1, this.2.2.2.1, this.2.2.2.2.1⟩
theorem sqY_out {a b c n y : Int} (h : VOk a b c n) (hs : 0 ≤ sqY a b c n y) : y ≤ bndY a b c n := by
  rw [sqY_swap] at hs
  exact (sqX_out (vok_swap h) hs).2
theorem sqY_le {a b c n : Int} (h : VOk a b c n) (y : Int) : sqY a b c n y ≤ 10000000000000000000 := by rw [sqY_swap]; exact sqX_le (vok_swap h) y
/-- the program's list is the reference's -/
theorem points_same {a b c n : Int} (h : VOk a b c n) : listI a b c n (bndX a b c n) (2 * bndX a b c n + 1).toNat = listS a b c n (bndY a b c n + 1).toNat := by
  obtain ⟨h1, h2, h3, h4, h5, h6⟩ := vok_bd h
  have hb := bndX_bd h
  have hy := bndY_bd h
  refine lists_same (by omega) (by omega) (by omega) (sqX_le h) (sqY_le h) hb.1 (fun x hx => sqX_out h hx) (fun j hj => ?_) ?_
  · exact (sqY_bd h (by omega) (by omega)).2.2.1
  · refine Int.not_le.1 fun hc => ?_
    have := sqY_out h hc
    omega
/-- the candidates of an ordinate, one after the other -/
def stepsS (a b y s : Int) (l : List Pt) : Nat → List Pt
  | 0 => l
  | 1 => stepS a b l y s
  | 2 => stepS a b (stepS a b l y s) y (-s)
  | 3 => stepS a b (stepS a b (stepS a b l y s) y (-s)) (-y) s
  | _ => stepS a b (stepS a b (stepS a b (stepS a b l y s) y (-s)) (-y) s) (-y) (-s)
theorem stepsS_len (a b y s : Int) (l : List Pt) (m : Nat) : (stepsS a b y s l m).length ≤ l.length + 4 := by
  have h := fun (l : List Pt) (v r : Int) => stepS_len a b v r l
  match m with
  | 0 => exact Nat.le_add_right ..
  | 1 => exact Nat.le_trans (h l y s) (by omega)
  | 2 => exact Nat.le_trans (h _ y (-s)) (by have := h l y s; omega)
  | 3 => exact Nat.le_trans (h _ (-y) s) (by have := h (stepS a b l y s) y (-s); have := h l y s; omega)
  | _ + 4 => exact Nat.le_trans (h _ (-y) (-s)) (by have := h (stepS a b (stepS a b l y s) y (-s)) (-y) s; have := h (stepS a b l y s) y (-s); have := h l y s; omega)
theorem stepsS_next {a b y s : Int} {l : List Pt} {i j : Nat} (hi : i < 2) (hj : j < 2) :
    stepsS a b y s l (2 * i + j + 1) = stepS a b (stepsS a b y s l (2 * i + j)) (if i = 0 then y else -y) (if j = 0 then s else -s) := by
  match i, j, hi, hj with
  | 0, 0, _, _ => rfl
  | 0, 1, _, _ => rfl
  | 1, 0, _, _ => rfl
  | 1, 1, _, _ => rfl
/-- empty lists are nil -/
def NilOk (v : Value) (l : List Pt) : Prop := l = [] → v = .slice none 0 0
def VAt (w : World) (a b c n : Int) (s6 s7 : Value) (wr : World) : Prop :=
  ∃ k : Nat, s7 = .int .i64 k ∧ (k : Int) ≤ bndY a b c n + 1 ∧ Pts wr (w.heap.size + 1) s6 (listS a b c n k) ∧ NilOk s6 (listS a b c n k) ∧ Below w.heap.size w wr ∧ Holds wr w.heap.size #[.int .i64 a, .int .i64 b, .int .i64 c] 26
def VMid (w : World) (a b c y s : Int) (l : List Pt) (g : Nat) (s6 si : Value) (wr : World) : Prop :=
  ∃ i : Nat, si = .int .i64 i ∧ i ≤ 2 ∧ Pts wr (w.heap.size + 1) s6 (stepsS a b y s l (2 * i)) ∧ NilOk s6 (stepsS a b y s l (2 * i)) ∧ Below w.heap.size w wr ∧ Holds wr w.heap.size #[.int .i64 a, .int .i64 b, .int .i64 c] 26 ∧ Holds wr g #[.int .i64 y, .int .i64 (-y)] 3
def VInn (w : World) (a b c y s : Int) (l : List Pt) (g g' i : Nat) (s6 sj : Value) (wr : World) : Prop :=
  ∃ j : Nat, sj = .int .i64 j ∧ j ≤ 2 ∧ Pts wr (w.heap.size + 1) s6 (stepsS a b y s l (2 * i + j)) ∧ NilOk s6 (stepsS a b y s l (2 * i + j)) ∧ Below w.heap.size w wr ∧ Holds wr w.heap.size #[.int .i64 a, .int .i64 b, .int .i64 c] 26 ∧ Holds wr g #[.int .i64 y, .int .i64 (-y)] 3 ∧ Holds wr g' #[.int .i64 s, .int .i64 (-s)] 3
theorem two_cell {w : World} {g : Nat} {y : Int} {i : Nat} (h : Holds w g #[.int .i64 y, .int .i64 (-y)] 3) (hi : i < 2) : w.cell? ⟨g, i, none⟩ = some (.int .i64 (if i = 0 then y else -y)) := by
  match i, hi with
  | 0, _ => exact Holds.cell h rfl
  | 1, _ => exact Holds.cell h rfl
theorem two_bd {y B : Int} (i : Nat) (h0 : 0 ≤ y) (h : y ≤ B) : -B ≤ (if i = 0 then y else -y) ∧ (if i = 0 then y else -y) ≤ B := by split <;> omega
set_option maxHeartbeats 4000000 in
set_option maxRecDepth 100000 in
theorem spec_vaAt (a b c n : Int) (w : World) (h : VOk a b c n) :
    Calls Try.prog 74 #[.agg #[.int .i64 a, .int .i64 b, .int .i64 c], .int .i64 n] w fun e w' => ∃ v, e = .returned v ∧ Pts w' w.heap.size v (listS a b c n (bndY a b c n + 1).toNat) ∧ Below w.heap.size w w' := by
  obtain ⟨hg, ⟨ha1, ha2⟩, ⟨hb1, hb2⟩, ⟨hc1, hc2⟩, hd1, hd2⟩ := vok_bd h
  obtain ⟨q1, q2, q3, q4⟩ := bndY_bd h
  obtain ⟨hn1, hn2⟩ := h.2
  have H := Lib.hid h
  have Hg := Lib.hid hg
  clear hg
  clear h
  go_enter Try.func74, Try.ntmps74
  go_wp2_with fail
  refine (spec_foDisc a b c _ Hg.out).mono ?_
  rintro e w1 ⟨rfl, hb1'⟩
  have hB1 : Below w.heap.size w w1 := Below.after (by go_grown) hb1'
  have a1 : Holds w1 w.heap.size #[.int .i64 a, .int .i64 b, .int .i64 c] 26 := Holds.below (by repeat (first | (refine Holds.new' _ _ _ ?_; simp; done) | refine Holds.alloc ?_ _ | refine Holds.far ?_ (by first | omega | (simp; done) | (simp; omega)))) hb1'
  have A1 := Lib.hid a1
  clear hb1' a1
  go_wp2_with fail
  go_loopw [6, 7] (fun s6 s7 wr => VAt w a b c n s6 s7 wr) (fun _ s7 _ => (bndY a b c n + 1 - intOf s7).toNat)
  case atStart => exact ⟨0, rfl, by omega, Pts.nil _ _, fun _ => rfl, hB1, A1.out⟩
  case round =>
    clear hB1
    obtain ⟨k, rfl, hk, hpt, hnil, hB, h0⟩ := hrel
    have hz0 := h0.lt
    have hlen := listS_len a b c n k
    have hs := hB.size
    have Hpt := Lib.hid hpt
    have Hnil := Lib.hid hnil
    have Hh0 := Lib.hid h0
    have y0 : wr.cell? ⟨w.heap.size, 0, none⟩ = some (.int .i64 a) := Holds.cell h0 rfl
    have y1 : wr.cell? ⟨w.heap.size, 1, none⟩ = some (.int .i64 b) := Holds.cell h0 rfl
    have y2 : wr.cell? ⟨w.heap.size, 2, none⟩ = some (.int .i64 c) := Holds.cell h0 rfl
    have yf0 : wr.frozen? ⟨w.heap.size, 0, none⟩ = false := Holds.free h0
    have yf1 : wr.frozen? ⟨w.heap.size, 1, none⟩ = false := Holds.free h0
    have yf2 : wr.frozen? ⟨w.heap.size, 2, none⟩ = false := Holds.free h0
    clear hpt hnil h0
    by_cases hlt : (k : Int) ≤ bndY a b c n
    · have HX := H.out
      obtain ⟨⟨x1, x2⟩, ⟨x3, x4⟩, x5, x6, x7, x8⟩ := sqY_bd (y := k) HX (by omega) hlt
      have hcond : -disc a b c * k * k ≤ 4 * a * n := by
        have e : -disc a b c * k * k = -(disc a b c * k * k) := by rw [Int.neg_mul, Int.neg_mul]
        unfold sqY at x5; omega
      have hcb1 : -disc a b c * k = -(disc a b c * k) := Int.neg_mul ..
      have hcb : -400000000 ≤ -disc a b c * k ∧ -disc a b c * k ≤ 400000000 := by omega
      have hcc : 0 ≤ -disc a b c * k * k ∧ -disc a b c * k * k ≤ 40000000000 := by
        have e : -disc a b c * k * k = -(disc a b c * k * k) := by rw [Int.neg_mul, Int.neg_mul]
        omega
      obtain ⟨cb1, cb2⟩ := hcb
      obtain ⟨cc1, cc2⟩ := hcc
      obtain ⟨s, hse⟩ : ∃ s, isq (sqY a b c n k) = s := ⟨_, rfl⟩
      have hnext : listS a b c n (k + 1) = pieceS a b c n (listS a b c n k) k := rfl
      unfold pieceS at hnext
      rw [hse] at hnext x7 x8
      have x5' : 0 ≤ disc a b c * k * k + 4 * a * n := x5
      have x6' : disc a b c * k * k + 4 * a * n ≤ 40000000000 := x6
      have Hse : Hid (isq (disc a b c * k * k + 4 * a * n) = s) := Lib.hid hse
      have hss : 0 ≤ s * s ∧ s * s ≤ 40000000000 := ⟨Int.mul_nonneg x7 x7, Int.le_trans (Int.mul_le_mul x8 x8 x7 (by omega)) (by omega)⟩
      obtain ⟨ss1, ss2⟩ := hss
      clear HX hse hcb1 x5 x6
      cases hsq : (s * s == sqY a b c n k) with
      | false =>
        rw [hsq] at hnext
        have HN : Hid (listS a b c n (k + 1) = listS a b c n k) := Lib.hid (by rw [hnext]; rfl)
        have hne : (s * s == disc a b c * k * k + 4 * a * n) = false := hsq
        have hne' : (s * s != disc a b c * k * k + 4 * a * n) = true := by rw [bne, hne]; rfl
        have hne2 : ¬ s * s = disc a b c * k * k + 4 * a * n := by simpa using hne
        clear hnext hsq
        go_wp2_with fail
        refine (spec_nuRoot _ _ x5' (by omega)).mono ?_
        rintro e w' ⟨rfl, rfl⟩
        rw [Hse.out]
        go_wp2_with fail
        go_roundw
        case rel => exact ⟨k + 1, by go_num, by omega, by rw [HN.out]; exact Hpt.out, by rw [HN.out]; exact Hnil.out, hB, Hh0.out⟩
        case measure => simp [intOf]; omega
      | true =>
        rw [hsq] at hnext
        have HN : Hid (listS a b c n (k + 1) = stepsS a b k s (listS a b c n k) 4) := Lib.hid hnext
        have hne : s * s = disc a b c * k * k + 4 * a * n := by have := hsq; simp only [beq_iff_eq] at this; exact this
        have hne' : (s * s != disc a b c * k * k + 4 * a * n) = false := by simp [hne]
        clear hnext hsq
        go_wp2_with fail
        refine (spec_nuRoot _ _ x5' (by omega)).mono ?_
        rintro e w' ⟨rfl, rfl⟩
        rw [Hse.out]
        go_wp2_with fail
        obtain ⟨wA, rfl⟩ : ∃ wA, wA = wr := ⟨_, rfl⟩
        clear hne hne' hcond cb1 cb2 cc1 cc2 ss1 ss2 x5' x6' Hse x1 x2 x3 x4
        go_loopw [6, 62] (fun s6 si wm => VMid w a b c k s (listS a b c n k) wA.heap.size s6 si wm) (fun _ si _ => (2 - intOf si).toNat)
        case atStart => exact ⟨0, rfl, by omega, Hpt.out.alloc _, Hnil.out, by go_grown, Hh0.out.alloc _, Holds.new _ _ _⟩
        case round =>
          clear y0 y1 y2 yf0 yf1 yf2
          clear Hpt Hnil Hh0 hB
          obtain ⟨i, rfl, hi, hpt, hnil, hB, h0, hgY⟩ := hrel
          have hz1 := h0.lt
          have hz2 := hgY.lt
          have hs2 := hB.size
          have Hpt := Lib.hid hpt
          have Hnil := Lib.hid hnil
          have Hh0 := Lib.hid h0
          have HgY := Lib.hid hgY
          clear hpt hnil
          by_cases hlt2 : i < 2
          · have hcY := two_cell hgY hlt2
            have hi2 : (i : Int) < 2 := by omega
            obtain ⟨yb1, yb2⟩ := two_bd (y := k) (B := 200000) i (by omega) (by omega)
            obtain ⟨yv, hyv⟩ : ∃ yv, (if i = 0 then (k : Int) else -(k : Int)) = yv := ⟨_, rfl⟩
            rw [hyv] at hcY yb1 yb2
            have Hyv := Lib.hid hyv
            clear hgY h0 hyv
            go_wp2_with fail
            obtain ⟨wM, rfl⟩ : ∃ wM, wM = wr := ⟨_, rfl⟩
            go_loopw [6, 71] (fun s6 sj wn => VInn w a b c k s (listS a b c n k) wA.heap.size wM.heap.size i s6 sj wn) (fun _ sj _ => (2 - intOf sj).toNat)
            case atStart => exact ⟨0, rfl, by omega, Hpt.out.alloc _, Hnil.out, by go_grown, Hh0.out.alloc _, HgY.out.alloc _, Holds.new _ _ _⟩
            case round =>
              clear Hpt Hnil Hh0 HgY hB hcY
              obtain ⟨j, rfl, hj, hpt, hnil, hB, h0, hgY, hgS⟩ := hrel
              have hz3 := h0.lt
              have hz4 := hgY.lt
              have hz5 := hgS.lt
              have hs3 := hB.size
              have hlen2 := stepsS_len a b k s (listS a b c n k) (2 * i + j)
              have HgY := Lib.hid hgY
              have HgS := Lib.hid hgS
              have Hh0 := Lib.hid h0
              clear hgY
              by_cases hlt3 : j < 2
              · have hcS := two_cell hgS hlt3
                have hj2 : (j : Int) < 2 := by omega
                obtain ⟨sb1, sb2⟩ := two_bd (y := s) (B := 200000) j x7 x8
                obtain ⟨sv, hsv⟩ : ∃ sv, (if j = 0 then s else -s) = sv := ⟨_, rfl⟩
                rw [hsv] at hcS sb1 sb2
                have hnext := stepsS_next (a := a) (b := b) (y := k) (s := s) (l := listS a b c n k) hlt2 hlt3
                rw [Hyv.out, hsv] at hnext
                have hbv : -200000000000 ≤ b * yv ∧ b * yv ≤ 200000000000 := mulb (A := 1000000) (B := 200000) (by omega) (by omega) (by omega) (by omega)
                obtain ⟨bv1, bv2⟩ := hbv
                obtain ⟨l, hl⟩ : ∃ l, stepsS a b k s (listS a b c n k) (2 * i + j) = l := ⟨_, rfl⟩
                rw [hl] at hnext hpt hnil hlen2
                have Hl := Lib.hid hl
                have Hnext := Lib.hid hnext
                have Hpt := Lib.hid hpt
                have Hnil := Lib.hid hnil
                have y0 : wr.cell? ⟨w.heap.size, 0, none⟩ = some (.int .i64 a) := Holds.cell h0 rfl
                have y1 : wr.cell? ⟨w.heap.size, 1, none⟩ = some (.int .i64 b) := Holds.cell h0 rfl
                have y2 : wr.cell? ⟨w.heap.size, 2, none⟩ = some (.int .i64 c) := Holds.cell h0 rfl
                have yf0 : wr.frozen? ⟨w.heap.size, 0, none⟩ = false := Holds.free h0
                have yf1 : wr.frozen? ⟨w.heap.size, 1, none⟩ = false := Holds.free h0
                have yf2 : wr.frozen? ⟨w.heap.size, 2, none⟩ = false := Holds.free h0
                clear hsv hnext hpt hnil hgS h0 hl
                have h2a : ¬ 2 * a = 0 := by omega
                cases ht : ((sv - b * yv).tmod (2 * a) == 0) with
                | false =>
                  have HN2 : Hid (stepsS a b k s (listS a b c n k) (2 * i + j + 1) = l) := Lib.hid (by rw [Hnext.out]; unfold stepS; rw [if_neg (by rw [ht]; decide)])
                  go_wp2_with fail
                  go_roundw
                  case rel => exact ⟨j + 1, by go_num, by omega, by rw [← Nat.add_assoc, HN2.out]; exact Hpt.out, by rw [← Nat.add_assoc, HN2.out]; exact Hnil.out, hB, Hh0.out, HgY.out, HgS.out⟩
                  case measure => simp [intOf]; omega
                | true =>
                  obtain ⟨X, hX⟩ : ∃ X, (sv - b * yv).tdiv (2 * a) = X := ⟨_, rfl⟩
                  have hX1 : -300000000000 ≤ (sv - b * yv).tdiv (2 * a) ∧ (sv - b * yv).tdiv (2 * a) ≤ 300000000000 := by have := Int.natAbs_tdiv_le_natAbs (sv - b * yv) (2 * a); omega
                  rw [hX] at hX1
                  obtain ⟨hX2, hX3⟩ := hX1
                  have HN2 : Hid (stepsS a b k s (listS a b c n k) (2 * i + j + 1) = insP l ⟨X, yv⟩) := Lib.hid (by rw [Hnext.out]; unfold stepS; rw [if_pos ht, hX])
                  have hl6 : l.length ≤ 900000 := by omega
                  obtain ⟨v, hv⟩ : ∃ v, decide ((⟨X, yv⟩ : Pt) ∈ l) = v := ⟨_, rfl⟩
                  have Hv := Lib.hid hv
                  clear hv
                  go_wp2_with fail
                  refine (spec_vaHas l u6 X yv _ v _ (by omega) (Hpt.out.alloc _) Hv.out).mono ?_
                  rintro e w3 ⟨rfl, hb3⟩
                  have hB3 : Below w.heap.size w w3 := Below.after (by go_grown) hb3
                  have bx : Holds w3 wr.heap.size #[.int .i64 X, .int .i64 yv] 80 := Holds.below (Holds.new _ _ _) hb3
                  have gY := Lib.hid (Holds.below (Holds.alloc HgY.out _) hb3)
                  have gS := Lib.hid (Holds.below (Holds.alloc HgS.out _) hb3)
                  have g0 := Lib.hid (Holds.below (Holds.alloc Hh0.out _) hb3)
                  have gP := Lib.hid ((Hpt.out.alloc (.cells #[.int .i64 X, .int .i64 yv] 80)).below hb3)
                  have hs4 := hB3.size
                  have z0 : w3.cell? ⟨wr.heap.size, 0, none⟩ = some (.int .i64 X) := Holds.cell bx rfl
                  have z1 : w3.cell? ⟨wr.heap.size, 1, none⟩ = some (.int .i64 yv) := Holds.cell bx rfl
                  have zf0 : w3.frozen? ⟨wr.heap.size, 0, none⟩ = false := Holds.free bx
                  have zf1 : w3.frozen? ⟨wr.heap.size, 1, none⟩ = false := Holds.free bx
                  clear y0 y1 y2 yf0 yf1 yf2
                  clear hb3 bx
                  cases v with
                  | true =>
                    have HN3 : Hid (stepsS a b k s (listS a b c n k) (2 * i + j + 1) = l) := Lib.hid (by rw [HN2.out]; unfold insP; rw [if_pos (by have := Hv.out; simpa using this)])
                    go_wp2_with fail
                    go_roundw
                    case rel => exact ⟨j + 1, by go_num, by omega, by rw [← Nat.add_assoc, HN3.out]; exact gP.out, by rw [← Nat.add_assoc, HN3.out]; exact Hnil.out, hB3, g0.out, gY.out, gS.out⟩
                    case measure => simp [intOf]; omega
                  | false =>
                    have HN3 : Hid (stepsS a b k s (listS a b c n k) (2 * i + j + 1) = putP l ⟨X, yv⟩) := Lib.hid (by rw [HN2.out]; unfold insP; rw [if_neg (by have := Hv.out; simpa using this)])
                    go_wp2_with fail
                    refine (spec_vaPut l u6 X yv _ _ hl6 Hnil.out gP.out).mono ?_
                    rintro e w4 ⟨v', rfl, hp4, hb4⟩
                    have hB4 : Below w.heap.size w w4 := Below.after hB3 hb4
                    have kY := Lib.hid (gY.out.below hb4)
                    have kS := Lib.hid (gS.out.below hb4)
                    have k0 := Lib.hid (g0.out.below hb4)
                    have kP := Lib.hid (hp4.mono (B' := w.heap.size + 1) (by have := g0.out.lt; omega))
                    clear z0 z1 zf0 zf1
                    clear hb4 hp4
                    go_wp2_with fail
                    go_roundw
                    case rel => exact ⟨j + 1, by go_num, by omega, by rw [← Nat.add_assoc, HN3.out]; exact kP.out, by rw [← Nat.add_assoc, HN3.out]; exact fun e => absurd (congrArg List.length e) (by rw [putP_len]; simp), hB4, k0.out, kY.out, kS.out⟩
                    case measure => simp [intOf]; omega
              · obtain rfl : j = 2 := by omega
                have e : 2 * i + 2 = 2 * (i + 1) := by omega
                have Hpt := Lib.hid hpt
                have Hnil := Lib.hid hnil
                clear hpt hnil hgS h0 e
                go_wp2_with fail
                go_roundw
                case rel => exact ⟨i + 1, by go_num, by omega, Hpt.out, Hnil.out, hB, Hh0.out, HgY.out⟩
                case measure => simp [intOf]; omega
          · obtain rfl : i = 2 := by omega
            clear h0 hgY
            go_wp2_with fail
            go_roundw
            case rel => exact ⟨k + 1, by go_num, by omega, by rw [HN.out]; exact Hpt.out, by rw [HN.out]; exact Hnil.out, hB, Hh0.out⟩
            case measure => simp [intOf]; omega
    · have hk' : (bndY a b c n + 1).toNat = k := by omega
      have hneg : ¬ (-disc a b c * k * k ≤ 4 * a * n) := by
        intro hc
        have hs0 : 0 ≤ sqY a b c n k := by
          unfold sqY
          have e : -disc a b c * k * k = -(disc a b c * k * k) := by rw [Int.neg_mul, Int.neg_mul]
          omega
        have := sqY_out H.out hs0
        omega
      have Hk := Lib.hid hk'
      have hkb : (k : Int) ≤ 200001 := by omega
      have cb : -500000000 ≤ -disc a b c * k ∧ -disc a b c * k ≤ 500000000 := mulb (a := -disc a b c) (b := k) (A := 2000) (B := 250000) (by omega) (by omega) (by omega) (by omega)
      have cc : -125000000000000 ≤ -disc a b c * k * k ∧ -disc a b c * k * k ≤ 125000000000000 := mulb (a := -disc a b c * k) (b := k) (A := 500000000) (B := 250000) cb.1 cb.2 (by omega) (by omega)
      obtain ⟨cb1, cb2⟩ := cb
      obtain ⟨cc1, cc2⟩ := cc
      have Hptm := Lib.hid (Hpt.out.mono (B' := w.heap.size) (by omega))
      clear hk'
      go_wp2_with fail
      go_ret
      exact ⟨_, rfl, by rw [Hk.out]; exact Hptm.out, hB⟩
end Go.Proofs.Ytiblpagbloflhaa
