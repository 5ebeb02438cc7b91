/- Contracts and the walk of the law: all cyclic primitive forms of a discriminant. -/
import Derived.Test.YtdonpiihjoihcaaCI
namespace Go.Proofs.Ytdonpiihjoihcaa
set_option linter.unusedVariables false
open Go.ChangeShapes Go.WideShapes Go.ChangeAt Go.RowKit

def quoF (d a b : Int) : Int := (b * b - d).tdiv (4 * a)
def pickB (d a b : Int) : Bool := !(a == 0) && ((b * b - d).tmod (4 * a) == 0) && cycB a b (quoF d a b) && (content a b (quoF d a b) == 1)
def pickF (d a b : Int) : List Fm := if pickB d a b = true then [⟨a, b, quoF d a b⟩] else []
def rowF (d a : Int) (k : Nat) : List Fm := (List.range k).flatMap fun (i : Nat) => pickF d a ((i : Int) + 1)
theorem rowF_succ (d a : Int) (k : Nat) : rowF d a (k + 1) = rowF d a k ++ pickF d a ((k : Int) + 1) := by simp [rowF, List.range_succ]
theorem pickF_len (d a b : Int) : (pickF d a b).length ≤ 1 := by unfold pickF; split <;> simp
theorem rowF_len (d a : Int) (k : Nat) : (rowF d a k).length ≤ k := by
  induction k with
  | zero => simp [rowF]
  | succ k ih => rw [rowF_succ, List.length_append]; have := pickF_len d a ((k : Int) + 1); omega
theorem rowF_nil (d : Int) (k : Nat) : rowF d 0 k = [] := by
  induction k with
  | zero => simp [rowF]
  | succ k ih => rw [rowF_succ, ih]; simp [pickF, pickB]
def preF (d : Int) (r : Nat) (k : Nat) : List Fm := (List.range k).flatMap fun (i : Nat) => rowF d ((i : Int) - r) r
theorem preF_succ (d : Int) (r k : Nat) : preF d r (k + 1) = preF d r k ++ rowF d ((k : Int) - r) r := by simp [preF, List.range_succ]
theorem preF_len (d : Int) (r k : Nat) : (preF d r k).length ≤ k * r := by
  induction k with
  | zero => simp [preF]
  | succ k ih => rw [preF_succ, List.length_append, Nat.succ_mul]; have := rowF_len d ((k : Int) - r) r; omega
def allF (d : Int) : List Fm := preF d (isq d).toNat (2 * (isq d).toNat + 1)
theorem isq31 {d : Int} (h : posD d = true) : ∃ R : Nat, isq d = (R : Int) ∧ 2 ≤ R ∧ R ≤ 31 := by
  have h1 := root_pos h
  exact ⟨(isq d).toNat, by omega, by omega, by omega⟩
theorem pre_len {d : Int} {R k : Nat} (hR : R ≤ 31) (hk : k ≤ 2 * R + 1) : (preF d R k).length ≤ 1953 := by
  have h1 := preF_len d R k
  have h2 : k * R ≤ 63 * 31 := Nat.mul_le_mul (by omega) hR
  omega
theorem allF_len {d : Int} (h : posD d = true) : (allF d).length ≤ 1000000 := by
  obtain ⟨R, h1, h2, h3⟩ := isq31 h
  have := pre_len (d := d) (R := (isq d).toNat) (k := 2 * (isq d).toNat + 1) (by omega) (by omega)
  unfold allF; omega
/-- where the division leaves nothing the form has this discriminant -/
theorem pick_good {d a b : Int} (h : posD d = true) (ha1 : -31 ≤ a) (ha2 : a ≤ 31) (hb1 : 1 ≤ b) (hb2 : b ≤ 31) (ha : (a == 0) = false) (hm : ((b * b - d).tmod (4 * a) == 0) = true) :
    indefB a b (quoF d a b) = true ∧ -2000 ≤ quoF d a b ∧ quoF d a b ≤ 2000 := by
  have hd := posD_iff.1 h
  have hbb : 0 ≤ b * b ∧ b * b ≤ 961 := by
    constructor
    · exact Int.mul_nonneg (by omega) (by omega)
    · exact Int.le_trans (Int.mul_le_mul_of_nonneg_left hb2 (by omega)) (by omega)
  have hm' : (b * b - d).tmod (4 * a) = 0 := by simpa using hm
  have hq : 4 * a * quoF d a b = b * b - d := by
    have := Int.mul_tdiv_add_tmod (b * b - d) (4 * a)
    unfold quoF
    omega
  have hqb : (quoF d a b).natAbs ≤ (b * b - d).natAbs := by
    unfold quoF; rw [Int.natAbs_tdiv]; exact Nat.div_le_self _ _
  have hb3 : (b * b - d).natAbs ≤ 1000 := by omega
  refine ⟨?_, by omega, by omega⟩
  refine indefB_iff.2 ⟨good3_iff.2 ⟨by omega, by omega, by omega⟩, ?_⟩
  have : disc a b (quoF d a b) = d := by unfold disc; omega
  rw [this]; exact h
/-- the state of the outer loop -/
def AllAt (w : World) (d : Int) (R : Nat) (vl s5 : Value) (wr : World) : Prop :=
  ∃ (k : Nat) (a : Int), s5 = .int .i64 a ∧ a = (k : Int) - R ∧ k ≤ 2 * R + 1 ∧ Fms wr w.heap.size vl (preF d R k) ∧ Below w.heap.size w wr
/-- the state of the inner loop -/
def RowAt (w : World) (d a : Int) (R k : Nat) (vl s6 : Value) (wr : World) : Prop :=
  ∃ (j : Nat) (b : Int), s6 = .int .i64 b ∧ b = (j : Int) + 1 ∧ j ≤ R ∧ Fms wr w.heap.size vl (preF d R k ++ rowF d a j) ∧ Below w.heap.size w wr
theorem spec_nuRoot_r (n : Int) (r : Nat) (w : World) (h0 : 0 ≤ n) (h1 : n ≤ 1000000000000000000) (hr : isq n = (r : Int)) :
    Calls Try.prog 121 #[.int .i64 n] w fun e w' => e = .returned (.int .i64 (r : Int)) ∧ w = w' := by
  rw [← hr]
  exact spec_nuRoot n w h0 h1
set_option maxHeartbeats 1000000 in
theorem spec_cyAll (d : Int) (w : World) (h : posD d = true) :
    Calls Try.prog 117 #[.int .i64 d] w fun e w' => ∃ v, e = .returned v ∧ Fms w' w.heap.size v (allF d) ∧ Below w.heap.size w w' := by
  obtain ⟨R, hR, hR1, hR2⟩ := isq31 h
  have hfin : allF d = preF d R (2 * R + 1) := by unfold allF; rw [hR]; rfl
  obtain ⟨hd1, hd2, _⟩ := posD_iff.1 h
  have H := Lib.hid h
  have HR := Lib.hid hR
  have Hfin := Lib.hid hfin
  clear h hR hfin
  go_enter Try.func117, Try.ntmps117
  go_wp2_with fail
  refine (spec_nuRoot_r d R _ (by omega) (by omega) HR.out).mono ?_
  rintro e w' ⟨rfl, rfl⟩
  go_wp2_with fail
  go_loopw [4, 5] (fun vl s5 wr => AllAt w d R vl s5 wr) (fun _ s5 _ => ((R : Int) + 1 - intOf s5).toNat)
  case atStart => exact ⟨0, _, rfl, by go_num, by omega, by simpa [preF] using Fms.nil _ _, Below.refl _ _⟩
  case round =>
    obtain ⟨k, a, rfl, ha, hk, hl, hB⟩ := hrel
    have HA := Lib.hid ha
    have hk' := Lib.hid hk
    have ha2 : -(R : Int) ≤ a := by omega
    clear ha hk
    by_cases hlt : a ≤ (R : Int)
    · go_wp2_with fail
      go_loopw [4, 6] (fun vl s6 wr => RowAt w d a R k vl s6 wr) (fun _ s6 _ => ((R : Int) + 1 - intOf s6).toNat)
      case atStart => exact ⟨0, 1, rfl, by omega, by omega, by simpa [rowF] using hl, hB⟩
      case round =>
        clear hl hB
        obtain ⟨j, b, rfl, hb, hj, hl, hB⟩ := hrel
        have HJ := Lib.hid hb
        have hj' := Lib.hid hj
        have hb1 : 1 ≤ b := by omega
        clear hb hj
        have hs := hB.size
        have Hl := Lib.hid hl
        clear hl
        by_cases hlt2 : b ≤ (R : Int)
        · have hbb : 0 ≤ b * b ∧ b * b ≤ 961 := by
            constructor
            · exact Int.mul_nonneg (by omega) (by omega)
            · exact Int.le_trans (Int.mul_le_mul_of_nonneg_left (show b ≤ 31 by omega) (by omega)) (by omega)
          obtain ⟨hbb1, hbb2⟩ := hbb
          by_cases ha0 : (a == 0) = true
          · have Hp : pickF d a ((j : Int) + 1) = [] := by simp [pickF, pickB, ha0]
            have HP := Lib.hid Hp
            clear Hp
            go_wp2_with fail
            go_roundw
            case rel => exact ⟨j + 1, _, rfl, by have := HJ.out; go_num, by have := HJ.out; omega, by rw [rowF_succ, HP.out, List.append_nil]; exact Hl.out, hB⟩
            case measure => simp [intOf]; omega
          · have ha0' : (a == 0) = false := by simpa using ha0
            have ha1 : ¬ a = 0 := by simpa using ha0
            clear ha0
            have hne : ¬ 4 * a = 0 := by omega
            by_cases hm : ((b * b - d).tmod (4 * a) == 0) = true
            · obtain ⟨hg, hq1, hq2⟩ := pick_good H.out (by omega) (by omega) hb1 (by omega) ha0' hm
              obtain ⟨q, hq⟩ : ∃ q : Int, q = quoF d a b := ⟨_, rfl⟩
              rw [← hq] at hg hq1 hq2
              have e1 : IntKind.i64.wrap ((b * b - d).tdiv (4 * a)) = q := by rw [hq]; unfold quoF at hq ⊢; exact IntWalk.i64_in _ (by omega)
              have Hg := Lib.hid hg
              have Hq := Lib.hid hq
              clear hg hq
              obtain ⟨v, hv⟩ : ∃ v, cycB a b q = v := ⟨_, rfl⟩
              have Hv := Lib.hid hv
              clear hv
              go_wp2_with fail
              refine (spec_cyIs a b q v _ Hg.out Hv.out).mono ?_
              rintro e w1 ⟨rfl, hb1⟩
              have hB1 : Below w.heap.size w w1 := Below.after (by go_grown) hb1
              have k1 : Holds w1 wr.heap.size (cF ⟨a, b, q⟩) 28 := (Holds.new _ _ _).below hb1
              have hl1 := (Hl.out.alloc (.cells (cF ⟨a, b, q⟩) 28)).below hb1
              clear hb1
              have Hl1 := Lib.hid hl1
              clear hl1 Hl hB
              have hz1 := k1.lt
              cases v with
              | false =>
                have Hp : pickF d a ((j : Int) + 1) = [] := by rw [← HJ.out]; simp only [pickF, pickB, ← Hq.out, Hv.out, Bool.and_false, Bool.false_and]; rfl
                have HP := Lib.hid Hp
                clear Hp k1
                go_wp2_with fail
                go_roundw
                case rel => exact ⟨j + 1, _, rfl, by have := HJ.out; go_num, by have := HJ.out; omega, by rw [rowF_succ, HP.out, List.append_nil]; exact Hl1.out, hB1⟩
                case measure => simp [intOf]; omega
              | true =>
                have y0 : w1.cell? ⟨wr.heap.size, 0, none⟩ = some (.int .i64 a) := Holds.cell k1 rfl
                have y1 : w1.cell? ⟨wr.heap.size, 1, none⟩ = some (.int .i64 b) := Holds.cell k1 rfl
                have y2 : w1.cell? ⟨wr.heap.size, 2, none⟩ = some (.int .i64 q) := Holds.cell k1 rfl
                have yf0 : w1.frozen? ⟨wr.heap.size, 0, none⟩ = false := Holds.free k1
                have yf1 : w1.frozen? ⟨wr.heap.size, 1, none⟩ = false := Holds.free k1
                have yf2 : w1.frozen? ⟨wr.heap.size, 2, none⟩ = false := Holds.free k1
                go_wp2_with fail
                refine (spec_foContent a b q _ (indefB_good Hg.out)).mono ?_
                rintro e w2 ⟨rfl, hb2⟩
                have hB2 : Below w.heap.size w w2 := Below.after hB1 hb2
                have hl2 := Hl1.out.below hb2
                have k2 := k1.below hb2
                clear hb2 hB1 Hl1 k1
                clear y0 y1 y2 yf0 yf1 yf2
                have hs2 := hB2.size
                have hz2 := k2.lt
                by_cases hc : (content a b q == 1) = true
                · have hp : pickF d a ((j : Int) + 1) = [⟨a, b, q⟩] := by rw [← HJ.out]; unfold pickF; rw [if_pos (by simp only [pickB, ← Hq.out, Hv.out, hc, hm, ha0']; rfl), ← Hq.out]
                  have HP := Lib.hid hp
                  have y0 : w2.cell? ⟨wr.heap.size, 0, none⟩ = some (.int .i64 a) := Holds.cell k2 rfl
                  have y1 : w2.cell? ⟨wr.heap.size, 1, none⟩ = some (.int .i64 b) := Holds.cell k2 rfl
                  have y2 : w2.cell? ⟨wr.heap.size, 2, none⟩ = some (.int .i64 q) := Holds.cell k2 rfl
                  have yf0 : w2.frozen? ⟨wr.heap.size, 0, none⟩ = false := Holds.free k2
                  have yf1 : w2.frozen? ⟨wr.heap.size, 1, none⟩ = false := Holds.free k2
                  have yf2 : w2.frozen? ⟨wr.heap.size, 2, none⟩ = false := Holds.free k2
                  have Hm := Lib.hid (hl2.alloc (.cells (cF ⟨a, b, q⟩) 28))
                  have Hn : Hid (Holds (w2.alloc (.cells (cF ⟨a, b, q⟩) 28)) w2.heap.size (cF ⟨a, b, q⟩) 28) := Lib.hid (Holds.new _ _ _)
                  have hBa : Below w.heap.size w (w2.alloc (.cells (cF ⟨a, b, q⟩) 28)) := hB2.alloc hs2 _
                  have hlen : (preF d R k ++ rowF d a j).length ≤ 1000000 := by
                    rw [List.length_append]
                    have h1 := pre_len (d := d) (R := R) (k := k) (by omega) hk'.out
                    have h2 := rowF_len d a j
                    have h3 := hj'.out
                    omega
                  clear hp hl2 k2
                  go_wp2_with (at_builtin; refine app_fm w.heap.size (preF d R k ++ rowF d a j) ⟨a, b, q⟩ u4 w2.heap.size _ _ rfl rfl rfl rfl Hm.out Hn.out hlen (by simp; omega) ?_)
                  intro v' w3 hown3 hgrow3
                  have hB3 : Below w.heap.size w w3 := below_grownF hBa (Hm.out.mono (by omega)) hgrow3 (by simp; omega)
                  have Hown3 := Lib.hid hown3
                  clear hgrow3 hown3 hB2 hBa Hm Hn
                  clear y0 y1 y2 yf0 yf1 yf2
                  go_wp2_with fail
                  go_roundw
                  case rel => exact ⟨j + 1, _, rfl, by have := HJ.out; go_num, by have := HJ.out; omega, by rw [rowF_succ, HP.out]; simpa using Hown3.out, hB3⟩
                  case measure => simp [intOf]; omega
                · have hc' : (content a b q == 1) = false := by simpa using hc
                  have Hp : pickF d a ((j : Int) + 1) = [] := by rw [← HJ.out]; simp only [pickF, pickB, ← Hq.out, hc', Bool.and_false]; rfl
                  have HP := Lib.hid Hp
                  have Hl2 := Lib.hid hl2
                  clear Hp hc hl2 k2
                  go_wp2_with fail
                  go_roundw
                  case rel => exact ⟨j + 1, _, rfl, by have := HJ.out; go_num, by have := HJ.out; omega, by rw [rowF_succ, HP.out, List.append_nil]; exact Hl2.out, hB2⟩
                  case measure => simp [intOf]; omega
            · have hm' : ((b * b - d).tmod (4 * a) == 0) = false := by simpa using hm
              have Hp : pickF d a ((j : Int) + 1) = [] := by rw [← HJ.out]; simp only [pickF, pickB, hm', Bool.and_false, Bool.false_and]; rfl
              have HP := Lib.hid Hp
              clear Hp hm
              go_wp2_with fail
              go_roundw
              case rel => exact ⟨j + 1, _, rfl, by have := HJ.out; go_num, by have := HJ.out; omega, by rw [rowF_succ, HP.out, List.append_nil]; exact Hl.out, hB⟩
              case measure => simp [intOf]; omega
        · obtain rfl : j = R := by have := HJ.out; have := hj'.out; omega
          go_wp2_with fail
          go_roundw
          case rel => exact ⟨k + 1, _, rfl, by have := HA.out; go_num, by have := HA.out; omega, by rw [preF_succ, ← HA.out]; exact Hl.out, hB⟩
          case measure => simp [intOf]; omega
    · obtain rfl : k = 2 * R + 1 := by have := HA.out; have := hk'.out; omega
      go_wp2_with fail
      go_ret
      exact ⟨_, rfl, by rw [Hfin.out]; exact hl, hB⟩
theorem impl_root_r (n : Int) (r : Nat) (w : World) (h0 : 0 ≤ n) (h1 : n ≤ 9000000000000000000) (hr : isq n = (r : Int)) :
    Calls Try.prog 118 #[.int .i64 n] w fun e w' => e = .returned (.int .i64 (r : Int)) ∧ w = w' := by
  rw [← hr]
  exact impl_root n w h0 h1
set_option maxHeartbeats 1000000 in
theorem impl_cyclicForms (d : Int) (w : World) (h : posD d = true) :
    Calls Try.prog 77 #[.int .i64 d] w fun e w' => ∃ v, e = .returned v ∧ Fms w' w.heap.size v (allF d) ∧ Below w.heap.size w w' := by
  obtain ⟨R, hR, hR1, hR2⟩ := isq31 h
  have hfin : allF d = preF d R (2 * R + 1) := by unfold allF; rw [hR]; rfl
  obtain ⟨hd1, hd2, _⟩ := posD_iff.1 h
  have H := Lib.hid h
  have HR := Lib.hid hR
  have Hfin := Lib.hid hfin
  clear h hR hfin
  go_enter Try.func77, Try.ntmps77
  go_wp2_with fail
  refine (impl_root_r d R _ (by omega) (by omega) HR.out).mono ?_
  rintro e w' ⟨rfl, rfl⟩
  go_wp2_with fail
  go_loopw [3, 5] (fun vl s5 wr => AllAt w d R vl s5 wr) (fun _ s5 _ => ((R : Int) + 1 - intOf s5).toNat)
  case atStart => exact ⟨0, _, rfl, by go_num, by omega, by simpa [preF] using Fms.empty w rfl (Nat.le_refl _), by go_grown⟩
  case round =>
    obtain ⟨k, a, rfl, ha, hk, hl, hB⟩ := hrel
    have HA := Lib.hid ha
    have hk' := Lib.hid hk
    have ha2 : -(R : Int) ≤ a := by omega
    clear ha hk
    by_cases hlt : a ≤ (R : Int)
    · go_wp2_with fail
      go_loopw [3, 6] (fun vl s6 wr => RowAt w d a R k vl s6 wr) (fun _ s6 _ => ((R : Int) + 1 - intOf s6).toNat)
      case atStart => exact ⟨0, 1, rfl, by omega, by omega, by simpa [rowF] using hl, hB⟩
      case round =>
        clear hl hB
        obtain ⟨j, b, rfl, hb, hj, hl, hB⟩ := hrel
        have HJ := Lib.hid hb
        have hj' := Lib.hid hj
        have hb1 : 1 ≤ b := by omega
        clear hb hj
        have hs := hB.size
        have Hl := Lib.hid hl
        clear hl
        by_cases hlt2 : b ≤ (R : Int)
        · have hbb : 0 ≤ b * b ∧ b * b ≤ 961 := by
            constructor
            · exact Int.mul_nonneg (by omega) (by omega)
            · exact Int.le_trans (Int.mul_le_mul_of_nonneg_left (show b ≤ 31 by omega) (by omega)) (by omega)
          obtain ⟨hbb1, hbb2⟩ := hbb
          by_cases ha0 : (a == 0) = true
          · have hp : ∀ n, rowF d a n = [] := fun n => by have : a = 0 := by simpa using ha0
                                                          rw [this]; exact rowF_nil d n
            have HP := Lib.hid hp
            clear hp
            go_wp2_with fail
            go_roundw
            case rel => exact ⟨k + 1, _, rfl, by have := HA.out; go_num, by have := HA.out; omega, by rw [preF_succ, ← HA.out, HP.out R]; have := Hl.out; rw [HP.out j] at this; exact this, hB⟩
            case measure => simp [intOf]; omega
          · have ha0' : (a == 0) = false := by simpa using ha0
            have ha1 : ¬ a = 0 := by simpa using ha0
            clear ha0
            have hne : ¬ 4 * a = 0 := by omega
            by_cases hm : ((b * b - d).tmod (4 * a) == 0) = true
            · obtain ⟨hg, hq1, hq2⟩ := pick_good H.out (by omega) (by omega) hb1 (by omega) ha0' hm
              obtain ⟨q, hq⟩ : ∃ q : Int, q = quoF d a b := ⟨_, rfl⟩
              rw [← hq] at hg hq1 hq2
              have e1 : IntKind.i64.wrap ((b * b - d).tdiv (4 * a)) = q := by rw [hq]; unfold quoF at hq ⊢; exact IntWalk.i64_in _ (by omega)
              have Hg := Lib.hid hg
              have Hq := Lib.hid hq
              clear hg hq
              obtain ⟨v, hv⟩ : ∃ v, cycB a b q = v := ⟨_, rfl⟩
              have Hv := Lib.hid hv
              clear hv
              go_wp2_with fail
              refine (impl_isCyclic a b q v _ Hg.out Hv.out).mono ?_
              rintro e w1 ⟨rfl, hb1⟩
              have hB1 : Below w.heap.size w w1 := Below.after (by go_grown) hb1
              have k1 : Holds w1 wr.heap.size (cF ⟨a, b, q⟩) 28 := (Holds.new _ _ _).below hb1
              have hl1 := (Hl.out.alloc (.cells (cF ⟨a, b, q⟩) 28)).below hb1
              clear hb1
              have Hl1 := Lib.hid hl1
              clear hl1 Hl hB
              have hz1 := k1.lt
              cases v with
              | false =>
                have Hp : pickF d a ((j : Int) + 1) = [] := by rw [← HJ.out]; simp only [pickF, pickB, ← Hq.out, Hv.out, Bool.and_false, Bool.false_and]; rfl
                have HP := Lib.hid Hp
                clear Hp k1
                go_wp2_with fail
                go_roundw
                case rel => exact ⟨j + 1, _, rfl, by have := HJ.out; go_num, by have := HJ.out; omega, by rw [rowF_succ, HP.out, List.append_nil]; exact Hl1.out, hB1⟩
                case measure => simp [intOf]; omega
              | true =>
                have y0 : w1.cell? ⟨wr.heap.size, 0, none⟩ = some (.int .i64 a) := Holds.cell k1 rfl
                have y1 : w1.cell? ⟨wr.heap.size, 1, none⟩ = some (.int .i64 b) := Holds.cell k1 rfl
                have y2 : w1.cell? ⟨wr.heap.size, 2, none⟩ = some (.int .i64 q) := Holds.cell k1 rfl
                have yf0 : w1.frozen? ⟨wr.heap.size, 0, none⟩ = false := Holds.free k1
                have yf1 : w1.frozen? ⟨wr.heap.size, 1, none⟩ = false := Holds.free k1
                have yf2 : w1.frozen? ⟨wr.heap.size, 2, none⟩ = false := Holds.free k1
                go_wp2_with fail
                refine (impl_content a b q _ (indefB_good Hg.out)).mono ?_
                rintro e w2 ⟨rfl, hb2⟩
                have hB2 : Below w.heap.size w w2 := Below.after hB1 hb2
                have hl2 := Hl1.out.below hb2
                have k2 := k1.below hb2
                clear hb2 hB1 Hl1 k1
                clear y0 y1 y2 yf0 yf1 yf2
                have hs2 := hB2.size
                have hz2 := k2.lt
                by_cases hc : (content a b q == 1) = true
                · have hp : pickF d a ((j : Int) + 1) = [⟨a, b, q⟩] := by rw [← HJ.out]; unfold pickF; rw [if_pos (by simp only [pickB, ← Hq.out, Hv.out, hc, hm, ha0']; rfl), ← Hq.out]
                  have HP := Lib.hid hp
                  have y0 : w2.cell? ⟨wr.heap.size, 0, none⟩ = some (.int .i64 a) := Holds.cell k2 rfl
                  have y1 : w2.cell? ⟨wr.heap.size, 1, none⟩ = some (.int .i64 b) := Holds.cell k2 rfl
                  have y2 : w2.cell? ⟨wr.heap.size, 2, none⟩ = some (.int .i64 q) := Holds.cell k2 rfl
                  have yf0 : w2.frozen? ⟨wr.heap.size, 0, none⟩ = false := Holds.free k2
                  have yf1 : w2.frozen? ⟨wr.heap.size, 1, none⟩ = false := Holds.free k2
                  have yf2 : w2.frozen? ⟨wr.heap.size, 2, none⟩ = false := Holds.free k2
                  have Hm := Lib.hid (hl2.alloc (.cells (cF ⟨a, b, q⟩) 28))
                  have Hn : Hid (Holds (w2.alloc (.cells (cF ⟨a, b, q⟩) 28)) w2.heap.size (cF ⟨a, b, q⟩) 28) := Lib.hid (Holds.new _ _ _)
                  have hBa : Below w.heap.size w (w2.alloc (.cells (cF ⟨a, b, q⟩) 28)) := hB2.alloc hs2 _
                  have hlen : (preF d R k ++ rowF d a j).length ≤ 1000000 := by
                    rw [List.length_append]
                    have h1 := pre_len (d := d) (R := R) (k := k) (by omega) hk'.out
                    have h2 := rowF_len d a j
                    have h3 := hj'.out
                    omega
                  clear hp hl2 k2
                  go_wp2_with (at_builtin; refine app_fm w.heap.size (preF d R k ++ rowF d a j) ⟨a, b, q⟩ u3 w2.heap.size _ _ rfl rfl rfl rfl Hm.out Hn.out hlen (by simp; omega) ?_)
                  intro v' w3 hown3 hgrow3
                  have hB3 : Below w.heap.size w w3 := below_grownF hBa (Hm.out.mono (by omega)) hgrow3 (by simp; omega)
                  have Hown3 := Lib.hid hown3
                  clear hgrow3 hown3 hB2 hBa Hm Hn
                  clear y0 y1 y2 yf0 yf1 yf2
                  go_wp2_with fail
                  go_roundw
                  case rel => exact ⟨j + 1, _, rfl, by have := HJ.out; go_num, by have := HJ.out; omega, by rw [rowF_succ, HP.out]; simpa using Hown3.out, hB3⟩
                  case measure => simp [intOf]; omega
                · have hc' : (content a b q == 1) = false := by simpa using hc
                  have Hp : pickF d a ((j : Int) + 1) = [] := by rw [← HJ.out]; simp only [pickF, pickB, ← Hq.out, hc', Bool.and_false]; rfl
                  have HP := Lib.hid Hp
                  have Hl2 := Lib.hid hl2
                  clear Hp hc hl2 k2
                  go_wp2_with fail
                  go_roundw
                  case rel => exact ⟨j + 1, _, rfl, by have := HJ.out; go_num, by have := HJ.out; omega, by rw [rowF_succ, HP.out, List.append_nil]; exact Hl2.out, hB2⟩
                  case measure => simp [intOf]; omega
            · have hm' : ((b * b - d).tmod (4 * a) == 0) = false := by simpa using hm
              have Hp : pickF d a ((j : Int) + 1) = [] := by rw [← HJ.out]; simp only [pickF, pickB, hm', Bool.and_false, Bool.false_and]; rfl
              have HP := Lib.hid Hp
              clear Hp hm
              go_wp2_with fail
              go_roundw
              case rel => exact ⟨j + 1, _, rfl, by have := HJ.out; go_num, by have := HJ.out; omega, by rw [rowF_succ, HP.out, List.append_nil]; exact Hl.out, hB⟩
              case measure => simp [intOf]; omega
        · obtain rfl : j = R := by have := HJ.out; have := hj'.out; omega
          go_wp2_with fail
          go_roundw
          case rel => exact ⟨k + 1, _, rfl, by have := HA.out; go_num, by have := HA.out; omega, by rw [preF_succ, ← HA.out]; exact Hl.out, hB⟩
          case measure => simp [intOf]; omega
    · obtain rfl : k = 2 * R + 1 := by have := HA.out; have := hk'.out; omega
      go_wp2_with fail
      go_ret
      exact ⟨_, rfl, by rw [Hfin.out]; exact hl, hB⟩
/-- what IndefiniteForms hands back -/
def IndOut (d : Int) (l : List Fm) (v : Bool) : Prop := (posD d = true ∧ l = allF d ∧ v = true) ∨ (posD d = false ∧ l = [] ∧ v = false)
theorem indOut_ex (d : Int) : ∃ l v, IndOut d l v ∧ l.length ≤ 1000000 := by
  cases h : posD d with
  | true => exact ⟨_, _, .inl ⟨h, rfl, rfl⟩, allF_len h⟩
  | false => exact ⟨_, _, .inr ⟨h, rfl, rfl⟩, by simp⟩
theorem impl_IndefiniteForms (d : Int) (l : List Fm) (v : Bool) (w : World) (h : IndOut d l v) :
    Calls Try.prog 27 #[.int .i64 d] w fun e w' => ∃ u, e = .returned (.tuple #[u, .bool v]) ∧ Fms w' w.heap.size u l ∧ Below w.heap.size w w' := by
  rcases h with ⟨h, rfl, rfl⟩ | ⟨h, rfl, rfl⟩
  · have H := Lib.hid h
    clear h
    go_enter Try.func27, Try.ntmps27
    go_wp2_with fail
    refine (impl_isPositiveDisc d true _ H.out).mono ?_
    rintro e w' ⟨rfl, rfl⟩
    go_wp2_with fail
    refine (impl_cyclicForms d _ H.out).mono ?_
    rintro e w1 ⟨u, rfl, hown, hb⟩
    have Hown := Lib.hid hown
    clear hown
    go_wp2_with fail
    go_ret2
    exact ⟨_, rfl, Hown.out, hb⟩
  · have H := Lib.hid h
    clear h
    go_enter Try.func27, Try.ntmps27
    go_wp2_with fail
    refine (impl_isPositiveDisc d false _ H.out).mono ?_
    rintro e w' ⟨rfl, rfl⟩
    go_wp2_with fail
    go_ret2
    exact ⟨_, rfl, Fms.empty w rfl (Nat.le_refl _), by go_grown⟩
end Go.Proofs.Ytdonpiihjoihcaa
