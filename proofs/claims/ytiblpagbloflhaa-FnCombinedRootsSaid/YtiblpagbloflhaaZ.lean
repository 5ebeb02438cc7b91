/- Contracts: the symbols of Jacobi and Kronecker. -/
import Derived.Test.YtiblpagbloflhaaB
import Derived.Test.YtiblpagbloflhaaJ
namespace Go.Proofs.Ytiblpagbloflhaa
set_option linter.unusedVariables false
open Go.ChangeShapes Go.WideShapes Go.ChangeAt Go.RowKit

theorem beqT {a b : Int} (h : a = b) : (a == b) = true := by simpa using h
theorem beqF {a b : Int} (h : ¬ a = b) : (a == b) = false := by simpa using h
theorem bneT {a b : Int} (h : ¬ a = b) : (a != b) = true := by simpa using h
theorem bneF {a b : Int} (h : a = b) : (a != b) = false := by simpa using h
theorem impl_symbolOfTwo (n : Int) (w : World) :
    Calls Try.prog 166 #[.int .i64 n] w fun e w' => e = .returned (.int .i64 (two8 n)) ∧ w = w' := by
  by_cases h1 : n % 8 = 1
  · have H := Lib.hid (show two8 n = 1 by unfold two8; rw [if_pos (.inl h1)])
    have b1 := beqT h1
    clear h1
    go_enter Try.func166, Try.ntmps166
    go_wp2_with fail
    refine (impl_mod n 8 _ (by omega) (by omega)).mono ?_
    rintro e w' ⟨rfl, rfl⟩
    go_wp2_with fail
    go_ret
    exact ⟨by rw [H.out]; rfl, rfl⟩
  · have b1 := beqF h1
    by_cases h7 : n % 8 = 7
    · have H := Lib.hid (show two8 n = 1 by unfold two8; rw [if_pos (.inr h7)])
      have b7 := beqT h7
      clear h1 h7
      go_enter Try.func166, Try.ntmps166
      go_wp2_with fail
      refine (impl_mod n 8 _ (by omega) (by omega)).mono ?_
      rintro e w' ⟨rfl, rfl⟩
      go_wp2_with fail
      go_ret
      exact ⟨by rw [H.out]; rfl, rfl⟩
    · have H := Lib.hid (show two8 n = -1 by unfold two8; rw [if_neg (by omega)])
      have b7 := beqF h7
      clear h1 h7
      go_enter Try.func166, Try.ntmps166
      go_wp2_with fail
      refine (impl_mod n 8 _ (by omega) (by omega)).mono ?_
      rintro e w' ⟨rfl, rfl⟩
      go_wp2_with fail
      go_ret
      exact ⟨by rw [H.out]; rfl, rfl⟩
theorem spec_syTwo (n : Int) (w : World) :
    Calls Try.prog 167 #[.int .i64 n] w fun e w' => e = .returned (.int .i64 (two8s n)) ∧ w = w' := by
  have h8 := Int.emod_nonneg n (show (8 : Int) ≠ 0 by omega)
  by_cases h1 : n % 8 = 1
  · have H := Lib.hid (show two8s n = 1 by unfold two8s; rw [if_pos (.inl h1)])
    have b1 := beqT h1
    clear h1
    go_enter Try.func167, Try.ntmps167
    go_wp2_with fail
    refine (spec_nuMod n 8 _ (by omega) (by omega)).mono ?_
    rintro e w' ⟨rfl, rfl⟩
    go_wp2_with fail
    go_ret
    exact ⟨by rw [H.out]; rfl, rfl⟩
  · have b1 := beqF h1
    by_cases h7 : n % 8 = 7
    · have H := Lib.hid (show two8s n = 1 by unfold two8s; rw [if_pos (.inr h7)])
      have b7 := beqT h7
      clear h1 h7
      go_enter Try.func167, Try.ntmps167
      go_wp2_with fail
      refine (spec_nuMod n 8 _ (by omega) (by omega)).mono ?_
      rintro e w' ⟨rfl, rfl⟩
      go_wp2_with fail
      go_ret
      exact ⟨by rw [H.out]; rfl, rfl⟩
    · have b7 := beqF h7
      by_cases h3 : n % 8 = 3
      · have H := Lib.hid (show two8s n = -1 by unfold two8s; rw [if_neg (by omega), if_pos (.inl h3)])
        have b3 := beqT h3
        clear h1 h7 h3
        go_enter Try.func167, Try.ntmps167
        go_wp2_with fail
        refine (spec_nuMod n 8 _ (by omega) (by omega)).mono ?_
        rintro e w' ⟨rfl, rfl⟩
        go_wp2_with fail
        go_ret
        exact ⟨by rw [H.out]; rfl, rfl⟩
      · have b3 := beqF h3
        by_cases h5 : n % 8 = 5
        · have H := Lib.hid (show two8s n = -1 by unfold two8s; rw [if_neg (by omega), if_pos (.inr h5)])
          have b5 := beqT h5
          clear h1 h7 h3 h5
          go_enter Try.func167, Try.ntmps167
          go_wp2_with fail
          refine (spec_nuMod n 8 _ (by omega) (by omega)).mono ?_
          rintro e w' ⟨rfl, rfl⟩
          go_wp2_with fail
          go_ret
          exact ⟨by rw [H.out]; rfl, rfl⟩
        · have H := Lib.hid (show two8s n = 0 by unfold two8s; rw [if_neg (by omega), if_neg (by omega)])
          have b5 := beqF h5
          clear h1 h7 h3 h5
          go_enter Try.func167, Try.ntmps167
          go_wp2_with fail
          refine (spec_nuMod n 8 _ (by omega) (by omega)).mono ?_
          rintro e w' ⟨rfl, rfl⟩
          go_wp2_with fail
          go_ret
          exact ⟨by rw [H.out]; rfl, rfl⟩
def JacAt (A N : Int) (a n s : Value) : Prop := ∃ a' n' s' : Int, a = .int .i64 a' ∧ n = .int .i64 n' ∧ s = .int .i64 s' ∧ 0 ≤ a' ∧ a' < n' ∧ n' ≤ N ∧ n' % 2 = 1 ∧ (-1 ≤ s' ∧ s' ≤ 1) ∧ s' * J a' n' = J A N
def JacIn (A N n' m : Int) (a s : Value) : Prop := ∃ a' s' : Int, a = .int .i64 a' ∧ s = .int .i64 s' ∧ 0 < a' ∧ a' ≤ m ∧ (-1 ≤ s' ∧ s' ≤ 1) ∧ s' * J a' n' = J A N
theorem impl_jacobi (A N : Int) (w : World) (h0 : 1 ≤ N) (h1 : N ≤ 4000000000000000000) (ho : N % 2 = 1) :
    Calls Try.prog 107 #[.int .i64 A, .int .i64 N] w fun e w' => e = .returned (.int .i64 (J A N)) ∧ w = w' := by
  have a1 := Int.emod_nonneg A (show N ≠ 0 by omega)
  have a2 := Int.emod_lt_of_pos A (show 0 < N by omega)
  have Ho := Lib.hid ho
  clear ho
  go_enter Try.func107, Try.ntmps107
  go_wp2_with fail
  refine (impl_mod A N _ (by omega) (by omega)).mono ?_
  rintro e w' ⟨rfl, rfl⟩
  go_wp2_with fail
  go_loop [0, 1, 5] (fun a n s => JacAt A N a n s) (fun a _ _ => (intOf a).toNat)
  case atStart => exact ⟨A % N, N, 1, rfl, rfl, rfl, a1, a2, by omega, Ho.out, by omega, by rw [Int.one_mul, ← J_mod (by omega)]⟩
  case round =>
    clear a1 a2
    obtain ⟨a, n, s, rfl, rfl, rfl, ha, han, hn, hodd, ⟨s1, s2⟩, hj⟩ := hrel
    have Hodd := Lib.hid hodd
    have Hj := Lib.hid hj
    clear hodd hj
    have t1 := two8_pm n
    have T1 := Lib.hid t1
    clear t1
    by_cases hz : a = 0
    · subst hz
      by_cases hn1 : n = 1
      · subst hn1
        go_wp2_with fail
        go_ret
        exact ⟨rint (by have := Hj.out; rw [J_zero (by omega), if_pos rfl] at this; rw [← this]; omega), rfl⟩
      · have bn := bneT hn1
        have Hn1 := Lib.hid hn1
        clear hn1
        go_wp2_with fail
        go_ret
        exact ⟨rint (by have := Hj.out; rw [J_zero (by omega), if_neg Hn1.out] at this; rw [← this]; omega), rfl⟩
    · have bz := bneT hz
      go_wp2_with fail
      go_loop [0, 5] (fun x y => JacIn A N n a x y) (fun x _ => (intOf x).toNat)
      case atStart => exact ⟨a, s, rfl, rfl, by omega, Int.le_refl _, ⟨s1, s2⟩, Hj.out⟩
      case round =>
        clear s1 s2 Hj
        obtain ⟨x, s, rfl, rfl, hx0, hxa, ⟨s1, s2⟩, hj⟩ := hrel
        have Hj := Lib.hid hj
        clear hj
        by_cases he : x % 2 = 0
        · have He := Lib.hid he
          have be := beqT he
          clear he
          have hb : -1 ≤ s * two8 n ∧ s * two8 n ≤ 1 := by rcases T1.out with h | h <;> rw [h] <;> omega
          obtain ⟨hb1, hb2⟩ := hb
          go_wp2_with fail
          refine (impl_symbolOfTwo n _).mono ?_
          rintro e w' ⟨rfl, rfl⟩
          go_wp2_with fail
          go_round
          case rel => exact ⟨x / 2, s * two8 n, rfl, rfl, by have := He.out; omega, by omega, ⟨hb1, hb2⟩, by rw [Int.mul_assoc, ← J_even (by omega) Hodd.out hx0 (by omega) He.out]; exact Hj.out⟩
          case measure => simp [intOf]; omega
        · have He := Lib.hid (show x % 2 = 1 by omega)
          have be := beqF he
          have e1 := Int.emod_nonneg n (show x ≠ 0 by omega)
          have e2 := Int.emod_lt_of_pos n hx0
          clear he
          by_cases hf1 : x % 4 = 3
          · have bf1 := beqT hf1
            by_cases hf2 : n % 4 = 3
            · have Hf := Lib.hid (show flip x n = -1 by unfold flip; rw [if_pos ⟨hf1, hf2⟩])
              have bf2 := beqT hf2
              clear hf1 hf2
              go_wp2_with fail
              go_round
              case rel => exact ⟨n % x, x, -s, rfl, rfl, rfl, e1, e2, by omega, He.out, by omega, by rw [← J_mod hx0, ← Hj.out, J_flip (t := x) (b := n) (by omega) hx0 (by omega) He.out, Hf.out]; simp [Int.neg_mul, Int.mul_neg]⟩
              case measure => simp [intOf]; omega
            · have Hf := Lib.hid (show flip x n = 1 by unfold flip; rw [if_neg (by simp [hf2])])
              have bf2 := beqF hf2
              clear hf1 hf2
              go_wp2_with fail
              go_round
              case rel => exact ⟨n % x, x, s, rfl, rfl, rfl, e1, e2, by omega, He.out, by omega, by rw [← J_mod hx0, ← Hj.out, J_flip (t := x) (b := n) (by omega) hx0 (by omega) He.out, Hf.out]; simp⟩
              case measure => simp [intOf]; omega
          · have Hf := Lib.hid (show flip x n = 1 by unfold flip; rw [if_neg (by simp [hf1])])
            have bf1 := beqF hf1
            clear hf1
            go_wp2_with fail
            go_round
            case rel => exact ⟨n % x, x, s, rfl, rfl, rfl, e1, e2, by omega, He.out, by omega, by rw [← J_mod hx0, ← Hj.out, J_flip (t := x) (b := n) (by omega) hx0 (by omega) He.out, Hf.out]; simp⟩
            case measure => simp [intOf]; omega
/-! the reference's symbol, by its steps -/
theorem spec_syEnd (t b s : Int) (v : Bool) (w : World) (hv : (decide (t = 0) || decide (t = 1)) = v) :
    Calls Try.prog 113 #[.agg #[.int .i64 t, .int .i64 b, .int .i64 s]] w fun e w' => e = .returned (.bool v) ∧ Below w.heap.size w w' := by
  have Hv := Lib.hid hv
  clear hv
  by_cases h0 : t = 0
  · have b0 := beqT h0
    have Hr := Lib.hid h0
    clear h0
    go_enter Try.func113, Try.ntmps113
    go_wp2_with fail
    go_ret
    exact ⟨rbool (by rw [← Hv.out]; simp [Hr.out]), by go_grown⟩
  · have b0 := beqF h0
    have Hr := Lib.hid h0
    clear h0
    go_enter Try.func113, Try.ntmps113
    go_wp2_with fail
    go_ret
    exact ⟨rbool (by rw [← Hv.out, Bool.eq_iff_iff]; simp [Hr.out]), by go_grown⟩
theorem spec_syStep_out (t b s : Int) (w : World) (hb : 0 < b) (hb2 : b ≤ 4000000000000000000) (hr : ¬ (0 ≤ t ∧ t < b)) :
    Calls Try.prog 114 #[.agg #[.int .i64 t, .int .i64 b, .int .i64 s]] w fun e w' => e = .returned (.agg #[.int .i64 (t % b), .int .i64 b, .int .i64 s]) ∧ Below w.heap.size w w' := by
  have Hi := Lib.hid (show (decide (0 ≤ t) && decide (t ≤ b - 1)) = false by rw [← Bool.not_eq_true]; simp; omega)
  clear hr
  go_enter Try.func114, Try.ntmps114
  go_wp2_with fail
  refine (spec_l1In t 0 (b - 1) false _ Hi.out).mono ?_
  rintro e w' ⟨rfl, rfl⟩
  go_wp2_with fail
  refine (spec_nuMod t b _ hb hb2).mono ?_
  rintro e w' ⟨rfl, rfl⟩
  go_wp2_with fail
  go_returns
  exact ⟨rfl, by go_grown⟩
set_option maxRecDepth 100000 in
theorem spec_syStep_half (t b s : Int) (w : World) (hb : 0 < b) (hb2 : b ≤ 4000000000000000000) (hr : 0 ≤ t ∧ t < b) (he : t % 2 = 0) (hs : -1 ≤ s ∧ s ≤ 1) :
    Calls Try.prog 114 #[.agg #[.int .i64 t, .int .i64 b, .int .i64 s]] w fun e w' => e = .returned (.agg #[.int .i64 (t / 2), .int .i64 b, .int .i64 (s * two8s b)]) ∧ Below w.heap.size w w' := by
  have Hi := Lib.hid (show (decide (0 ≤ t) && decide (t ≤ b - 1)) = true by simp; omega)
  have be := beqT he
  obtain ⟨r1, r2⟩ := hr
  obtain ⟨s1, s2⟩ := hs
  obtain ⟨t1, t2⟩ := two8s_bd b
  obtain ⟨m1, m2⟩ := mulb (A := 1) (B := 1) s1 s2 t1 t2
  clear he
  go_enter Try.func114, Try.ntmps114
  go_wp2_with fail
  refine (spec_l1In t 0 (b - 1) true _ Hi.out).mono ?_
  rintro e w' ⟨rfl, rfl⟩
  go_wp2_with fail
  have Hb2 := Lib.hid hb2
  have Hb := Lib.hid hb
  have e1 : IntKind.i64.wrap (s * two8s b) = s * two8s b := IntWalk.i64_in _ (by omega)
  clear hb2 r1 r2 hb m1 m2 s1 s2 t1 t2
  go_wp2_with fail
  refine region_tail 7 (by kernel_rfl) (by kernel_rfl) ?_
  simp only [List.take_succ_cons, List.take_zero, List.drop_succ_cons, List.drop_zero]
  iterate 4 still_step
  refine wpStill_step (fun K hK => ?_)
  go_simp
  refine ⟨_, same (spec_syTwo b _), hK _ ?_⟩
  iterate 2 still_step
  refine wpStill_nil ?_
  go_wp2_with fail
  go_returns
  exact ⟨rfl, by go_grown⟩
theorem spec_syStep_swap (t b s : Int) (w : World) (hb : 0 < b) (hb2 : b ≤ 4000000000000000000) (hr : 0 ≤ t ∧ t < b) (he : t % 2 = 1) (hs : -1 ≤ s ∧ s ≤ 1) :
    Calls Try.prog 114 #[.agg #[.int .i64 t, .int .i64 b, .int .i64 s]] w fun e w' => e = .returned (.agg #[.int .i64 b, .int .i64 t, .int .i64 (flip t b * s)]) ∧ Below w.heap.size w w' := by
  have Hi := Lib.hid (show (decide (0 ≤ t) && decide (t ≤ b - 1)) = true by simp; omega)
  have be : (t % 2 == 0) = false := beqF (by omega)
  obtain ⟨r1, r2⟩ := hr
  obtain ⟨s1, s2⟩ := hs
  clear he
  by_cases hf1 : t % 4 = 3
  · have bf1 := beqT hf1
    by_cases hf2 : b % 4 = 3
    · have Hf := Lib.hid (show flip t b * s = -s by unfold flip; rw [if_pos ⟨hf1, hf2⟩]; omega)
      have bf2 := beqT hf2
      clear hf1 hf2
      go_enter Try.func114, Try.ntmps114
      go_wp2_with fail
      refine (spec_l1In t 0 (b - 1) true _ Hi.out).mono ?_
      rintro e w' ⟨rfl, rfl⟩
      go_wp2_with fail
      go_returns
      exact ⟨by rw [Hf.out], by go_grown⟩
    · have Hf := Lib.hid (show flip t b * s = s by unfold flip; rw [if_neg (by simp [hf2])]; omega)
      have bf2 := beqF hf2
      clear hf1 hf2
      go_enter Try.func114, Try.ntmps114
      go_wp2_with fail
      refine (spec_l1In t 0 (b - 1) true _ Hi.out).mono ?_
      rintro e w' ⟨rfl, rfl⟩
      go_wp2_with fail
      go_returns
      exact ⟨by rw [Hf.out], by go_grown⟩
  · have Hf := Lib.hid (show flip t b * s = s by unfold flip; rw [if_neg (by simp [hf1])]; omega)
    have bf1 := beqF hf1
    clear hf1
    go_enter Try.func114, Try.ntmps114
    go_wp2_with fail
    refine (spec_l1In t 0 (b - 1) true _ Hi.out).mono ?_
    rintro e w' ⟨rfl, rfl⟩
    go_wp2_with fail
    go_returns
    exact ⟨by rw [Hf.out], by go_grown⟩
def SyM (blk : Nat) (wr : World) : Nat := Jm (intOf ((wr.cell? ⟨blk, 0, none⟩).getD undef)) (intOf ((wr.cell? ⟨blk, 1, none⟩).getD undef))
theorem syM_eq {blk : Nat} {wr : World} {t b : Int} (h0 : wr.cell? ⟨blk, 0, none⟩ = some (.int .i64 t)) (h1 : wr.cell? ⟨blk, 1, none⟩ = some (.int .i64 b)) : SyM blk wr = Jm t b := by
  unfold SyM; rw [h0, h1]; rfl
def SyAt (w : World) (A N : Int) (wr : World) : Prop := ∃ t b s : Int, wr.cell? ⟨w.heap.size, 0, none⟩ = some (.int .i64 t) ∧ wr.cell? ⟨w.heap.size, 1, none⟩ = some (.int .i64 b) ∧ wr.cell? ⟨w.heap.size, 2, none⟩ = some (.int .i64 s) ∧
  (wr.frozen? ⟨w.heap.size, 0, none⟩ = false ∧ wr.frozen? ⟨w.heap.size, 1, none⟩ = false ∧ wr.frozen? ⟨w.heap.size, 2, none⟩ = false) ∧ w.heap.size < wr.heap.size ∧ (0 < b ∧ b ≤ N ∧ b % 2 = 1 ∧ (-1 ≤ s ∧ s ≤ 1) ∧ s * J t b = J A N) ∧ Below w.heap.size w wr
theorem sy_half {A N t b s : Int} (h : 0 < b ∧ b ≤ N ∧ b % 2 = 1 ∧ (-1 ≤ s ∧ s ≤ 1) ∧ s * J t b = J A N) (h0 : ¬ (t = 0 ∨ t = 1)) (hr : 0 ≤ t ∧ t < b) (he : t % 2 = 0) :
    0 < b ∧ b ≤ N ∧ b % 2 = 1 ∧ (-1 ≤ s * two8s b ∧ s * two8s b ≤ 1) ∧ (s * two8s b) * J (t / 2) b = J A N := by
  obtain ⟨a1, a2, a3, ⟨s1, s2⟩, hj⟩ := h
  obtain ⟨t1, t2⟩ := two8s_bd b
  obtain ⟨m1, m2⟩ := mulb (A := 1) (B := 1) s1 s2 t1 t2
  exact ⟨a1, a2, a3, ⟨by omega, by omega⟩, by rw [Int.mul_assoc, ← J_half a1 h0 hr he]; exact hj⟩
theorem sy_swap {A N t b s : Int} (h : 0 < b ∧ b ≤ N ∧ b % 2 = 1 ∧ (-1 ≤ s ∧ s ≤ 1) ∧ s * J t b = J A N) (h0 : ¬ (t = 0 ∨ t = 1)) (hr : 0 ≤ t ∧ t < b) (he : t % 2 = 1) :
    0 < t ∧ t ≤ N ∧ t % 2 = 1 ∧ (-1 ≤ flip t b * s ∧ flip t b * s ≤ 1) ∧ (flip t b * s) * J b t = J A N := by
  obtain ⟨a1, a2, a3, ⟨s1, s2⟩, hj⟩ := h
  refine ⟨by omega, by omega, he, ?_, ?_⟩
  · rcases flip_pm t b with h | h <;> rw [h] <;> omega
  · rw [Int.mul_comm (flip t b) s, Int.mul_assoc, ← J_swap a1 h0 hr (by omega)]; exact hj
theorem sy_out {A N t b s : Int} (h : 0 < b ∧ b ≤ N ∧ b % 2 = 1 ∧ (-1 ≤ s ∧ s ≤ 1) ∧ s * J t b = J A N) :
    0 < b ∧ b ≤ N ∧ b % 2 = 1 ∧ (-1 ≤ s ∧ s ≤ 1) ∧ s * J (t % b) b = J A N := by
  obtain ⟨a1, a2, a3, a4, hj⟩ := h
  exact ⟨a1, a2, a3, a4, by rw [← J_mod a1]; exact hj⟩
theorem set3 {W : World} {blk : Nat} {x y z : Value} (a b c : Value) (c0 : W.cell? ⟨blk, 0, none⟩ = some x) (c1 : W.cell? ⟨blk, 1, none⟩ = some y) (c2 : W.cell? ⟨blk, 2, none⟩ = some z) :
    (((W.setCell ⟨blk, 0, none⟩ a).setCell ⟨blk, 1, none⟩ b).setCell ⟨blk, 2, none⟩ c).cell? ⟨blk, 0, none⟩ = some a ∧ (((W.setCell ⟨blk, 0, none⟩ a).setCell ⟨blk, 1, none⟩ b).setCell ⟨blk, 2, none⟩ c).cell? ⟨blk, 1, none⟩ = some b ∧
    (((W.setCell ⟨blk, 0, none⟩ a).setCell ⟨blk, 1, none⟩ b).setCell ⟨blk, 2, none⟩ c).cell? ⟨blk, 2, none⟩ = some c := by
  have e0 : (W.setCell ⟨blk, 0, none⟩ a).cell? ⟨blk, 0, none⟩ = some a := World.cell?_setCell_same _ _ _ c0
  have e1 : (W.setCell ⟨blk, 0, none⟩ a).cell? ⟨blk, 1, none⟩ = some y := (World.cell?_setCell_other _ _ _ _ (by simp)).trans c1
  have e2 : (W.setCell ⟨blk, 0, none⟩ a).cell? ⟨blk, 2, none⟩ = some z := (World.cell?_setCell_other _ _ _ _ (by simp)).trans c2
  have g0 : ((W.setCell ⟨blk, 0, none⟩ a).setCell ⟨blk, 1, none⟩ b).cell? ⟨blk, 0, none⟩ = some a := (World.cell?_setCell_other _ _ _ _ (by simp)).trans e0
  have g1 : ((W.setCell ⟨blk, 0, none⟩ a).setCell ⟨blk, 1, none⟩ b).cell? ⟨blk, 1, none⟩ = some b := World.cell?_setCell_same _ _ _ e1
  have g2 : ((W.setCell ⟨blk, 0, none⟩ a).setCell ⟨blk, 1, none⟩ b).cell? ⟨blk, 2, none⟩ = some z := (World.cell?_setCell_other _ _ _ _ (by simp)).trans e2
  exact ⟨(World.cell?_setCell_other _ _ _ _ (by simp)).trans g0, (World.cell?_setCell_other _ _ _ _ (by simp)).trans g1, World.cell?_setCell_same _ _ _ g2⟩
theorem syAt_next {w W : World} {A N t b s t' b' s' : Int} (hB : Below w.heap.size w W) (hz : w.heap.size < W.heap.size)
    (c0 : W.cell? ⟨w.heap.size, 0, none⟩ = some (.int .i64 t)) (c1 : W.cell? ⟨w.heap.size, 1, none⟩ = some (.int .i64 b)) (c2 : W.cell? ⟨w.heap.size, 2, none⟩ = some (.int .i64 s))
    (f0 : W.frozen? ⟨w.heap.size, 0, none⟩ = false) (f1 : W.frozen? ⟨w.heap.size, 1, none⟩ = false) (f2 : W.frozen? ⟨w.heap.size, 2, none⟩ = false)
    (h : 0 < b' ∧ b' ≤ N ∧ b' % 2 = 1 ∧ (-1 ≤ s' ∧ s' ≤ 1) ∧ s' * J t' b' = J A N) :
    SyAt w A N (((W.setCell ⟨w.heap.size, 0, none⟩ (.int .i64 t')).setCell ⟨w.heap.size, 1, none⟩ (.int .i64 b')).setCell ⟨w.heap.size, 2, none⟩ (.int .i64 s')) ∧
    SyM w.heap.size (((W.setCell ⟨w.heap.size, 0, none⟩ (.int .i64 t')).setCell ⟨w.heap.size, 1, none⟩ (.int .i64 b')).setCell ⟨w.heap.size, 2, none⟩ (.int .i64 s')) = Jm t' b' := by
  obtain ⟨d0, d1, d2⟩ := set3 (.int .i64 t') (.int .i64 b') (.int .i64 s') c0 c1 c2
  refine ⟨⟨t', b', s', d0, d1, d2, ⟨?_, ?_, ?_⟩, ?_, h, ?_⟩, syM_eq d0 d1⟩
  · rw [World.frozen?_setCell, World.frozen?_setCell, World.frozen?_setCell]; exact f0
  · rw [World.frozen?_setCell, World.frozen?_setCell, World.frozen?_setCell]; exact f1
  · rw [World.frozen?_setCell, World.frozen?_setCell, World.frozen?_setCell]; exact f2
  · simp only [World.size_setCell]; exact hz
  · exact ((hB.setCell (Nat.le_refl _) _).setCell (Nat.le_refl _) _).setCell (Nat.le_refl _) _
theorem spec_syJacobi (A N : Int) (w : World) (h0 : 1 ≤ N) (h1 : N ≤ 4000000000000000000) (ho : N % 2 = 1) :
    Calls Try.prog 118 #[.int .i64 A, .int .i64 N] w fun e w' => e = .returned (.int .i64 (J A N)) ∧ Below w.heap.size w w' := by
  have H1 := Lib.hid h1
  have Ho := Lib.hid ho
  clear h1 ho
  go_enter Try.func118, Try.ntmps118
  go_wp2_with fail
  go_loopw [] (fun wr => SyAt w A N wr) (fun wr => SyM w.heap.size wr)
  case atStart => exact ⟨A, N, 1, by simp, by simp, by simp, ⟨by simp, by simp, by simp⟩, by simp, ⟨by omega, Int.le_refl _, Ho.out, by omega, Int.one_mul _⟩, by go_grown⟩
  case round =>
    obtain ⟨t, b, s, c0, c1, c2, ⟨f0, f1, f2⟩, hz, hin, hB⟩ := hrel
    have hM := syM_eq c0 c1
    have HM := Lib.hid hM
    have Hin := Lib.hid hin
    obtain ⟨hb0, hbN, hbo, ⟨s1, s2⟩, hj⟩ := hin
    have Hbo := Lib.hid hbo
    have Hj := Lib.hid hj
    clear hM hbo hj
    by_cases he : t = 0 ∨ t = 1
    · have He := Lib.hid he
      have Hv := Lib.hid (show (decide (t = 0) || decide (t = 1)) = true by simpa using he)
      by_cases hz0 : t = 0 ∧ 1 < b
      · obtain ⟨rfl, hb1⟩ := hz0
        have Hr := Lib.hid (show 0 = J A N by rw [← Hj.out, J_end (by omega) (.inl rfl), if_pos ⟨rfl, hb1⟩, Int.mul_zero])
        clear he
        go_wp2_with fail
        refine (spec_syEnd 0 b s true _ Hv.out).mono ?_
        rintro e w1 ⟨rfl, hb1⟩
        have hB1 : Below w.heap.size w w1 := Below.after hB hb1
        obtain ⟨hc1, hf1⟩ := bcell hb1
        have hz1 : w.heap.size < w1.heap.size := Nat.lt_of_lt_of_le hz hb1.size
        clear hb1
        go_wp2_with fail
        go_ret
        exact ⟨rint Hr.out, hB1⟩
      · have Hr := Lib.hid (show s = J A N by rw [← Hj.out, J_end (by omega) he, if_neg hz0, Int.mul_one])
        by_cases ht : t = 0
        · subst ht
          have hbb : ¬ 1 < b := fun h => hz0 ⟨rfl, h⟩
          clear he hz0
          go_wp2_with fail
          refine (spec_syEnd 0 b s true _ Hv.out).mono ?_
          rintro e w1 ⟨rfl, hb1⟩
          have hB1 : Below w.heap.size w w1 := Below.after hB hb1
          obtain ⟨hc1, hf1⟩ := bcell hb1
          have hz1 : w.heap.size < w1.heap.size := Nat.lt_of_lt_of_le hz hb1.size
          clear hb1
          go_wp2_with fail
          go_ret
          exact ⟨rint Hr.out, hB1⟩
        · have bt := beqF ht
          clear he hz0 ht
          go_wp2_with fail
          refine (spec_syEnd t b s true _ Hv.out).mono ?_
          rintro e w1 ⟨rfl, hb1⟩
          have hB1 : Below w.heap.size w w1 := Below.after hB hb1
          obtain ⟨hc1, hf1⟩ := bcell hb1
          have hz1 : w.heap.size < w1.heap.size := Nat.lt_of_lt_of_le hz hb1.size
          clear hb1
          go_wp2_with fail
          go_ret
          exact ⟨rint Hr.out, hB1⟩
    · have Hv := Lib.hid (show (decide (t = 0) || decide (t = 1)) = false by rw [← Bool.not_eq_true]; simpa using he)
      have He := Lib.hid he
      go_wp2_with fail
      refine (spec_syEnd t b s false _ Hv.out).mono ?_
      rintro e w1 ⟨rfl, hb1⟩
      have hB1 : Below w.heap.size w w1 := Below.after hB hb1
      obtain ⟨hc1, hf1⟩ := bcell hb1
      have hz1 : w.heap.size < w1.heap.size := Nat.lt_of_lt_of_le hz hb1.size
      clear hb1
      by_cases hr : 0 ≤ t ∧ t < b
      · by_cases he2 : t % 2 = 0
        · have Hr := Lib.hid hr
          have He2 := Lib.hid he2
          have Hm := Lib.hid (Jm_half hr fun h => he (.inl h))
          clear hr he he2
          go_wp2_with fail
          refine (spec_syStep_half t b s _ hb0 (by have := H1.out; omega) Hr.out He2.out ⟨s1, s2⟩).mono ?_
          rintro e w2 ⟨rfl, hb2⟩
          have hB2 : Below w.heap.size w w2 := Below.after hB1 hb2
          obtain ⟨hc2, hf2⟩ := bcell hb2
          have hz2 : w.heap.size < w2.heap.size := Nat.lt_of_lt_of_le hz1 hb2.size
          have Hx := Lib.hid (syAt_next (t' := t / 2) (b' := b) (s' := s * two8s b) hB2 hz2 ((hc2 _ _ hz1).trans ((hc1 _ _ hz).trans c0)) ((hc2 _ _ hz1).trans ((hc1 _ _ hz).trans c1)) ((hc2 _ _ hz1).trans ((hc1 _ _ hz).trans c2)) ((hf2 _ _ hz1).trans ((hf1 _ _ hz).trans f0)) ((hf2 _ _ hz1).trans ((hf1 _ _ hz).trans f1)) ((hf2 _ _ hz1).trans ((hf1 _ _ hz).trans f2)) (sy_half Hin.out He.out Hr.out He2.out))
          clear hb2
          go_wp2_with fail
          have hx := Hx.out
          exact ⟨hx.1, by rw [hx.2, HM.out]; exact Hm.out⟩
        · have Hr := Lib.hid hr
          have He2 := Lib.hid (show t % 2 = 1 by omega)
          have Hm := Lib.hid (Jm_swap hr)
          clear hr he he2
          go_wp2_with fail
          refine (spec_syStep_swap t b s _ hb0 (by have := H1.out; omega) Hr.out He2.out ⟨s1, s2⟩).mono ?_
          rintro e w2 ⟨rfl, hb2⟩
          have hB2 : Below w.heap.size w w2 := Below.after hB1 hb2
          obtain ⟨hc2, hf2⟩ := bcell hb2
          have hz2 : w.heap.size < w2.heap.size := Nat.lt_of_lt_of_le hz1 hb2.size
          have Hx := Lib.hid (syAt_next (t' := b) (b' := t) (s' := flip t b * s) hB2 hz2 ((hc2 _ _ hz1).trans ((hc1 _ _ hz).trans c0)) ((hc2 _ _ hz1).trans ((hc1 _ _ hz).trans c1)) ((hc2 _ _ hz1).trans ((hc1 _ _ hz).trans c2)) ((hf2 _ _ hz1).trans ((hf1 _ _ hz).trans f0)) ((hf2 _ _ hz1).trans ((hf1 _ _ hz).trans f1)) ((hf2 _ _ hz1).trans ((hf1 _ _ hz).trans f2)) (sy_swap Hin.out He.out Hr.out He2.out))
          clear hb2
          go_wp2_with fail
          have hx := Hx.out
          exact ⟨hx.1, by rw [hx.2, HM.out]; exact Hm.out⟩
      · have Hr := Lib.hid hr
        have Hm := Lib.hid (Jm_mod hb0 hr)
        clear hr he
        go_wp2_with fail
        refine (spec_syStep_out t b s _ hb0 (by have := H1.out; omega) Hr.out).mono ?_
        rintro e w2 ⟨rfl, hb2⟩
        have hB2 : Below w.heap.size w w2 := Below.after hB1 hb2
        obtain ⟨hc2, hf2⟩ := bcell hb2
        have hz2 : w.heap.size < w2.heap.size := Nat.lt_of_lt_of_le hz1 hb2.size
        have Hx := Lib.hid (syAt_next (t' := t % b) (b' := b) (s' := s) hB2 hz2 ((hc2 _ _ hz1).trans ((hc1 _ _ hz).trans c0)) ((hc2 _ _ hz1).trans ((hc1 _ _ hz).trans c1)) ((hc2 _ _ hz1).trans ((hc1 _ _ hz).trans c2)) ((hf2 _ _ hz1).trans ((hf1 _ _ hz).trans f0)) ((hf2 _ _ hz1).trans ((hf1 _ _ hz).trans f1)) ((hf2 _ _ hz1).trans ((hf1 _ _ hz).trans f2)) (sy_out Hin.out))
        clear hb2
        go_wp2_with fail
        have hx := Hx.out
        exact ⟨hx.1, by rw [hx.2, HM.out]; exact Hm.out⟩
/-! the symbol of Kronecker -/
def KrAt (a M S : Int) (n s : Value) : Prop := ∃ n' s' : Int, n = .int .i64 n' ∧ s = .int .i64 s' ∧ 1 ≤ n' ∧ n' ≤ 1000000000 ∧ (-1 ≤ s' ∧ s' ≤ 1) ∧ kron2 a n' s' = kron2 a M S
theorem kr_done {a n m s : Int} (hn : n ≠ 0) (h : kron2 a m s = kron2 a n.natAbs (ksign a n)) (ho : ¬ m % 2 = 0) : s * J a m = kron a n := by
  rw [kron_ne hn, ← h, kron2_no ho]
theorem kr_even {a n m s : Int} (hn : n ≠ 0) (h : kron2 a m s = kron2 a n.natAbs (ksign a n)) (ha : a % 2 = 0) (h0 : m ≠ 0) (he : m % 2 = 0) : 0 = kron a n := by
  rw [kron_ne hn, ← h, kron2_even ha h0 he, Int.zero_mul]
theorem ksign_bd (a n : Int) : -1 ≤ ksign a n ∧ ksign a n ≤ 1 := by unfold ksign; split <;> omega
theorem impl_kronecker (a n : Int) (w : World) (ha : -1000000000 ≤ a ∧ a ≤ 1000000000) (hn : -1000000000 ≤ n ∧ n ≤ 1000000000) :
    Calls Try.prog 119 #[.int .i64 a, .int .i64 n] w fun e w' => e = .returned (.int .i64 (kron a n)) ∧ w = w' := by
  obtain ⟨a1, a2⟩ := ha
  obtain ⟨n1, n2⟩ := hn
  by_cases h0 : n = 0
  · subst h0
    by_cases h1 : a.natAbs = 1
    · have Hr := Lib.hid (show (1 : Int) = kron a 0 by rw [kron_zero, if_pos h1])
      have b1 : ((a.natAbs : Int) == 1) = true := beqT (by omega)
      clear h1
      go_enter Try.func119, Try.ntmps119
      go_wp2_with fail
      refine (impl_abs a _ (by omega) (by omega)).mono ?_
      rintro e w' ⟨rfl, rfl⟩
      go_wp2_with fail
      go_ret
      exact ⟨rint Hr.out, rfl⟩
    · have Hr := Lib.hid (show (0 : Int) = kron a 0 by rw [kron_zero, if_neg h1])
      have b1 : ((a.natAbs : Int) == 1) = false := beqF (by omega)
      clear h1
      go_enter Try.func119, Try.ntmps119
      go_wp2_with fail
      refine (impl_abs a _ (by omega) (by omega)).mono ?_
      rintro e w' ⟨rfl, rfl⟩
      go_wp2_with fail
      go_ret
      exact ⟨rint Hr.out, rfl⟩
  · have Hn := Lib.hid h0
    have bn := beqF h0
    have hp : 1 ≤ n.natAbs := by omega
    clear h0
    by_cases hs1 : n < 0
    · by_cases hs2 : a < 0
      · have Hsg := Lib.hid (show ksign a n = -1 by unfold ksign; rw [if_pos ⟨hs1, hs2⟩])
        go_enter Try.func119, Try.ntmps119
        go_wp2_with fail
        refine (impl_abs n _ (by omega) (by omega)).mono ?_
        rintro e w' ⟨rfl, rfl⟩
        go_wp2_with fail
        go_loop [1, 5] (fun m s => KrAt a n.natAbs (ksign a n) m s) (fun m _ => (intOf m).toNat)
        case atStart => exact ⟨n.natAbs, _, rfl, rfl, by omega, by omega, by omega, by rw [Hsg.out]⟩
        case round =>
          obtain ⟨m, s, rfl, rfl, hm0, hm1, ⟨s1, s2⟩, hk⟩ := hrel
          have Hk := Lib.hid hk
          clear hk
          by_cases he : m % 2 = 0
          · have be := beqT he
            have He := Lib.hid he
            clear he
            by_cases ha : a % 2 = 0
            · have ba : (a.tmod 2 == 0) = true := by rw [beq_tmod]; simpa using ha
              have ba2 := beqT ha
              have Hr := Lib.hid (kr_even Hn.out Hk.out ha (by omega) He.out)
              clear ha
              go_wp2_with fail
              go_ret
              exact ⟨rint Hr.out, rfl⟩
            · have ba : (a.tmod 2 == 0) = false := by rw [beq_tmod]; simpa using ha
              have ba2 := beqF ha
              have Ht := Lib.hid (two8_odd (a := a) (by omega))
              have hb : -1 ≤ s * two8 a ∧ s * two8 a ≤ 1 := by rcases two8_pm a with h | h <;> rw [h] <;> omega
              obtain ⟨hb1, hb2⟩ := hb
              clear ha
              go_wp2_with fail
              refine (impl_symbolOfTwo a _).mono ?_
              rintro e w' ⟨rfl, rfl⟩
              go_wp2_with fail
              go_round
              case rel => exact ⟨m / 2, s * two8 a, rfl, rfl, by have := He.out; omega, by omega, ⟨hb1, hb2⟩, by rw [← Hk.out, kron2_yes (by omega) He.out, Ht.out]⟩
              case measure => have := He.out; simp [intOf]; omega
          · have be := beqF he
            have Hr := Lib.hid (kr_done Hn.out Hk.out he)
            have Ho := Lib.hid (show m % 2 = 1 by omega)
            obtain ⟨j1, j2⟩ := J_bounds a m
            obtain ⟨m1, m2⟩ := mulb (A := 1) (B := 1) s1 s2 j1 j2
            clear he
            go_wp2_with fail
            refine (impl_jacobi a m _ hm0 (by omega) Ho.out).mono ?_
            rintro e w' ⟨rfl, rfl⟩
            go_wp2_with fail
            go_ret
            exact ⟨rint Hr.out, rfl⟩
      · have Hsg := Lib.hid (show ksign a n = 1 by unfold ksign; rw [if_neg (by omega)])
        go_enter Try.func119, Try.ntmps119
        go_wp2_with fail
        refine (impl_abs n _ (by omega) (by omega)).mono ?_
        rintro e w' ⟨rfl, rfl⟩
        go_wp2_with fail
        go_loop [1, 5] (fun m s => KrAt a n.natAbs (ksign a n) m s) (fun m _ => (intOf m).toNat)
        case atStart => exact ⟨n.natAbs, _, rfl, rfl, by omega, by omega, by omega, by rw [Hsg.out]⟩
        case round =>
          obtain ⟨m, s, rfl, rfl, hm0, hm1, ⟨s1, s2⟩, hk⟩ := hrel
          have Hk := Lib.hid hk
          clear hk
          by_cases he : m % 2 = 0
          · have be := beqT he
            have He := Lib.hid he
            clear he
            by_cases ha : a % 2 = 0
            · have ba : (a.tmod 2 == 0) = true := by rw [beq_tmod]; simpa using ha
              have ba2 := beqT ha
              have Hr := Lib.hid (kr_even Hn.out Hk.out ha (by omega) He.out)
              clear ha
              go_wp2_with fail
              go_ret
              exact ⟨rint Hr.out, rfl⟩
            · have ba : (a.tmod 2 == 0) = false := by rw [beq_tmod]; simpa using ha
              have ba2 := beqF ha
              have Ht := Lib.hid (two8_odd (a := a) (by omega))
              have hb : -1 ≤ s * two8 a ∧ s * two8 a ≤ 1 := by rcases two8_pm a with h | h <;> rw [h] <;> omega
              obtain ⟨hb1, hb2⟩ := hb
              clear ha
              go_wp2_with fail
              refine (impl_symbolOfTwo a _).mono ?_
              rintro e w' ⟨rfl, rfl⟩
              go_wp2_with fail
              go_round
              case rel => exact ⟨m / 2, s * two8 a, rfl, rfl, by have := He.out; omega, by omega, ⟨hb1, hb2⟩, by rw [← Hk.out, kron2_yes (by omega) He.out, Ht.out]⟩
              case measure => have := He.out; simp [intOf]; omega
          · have be := beqF he
            have Hr := Lib.hid (kr_done Hn.out Hk.out he)
            have Ho := Lib.hid (show m % 2 = 1 by omega)
            obtain ⟨j1, j2⟩ := J_bounds a m
            obtain ⟨m1, m2⟩ := mulb (A := 1) (B := 1) s1 s2 j1 j2
            clear he
            go_wp2_with fail
            refine (impl_jacobi a m _ hm0 (by omega) Ho.out).mono ?_
            rintro e w' ⟨rfl, rfl⟩
            go_wp2_with fail
            go_ret
            exact ⟨rint Hr.out, rfl⟩
    · have Hsg := Lib.hid (show ksign a n = 1 by unfold ksign; rw [if_neg (by omega)])
      go_enter Try.func119, Try.ntmps119
      go_wp2_with fail
      refine (impl_abs n _ (by omega) (by omega)).mono ?_
      rintro e w' ⟨rfl, rfl⟩
      go_wp2_with fail
      go_loop [1, 5] (fun m s => KrAt a n.natAbs (ksign a n) m s) (fun m _ => (intOf m).toNat)
      case atStart => exact ⟨n.natAbs, _, rfl, rfl, by omega, by omega, by omega, by rw [Hsg.out]⟩
      case round =>
        obtain ⟨m, s, rfl, rfl, hm0, hm1, ⟨s1, s2⟩, hk⟩ := hrel
        have Hk := Lib.hid hk
        clear hk
        by_cases he : m % 2 = 0
        · have be := beqT he
          have He := Lib.hid he
          clear he
          by_cases ha : a % 2 = 0
          · have ba : (a.tmod 2 == 0) = true := by rw [beq_tmod]; simpa using ha
            have ba2 := beqT ha
            have Hr := Lib.hid (kr_even Hn.out Hk.out ha (by omega) He.out)
            clear ha
            go_wp2_with fail
            go_ret
            exact ⟨rint Hr.out, rfl⟩
          · have ba : (a.tmod 2 == 0) = false := by rw [beq_tmod]; simpa using ha
            have ba2 := beqF ha
            have Ht := Lib.hid (two8_odd (a := a) (by omega))
            have hb : -1 ≤ s * two8 a ∧ s * two8 a ≤ 1 := by rcases two8_pm a with h | h <;> rw [h] <;> omega
            obtain ⟨hb1, hb2⟩ := hb
            clear ha
            go_wp2_with fail
            refine (impl_symbolOfTwo a _).mono ?_
            rintro e w' ⟨rfl, rfl⟩
            go_wp2_with fail
            go_round
            case rel => exact ⟨m / 2, s * two8 a, rfl, rfl, by have := He.out; omega, by omega, ⟨hb1, hb2⟩, by rw [← Hk.out, kron2_yes (by omega) He.out, Ht.out]⟩
            case measure => have := He.out; simp [intOf]; omega
        · have be := beqF he
          have Hr := Lib.hid (kr_done Hn.out Hk.out he)
          have Ho := Lib.hid (show m % 2 = 1 by omega)
          obtain ⟨j1, j2⟩ := J_bounds a m
          obtain ⟨m1, m2⟩ := mulb (A := 1) (B := 1) s1 s2 j1 j2
          clear he
          go_wp2_with fail
          refine (impl_jacobi a m _ hm0 (by omega) Ho.out).mono ?_
          rintro e w' ⟨rfl, rfl⟩
          go_wp2_with fail
          go_ret
          exact ⟨rint Hr.out, rfl⟩
end Go.Proofs.Ytiblpagbloflhaa
