/- Contracts of the basic functions on numbers, each walked once. -/
import Derived.Test.YtdonpiihjoihcaaChecked
import Derived.Test.YtdonpiihjoihcaaM
import Derived.WalkKit
import Derived.ProofKit
import Derived.OpenShut
import Derived.Handy
import Derived.Lib.Hide
import Derived.Outline
import Derived.WalkLawsBesides
import Derived.Deep.QuietTactic
import Derived.BigQuiet
import Derived.StillTailTactics
namespace Go.Proofs.Ytdonpiihjoihcaa
open Go.ChangeShapes Go.WideShapes Go.ChangeAt Go.RowKit

theorem bcell {W w1 : World} (hb : Below W.heap.size W w1) : (∀ b o, b < W.heap.size → w1.cell? ⟨b, o, none⟩ = W.cell? ⟨b, o, none⟩) ∧ (∀ b o, b < W.heap.size → w1.frozen? ⟨b, o, none⟩ = W.frozen? ⟨b, o, none⟩) :=
  ⟨fun b o h => hb.cell (p := ⟨b, o, none⟩) h, fun b o h => hb.frozen (p := ⟨b, o, none⟩) h⟩
theorem Below.after {w W w1 : World} (h : Below w.heap.size w W) (hb : Below W.heap.size W w1) : Below w.heap.size w w1 := h.trans (hb.mono h.size)
theorem region_tail {P : Program} {id : Nat} {Q : Exit → Act → World → Prop} {a : Act} {w : World} {l : List Oper} (n : Nat) (hm : P.follows .mixedOrders = true) (hB : Region.lexTailB .any l.toArray n = true)
    (h : wpStill P l.toArray w.drew (fun a' => wpList P l.toArray Q (l.drop n) a' w.drew) (l.take n) a) : (Code.region id l.toArray true).wp P Q a w :=
  wp_region_still_tail n hm hB h
theorem same {P : Program} {f : FuncId} {args : Array Value} {w : World} {v : Value} (h : Calls P f args w fun e w' => e = .returned v ∧ w = w') : Calls P f args w fun e w' => e = .returned v ∧ w' = w :=
  h.mono fun _ _ ⟨he, hw⟩ => ⟨he, hw.symm⟩
theorem rbool {a b : Bool} (h : a = b) : Ending.returned (.bool a) = .returned (.bool b) := by rw [h]
theorem rint {k : IntKind} {a b : Int} (h : a = b) : Ending.returned (.int k a) = .returned (.int k b) := by rw [h]

theorem spec_l1In (n lo hi : Int) (v : Bool) (w : World) (hv : (decide (lo ≤ n) && decide (n ≤ hi)) = v) :
    Calls Try.prog 59 #[.int .i64 n, .int .i64 lo, .int .i64 hi] w fun e w' => e = .returned (.bool v) ∧ w = w' := by
  have Hv := Lib.hid hv.symm
  clear hv
  by_cases h1 : lo ≤ n
  · by_cases h2 : n ≤ hi
    · go_enter Try.func59, Try.ntmps59
      go_wp2
      go_ret
      exact ⟨rbool (by rw [Hv.out]; simp; omega), rfl⟩
    · go_enter Try.func59, Try.ntmps59
      go_wp2
      go_ret
      exact ⟨rbool (by rw [Hv.out]; simp; omega), rfl⟩
  · go_enter Try.func59, Try.ntmps59
    go_wp2
    go_ret
    exact ⟨rbool (by rw [Hv.out]; simp; omega), rfl⟩
theorem spec_nuGood (n : Int) (v : Bool) (w : World) (hv : good n = v) :
    Calls Try.prog 96 #[.int .i64 n] w fun e w' => e = .returned (.bool v) ∧ w = w' := by
  have Hv := Lib.hid hv
  clear hv
  go_enter Try.func96, Try.ntmps96
  go_wp2_with fail
  refine (spec_l1In _ _ _ _ _ rfl).mono ?_
  rintro e w' ⟨rfl, rfl⟩
  go_wp2
  go_ret
  exact ⟨rbool (by rw [← Hv.out]; rfl), rfl⟩
theorem spec_nuMod (a m : Int) (w : World) (h0 : 0 < m) (h1 : m ≤ 4000000000000000000) :
    Calls Try.prog 116 #[.int .i64 a, .int .i64 m] w fun e w' => e = .returned (.int .i64 (a % m)) ∧ w = w' := by
  have hb := tmod_bd a h0
  by_cases hn : a.tmod m < 0
  · have H := Lib.hid (tmod_neg_fix a h0 hn)
    go_enter Try.func116, Try.ntmps116
    go_wp2
    go_ret
    exact ⟨rint H.out, rfl⟩
  · have H := Lib.hid (tmod_pos_fix a h0 (by omega))
    go_enter Try.func116, Try.ntmps116
    go_wp2
    go_ret
    exact ⟨rint H.out, rfl⟩
theorem impl_mod (a m : Int) (w : World) (h0 : 0 < m) (h1 : m ≤ 4000000000000000000) :
    Calls Try.prog 115 #[.int .i64 a, .int .i64 m] w fun e w' => e = .returned (.int .i64 (a % m)) ∧ w = w' := by
  have hb := tmod_bd a h0
  by_cases hn : a.tmod m < 0
  · have H := Lib.hid (tmod_neg_fix a h0 hn)
    go_enter Try.func115, Try.ntmps115
    go_wp2
    go_ret
    exact ⟨rint H.out, rfl⟩
  · have H := Lib.hid (tmod_pos_fix a h0 (by omega))
    go_enter Try.func115, Try.ntmps115
    go_wp2
    go_ret
    exact ⟨rint H.out, rfl⟩
theorem spec_l1Most (a b : Int) (w : World) :
    Calls Try.prog 102 #[.int .i64 a, .int .i64 b] w fun e w' => e = .returned (.int .i64 (if b < a then a else b)) ∧ w = w' := by
  by_cases h : b < a
  · rw [if_pos h]
    go_enter Try.func102, Try.ntmps102
    go_wp2
    go_ret
    exact ⟨rfl, rfl⟩
  · rw [if_neg h]
    go_enter Try.func102, Try.ntmps102
    go_wp2
    go_ret
    exact ⟨rfl, rfl⟩
theorem spec_l1Abs (n : Int) (w : World) (h0 : -9223372036854775807 ≤ n) (h1 : n ≤ 9223372036854775807) :
    Calls Try.prog 62 #[.int .i64 n] w fun e w' => e = .returned (.int .i64 n.natAbs) ∧ w = w' := by
  go_enter Try.func62, Try.ntmps62
  go_wp2_with fail
  refine (spec_l1Most _ _ _).mono ?_
  rintro e w' ⟨rfl, rfl⟩
  go_wp2
  all_goals (try go_ret)
  all_goals exact ⟨rint (by omega), rfl⟩
theorem impl_abs (n : Int) (w : World) (h0 : -9223372036854775807 ≤ n) (h1 : n ≤ 9223372036854775807) :
    Calls Try.prog 65 #[.int .i64 n] w fun e w' => e = .returned (.int .i64 n.natAbs) ∧ w = w' := by
  by_cases h : 0 ≤ n
  · go_enter Try.func65, Try.ntmps65
    go_wp2
    all_goals (try go_ret)
    all_goals exact ⟨rint (by omega), rfl⟩
  · go_enter Try.func65, Try.ntmps65
    go_wp2
    all_goals (try go_ret)
    all_goals exact ⟨rint (by omega), rfl⟩
theorem are_any (xs : List Int) (b off cap : Nat) (w : World) (hx : xs.length ≤ 100) (hc : ∀ i, i < xs.length → w.cell? ⟨b, off + i, none⟩ = some (.int .i64 (xs.getD i 0))) :
    Calls Try.prog 100 #[.slice (some ⟨b, off, none⟩) xs.length cap] w fun e w' => e = .returned (.bool (xs.all good)) ∧ w = w' := by
  have Hc := Lib.hid hc
  clear hc
  go_enter Try.func100, Try.ntmps100
  go_wp2
  go_loop [7] (fun i => ∃ k : Nat, k ≤ xs.length ∧ i = .int .i64 k ∧ ∀ j, j < k → good (xs.getD j 0) = true) (fun i => xs.length - (intOf i).toNat)
  case atStart => exact ⟨0, by omega, rfl, by omega⟩
  case round =>
    obtain ⟨k, hk, rfl, hj⟩ := hrel
    have Hj := Lib.hid hj
    clear hj
    by_cases hlt : k < xs.length
    · have hcell := Hc.out k hlt
      by_cases h1 : xs[k] < -1000000
      · go_wp2
        go_ret
        exact ⟨rbool (all_no hlt (good_no (by omega))).symm, rfl⟩
      · by_cases h2 : 1000000 < xs[k]
        · go_wp2
          go_ret
          exact ⟨rbool (all_no hlt (good_no (by omega))).symm, rfl⟩
        · go_wp2
          go_round
          case rel =>
            refine ⟨k + 1, by omega, by go_num, fun j hj => ?_⟩
            rcases Nat.lt_succ_iff_lt_or_eq.1 hj with h | rfl
            · exact Hj.out j h
            · simpa [List.getD, List.getElem?_eq_getElem hlt] using good_yes (by omega) (by omega)
          case measure => simp [intOf]; omega
    · obtain rfl : k = xs.length := by omega
      go_wp2
      go_ret
      exact ⟨rbool (all_yes Hj.out).symm, rfl⟩
theorem are1 (a : Int) (blk cap : Nat) (v : Bool) (w : World) (hv : good a = v) (h0 : w.cell? ⟨blk, 0, none⟩ = some (.int .i64 a)) :
    Calls Try.prog 100 #[.slice (some ⟨blk, 0, none⟩) 1 cap] w fun e w' => e = .returned (.bool v) ∧ w = w' :=
  (are_any [a] blk 0 cap w (by simp) (by intro i hi; match i, hi with | 0, _ => simpa using h0)).mono
    fun e w' ⟨he, hw⟩ => ⟨by rw [he, ← hv]; simp, hw⟩
theorem are2 (a b : Int) (blk cap : Nat) (v : Bool) (w : World) (hv : good2 a b = v) (h0 : w.cell? ⟨blk, 0, none⟩ = some (.int .i64 a)) (h1 : w.cell? ⟨blk, 1, none⟩ = some (.int .i64 b)) :
    Calls Try.prog 100 #[.slice (some ⟨blk, 0, none⟩) 2 cap] w fun e w' => e = .returned (.bool v) ∧ w = w' :=
  (are_any [a, b] blk 0 cap w (by simp) (by intro i hi; match i, hi with | 0, _ => simpa using h0 | 1, _ => simpa using h1)).mono
    fun e w' ⟨he, hw⟩ => ⟨by rw [he, ← hv]; simp [good2], hw⟩
theorem are3 (a b c : Int) (blk cap : Nat) (v : Bool) (w : World) (hv : good3 a b c = v) (h0 : w.cell? ⟨blk, 0, none⟩ = some (.int .i64 a)) (h1 : w.cell? ⟨blk, 1, none⟩ = some (.int .i64 b)) (h2 : w.cell? ⟨blk, 2, none⟩ = some (.int .i64 c)) :
    Calls Try.prog 100 #[.slice (some ⟨blk, 0, none⟩) 3 cap] w fun e w' => e = .returned (.bool v) ∧ w = w' :=
  (are_any [a, b, c] blk 0 cap w (by simp) (by intro i hi; match i, hi with | 0, _ => simpa using h0 | 1, _ => simpa using h1 | 2, _ => simpa using h2)).mono
    fun e w' ⟨he, hw⟩ => ⟨by rw [he, ← hv]; simp [good3, Bool.and_assoc], hw⟩
theorem are4 (a b c d : Int) (blk cap : Nat) (v : Bool) (w : World) (hv : good4 a b c d = v) (h0 : w.cell? ⟨blk, 0, none⟩ = some (.int .i64 a)) (h1 : w.cell? ⟨blk, 1, none⟩ = some (.int .i64 b)) (h2 : w.cell? ⟨blk, 2, none⟩ = some (.int .i64 c)) (h3 : w.cell? ⟨blk, 3, none⟩ = some (.int .i64 d)) :
    Calls Try.prog 100 #[.slice (some ⟨blk, 0, none⟩) 4 cap] w fun e w' => e = .returned (.bool v) ∧ w = w' :=
  (are_any [a, b, c, d] blk 0 cap w (by simp) (by intro i hi; match i, hi with | 0, _ => simpa using h0 | 1, _ => simpa using h1 | 2, _ => simpa using h2 | 3, _ => simpa using h3)).mono
    fun e w' ⟨he, hw⟩ => ⟨by rw [he, ← hv]; simp [good4, Bool.and_assoc], hw⟩
end Go.Proofs.Ytdonpiihjoihcaa
