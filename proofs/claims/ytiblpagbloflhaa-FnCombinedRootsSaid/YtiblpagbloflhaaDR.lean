/- Contracts: the drawn arguments of the laws on symbols; rows of bytes. -/
import Derived.Test.YtiblpagbloflhaaCN2
namespace Go.Proofs.Ytiblpagbloflhaa
set_option linter.unusedVariables false
open Go.ChangeShapes Go.WideShapes Go.ChangeAt Go.RowKit

/-- a row of bytes that a law is handed -/
def IsRow (k : IntKind) (W : World) (a : Option Addr) (len cap : Nat) (zs : List Int) : Prop :=
  (a = none ∧ len = 0 ∧ cap = 0 ∧ zs = []) ∨ ∃ x, a = some x ∧ len ≤ cap ∧ cap ≤ maxLen ∧ zs.length = cap ∧ (∀ i, i < zs.length → W.cell? (x.add i) = some (.int k (zs.getD i 0))) ∧ ∀ n ∈ zs, (Lit.int k n).wf = true
theorem cell_lt {W : World} {x : Addr} {v : Value} (h : W.cell? x = some v) : x.block < W.heap.size ∧ x.spot = none := by
  unfold World.cell? at h
  cases hb : W.heap[x.block]? with
  | none => rw [hb] at h; cases h
  | some o =>
    rw [hb] at h
    refine ⟨(Array.getElem?_eq_some_iff.1 hb).1, ?_⟩
    cases hs : x.spot with
    | none => rfl
    | some s => cases o <;> simp [hs] at h
theorem bytes_of {W : World} {a : Option Addr} {len cap : Nat} {zs : List Int} (h : IsRow .u8 W a len cap zs) (hl : len ≤ 1048576) : BytesAt W W.heap.size (.slice a len cap) := by
  rcases h with ⟨rfl, rfl, rfl, rfl⟩ | ⟨x, rfl, h1, h2, h3, h4, h5⟩
  · exact ⟨none, 0, 0, rfl, by omega, fun i hi => by omega⟩
  · refine ⟨some x, len, cap, rfl, hl, fun i hi => ?_⟩
    have hx := h4 0 (by omega)
    have e0 : x.add 0 = x := rfl
    rw [e0] at hx
    obtain ⟨hb, hs⟩ := cell_lt hx
    rcases x with ⟨b, o, s⟩
    have hs : s = none := hs
    subst hs
    have hi2 := h4 i (by omega)
    have hadd : (⟨b, o, none⟩ : Addr).add i = ⟨b, o + i, none⟩ := by unfold Addr.add; split <;> simp_all
    rw [hadd] at hi2
    have hm : zs.getD i 0 ∈ zs := by
      rw [List.getD_eq_getElem?_getD, List.getElem?_eq_getElem (by omega)]
      exact List.getElem_mem _
    have hw := bounds_u8 (h5 _ hm)
    exact ⟨b, o, zs.getD i 0, rfl, hb, hi2, by omega, by omega⟩
/-- a new cursor -/
theorem cur_new {w : World} {sv : Value} (h : BytesAt w w.heap.size sv) : CurW (w.alloc (.cells #[sv, .int .i64 0, .int .u64 0] 93)) w.heap.size w.heap.size 0 := by
  refine ⟨sv, 0, 0, Holds.new _ _ _, Nat.le_refl _, by omega, by omega, by omega, ?_⟩
  exact h.keep (Nat.le_refl _) (Nat.le_refl _) (grow_alloc w _ _)
theorem BytesAt.low {w w' : World} {N : Nat} {sv : Value} (h : BytesAt w N sv) (hN : N ≤ w.heap.size) (hb : Below N w w') : BytesAt w' N sv := by
  obtain ⟨p, len, cap, rfl, hl, h⟩ := h
  refine ⟨p, len, cap, rfl, hl, fun i hi => ?_⟩
  obtain ⟨b, o, z, hp, hlt, hz, h1, h2⟩ := h i hi
  exact ⟨b, o, z, hp, hlt, (hb.cell (p := ⟨b, o + i, none⟩) hlt).trans hz, h1, h2⟩
theorem BytesAt.mono {w : World} {N N' : Nat} {sv : Value} (h : BytesAt w N sv) (hN : N ≤ N') : BytesAt w N' sv := by
  obtain ⟨p, len, cap, rfl, hl, h⟩ := h
  refine ⟨p, len, cap, rfl, hl, fun i hi => ?_⟩
  obtain ⟨b, o, z, hp, hlt, r⟩ := h i hi
  exact ⟨b, o, z, hp, by omega, r⟩
theorem below_of_cur {w w' : World} (hg : w.grownBy w' (some w.heap.size)) : Below w.heap.size w w' :=
  below_cur (Below.refl _ _) hg (Nat.le_refl _) (Nat.le_refl _)
theorem I64_of {v a b : Int} (h : a ≤ v ∧ v ≤ b) (ha : -9223372036854775808 ≤ a) (hb : b ≤ 9223372036854775807) : I64 v := ⟨by omega, by omega⟩
theorem draw_Eis (sv : Value) (w : World) (h : BytesAt w w.heap.size sv) :
    Calls Try.prog 38 #[sv] w fun e w' => ∃ x y : Int, e = .returned (.tuple #[.int .i64 x, .int .i64 y]) ∧ I64 x ∧ I64 y ∧ Below w.heap.size w w' := by
  have H := Lib.hid (cur_new h)
  have HG0 := Lib.hid (grow_alloc w (.cells #[sv, .int .i64 0, .int .u64 0] 93) (some w.heap.size))
  have hz0 : w.heap.size ≤ (w.alloc (.cells #[sv, .int .i64 0, .int .u64 0] 93)).heap.size := by simp
  obtain ⟨p, len, cap, rfl, hlen, hbt⟩ := h
  clear hbt
  go_enter Try.func38, Try.ntmps38
  go_wp2_with fail
  refine (cur_oddPrime w.heap.size w.heap.size 0 _ (by omega) (by simp) H.out).mono ?_
  rintro e w1 ⟨x, rfl, hx, hc, hg⟩
  have hz1 : w.heap.size ≤ w1.heap.size := Nat.le_trans hz0 hg.size
  have HC1 := Lib.hid hc
  have HG1 := Lib.hid (cg_trans HG0.out hg)
  clear hc hg
  go_wp2_with fail
  refine (cur_oddPrime w.heap.size w.heap.size (0 + 2) _ (by omega) (by omega) HC1.out).mono ?_
  rintro e w2 ⟨y, rfl, hy, hc, hg⟩
  have hz2 : w.heap.size ≤ w2.heap.size := Nat.le_trans hz1 hg.size
  have HC2 := Lib.hid hc
  have HG2 := Lib.hid (cg_trans HG1.out hg)
  clear hc hg
  go_wp2_with fail
  refine bodyPost_ret (v := .tuple #[.int .i64 x, .int .i64 y]) (by simp [results, Try.results38, go_sem, *] <;> rfl) rfl (⟨x, y, rfl, I64_of hx (by omega) (by omega), I64_of hy (by omega) (by omega), below_of_cur HG2.out⟩)
theorem draw_Jac (sv : Value) (w : World) (h : BytesAt w w.heap.size sv) :
    Calls Try.prog 108 #[sv] w fun e w' => ∃ x y : Int, e = .returned (.tuple #[.int .i64 x, .int .i64 y]) ∧ I64 x ∧ I64 y ∧ Below w.heap.size w w' := by
  have H := Lib.hid (cur_new h)
  have HG0 := Lib.hid (grow_alloc w (.cells #[sv, .int .i64 0, .int .u64 0] 93) (some w.heap.size))
  have hz0 : w.heap.size ≤ (w.alloc (.cells #[sv, .int .i64 0, .int .u64 0] 93)).heap.size := by simp
  obtain ⟨p, len, cap, rfl, hlen, hbt⟩ := h
  clear hbt
  go_enter Try.func108, Try.ntmps108
  go_wp2_with fail
  refine (cur_small w.heap.size w.heap.size 0 _ (by omega) (by simp) H.out).mono ?_
  rintro e w1 ⟨x, rfl, hx, hc, hg⟩
  have hz1 : w.heap.size ≤ w1.heap.size := Nat.le_trans hz0 hg.size
  have HC1 := Lib.hid hc
  have HG1 := Lib.hid (cg_trans HG0.out hg)
  clear hc hg
  go_wp2_with fail
  refine (cur_pick 5000 w.heap.size w.heap.size (0 + 10) _ (by omega) (by omega) (by omega) HC1.out).mono ?_
  rintro e w2 ⟨z, rfl, z0, z1, hc, hg⟩
  have hz2 : w.heap.size ≤ w2.heap.size := Nat.le_trans hz1 hg.size
  have HC2 := Lib.hid hc
  have HG2 := Lib.hid (cg_trans HG1.out hg)
  clear hc hg
  go_wp2_with fail
  refine (cur_lit [1, 3, 9, 15, 21, 35, 45, 105, 99, 1001, 999999, 0, -1, 2, 1000001, 2 * z + 1] _ rfl (by simp) (by simp) w.heap.size w.heap.size (0 + 10 + 2) _ (by omega) (by omega) HC2.out).mono ?_
  rintro e w3 ⟨y, rfl, hy, hc, hg⟩
  have hz3 : w.heap.size ≤ w3.heap.size := Nat.le_trans hz2 hg.size
  have HC3 := Lib.hid hc
  have HG3 := Lib.hid (cg_trans HG2.out hg)
  clear hc hg
  have hy2 : -10 ≤ y ∧ y ≤ 1000001 := by simp at hy; omega
  go_wp2_with fail
  refine bodyPost_ret (v := .tuple #[.int .i64 x, .int .i64 y]) (by simp [results, Try.results108, go_sem, *] <;> rfl) rfl (⟨x, y, rfl, hx, I64_of hy2 (by omega) (by omega), below_of_cur HG3.out⟩)
theorem draw_Rec (sv : Value) (w : World) (h : BytesAt w w.heap.size sv) :
    Calls Try.prog 42 #[sv] w fun e w' => ∃ x y : Int, e = .returned (.tuple #[.int .i64 x, .int .i64 y]) ∧ I64 x ∧ I64 y ∧ Below w.heap.size w w' := by
  have H := Lib.hid h
  obtain ⟨p, len, cap, rfl, hlen, hbt⟩ := h
  clear hbt
  go_enter Try.func42, Try.ntmps42
  go_wp2_with fail
  refine (draw_Jac _ _ H.out).mono ?_
  rintro e w1 ⟨x, y, rfl, hx, hy, hB⟩
  go_wp2_with fail
  refine bodyPost_ret (v := .tuple #[.int .i64 x, .int .i64 y]) (by simp [results, Try.results42, go_sem, *] <;> rfl) rfl (⟨x, y, rfl, hx, hy, hB⟩)
theorem draw_Perm (sv : Value) (w : World) (h : BytesAt w w.heap.size sv) :
    Calls Try.prog 51 #[sv] w fun e w' => ∃ x y : Int, e = .returned (.tuple #[.int .i64 x, .int .i64 y]) ∧ I64 x ∧ I64 y ∧ Below w.heap.size w w' := by
  have H := Lib.hid (cur_new h)
  have HG0 := Lib.hid (grow_alloc w (.cells #[sv, .int .i64 0, .int .u64 0] 93) (some w.heap.size))
  have hz0 : w.heap.size ≤ (w.alloc (.cells #[sv, .int .i64 0, .int .u64 0] 93)).heap.size := by simp
  obtain ⟨p, len, cap, rfl, hlen, hbt⟩ := h
  clear hbt
  go_enter Try.func51, Try.ntmps51
  go_wp2_with fail
  refine (cur_small w.heap.size w.heap.size 0 _ (by omega) (by simp) H.out).mono ?_
  rintro e w1 ⟨x, rfl, hx, hc, hg⟩
  have hz1 : w.heap.size ≤ w1.heap.size := Nat.le_trans hz0 hg.size
  have HC1 := Lib.hid hc
  have HG1 := Lib.hid (cg_trans HG0.out hg)
  clear hc hg
  go_wp2_with fail
  refine (cur_pick 100 w.heap.size w.heap.size (0 + 10) _ (by omega) (by omega) (by omega) HC1.out).mono ?_
  rintro e w2 ⟨z, rfl, z0, z1, hc, hg⟩
  have hz2 : w.heap.size ≤ w2.heap.size := Nat.le_trans hz1 hg.size
  have HC2 := Lib.hid hc
  have HG2 := Lib.hid (cg_trans HG1.out hg)
  clear hc hg
  go_wp2_with fail
  refine (cur_lit [1, 3, 9, 15, 21, 35, 45, 105, 9999, 10001, 2, 0, -3, 2 * z + 1] _ rfl (by simp) (by simp) w.heap.size w.heap.size (0 + 10 + 2) _ (by omega) (by omega) HC2.out).mono ?_
  rintro e w3 ⟨y, rfl, hy, hc, hg⟩
  have hz3 : w.heap.size ≤ w3.heap.size := Nat.le_trans hz2 hg.size
  have HC3 := Lib.hid hc
  have HG3 := Lib.hid (cg_trans HG2.out hg)
  clear hc hg
  have hy2 : -10 ≤ y ∧ y ≤ 1000001 := by simp at hy; omega
  go_wp2_with fail
  refine bodyPost_ret (v := .tuple #[.int .i64 x, .int .i64 y]) (by simp [results, Try.results51, go_sem, *] <;> rfl) rfl (⟨x, y, rfl, hx, I64_of hy2 (by omega) (by omega), below_of_cur HG3.out⟩)
theorem draw_Leg (sv : Value) (w : World) (h : BytesAt w w.heap.size sv) :
    Calls Try.prog 47 #[sv] w fun e w' => ∃ x y : Int, e = .returned (.tuple #[.int .i64 x, .int .i64 y]) ∧ I64 x ∧ I64 y ∧ Below w.heap.size w w' := by
  have H := Lib.hid (cur_new h)
  have HG0 := Lib.hid (grow_alloc w (.cells #[sv, .int .i64 0, .int .u64 0] 93) (some w.heap.size))
  have hz0 : w.heap.size ≤ (w.alloc (.cells #[sv, .int .i64 0, .int .u64 0] 93)).heap.size := by simp
  obtain ⟨p, len, cap, rfl, hlen, hbt⟩ := h
  clear hbt
  go_enter Try.func47, Try.ntmps47
  go_wp2_with fail
  refine (cur_oddPrime w.heap.size w.heap.size 0 _ (by omega) (by simp) H.out).mono ?_
  rintro e w1 ⟨y, rfl, hy, hc, hg⟩
  have hz1 : w.heap.size ≤ w1.heap.size := Nat.le_trans hz0 hg.size
  have HC1 := Lib.hid hc
  have HG1 := Lib.hid (cg_trans HG0.out hg)
  clear hc hg
  go_wp2_with fail
  refine (cur_one 6 w.heap.size w.heap.size (0 + 2) _ (by omega) (by omega) (by omega) HC1.out).mono ?_
  rintro e w2 ⟨b, rfl, hc, hg⟩
  have hz2 : w.heap.size ≤ w2.heap.size := Nat.le_trans hz1 hg.size
  have HC2 := Lib.hid hc
  have HG2 := Lib.hid (cg_trans HG1.out hg)
  clear hc hg
  obtain ⟨y1, y2⟩ := hy
  have hy : I64 y := ⟨by omega, by omega⟩
  cases b with
  | true =>
    go_wp2_with fail
    refine (cur_pick 5 w.heap.size w.heap.size (0 + 2 + 2) _ (by omega) (by omega) (by omega) HC2.out).mono ?_
    rintro e w3 ⟨z, rfl, z0, z1, hc, hg⟩
    have hz3 : w.heap.size ≤ w3.heap.size := Nat.le_trans hz2 hg.size
    have HC3 := Lib.hid hc
    have HG3 := Lib.hid (cg_trans HG2.out hg)
    clear hc hg
    obtain ⟨q1, q2⟩ := mulb (a := y) (b := z - 2) (A := 1000003) (B := 4) (by omega) y2 (by omega) (by omega)
    go_wp2_with fail
    refine bodyPost_ret (v := .tuple #[.int .i64 (y * (z - 2)), .int .i64 y]) (by simp [results, Try.results47, go_sem, *] <;> rfl) rfl ⟨_, y, rfl, ⟨by omega, by omega⟩, hy, below_of_cur HG3.out⟩
  | false =>
    go_wp2_with fail
    refine (cur_small w.heap.size w.heap.size (0 + 2 + 2) _ (by omega) (by omega) HC2.out).mono ?_
    rintro e w3 ⟨x, rfl, hx, hc, hg⟩
    have hz3 : w.heap.size ≤ w3.heap.size := Nat.le_trans hz2 hg.size
    have HC3 := Lib.hid hc
    have HG3 := Lib.hid (cg_trans HG2.out hg)
    clear hc hg
    go_wp2_with fail
    refine bodyPost_ret (v := .tuple #[.int .i64 x, .int .i64 y]) (by simp [results, Try.results47, go_sem, *] <;> rfl) rfl (⟨x, y, rfl, hx, hy, below_of_cur HG3.out⟩)
theorem laws_big (a : Option Addr) (len cap : Nat) (a' : Option Addr) (len' cap' : Nat) (v : Bool) (w : World) (h1 : len ≤ maxLen) (h2 : len' ≤ maxLen) (hv : (decide (1048576 < (len : Int)) || decide (1048576 - (len : Int) < (len' : Int))) = v) :
    Calls Try.prog 37 #[.slice a len cap, .slice a' len' cap'] w fun e w' => e = .returned (.bool v) ∧ w = w' := by
  have Hv := Lib.hid hv
  clear hv
  unfold maxLen at h1 h2
  by_cases c1 : 1048576 < (len : Int)
  · go_enter Try.func37, Try.ntmps37
    go_wp2_with fail
    go_ret
    exact ⟨rbool (by rw [← Hv.out]; simp [c1]), rfl⟩
  · by_cases c2 : 1048576 - (len : Int) < (len' : Int)
    · go_enter Try.func37, Try.ntmps37
      go_wp2_with fail
      go_ret
      exact ⟨rbool (by rw [← Hv.out]; simp [c2]), rfl⟩
    · go_enter Try.func37, Try.ntmps37
      go_wp2_with fail
      go_ret
      exact ⟨rbool (by rw [← Hv.out]; simp [c1, c2]), rfl⟩
end Go.Proofs.Ytiblpagbloflhaa
