/- Contracts: the drawn arguments of the laws on symbols; rows of bytes. -/
import Derived.Test.YtdonpiihjoihcaaCN2
namespace Go.Proofs.Ytdonpiihjoihcaa
set_option linter.unusedVariables false
open Go.ChangeShapes Go.WideShapes Go.ChangeAt Go.RowKit

/-- a row of bytes that a law is handed -/
def IsRow (k : IntKind) (W : World) (a : Option Addr) (len cap : Nat) (zs : List Int) : Prop :=
  (a = none ∧ len = 0 ∧ cap = 0 ∧ zs = []) ∨ ∃ x, a = some x ∧ len ≤ cap ∧ cap ≤ maxLen ∧ zs.length = cap ∧ (∀ i, i < zs.length → W.cell? (x.add i) = some (.int k (zs.getD i 0))) ∧ ∀ n ∈ zs, (Lit.int k n).wf = true
theorem cell_lt {W : World} {x : Addr} {v : Value} (h : W.cell? x = some v) : x.block < W.heap.size ∧ x.spot = none := by
  unfold World.cell? at h
  cases hb : W.heap[x.block]? with
  | none => rw [hb] at h; cases h
  | some o =>
    rw [hb] at h
    refine ⟨(Array.getElem?_eq_some_iff.1 hb).1, ?_⟩
    cases hs : x.spot with
    | none => rfl
    | some s => cases o <;> simp [hs] at h
theorem bytes_of {W : World} {a : Option Addr} {len cap : Nat} {zs : List Int} (h : IsRow .u8 W a len cap zs) (hl : len ≤ 1048576) : BytesAt W W.heap.size (.slice a len cap) := by
  rcases h with ⟨rfl, rfl, rfl, rfl⟩ | ⟨x, rfl, h1, h2, h3, h4, h5⟩
  · exact ⟨none, 0, 0, rfl, by omega, fun i hi => by omega⟩
  · refine ⟨some x, len, cap, rfl, hl, fun i hi => ?_⟩
    have hx := h4 0 (by omega)
    have e0 : x.add 0 = x := rfl
    rw [e0] at hx
    obtain ⟨hb, hs⟩ := cell_lt hx
    rcases x with ⟨b, o, s⟩
    have hs : s = none := hs
    subst hs
    have hi2 := h4 i (by omega)
    have hadd : (⟨b, o, none⟩ : Addr).add i = ⟨b, o + i, none⟩ := by unfold Addr.add; split <;> simp_all
    rw [hadd] at hi2
    have hm : zs.getD i 0 ∈ zs := by
      rw [List.getD_eq_getElem?_getD, List.getElem?_eq_getElem (by omega)]
      exact List.getElem_mem _
    have hw := bounds_u8 (h5 _ hm)
    exact ⟨b, o, zs.getD i 0, rfl, hb, hi2, by omega, by omega⟩
/-- a new cursor -/
theorem cur_new {w : World} {sv : Value} (h : BytesAt w w.heap.size sv) : CurW (w.alloc (.cells #[sv, .int .i64 0, .int .u64 0] 110)) w.heap.size w.heap.size 0 := by
  refine ⟨sv, 0, 0, Holds.new _ _ _, Nat.le_refl _, by omega, by omega, by omega, ?_⟩
  exact h.keep (Nat.le_refl _) (Nat.le_refl _) (grow_alloc w _ _)
theorem BytesAt.low {w w' : World} {N : Nat} {sv : Value} (h : BytesAt w N sv) (hN : N ≤ w.heap.size) (hb : Below N w w') : BytesAt w' N sv := by
  obtain ⟨p, len, cap, rfl, hl, h⟩ := h
  refine ⟨p, len, cap, rfl, hl, fun i hi => ?_⟩
  obtain ⟨b, o, z, hp, hlt, hz, h1, h2⟩ := h i hi
  exact ⟨b, o, z, hp, hlt, (hb.cell (p := ⟨b, o + i, none⟩) hlt).trans hz, h1, h2⟩
theorem BytesAt.mono {w : World} {N N' : Nat} {sv : Value} (h : BytesAt w N sv) (hN : N ≤ N') : BytesAt w N' sv := by
  obtain ⟨p, len, cap, rfl, hl, h⟩ := h
  refine ⟨p, len, cap, rfl, hl, fun i hi => ?_⟩
  obtain ⟨b, o, z, hp, hlt, r⟩ := h i hi
  exact ⟨b, o, z, hp, by omega, r⟩
theorem below_of_cur {w w' : World} (hg : w.grownBy w' (some w.heap.size)) : Below w.heap.size w w' :=
  below_cur (Below.refl _ _) hg (Nat.le_refl _) (Nat.le_refl _)
theorem I64_of {v a b : Int} (h : a ≤ v ∧ v ≤ b) (ha : -9223372036854775808 ≤ a) (hb : b ≤ 9223372036854775807) : I64 v := ⟨by omega, by omega⟩
theorem laws_big (a : Option Addr) (len cap : Nat) (a' : Option Addr) (len' cap' : Nat) (v : Bool) (w : World) (h1 : len ≤ maxLen) (h2 : len' ≤ maxLen) (hv : (decide (1048576 < (len : Int)) || decide (1048576 - (len : Int) < (len' : Int))) = v) :
    Calls Try.prog 22 #[.slice a len cap, .slice a' len' cap'] w fun e w' => e = .returned (.bool v) ∧ w = w' := by
  have Hv := Lib.hid hv
  clear hv
  unfold maxLen at h1 h2
  by_cases c1 : 1048576 < (len : Int)
  · go_enter Try.func22, Try.ntmps22
    go_wp2_with fail
    go_ret
    exact ⟨rbool (by rw [← Hv.out]; simp [c1]), rfl⟩
  · by_cases c2 : 1048576 - (len : Int) < (len' : Int)
    · go_enter Try.func22, Try.ntmps22
      go_wp2_with fail
      go_ret
      exact ⟨rbool (by rw [← Hv.out]; simp [c2]), rfl⟩
    · go_enter Try.func22, Try.ntmps22
      go_wp2_with fail
      go_ret
      exact ⟨rbool (by rw [← Hv.out]; simp [c1, c2]), rfl⟩
end Go.Proofs.Ytdonpiihjoihcaa
