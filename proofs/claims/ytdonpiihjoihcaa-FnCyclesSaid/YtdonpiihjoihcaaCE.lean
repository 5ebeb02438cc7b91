/- Contracts and walks of the laws: reduced forms; the product round a cycle. -/
import Derived.Test.YtdonpiihjoihcaaCD
namespace Go.Proofs.Ytdonpiihjoihcaa
set_option linter.unusedVariables false
open Go.ChangeShapes Go.WideShapes Go.ChangeAt Go.RowKit

/-- what ReduceIndefinite hands back -/
def RedOut (a b c x y z p q r s : Int) (v : Bool) : Prop :=
  (indefB a b c = true ∧ ∃ o, Red ⟨a, b, c⟩ oneM o ∧ redV o = (⟨x, y, z⟩, ⟨p, q, r, s⟩, v)) ∨ (indefB a b c = false ∧ (⟨x, y, z⟩ : Fm) = zF ∧ (⟨p, q, r, s⟩ : Mx) = zM ∧ v = false)
theorem redOut_ex (a b c : Int) : ∃ x y z p q r s v, RedOut a b c x y z p q r s v := by
  cases h : indefB a b c with
  | true =>
    obtain ⟨o, ho⟩ := red_ex ⟨a, b, c⟩ oneM h
    rcases hv : redV o with ⟨⟨x, y, z⟩, ⟨p, q, r, s⟩, v⟩
    exact ⟨x, y, z, p, q, r, s, v, .inl ⟨h, o, ho, hv⟩⟩
  | false => exact ⟨0, 0, 0, 0, 0, 0, 0, false, .inr ⟨h, rfl, rfl, rfl⟩⟩
theorem impl_ReduceIndefinite (a b c x y z p q r s : Int) (v : Bool) (w : World) (h : RedOut a b c x y z p q r s v) :
    Calls Try.prog 109 #[.agg #[.int .i64 a, .int .i64 b, .int .i64 c]] w fun e w' => e = .returned (.tuple #[.agg #[.int .i64 x, .int .i64 y, .int .i64 z], .agg #[.int .i64 p, .int .i64 q, .int .i64 r, .int .i64 s], .bool v]) ∧ Below w.heap.size w w' := by
  rcases h with ⟨h, o, ho, hv⟩ | ⟨h, h1, h2, h3⟩
  · have H := Lib.hid h
    clear h
    have Ho := Lib.hid ho
    clear ho
    have Hv := Lib.hid hv
    clear hv
    go_enter Try.func109, Try.ntmps109
    go_wp2_with fail
    refine (impl_isIndefinite a b c true _ H.out).mono ?_
    rintro e w1 ⟨rfl, hb1⟩
    have hB1 : Below w.heap.size w w1 := Below.after (by go_grown) hb1
    obtain ⟨hc1, hf1⟩ := bcell hb1
    have hy1 := hb1.size
    try simp at hy1
    first | (with_reducible have hx1 := Nat.lt_of_succ_le hy1) | skip
    first | (with_reducible have hv1 := Nat.lt_of_succ_lt hx1) | skip
    first | (with_reducible have hu1 := Nat.lt_of_succ_lt hv1) | skip
    first | (have hz1 : w.heap.size < w1.heap.size := by omega) | (have hz1 := hB1.size)
    clear hb1
    go_wp2_with fail
    refine (impl_toCycle a b c o x y z p q r s v _ H.out Ho.out Hv.out).mono ?_
    rintro e w2 ⟨rfl, hb2⟩
    have hB2 : Below w.heap.size w w2 := Below.after (by go_grown) hb2
    obtain ⟨hc2, hf2⟩ := bcell hb2
    have hy2 := hb2.size
    try simp at hy2
    first | (with_reducible have hx2 := Nat.lt_of_succ_le hy2) | skip
    first | (with_reducible have hv2 := Nat.lt_of_succ_lt hx2) | skip
    first | (with_reducible have hu2 := Nat.lt_of_succ_lt hv2) | skip
    first | (have hz2 : w.heap.size < w2.heap.size := by omega) | (have hz2 := hB2.size)
    first | (have hq2 : w1.heap.size ≤ w2.heap.size := by omega) | skip
    first | (have hx1_2 := Nat.lt_of_lt_of_le hx1 hq2) | skip
    first | (have hv1_2 := Nat.lt_of_lt_of_le hv1 hq2) | skip
    first | (have hu1_2 := Nat.lt_of_lt_of_le hu1 hq2) | skip
    clear hb2
    go_wp2_with fail
    refine bodyPost_ret (v := .tuple #[.agg #[.int .i64 x, .int .i64 y, .int .i64 z], .agg #[.int .i64 p, .int .i64 q, .int .i64 r, .int .i64 s], .bool v]) (by simp [results, Try.results109, go_sem, *] <;> rfl) rfl ⟨rfl, by go_grown⟩
  · have H := Lib.hid h
    clear h
    simp only [zF, zM, Fm.mk.injEq, Mx.mk.injEq] at h1 h2
    obtain ⟨rfl, rfl, rfl⟩ := h1
    obtain ⟨rfl, rfl, rfl, rfl⟩ := h2
    subst h3
    go_enter Try.func109, Try.ntmps109
    go_wp2_with fail
    refine (impl_isIndefinite a b c false _ H.out).mono ?_
    rintro e w1 ⟨rfl, hb1⟩
    have hB1 : Below w.heap.size w w1 := Below.after (by go_grown) hb1
    obtain ⟨hc1, hf1⟩ := bcell hb1
    have hy1 := hb1.size
    try simp at hy1
    first | (with_reducible have hx1 := Nat.lt_of_succ_le hy1) | skip
    first | (with_reducible have hv1 := Nat.lt_of_succ_lt hx1) | skip
    first | (with_reducible have hu1 := Nat.lt_of_succ_lt hv1) | skip
    first | (have hz1 : w.heap.size < w1.heap.size := by omega) | (have hz1 := hB1.size)
    clear hb1
    go_wp2_with fail
    refine bodyPost_ret (v := .tuple #[.agg #[.int .i64 0, .int .i64 0, .int .i64 0], .agg #[.int .i64 0, .int .i64 0, .int .i64 0, .int .i64 0], .bool false]) (by simp [results, Try.results109, go_sem, *] <;> rfl) rfl ⟨rfl, by go_grown⟩
/-- two forms, field by field -/
theorem fm_eq {x y z a b c : Int} (h : (⟨x, y, z⟩ : Fm) = ⟨a, b, c⟩) : (x == a) = true ∧ (y == b) = true ∧ (z == c) = true := by
  simp only [Fm.mk.injEq] at h
  obtain ⟨rfl, rfl, rfl⟩ := h
  simp
theorem fm_ne {x y z a b c : Int} (h : (⟨x, y, z⟩ : Fm) ≠ ⟨a, b, c⟩) : (x == a) = false ∨ ((x == a) = true ∧ (y == b) = false) ∨ ((x == a) = true ∧ (y == b) = true ∧ (z == c) = false) := by
  by_cases h1 : x = a
  · by_cases h2 : y = b
    · by_cases h3 : z = c
      · subst h1 h2 h3; exact absurd rfl h
      · right; right; simp [h1, h2, h3]
    · right; left; simp [h1, h2]
  · left; simp [h1]
end Go.Proofs.Ytdonpiihjoihcaa
