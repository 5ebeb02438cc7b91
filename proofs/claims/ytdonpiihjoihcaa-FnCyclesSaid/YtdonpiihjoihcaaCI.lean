/- Contracts: whether a form is in a list of forms. -/
import Derived.Test.YtdonpiihjoihcaaCG
namespace Go.Proofs.Ytdonpiihjoihcaa
set_option linter.unusedVariables false
open Go.ChangeShapes Go.WideShapes Go.ChangeAt Go.RowKit

theorem mem_drop_step {l : List Fm} {k : Nat} {f g : Fm} (hk : k < l.length) (hg : l[k] = g) (hne : g ≠ f) : decide (f ∈ l.drop k) = decide (f ∈ l.drop (k + 1)) := by
  rw [List.drop_eq_getElem_cons hk, hg]
  simp only [List.mem_cons, Bool.decide_or]
  have : decide (f = g) = false := by simpa using fun e => hne e.symm
  rw [this, Bool.false_or]
theorem mem_drop_here {l : List Fm} {k : Nat} {f g : Fm} (hk : k < l.length) (hg : l[k] = g) (he : g = f) : decide (f ∈ l.drop k) = true := by
  rw [List.drop_eq_getElem_cons hk, hg, he]; simp
/-- field by field, the other way round -/
theorem fm_eq' {x y z a b c : Int} (h : (⟨x, y, z⟩ : Fm) = ⟨a, b, c⟩) : (a == x) = true ∧ (b == y) = true ∧ (c == z) = true := fm_eq h.symm
theorem fm_ne' {x y z a b c : Int} (h : (⟨x, y, z⟩ : Fm) ≠ ⟨a, b, c⟩) : (a == x) = false ∨ ((a == x) = true ∧ (b == y) = false) ∨ ((a == x) = true ∧ (b == y) = true ∧ (c == z) = false) := fm_ne fun e => h e.symm
theorem spec_cyHas (l : List Fm) (u : Value) (a b c : Int) (B : Nat) (v : Bool) (w : World) (hl : l.length ≤ 1000000) (hu : Fms w B u l) (hv : decide ((⟨a, b, c⟩ : Fm) ∈ l) = v) :
    Calls Try.prog 104 #[u, .agg #[.int .i64 a, .int .i64 b, .int .i64 c]] w fun e w' => e = .returned (.bool v) ∧ Below w.heap.size w w' := by
  obtain ⟨p, cp, rfl, _, hr⟩ := hu.view
  have Hr := Lib.hid hr
  have Hv := Lib.hid hv
  clear hr hu hv
  go_enter Try.func104, Try.ntmps104
  go_wp2_with fail
  go_loopw [9] (fun i wr => (∃ k : Nat, i = .int .i64 k ∧ k ≤ l.length ∧ decide ((⟨a, b, c⟩ : Fm) ∈ l.drop k) = v) ∧ Below w.heap.size w wr ∧ Holds wr w.heap.size (cF ⟨a, b, c⟩) 28) (fun i _ => l.length - (intOf i).toNat)
  case atStart => exact ⟨⟨0, rfl, by omega, by rw [List.drop_zero]; exact Hv.out⟩, by go_grown, Holds.new _ _ _⟩
  case round =>
    obtain ⟨⟨k, rfl, hk, hd⟩, hB, h1⟩ := hrel
    have Hd := Lib.hid hd
    have H1 := Lib.hid h1
    have hz := h1.lt
    clear hd
    by_cases hlt : k < l.length
    · obtain ⟨g, rfl, _, hg1, hc0, hc1, hc2, _⟩ := Hr.out k hlt
      rcases hx : l[k] with ⟨xa, xb, xc⟩
      rw [hx] at hc0 hc1 hc2
      have Hx := Lib.hid hx
      clear hx
      have d0 : wr.cell? ⟨g, k * 3, none⟩ = some (.int .i64 xa) := (hB.cell (p := ⟨g, k * 3, none⟩) hg1).trans hc0
      have d1 : wr.cell? ⟨g, k * 3 + 1, none⟩ = some (.int .i64 xb) := (hB.cell (p := ⟨g, k * 3 + 1, none⟩) hg1).trans hc1
      have d2 : wr.cell? ⟨g, k * 3 + 2, none⟩ = some (.int .i64 xc) := (hB.cell (p := ⟨g, k * 3 + 2, none⟩) hg1).trans hc2
      have y0 : wr.cell? ⟨w.heap.size, 0, none⟩ = some (.int .i64 a) := Holds.cell h1 rfl
      have y1 : wr.cell? ⟨w.heap.size, 1, none⟩ = some (.int .i64 b) := Holds.cell h1 rfl
      have y2 : wr.cell? ⟨w.heap.size, 2, none⟩ = some (.int .i64 c) := Holds.cell h1 rfl
      have yf0 : wr.frozen? ⟨w.heap.size, 0, none⟩ = false := Holds.free h1
      have yf1 : wr.frozen? ⟨w.heap.size, 1, none⟩ = false := Holds.free h1
      have yf2 : wr.frozen? ⟨w.heap.size, 2, none⟩ = false := Holds.free h1
      clear hc0 hc1 hc2 h1
      by_cases he : (⟨xa, xb, xc⟩ : Fm) = ⟨a, b, c⟩
      · obtain ⟨e1, e2, e3⟩ := fm_eq he
        obtain rfl : v = true := by rw [← Hd.out]; exact mem_drop_here hlt Hx.out he
        clear he
        go_wp2_with fail
        go_ret
        exact ⟨rfl, by go_grown⟩
      · have Hd' := Lib.hid ((mem_drop_step hlt Hx.out he).symm.trans Hd.out)
        rcases fm_ne he with e1 | ⟨e1, e2⟩ | ⟨e1, e2, e3⟩
        all_goals
          clear he
          go_wp2_with fail
          go_roundw
          case rel => exact ⟨⟨k + 1, by go_num, by omega, Hd'.out⟩, by go_grown, H1.out.alloc _⟩
          case measure => simp [intOf]; omega
    · obtain rfl : k = l.length := by omega
      obtain rfl : v = false := by rw [← Hd.out]; simp
      clear h1
      go_wp2_with fail
      go_ret
      exact ⟨rfl, hB⟩
theorem impl_hasForm (l : List Fm) (u : Value) (a b c : Int) (B : Nat) (v : Bool) (w : World) (hl : l.length ≤ 1000000) (hu : Fms w B u l) (hv : decide ((⟨a, b, c⟩ : Fm) ∈ l) = v) :
    Calls Try.prog 110 #[u, .agg #[.int .i64 a, .int .i64 b, .int .i64 c]] w fun e w' => e = .returned (.bool v) ∧ Below w.heap.size w w' := by
  obtain ⟨p, cp, rfl, _, hr⟩ := hu.view
  have Hr := Lib.hid hr
  have Hv := Lib.hid hv
  clear hr hu hv
  go_enter Try.func110, Try.ntmps110
  go_wp2_with fail
  go_loopw [9] (fun i wr => (∃ k : Nat, i = .int .i64 k ∧ k ≤ l.length ∧ decide ((⟨a, b, c⟩ : Fm) ∈ l.drop k) = v) ∧ Below w.heap.size w wr ∧ Holds wr w.heap.size (cF ⟨a, b, c⟩) 28) (fun i _ => l.length - (intOf i).toNat)
  case atStart => exact ⟨⟨0, rfl, by omega, by rw [List.drop_zero]; exact Hv.out⟩, by go_grown, Holds.new _ _ _⟩
  case round =>
    obtain ⟨⟨k, rfl, hk, hd⟩, hB, h1⟩ := hrel
    have Hd := Lib.hid hd
    have H1 := Lib.hid h1
    have hz := h1.lt
    clear hd
    by_cases hlt : k < l.length
    · obtain ⟨g, rfl, _, hg1, hc0, hc1, hc2, _⟩ := Hr.out k hlt
      rcases hx : l[k] with ⟨xa, xb, xc⟩
      rw [hx] at hc0 hc1 hc2
      have Hx := Lib.hid hx
      clear hx
      have d0 : wr.cell? ⟨g, k * 3, none⟩ = some (.int .i64 xa) := (hB.cell (p := ⟨g, k * 3, none⟩) hg1).trans hc0
      have d1 : wr.cell? ⟨g, k * 3 + 1, none⟩ = some (.int .i64 xb) := (hB.cell (p := ⟨g, k * 3 + 1, none⟩) hg1).trans hc1
      have d2 : wr.cell? ⟨g, k * 3 + 2, none⟩ = some (.int .i64 xc) := (hB.cell (p := ⟨g, k * 3 + 2, none⟩) hg1).trans hc2
      have y0 : wr.cell? ⟨w.heap.size, 0, none⟩ = some (.int .i64 a) := Holds.cell h1 rfl
      have y1 : wr.cell? ⟨w.heap.size, 1, none⟩ = some (.int .i64 b) := Holds.cell h1 rfl
      have y2 : wr.cell? ⟨w.heap.size, 2, none⟩ = some (.int .i64 c) := Holds.cell h1 rfl
      have yf0 : wr.frozen? ⟨w.heap.size, 0, none⟩ = false := Holds.free h1
      have yf1 : wr.frozen? ⟨w.heap.size, 1, none⟩ = false := Holds.free h1
      have yf2 : wr.frozen? ⟨w.heap.size, 2, none⟩ = false := Holds.free h1
      clear hc0 hc1 hc2 h1
      by_cases he : (⟨xa, xb, xc⟩ : Fm) = ⟨a, b, c⟩
      · obtain ⟨e1, e2, e3⟩ := fm_eq' he
        obtain rfl : v = true := by rw [← Hd.out]; exact mem_drop_here hlt Hx.out he
        clear he
        go_wp2_with fail
        go_ret
        exact ⟨rfl, by go_grown⟩
      · have Hd' := Lib.hid ((mem_drop_step hlt Hx.out he).symm.trans Hd.out)
        rcases fm_ne' he with e1 | ⟨e1, e2⟩ | ⟨e1, e2, e3⟩
        all_goals
          clear he
          go_wp2_with fail
          go_roundw
          case rel => exact ⟨⟨k + 1, by go_num, by omega, Hd'.out⟩, by go_grown, H1.out.alloc _⟩
          case measure => simp [intOf]; omega
    · obtain rfl : k = l.length := by omega
      obtain rfl : v = false := by rw [← Hd.out]; simp
      clear h1
      go_wp2_with fail
      go_ret
      exact ⟨rfl, hB⟩
end Go.Proofs.Ytdonpiihjoihcaa
