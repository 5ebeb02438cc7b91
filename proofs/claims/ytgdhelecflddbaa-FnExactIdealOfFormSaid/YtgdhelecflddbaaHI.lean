/- Contracts and the walk of the law: ideals of forms. -/
import Derived.Test.YtgdhelecflddbaaH
import Derived.Test.YtgdhelecflddbaaRL
import Derived.Test.YtgdhelecflddbaaBK
namespace Go.Proofs.Ytgdhelecflddbaa
set_option linter.unusedVariables false
open Go.ChangeShapes Go.WideShapes Go.ChangeAt Go.RowKit

/-! ideals of forms -/
theorem impl_validIdeal_yes (d s a b : Int) (w : World) (h : idealB d s a b = true) :
    Calls Try.prog 71 #[.int .i64 d, .agg #[.int .i64 s, .int .i64 a, .int .i64 b]] w fun e w' => e = .returned (.tuple #[.agg #[.int .i64 s, .int .i64 a, .int .i64 b], .bool true]) ∧ Below w.heap.size w w' := by
  have H := Lib.hid h
  clear h
  go_enter Try.func71, Try.ntmps71
  go_wp2_with fail
  refine (impl_isIdeal d s a b true _ H.out).mono ?_
  rintro e w1 ⟨rfl, hb1⟩
  have hB1 : Below w.heap.size w w1 := Below.after (by go_grown) hb1
  obtain ⟨hc1, hf1⟩ := bcell hb1
  have hy1 := hb1.size
  try simp at hy1
  first | (with_reducible have hx1 := Nat.lt_of_succ_le hy1) | skip
  first | (with_reducible have hv1 := Nat.lt_of_succ_lt hx1) | skip
  first | (with_reducible have hu1 := Nat.lt_of_succ_lt hv1) | skip
  first | (have hz1 : w.heap.size < w1.heap.size := by omega) | (have hz1 := hB1.size)
  clear hb1
  go_wp2_with fail
  refine bodyPost_ret (v := .tuple #[.agg #[.int .i64 s, .int .i64 a, .int .i64 b], .bool true]) (by simp [results, Try.results71, go_sem, *] <;> rfl) rfl ⟨rfl, by go_grown⟩
theorem impl_validIdeal_no (d s a b : Int) (w : World) (h : idealB d s a b = false) :
    Calls Try.prog 71 #[.int .i64 d, .agg #[.int .i64 s, .int .i64 a, .int .i64 b]] w fun e w' => e = .returned (.tuple #[.agg #[.int .i64 0, .int .i64 0, .int .i64 0], .bool false]) ∧ Below w.heap.size w w' := by
  have H := Lib.hid h
  clear h
  go_enter Try.func71, Try.ntmps71
  go_wp2_with fail
  refine (impl_isIdeal d s a b false _ H.out).mono ?_
  rintro e w1 ⟨rfl, hb1⟩
  have hB1 : Below w.heap.size w w1 := Below.after (by go_grown) hb1
  obtain ⟨hc1, hf1⟩ := bcell hb1
  have hy1 := hb1.size
  try simp at hy1
  first | (with_reducible have hx1 := Nat.lt_of_succ_le hy1) | skip
  first | (with_reducible have hv1 := Nat.lt_of_succ_lt hx1) | skip
  first | (with_reducible have hu1 := Nat.lt_of_succ_lt hv1) | skip
  first | (have hz1 : w.heap.size < w1.heap.size := by omega) | (have hz1 := hB1.size)
  clear hb1
  go_wp2_with fail
  refine bodyPost_ret (v := .tuple #[.agg #[.int .i64 0, .int .i64 0, .int .i64 0], .bool false]) (by simp [results, Try.results71, go_sem, *] <;> rfl) rfl ⟨rfl, by go_grown⟩
def c3 (a b c : Int) : Array Value := #[.int .i64 a, .int .i64 b, .int .i64 c]
def iofB (a b c : Int) : Bool := shownB a b c && decide (a ≤ 10000)
theorem impl_IdealOfForm_yes (a b c : Int) (w : World) (h : iofB a b c = true) :
    Calls Try.prog 41 #[.agg #[.int .i64 a, .int .i64 b, .int .i64 c]] w fun e w' => e = .returned (.tuple #[.agg #[.int .i64 1, .int .i64 a, .int .i64 (b % (2 * a))], .bool true]) ∧ Below w.heap.size w w' := by
  have hs : shownB a b c = true := by unfold iofB at h; simp_all
  have hd : definB a b c = true ∧ -2000 ≤ disc a b c := by simpa [shownB] using hs
  have ha : a ≤ 10000 := by unfold iofB at h; simp_all
  have ha0 := (definB_iff.1 hd.1).2.2
  have Hi := Lib.hid (show idealB (disc a b c) 1 a (b % (2 * a)) = true by rw [idealOfForm_law hd.1 hd.2]; simpa using ha)
  clear h hd
  have H := Lib.hid hs
  clear hs
  go_enter Try.func41, Try.ntmps41
  go_wp2_with fail
  refine (impl_isShownForm a b c true _ H.out).mono ?_
  rintro e w1 ⟨rfl, hb1⟩
  have hB1 : Below w.heap.size w w1 := Below.after (by go_grown) hb1
  have a1 : Holds w1 w.heap.size (c3 a b c) 35 := by
    refine Holds.below ?_ hb1
    repeat (first | (refine Holds.new' _ _ _ ?_; simp; done) | refine Holds.alloc ?_ _ | refine Holds.far ?_ (by first | omega | (simp; done) | (simp; omega)))
  have a2 : Holds w1 (w.heap.size + 1) (c3 0 0 0) 25 := by
    refine Holds.below ?_ hb1
    repeat (first | (refine Holds.new' _ _ _ ?_; simp; done) | refine Holds.alloc ?_ _ | refine Holds.far ?_ (by first | omega | (simp; done) | (simp; omega)))
  clear hb1
  go_wp2_with fail
  have y0 : ∀ x' : Aft w1, x'.w.cell? ⟨w.heap.size, 0, none⟩ = some (.int .i64 a) := fun x' => x'.cell (Holds.lt a1) (Holds.cell a1 rfl)
  have y1 : ∀ x' : Aft w1, x'.w.cell? ⟨w.heap.size, 1, none⟩ = some (.int .i64 b) := fun x' => x'.cell (Holds.lt a1) (Holds.cell a1 rfl)
  have y2 : ∀ x' : Aft w1, x'.w.cell? ⟨w.heap.size, 2, none⟩ = some (.int .i64 c) := fun x' => x'.cell (Holds.lt a1) (Holds.cell a1 rfl)
  refine region_aft_tail_late 14 13 14 (by kernel_rfl) (by kernel_rfl) (fun _ _ _ _ _ h => h) ?_
  simp only [List.take_succ_cons, List.take_zero, List.drop_succ_cons, List.drop_zero]
  repeat go_big_quiet_step ((first | (go_at_call 72; exact callsAft (impl_disc a b c _ (shownB_good H.out))) | (go_at_call 73; exact callsAft_same (impl_mod b (2 * a) _ (by omega) (by omega))) | (go_at_call 71; exact callsAft (impl_validIdeal_yes _ _ _ _ _ Hi.out))))
  refine wpQuiet_nil ?_
  intro w2 hb2
  have hB2 : Below w.heap.size w w2 := Below.after hB1 hb2
  have b2 := a2.below hb2
  have u0 : w2.cell? ⟨w.heap.size + 1, 0, none⟩ = some (.int .i64 0) := Holds.cell b2 rfl
  have u1 : w2.cell? ⟨w.heap.size + 1, 1, none⟩ = some (.int .i64 0) := Holds.cell b2 rfl
  have u2 : w2.cell? ⟨w.heap.size + 1, 2, none⟩ = some (.int .i64 0) := Holds.cell b2 rfl
  have uf0 : w2.frozen? ⟨w.heap.size + 1, 0, none⟩ = false := Holds.free b2
  have uf1 : w2.frozen? ⟨w.heap.size + 1, 1, none⟩ = false := Holds.free b2
  have uf2 : w2.frozen? ⟨w.heap.size + 1, 2, none⟩ = false := Holds.free b2
  clear hb2 hB1 a1 a2 y0 y1 y2
  go_wp2_with fail
  refine bodyPost_ret (v := .tuple #[.agg #[.int .i64 1, .int .i64 a, .int .i64 (b % (2 * a))], .bool true]) (by simp [results, Try.results41, go_sem, *] <;> rfl) rfl ⟨rfl, by go_grown⟩
theorem impl_IdealOfForm_no (a b c : Int) (w : World) (h : iofB a b c = false) :
    Calls Try.prog 41 #[.agg #[.int .i64 a, .int .i64 b, .int .i64 c]] w fun e w' => e = .returned (.tuple #[.agg #[.int .i64 0, .int .i64 0, .int .i64 0], .bool false]) ∧ Below w.heap.size w w' := by
  by_cases hs : shownB a b c = true
  · have hd : definB a b c = true ∧ -2000 ≤ disc a b c := by simpa [shownB] using hs
    have ha : 10000 < a := by unfold iofB at h; simp_all
    have ha1 := (good3_iff.1 (shownB_good hs)).1.2
    have Hi := Lib.hid (show idealB (disc a b c) 1 a (b % (2 * a)) = false by rw [idealOfForm_law hd.1 hd.2]; simpa using ha)
    clear h hd
    have H := Lib.hid hs
    clear hs
    go_enter Try.func41, Try.ntmps41
    go_wp2_with fail
    refine (impl_isShownForm a b c true _ H.out).mono ?_
    rintro e w1 ⟨rfl, hb1⟩
    have hB1 : Below w.heap.size w w1 := Below.after (by go_grown) hb1
    have a1 : Holds w1 w.heap.size (c3 a b c) 35 := by
      refine Holds.below ?_ hb1
      repeat (first | (refine Holds.new' _ _ _ ?_; simp; done) | refine Holds.alloc ?_ _ | refine Holds.far ?_ (by first | omega | (simp; done) | (simp; omega)))
    have a2 : Holds w1 (w.heap.size + 1) (c3 0 0 0) 25 := by
      refine Holds.below ?_ hb1
      repeat (first | (refine Holds.new' _ _ _ ?_; simp; done) | refine Holds.alloc ?_ _ | refine Holds.far ?_ (by first | omega | (simp; done) | (simp; omega)))
    clear hb1
    go_wp2_with fail
    have y0 : ∀ x' : Aft w1, x'.w.cell? ⟨w.heap.size, 0, none⟩ = some (.int .i64 a) := fun x' => x'.cell (Holds.lt a1) (Holds.cell a1 rfl)
    have y1 : ∀ x' : Aft w1, x'.w.cell? ⟨w.heap.size, 1, none⟩ = some (.int .i64 b) := fun x' => x'.cell (Holds.lt a1) (Holds.cell a1 rfl)
    have y2 : ∀ x' : Aft w1, x'.w.cell? ⟨w.heap.size, 2, none⟩ = some (.int .i64 c) := fun x' => x'.cell (Holds.lt a1) (Holds.cell a1 rfl)
    refine region_aft_tail_late 14 13 14 (by kernel_rfl) (by kernel_rfl) (fun _ _ _ _ _ h => h) ?_
    simp only [List.take_succ_cons, List.take_zero, List.drop_succ_cons, List.drop_zero]
    repeat go_big_quiet_step ((first | (go_at_call 72; exact callsAft (impl_disc a b c _ (shownB_good H.out))) | (go_at_call 73; exact callsAft_same (impl_mod b (2 * a) _ (by omega) (by omega))) | (go_at_call 71; exact callsAft (impl_validIdeal_no _ _ _ _ _ Hi.out))))
    refine wpQuiet_nil ?_
    intro w2 hb2
    have hB2 : Below w.heap.size w w2 := Below.after hB1 hb2
    have b2 := a2.below hb2
    have u0 : w2.cell? ⟨w.heap.size + 1, 0, none⟩ = some (.int .i64 0) := Holds.cell b2 rfl
    have u1 : w2.cell? ⟨w.heap.size + 1, 1, none⟩ = some (.int .i64 0) := Holds.cell b2 rfl
    have u2 : w2.cell? ⟨w.heap.size + 1, 2, none⟩ = some (.int .i64 0) := Holds.cell b2 rfl
    have uf0 : w2.frozen? ⟨w.heap.size + 1, 0, none⟩ = false := Holds.free b2
    have uf1 : w2.frozen? ⟨w.heap.size + 1, 1, none⟩ = false := Holds.free b2
    have uf2 : w2.frozen? ⟨w.heap.size + 1, 2, none⟩ = false := Holds.free b2
    clear hb2 hB1 a1 a2 y0 y1 y2
    go_wp2_with fail
    refine bodyPost_ret (v := .tuple #[.agg #[.int .i64 0, .int .i64 0, .int .i64 0], .bool false]) (by simp [results, Try.results41, go_sem, *] <;> rfl) rfl ⟨rfl, by go_grown⟩
  · clear h
    have H := Lib.hid (Bool.not_eq_true _ ▸ hs)
    clear hs
    go_enter Try.func41, Try.ntmps41
    go_wp2_with fail
    refine (impl_isShownForm a b c false _ H.out).mono ?_
    rintro e w1 ⟨rfl, hb1⟩
    have hB1 : Below w.heap.size w w1 := Below.after (by go_grown) hb1
    obtain ⟨hc1, hf1⟩ := bcell hb1
    have hy1 := hb1.size
    try simp at hy1
    first | (with_reducible have hx1 := Nat.lt_of_succ_le hy1) | skip
    first | (with_reducible have hv1 := Nat.lt_of_succ_lt hx1) | skip
    first | (with_reducible have hu1 := Nat.lt_of_succ_lt hv1) | skip
    first | (have hz1 : w.heap.size < w1.heap.size := by omega) | (have hz1 := hB1.size)
    clear hb1
    go_wp2_with fail
    refine bodyPost_ret (v := .tuple #[.agg #[.int .i64 0, .int .i64 0, .int .i64 0], .bool false]) (by simp [results, Try.results41, go_sem, *] <;> rfl) rfl ⟨rfl, by go_grown⟩
theorem spec_IdealOfForm_yes (a b c : Int) (w : World) (h : iofB a b c = true) :
    Calls Try.prog 40 #[.agg #[.int .i64 a, .int .i64 b, .int .i64 c]] w fun e w' => e = .returned (.tuple #[.agg #[.int .i64 1, .int .i64 a, .int .i64 (b % (2 * a))], .bool true]) ∧ Below w.heap.size w w' := by
  have hs : shownB a b c = true := by unfold iofB at h; simp_all
  have hd : definB a b c = true ∧ -2000 ≤ disc a b c := by simpa [shownB] using hs
  have ha : a ≤ 10000 := by unfold iofB at h; simp_all
  have ha0 := (definB_iff.1 hd.1).2.2
  have Hn := Lib.hid (shown_disc hd.1 hd.2)
  obtain ⟨hd, _⟩ := hd
  clear h hs
  have H := Lib.hid hd
  clear hd
  go_enter Try.func40, Try.ntmps40
  go_wp2_with fail
  refine (spec_foDefinite a b c true _ H.out).mono ?_
  rintro e w1 ⟨rfl, hb1⟩
  have hB1 : Below w.heap.size w w1 := Below.after (by go_grown) hb1
  have a1 : Holds w1 w.heap.size (c3 a b c) 35 := by
    refine Holds.below ?_ hb1
    repeat (first | (refine Holds.new' _ _ _ ?_; simp; done) | refine Holds.alloc ?_ _ | refine Holds.far ?_ (by first | omega | (simp; done) | (simp; omega)))
  have a2 : Holds w1 (w.heap.size + 1) (c3 0 0 0) 25 := by
    refine Holds.below ?_ hb1
    repeat (first | (refine Holds.new' _ _ _ ?_; simp; done) | refine Holds.alloc ?_ _ | refine Holds.far ?_ (by first | omega | (simp; done) | (simp; omega)))
  clear hb1
  have y0 : w1.cell? ⟨w.heap.size, 0, none⟩ = some (.int .i64 a) := Holds.cell a1 rfl
  have y1 : w1.cell? ⟨w.heap.size, 1, none⟩ = some (.int .i64 b) := Holds.cell a1 rfl
  have y2 : w1.cell? ⟨w.heap.size, 2, none⟩ = some (.int .i64 c) := Holds.cell a1 rfl
  have yf0 : w1.frozen? ⟨w.heap.size, 0, none⟩ = false := Holds.free a1
  have yf1 : w1.frozen? ⟨w.heap.size, 1, none⟩ = false := Holds.free a1
  have yf2 : w1.frozen? ⟨w.heap.size, 2, none⟩ = false := Holds.free a1
  go_wp2_with fail
  refine (spec_foDisc a b c _ (definB_good H.out)).mono ?_
  rintro e w2 ⟨rfl, hb2⟩
  have hB2 : Below w.heap.size w w2 := Below.after (by go_grown) hb2
  clear y0 y1 y2 yf0 yf1 yf2
  have b1 := Holds.below a1 hb2
  have b2 := Holds.below a2 hb2
  clear hb2 hB1 a1 a2
  have y0 : w2.cell? ⟨w.heap.size, 0, none⟩ = some (.int .i64 a) := Holds.cell b1 rfl
  have y1 : w2.cell? ⟨w.heap.size, 1, none⟩ = some (.int .i64 b) := Holds.cell b1 rfl
  have y2 : w2.cell? ⟨w.heap.size, 2, none⟩ = some (.int .i64 c) := Holds.cell b1 rfl
  have yf0 : w2.frozen? ⟨w.heap.size, 0, none⟩ = false := Holds.free b1
  have yf1 : w2.frozen? ⟨w.heap.size, 1, none⟩ = false := Holds.free b1
  have yf2 : w2.frozen? ⟨w.heap.size, 2, none⟩ = false := Holds.free b1
  go_wp2_with fail
  refine (spec_reDisc _ true _ Hn.out).mono ?_
  rintro e w' ⟨rfl, rfl⟩
  go_wp2_with fail
  clear y0 y1 y2 yf0 yf1 yf2
  have y0 : ∀ x' : Aft w2, x'.w.cell? ⟨w.heap.size, 0, none⟩ = some (.int .i64 a) := fun x' => x'.cell (Holds.lt b1) (Holds.cell b1 rfl)
  have y1 : ∀ x' : Aft w2, x'.w.cell? ⟨w.heap.size, 1, none⟩ = some (.int .i64 b) := fun x' => x'.cell (Holds.lt b1) (Holds.cell b1 rfl)
  have y2 : ∀ x' : Aft w2, x'.w.cell? ⟨w.heap.size, 2, none⟩ = some (.int .i64 c) := fun x' => x'.cell (Holds.lt b1) (Holds.cell b1 rfl)
  refine region_aft_tail 9 (by kernel_rfl) (by kernel_rfl) ?_
  simp only [List.take_succ_cons, List.take_zero, List.drop_succ_cons, List.drop_zero]
  repeat go_big_quiet_step ((go_at_call 49; exact callsAft_same (spec_nuMod b (2 * a) _ (by omega) (by omega))))
  refine wpQuiet_nil ?_
  intro w3 hb3
  have hB3 : Below w.heap.size w w3 := Below.after hB2 hb3
  have k2 := b2.below hb3
  have u0 : w3.cell? ⟨w.heap.size + 1, 0, none⟩ = some (.int .i64 0) := Holds.cell k2 rfl
  have u1 : w3.cell? ⟨w.heap.size + 1, 1, none⟩ = some (.int .i64 0) := Holds.cell k2 rfl
  have u2 : w3.cell? ⟨w.heap.size + 1, 2, none⟩ = some (.int .i64 0) := Holds.cell k2 rfl
  have uf0 : w3.frozen? ⟨w.heap.size + 1, 0, none⟩ = false := Holds.free k2
  have uf1 : w3.frozen? ⟨w.heap.size + 1, 1, none⟩ = false := Holds.free k2
  have uf2 : w3.frozen? ⟨w.heap.size + 1, 2, none⟩ = false := Holds.free k2
  clear hb3 hB2 b1 b2 y0 y1 y2
  go_wp2_with fail
  refine bodyPost_ret (v := .tuple #[.agg #[.int .i64 1, .int .i64 a, .int .i64 (b % (2 * a))], .bool true]) (by simp [results, Try.results40, go_sem, *] <;> rfl) rfl ⟨rfl, by go_grown⟩
theorem spec_IdealOfForm_no (a b c : Int) (w : World) (h : iofB a b c = false) :
    Calls Try.prog 40 #[.agg #[.int .i64 a, .int .i64 b, .int .i64 c]] w fun e w' => e = .returned (.tuple #[.agg #[.int .i64 0, .int .i64 0, .int .i64 0], .bool false]) ∧ Below w.heap.size w w' := by
  by_cases hd : definB a b c = true
  · by_cases hn : -2000 ≤ disc a b c
    · have ha : 10000 < a := by unfold iofB shownB at h; simp_all
      have Hn := Lib.hid (shown_disc hd hn)
      clear h hn
      have H := Lib.hid hd
      clear hd
      go_enter Try.func40, Try.ntmps40
      go_wp2_with fail
      refine (spec_foDefinite a b c true _ H.out).mono ?_
      rintro e w1 ⟨rfl, hb1⟩
      have hB1 : Below w.heap.size w w1 := Below.after (by go_grown) hb1
      obtain ⟨hc1, hf1⟩ := bcell hb1
      have hy1 := hb1.size
      try simp at hy1
      first | (with_reducible have hx1 := Nat.lt_of_succ_le hy1) | skip
      first | (with_reducible have hv1 := Nat.lt_of_succ_lt hx1) | skip
      first | (with_reducible have hu1 := Nat.lt_of_succ_lt hv1) | skip
      first | (have hz1 : w.heap.size < w1.heap.size := by omega) | (have hz1 := hB1.size)
      clear hb1
      go_wp2_with fail
      refine (spec_foDisc a b c _ (definB_good H.out)).mono ?_
      rintro e w2 ⟨rfl, hb2⟩
      have hB2 : Below w.heap.size w w2 := Below.after (by go_grown) hb2
      obtain ⟨hc2, hf2⟩ := bcell hb2
      have hy2 := hb2.size
      try simp at hy2
      first | (with_reducible have hx2 := Nat.lt_of_succ_le hy2) | skip
      first | (with_reducible have hv2 := Nat.lt_of_succ_lt hx2) | skip
      first | (with_reducible have hu2 := Nat.lt_of_succ_lt hv2) | skip
      first | (have hz2 : w.heap.size < w2.heap.size := by omega) | (have hz2 := hB2.size)
      first | (have hq2 : w1.heap.size ≤ w2.heap.size := by omega) | skip
      first | (have hx1_2 := Nat.lt_of_lt_of_le hx1 hq2) | skip
      first | (have hv1_2 := Nat.lt_of_lt_of_le hv1 hq2) | skip
      first | (have hu1_2 := Nat.lt_of_lt_of_le hu1 hq2) | skip
      clear hb2
      go_wp2_with fail
      refine (spec_reDisc _ true _ Hn.out).mono ?_
      rintro e w' ⟨rfl, rfl⟩
      go_wp2_with fail
      refine bodyPost_ret (v := .tuple #[.agg #[.int .i64 0, .int .i64 0, .int .i64 0], .bool false]) (by simp [results, Try.results40, go_sem, *] <;> rfl) rfl ⟨rfl, by go_grown⟩
    · have Hn := Lib.hid (show negD (disc a b c) = false by rw [← Bool.not_eq_true, negD_iff]; omega)
      clear h hn
      have H := Lib.hid hd
      clear hd
      go_enter Try.func40, Try.ntmps40
      go_wp2_with fail
      refine (spec_foDefinite a b c true _ H.out).mono ?_
      rintro e w1 ⟨rfl, hb1⟩
      have hB1 : Below w.heap.size w w1 := Below.after (by go_grown) hb1
      obtain ⟨hc1, hf1⟩ := bcell hb1
      have hy1 := hb1.size
      try simp at hy1
      first | (with_reducible have hx1 := Nat.lt_of_succ_le hy1) | skip
      first | (with_reducible have hv1 := Nat.lt_of_succ_lt hx1) | skip
      first | (with_reducible have hu1 := Nat.lt_of_succ_lt hv1) | skip
      first | (have hz1 : w.heap.size < w1.heap.size := by omega) | (have hz1 := hB1.size)
      clear hb1
      go_wp2_with fail
      refine (spec_foDisc a b c _ (definB_good H.out)).mono ?_
      rintro e w2 ⟨rfl, hb2⟩
      have hB2 : Below w.heap.size w w2 := Below.after (by go_grown) hb2
      obtain ⟨hc2, hf2⟩ := bcell hb2
      have hy2 := hb2.size
      try simp at hy2
      first | (with_reducible have hx2 := Nat.lt_of_succ_le hy2) | skip
      first | (with_reducible have hv2 := Nat.lt_of_succ_lt hx2) | skip
      first | (with_reducible have hu2 := Nat.lt_of_succ_lt hv2) | skip
      first | (have hz2 : w.heap.size < w2.heap.size := by omega) | (have hz2 := hB2.size)
      first | (have hq2 : w1.heap.size ≤ w2.heap.size := by omega) | skip
      first | (have hx1_2 := Nat.lt_of_lt_of_le hx1 hq2) | skip
      first | (have hv1_2 := Nat.lt_of_lt_of_le hv1 hq2) | skip
      first | (have hu1_2 := Nat.lt_of_lt_of_le hu1 hq2) | skip
      clear hb2
      go_wp2_with fail
      refine (spec_reDisc _ false _ Hn.out).mono ?_
      rintro e w' ⟨rfl, rfl⟩
      go_wp2_with fail
      refine bodyPost_ret (v := .tuple #[.agg #[.int .i64 0, .int .i64 0, .int .i64 0], .bool false]) (by simp [results, Try.results40, go_sem, *] <;> rfl) rfl ⟨rfl, by go_grown⟩
  · clear h
    have H := Lib.hid (Bool.not_eq_true _ ▸ hd)
    clear hd
    go_enter Try.func40, Try.ntmps40
    go_wp2_with fail
    refine (spec_foDefinite a b c false _ H.out).mono ?_
    rintro e w1 ⟨rfl, hb1⟩
    have hB1 : Below w.heap.size w w1 := Below.after (by go_grown) hb1
    obtain ⟨hc1, hf1⟩ := bcell hb1
    have hy1 := hb1.size
    try simp at hy1
    first | (with_reducible have hx1 := Nat.lt_of_succ_le hy1) | skip
    first | (with_reducible have hv1 := Nat.lt_of_succ_lt hx1) | skip
    first | (with_reducible have hu1 := Nat.lt_of_succ_lt hv1) | skip
    first | (have hz1 : w.heap.size < w1.heap.size := by omega) | (have hz1 := hB1.size)
    clear hb1
    go_wp2_with fail
    refine bodyPost_ret (v := .tuple #[.agg #[.int .i64 0, .int .i64 0, .int .i64 0], .bool false]) (by simp [results, Try.results40, go_sem, *] <;> rfl) rfl ⟨rfl, by go_grown⟩
theorem walkIdealOfForm (a b c : Int) (w : World) (wa : (Lit.int .i64 a).wf = true) (wb : (Lit.int .i64 b).wf = true) (wc : (Lit.int .i64 c).wf = true) :
    Calls Try.prog 12 #[.agg #[.int .i64 a, .int .i64 b, .int .i64 c]] w fun e w' => e = .returned (.bool true) ∧ Below w.heap.size w w' := by
  clear wa wb wc
  by_cases h : iofB a b c = true
  · have H := Lib.hid h
    clear h
    go_enter Try.func12, Try.ntmps12
    go_wp2_with fail
    refine (laws_toForm a b c _).mono ?_
    rintro e w1 ⟨rfl, hb1⟩
    have hB1 : Below w.heap.size w w1 := Below.after (by go_grown) hb1
    obtain ⟨hc1, hf1⟩ := bcell hb1
    have hy1 := hb1.size
    try simp at hy1
    first | (with_reducible have hx1 := Nat.lt_of_succ_le hy1) | skip
    first | (with_reducible have hv1 := Nat.lt_of_succ_lt hx1) | skip
    first | (with_reducible have hu1 := Nat.lt_of_succ_lt hv1) | skip
    first | (have hz1 : w.heap.size < w1.heap.size := by omega) | (have hz1 := hB1.size)
    clear hb1
    go_wp2_with fail
    refine (spec_IdealOfForm_yes a b c _ H.out).mono ?_
    rintro e w2 ⟨rfl, hb2⟩
    have hB2 : Below w.heap.size w w2 := Below.after (by go_grown) hb2
    obtain ⟨hc2, hf2⟩ := bcell hb2
    have hy2 := hb2.size
    try simp at hy2
    first | (with_reducible have hx2 := Nat.lt_of_succ_le hy2) | skip
    first | (with_reducible have hv2 := Nat.lt_of_succ_lt hx2) | skip
    first | (with_reducible have hu2 := Nat.lt_of_succ_lt hv2) | skip
    first | (have hz2 : w.heap.size < w2.heap.size := by omega) | (have hz2 := hB2.size)
    first | (have hq2 : w1.heap.size ≤ w2.heap.size := by omega) | skip
    first | (have hx1_2 := Nat.lt_of_lt_of_le hx1 hq2) | skip
    first | (have hv1_2 := Nat.lt_of_lt_of_le hv1 hq2) | skip
    first | (have hu1_2 := Nat.lt_of_lt_of_le hu1 hq2) | skip
    clear hb2
    go_wp2_with fail
    refine (laws_toForm a b c _).mono ?_
    rintro e w3 ⟨rfl, hb3⟩
    have hB3 : Below w.heap.size w w3 := Below.after (by go_grown) hb3
    obtain ⟨hc3, hf3⟩ := bcell hb3
    have hy3 := hb3.size
    try simp at hy3
    first | (with_reducible have hx3 := Nat.lt_of_succ_le hy3) | skip
    first | (with_reducible have hv3 := Nat.lt_of_succ_lt hx3) | skip
    first | (with_reducible have hu3 := Nat.lt_of_succ_lt hv3) | skip
    first | (have hz3 : w.heap.size < w3.heap.size := by omega) | (have hz3 := hB3.size)
    first | (have hq3 : w2.heap.size ≤ w3.heap.size := by omega) | skip
    first | (have hx1_3 := Nat.lt_of_lt_of_le hx1_2 hq3) | skip
    first | (have hv1_3 := Nat.lt_of_lt_of_le hv1_2 hq3) | skip
    first | (have hu1_3 := Nat.lt_of_lt_of_le hu1_2 hq3) | skip
    first | (have hx2_3 := Nat.lt_of_lt_of_le hx2 hq3) | skip
    first | (have hv2_3 := Nat.lt_of_lt_of_le hv2 hq3) | skip
    first | (have hu2_3 := Nat.lt_of_lt_of_le hu2 hq3) | skip
    clear hb3
    go_wp2_with fail
    refine (impl_IdealOfForm_yes a b c _ H.out).mono ?_
    rintro e w4 ⟨rfl, hb4⟩
    have hB4 : Below w.heap.size w w4 := Below.after (by go_grown) hb4
    obtain ⟨hc4, hf4⟩ := bcell hb4
    have hy4 := hb4.size
    try simp at hy4
    first | (with_reducible have hx4 := Nat.lt_of_succ_le hy4) | skip
    first | (with_reducible have hv4 := Nat.lt_of_succ_lt hx4) | skip
    first | (with_reducible have hu4 := Nat.lt_of_succ_lt hv4) | skip
    first | (have hz4 : w.heap.size < w4.heap.size := by omega) | (have hz4 := hB4.size)
    first | (have hq4 : w3.heap.size ≤ w4.heap.size := by omega) | skip
    first | (have hx1_4 := Nat.lt_of_lt_of_le hx1_3 hq4) | skip
    first | (have hv1_4 := Nat.lt_of_lt_of_le hv1_3 hq4) | skip
    first | (have hu1_4 := Nat.lt_of_lt_of_le hu1_3 hq4) | skip
    first | (have hx2_4 := Nat.lt_of_lt_of_le hx2_3 hq4) | skip
    first | (have hv2_4 := Nat.lt_of_lt_of_le hv2_3 hq4) | skip
    first | (have hu2_4 := Nat.lt_of_lt_of_le hu2_3 hq4) | skip
    first | (have hx3_4 := Nat.lt_of_lt_of_le hx3 hq4) | skip
    first | (have hv3_4 := Nat.lt_of_lt_of_le hv3 hq4) | skip
    first | (have hu3_4 := Nat.lt_of_lt_of_le hu3 hq4) | skip
    clear hb4
    go_wp2_with fail
    refine (laws_eqIdeal 1 a _ _).mono ?_
    rintro e w5 ⟨rfl, hb5⟩
    have hB5 : Below w.heap.size w w5 := Below.after (by go_grown) hb5
    obtain ⟨hc5, hf5⟩ := bcell hb5
    have hy5 := hb5.size
    try simp at hy5
    first | (with_reducible have hx5 := Nat.lt_of_succ_le hy5) | skip
    first | (with_reducible have hv5 := Nat.lt_of_succ_lt hx5) | skip
    first | (with_reducible have hu5 := Nat.lt_of_succ_lt hv5) | skip
    first | (have hz5 : w.heap.size < w5.heap.size := by omega) | (have hz5 := hB5.size)
    first | (have hq5 : w4.heap.size ≤ w5.heap.size := by omega) | skip
    first | (have hx1_5 := Nat.lt_of_lt_of_le hx1_4 hq5) | skip
    first | (have hv1_5 := Nat.lt_of_lt_of_le hv1_4 hq5) | skip
    first | (have hu1_5 := Nat.lt_of_lt_of_le hu1_4 hq5) | skip
    first | (have hx2_5 := Nat.lt_of_lt_of_le hx2_4 hq5) | skip
    first | (have hv2_5 := Nat.lt_of_lt_of_le hv2_4 hq5) | skip
    first | (have hu2_5 := Nat.lt_of_lt_of_le hu2_4 hq5) | skip
    first | (have hx3_5 := Nat.lt_of_lt_of_le hx3_4 hq5) | skip
    first | (have hv3_5 := Nat.lt_of_lt_of_le hv3_4 hq5) | skip
    first | (have hu3_5 := Nat.lt_of_lt_of_le hu3_4 hq5) | skip
    first | (have hx4_5 := Nat.lt_of_lt_of_le hx4 hq5) | skip
    first | (have hv4_5 := Nat.lt_of_lt_of_le hv4 hq5) | skip
    first | (have hu4_5 := Nat.lt_of_lt_of_le hu4 hq5) | skip
    clear hb5
    go_wp2_with fail
    go_ret
    exact ⟨rfl, by go_grown⟩
  · have H := Lib.hid (Bool.not_eq_true _ ▸ h)
    clear h
    go_enter Try.func12, Try.ntmps12
    go_wp2_with fail
    refine (laws_toForm a b c _).mono ?_
    rintro e w1 ⟨rfl, hb1⟩
    have hB1 : Below w.heap.size w w1 := Below.after (by go_grown) hb1
    obtain ⟨hc1, hf1⟩ := bcell hb1
    have hy1 := hb1.size
    try simp at hy1
    first | (with_reducible have hx1 := Nat.lt_of_succ_le hy1) | skip
    first | (with_reducible have hv1 := Nat.lt_of_succ_lt hx1) | skip
    first | (with_reducible have hu1 := Nat.lt_of_succ_lt hv1) | skip
    first | (have hz1 : w.heap.size < w1.heap.size := by omega) | (have hz1 := hB1.size)
    clear hb1
    go_wp2_with fail
    refine (spec_IdealOfForm_no a b c _ H.out).mono ?_
    rintro e w2 ⟨rfl, hb2⟩
    have hB2 : Below w.heap.size w w2 := Below.after (by go_grown) hb2
    obtain ⟨hc2, hf2⟩ := bcell hb2
    have hy2 := hb2.size
    try simp at hy2
    first | (with_reducible have hx2 := Nat.lt_of_succ_le hy2) | skip
    first | (with_reducible have hv2 := Nat.lt_of_succ_lt hx2) | skip
    first | (with_reducible have hu2 := Nat.lt_of_succ_lt hv2) | skip
    first | (have hz2 : w.heap.size < w2.heap.size := by omega) | (have hz2 := hB2.size)
    first | (have hq2 : w1.heap.size ≤ w2.heap.size := by omega) | skip
    first | (have hx1_2 := Nat.lt_of_lt_of_le hx1 hq2) | skip
    first | (have hv1_2 := Nat.lt_of_lt_of_le hv1 hq2) | skip
    first | (have hu1_2 := Nat.lt_of_lt_of_le hu1 hq2) | skip
    clear hb2
    go_wp2_with fail
    refine (laws_toForm a b c _).mono ?_
    rintro e w3 ⟨rfl, hb3⟩
    have hB3 : Below w.heap.size w w3 := Below.after (by go_grown) hb3
    obtain ⟨hc3, hf3⟩ := bcell hb3
    have hy3 := hb3.size
    try simp at hy3
    first | (with_reducible have hx3 := Nat.lt_of_succ_le hy3) | skip
    first | (with_reducible have hv3 := Nat.lt_of_succ_lt hx3) | skip
    first | (with_reducible have hu3 := Nat.lt_of_succ_lt hv3) | skip
    first | (have hz3 : w.heap.size < w3.heap.size := by omega) | (have hz3 := hB3.size)
    first | (have hq3 : w2.heap.size ≤ w3.heap.size := by omega) | skip
    first | (have hx1_3 := Nat.lt_of_lt_of_le hx1_2 hq3) | skip
    first | (have hv1_3 := Nat.lt_of_lt_of_le hv1_2 hq3) | skip
    first | (have hu1_3 := Nat.lt_of_lt_of_le hu1_2 hq3) | skip
    first | (have hx2_3 := Nat.lt_of_lt_of_le hx2 hq3) | skip
    first | (have hv2_3 := Nat.lt_of_lt_of_le hv2 hq3) | skip
    first | (have hu2_3 := Nat.lt_of_lt_of_le hu2 hq3) | skip
    clear hb3
    go_wp2_with fail
    refine (impl_IdealOfForm_no a b c _ H.out).mono ?_
    rintro e w4 ⟨rfl, hb4⟩
    have hB4 : Below w.heap.size w w4 := Below.after (by go_grown) hb4
    obtain ⟨hc4, hf4⟩ := bcell hb4
    have hy4 := hb4.size
    try simp at hy4
    first | (with_reducible have hx4 := Nat.lt_of_succ_le hy4) | skip
    first | (with_reducible have hv4 := Nat.lt_of_succ_lt hx4) | skip
    first | (with_reducible have hu4 := Nat.lt_of_succ_lt hv4) | skip
    first | (have hz4 : w.heap.size < w4.heap.size := by omega) | (have hz4 := hB4.size)
    first | (have hq4 : w3.heap.size ≤ w4.heap.size := by omega) | skip
    first | (have hx1_4 := Nat.lt_of_lt_of_le hx1_3 hq4) | skip
    first | (have hv1_4 := Nat.lt_of_lt_of_le hv1_3 hq4) | skip
    first | (have hu1_4 := Nat.lt_of_lt_of_le hu1_3 hq4) | skip
    first | (have hx2_4 := Nat.lt_of_lt_of_le hx2_3 hq4) | skip
    first | (have hv2_4 := Nat.lt_of_lt_of_le hv2_3 hq4) | skip
    first | (have hu2_4 := Nat.lt_of_lt_of_le hu2_3 hq4) | skip
    first | (have hx3_4 := Nat.lt_of_lt_of_le hx3 hq4) | skip
    first | (have hv3_4 := Nat.lt_of_lt_of_le hv3 hq4) | skip
    first | (have hu3_4 := Nat.lt_of_lt_of_le hu3 hq4) | skip
    clear hb4
    go_wp2_with fail
    refine (laws_eqIdeal 0 0 0 _).mono ?_
    rintro e w5 ⟨rfl, hb5⟩
    have hB5 : Below w.heap.size w w5 := Below.after (by go_grown) hb5
    obtain ⟨hc5, hf5⟩ := bcell hb5
    have hy5 := hb5.size
    try simp at hy5
    first | (with_reducible have hx5 := Nat.lt_of_succ_le hy5) | skip
    first | (with_reducible have hv5 := Nat.lt_of_succ_lt hx5) | skip
    first | (with_reducible have hu5 := Nat.lt_of_succ_lt hv5) | skip
    first | (have hz5 : w.heap.size < w5.heap.size := by omega) | (have hz5 := hB5.size)
    first | (have hq5 : w4.heap.size ≤ w5.heap.size := by omega) | skip
    first | (have hx1_5 := Nat.lt_of_lt_of_le hx1_4 hq5) | skip
    first | (have hv1_5 := Nat.lt_of_lt_of_le hv1_4 hq5) | skip
    first | (have hu1_5 := Nat.lt_of_lt_of_le hu1_4 hq5) | skip
    first | (have hx2_5 := Nat.lt_of_lt_of_le hx2_4 hq5) | skip
    first | (have hv2_5 := Nat.lt_of_lt_of_le hv2_4 hq5) | skip
    first | (have hu2_5 := Nat.lt_of_lt_of_le hu2_4 hq5) | skip
    first | (have hx3_5 := Nat.lt_of_lt_of_le hx3_4 hq5) | skip
    first | (have hv3_5 := Nat.lt_of_lt_of_le hv3_4 hq5) | skip
    first | (have hu3_5 := Nat.lt_of_lt_of_le hu3_4 hq5) | skip
    first | (have hx4_5 := Nat.lt_of_lt_of_le hx4 hq5) | skip
    first | (have hv4_5 := Nat.lt_of_lt_of_le hv4 hq5) | skip
    first | (have hu4_5 := Nat.lt_of_lt_of_le hu4 hq5) | skip
    clear hb5
    go_wp2_with fail
    go_ret
    exact ⟨rfl, by go_grown⟩
end Go.Proofs.Ytgdhelecflddbaa
