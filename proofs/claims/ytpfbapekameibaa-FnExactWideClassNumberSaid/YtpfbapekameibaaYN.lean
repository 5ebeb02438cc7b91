/- Contracts and walks of the laws: the cycles of a discriminant, their number. -/
import Derived.Test.YtpfbapekameibaaYW
import Derived.Test.YtpfbapekameibaaYM
namespace Go.Proofs.Ytpfbapekameibaa
set_option linter.unusedVariables false
open Go.ChangeShapes Go.WideShapes Go.ChangeAt Go.RowKit

/-- what CyclesOf hands back -/
def CysOut (d : Int) (L : List (List Fm)) (v : Bool) : Prop := (posD d = true ∧ L = cysD d ∧ v = true) ∨ (posD d = false ∧ L = [] ∧ v = false)
theorem cysD_small {d : Int} (h : posD d = true) : SmallL (cysD d) := by
  have h1 := (cysI_all h).len
  have h2 := allF_len2 h
  exact ⟨by omega, fun m hm => cysN_each h (Nat.le_refl _) hm⟩
theorem cysOut_ex (d : Int) : ∃ L v, CysOut d L v ∧ SmallL L := by
  cases h : posD d with
  | true => exact ⟨_, _, .inl ⟨h, rfl, rfl⟩, cysD_small h⟩
  | false => exact ⟨_, _, .inr ⟨h, rfl, rfl⟩, by simp [SmallL]⟩
theorem spec_CyclesOf (d : Int) (L : List (List Fm)) (v : Bool) (w : World) (h : CysOut d L v) :
    Calls Try.prog 43 #[.int .i64 d] w fun e w' => ∃ u, e = .returned (.tuple #[u, .bool v]) ∧ Outs w' w.heap.size w'.heap.size u L ∧ Below w.heap.size w w' := by
  rcases h with ⟨h, rfl, rfl⟩ | ⟨h, rfl, rfl⟩
  · have H := Lib.hid h
    clear h
    go_enter Try.func43, Try.ntmps43
    go_wp2_with fail
    refine (spec_cyDisc d true _ H.out).mono ?_
    rintro e w' ⟨rfl, rfl⟩
    go_wp2_with fail
    refine (spec_cyCycles d _ H.out).mono ?_
    rintro e w1 ⟨u, rfl, hown, hb⟩
    have Hown := Lib.hid hown
    clear hown
    go_wp2_with fail
    go_ret2
    exact ⟨_, rfl, Hown.out, hb⟩
  · have H := Lib.hid h
    clear h
    go_enter Try.func43, Try.ntmps43
    go_wp2_with fail
    refine (spec_cyDisc d false _ H.out).mono ?_
    rintro e w' ⟨rfl, rfl⟩
    go_wp2_with fail
    go_ret2
    exact ⟨_, rfl, Outs.nil _ _ _, by go_grown⟩
theorem impl_CyclesOf (d : Int) (L : List (List Fm)) (v : Bool) (w : World) (h : CysOut d L v) :
    Calls Try.prog 44 #[.int .i64 d] w fun e w' => ∃ u, e = .returned (.tuple #[u, .bool v]) ∧ Outs w' w.heap.size w'.heap.size u L ∧ Below w.heap.size w w' := by
  rcases h with ⟨h, rfl, rfl⟩ | ⟨h, rfl, rfl⟩
  · have H := Lib.hid h
    clear h
    go_enter Try.func44, Try.ntmps44
    go_wp2_with fail
    refine (impl_isPositiveDisc d true _ H.out).mono ?_
    rintro e w' ⟨rfl, rfl⟩
    go_wp2_with fail
    refine (impl_cycles d _ H.out).mono ?_
    rintro e w1 ⟨u, rfl, hown, hb⟩
    have Hown := Lib.hid hown
    clear hown
    go_wp2_with fail
    go_ret2
    exact ⟨_, rfl, Hown.out, hb⟩
  · have H := Lib.hid h
    clear h
    go_enter Try.func44, Try.ntmps44
    go_wp2_with fail
    refine (impl_isPositiveDisc d false _ H.out).mono ?_
    rintro e w' ⟨rfl, rfl⟩
    go_wp2_with fail
    go_ret2
    exact ⟨_, rfl, Outs.empty w rfl (Nat.le_refl _) (by simp), by go_grown⟩
theorem walkCys (d : Int) (L : List (List Fm)) (v : Bool) (w : World) (hL : SmallL L) (h : CysOut d L v) :
    Calls Try.prog 14 #[.int .i64 d] w fun e w' => e = .returned (.bool true) ∧ Below w.heap.size w w' := by
  have Bd := offL_bd hL (i := L.length) (Nat.le_refl _)
  obtain ⟨bd1, bd2⟩ := Bd
  have HL := Lib.hid hL
  clear hL
  have H := Lib.hid h
  clear h
  go_enter Try.func14, Try.ntmps14
  go_wp2_with fail
  refine (spec_CyclesOf d L v _ H.out).mono ?_
  rintro e w2 ⟨v0, rfl, h0, hB2⟩
  have hz2 := hB2.size
  have H0 := Lib.hid h0
  clear h0
  go_wp2_with fail
  refine (impl_CyclesOf d L v _ H.out).mono ?_
  rintro e w4 ⟨v1, rfl, h1, hb4⟩
  have hB4 : Below w.heap.size w w4 := Below.after hB2 hb4
  have hz4 := hb4.size
  have H04 := Lib.hid (H0.out.below hb4)
  have H1 := Lib.hid h1
  clear hb4 hB2 H0 h1
  go_wp2_with fail
  refine (laws_eqFormSS L v1 v0 _ _ _ _ _ HL.out H1.out H04.out).mono ?_
  rintro e w5 ⟨rfl, hb5⟩
  have hB5 : Below w.heap.size w w5 := Below.after hB4 hb5
  have hz5 := hb5.size
  have H05 := Lib.hid (H04.out.below hb5)
  have H15 := Lib.hid (H1.out.below hb5)
  clear hb5 H04 H1 hB4
  go_wp2_with fail
  refine (laws_markFormSS L v1 _ _ _ HL.out H15.out (by omega)).mono ?_
  rintro e w6 ⟨rfl, h6, hb6⟩
  have hB6 : Below w.heap.size w w6 := hB5.trans (hb6.mono (by omega))
  have hz6 := hb6.size
  have H06 := Lib.hid (H05.out.belowN hb6)
  have H6 := Lib.hid h6
  clear h6 hb6 H05 H15 hB5
  go_wp2_with fail
  refine (laws_heldFormSS L v1 _ _ _ HL.out H6.out).mono ?_
  rintro e w' ⟨rfl, rfl⟩
  go_wp2_with fail
  refine (impl_CyclesOf d L v _ H.out).mono ?_
  rintro e w8 ⟨v2, rfl, h8, hb8⟩
  have hB8 : Below w.heap.size w w8 := Below.after hB6 hb8
  have H08 := Lib.hid (H06.out.below hb8)
  have H18 := Lib.hid (H6.out.below hb8)
  have H28 := Lib.hid h8
  clear hb8 hB6 h8 H06 H6
  go_wp2_with fail
  refine (laws_eqFormSS L v2 v0 _ _ _ _ _ HL.out H28.out H08.out).mono ?_
  rintro e w9 ⟨rfl, hb9⟩
  have hB9 : Below w.heap.size w w9 := Below.after hB8 hb9
  have H19 := Lib.hid (H18.out.below hb9)
  clear hb9 hB8 H08 H28 H18
  go_wp2_with fail
  refine (laws_heldFormSS L v1 _ _ _ HL.out H19.out).mono ?_
  rintro e w' ⟨rfl, rfl⟩
  go_wp2_with fail
  go_ret
  exact ⟨rfl, hB9⟩
theorem walkCyclesOf (d : Int) (w : World) (wd : (Lit.int .i64 d).wf = true) :
    Calls Try.prog 14 #[.int .i64 d] w fun e w' => e = .returned (.bool true) ∧ Below w.heap.size w w' := by
  obtain ⟨L, v, h, hL⟩ := cysOut_ex d
  exact walkCys d L v w hL h
/-! their number -/
theorem impl_Narrow (d : Int) (L : List (List Fm)) (v : Bool) (w : World) (h : CysOut d L v) :
    Calls Try.prog 30 #[.int .i64 d] w fun e w' => e = .returned (.tuple #[.int .i64 (L.length : Int), .bool v]) ∧ Below w.heap.size w w' := by
  have H := Lib.hid h
  clear h
  go_enter Try.func30, Try.ntmps30
  go_wp2_with fail
  refine (impl_CyclesOf d L v _ H.out).mono ?_
  rintro e w1 ⟨u, rfl, hu, hb⟩
  obtain ⟨p, c, rfl, _, hr⟩ := hu.view
  clear hr hu
  go_wp2_with fail
  refine bodyPost_ret (v := .tuple #[.int .i64 (L.length : Int), .bool v]) (by simp [results, Try.results30, go_sem, *] <;> rfl) rfl ⟨rfl, by go_grown⟩
theorem spec_Narrow (d : Int) (L : List (List Fm)) (v : Bool) (w : World) (h : CysOut d L v) :
    Calls Try.prog 29 #[.int .i64 d] w fun e w' => e = .returned (.tuple #[.int .i64 (L.length : Int), .bool v]) ∧ Below w.heap.size w w' := by
  rcases h with ⟨h, rfl, rfl⟩ | ⟨h, rfl, rfl⟩
  · have H := Lib.hid h
    clear h
    go_enter Try.func29, Try.ntmps29
    go_wp2_with fail
    refine (spec_cyDisc d true _ H.out).mono ?_
    rintro e w' ⟨rfl, rfl⟩
    go_wp2_with fail
    refine (spec_cyCycles d _ H.out).mono ?_
    rintro e w1 ⟨u, rfl, hu, hb⟩
    obtain ⟨p, c, rfl, _, hr⟩ := hu.view
    clear hr hu
    go_wp2_with fail
    refine bodyPost_ret (v := .tuple #[.int .i64 ((cysD d).length : Int), .bool true]) (by simp [results, Try.results29, go_sem, *] <;> rfl) rfl ⟨rfl, by go_grown⟩
  · have H := Lib.hid h
    clear h
    go_enter Try.func29, Try.ntmps29
    go_wp2_with fail
    refine (spec_cyDisc d false _ H.out).mono ?_
    rintro e w' ⟨rfl, rfl⟩
    go_wp2_with fail
    refine bodyPost_ret (v := .tuple #[.int .i64 0, .bool false]) (by simp [results, Try.results29, go_sem, *] <;> rfl) rfl ⟨rfl, by go_grown⟩
theorem walkNarrowClassNumber (d : Int) (w : World) (wd : (Lit.int .i64 d).wf = true) :
    Calls Try.prog 7 #[.int .i64 d] w fun e w' => e = .returned (.bool true) ∧ Below w.heap.size w w' := by
  obtain ⟨L, v, h, _⟩ := cysOut_ex d
  have H := Lib.hid h
  clear h
  go_enter Try.func7, Try.ntmps7
  go_wp2_with fail
  refine (spec_Narrow d L v _ H.out).mono ?_
  rintro e w1 ⟨rfl, hb1⟩
  have hB1 : Below w.heap.size w w1 := Below.after (by go_grown) hb1
  obtain ⟨hc1, hf1⟩ := bcell hb1
  have hy1 := hb1.size
  try simp at hy1
  first | (with_reducible have hx1 := Nat.lt_of_succ_le hy1) | skip
  first | (with_reducible have hv1 := Nat.lt_of_succ_lt hx1) | skip
  first | (with_reducible have hu1 := Nat.lt_of_succ_lt hv1) | skip
  first | (have hz1 : w.heap.size < w1.heap.size := by omega) | (have hz1 := hB1.size)
  clear hb1
  go_wp2_with fail
  refine (impl_Narrow d L v _ H.out).mono ?_
  rintro e w2 ⟨rfl, hb2⟩
  have hB2 : Below w.heap.size w w2 := Below.after (by go_grown) hb2
  obtain ⟨hc2, hf2⟩ := bcell hb2
  have hy2 := hb2.size
  try simp at hy2
  first | (with_reducible have hx2 := Nat.lt_of_succ_le hy2) | skip
  first | (with_reducible have hv2 := Nat.lt_of_succ_lt hx2) | skip
  first | (with_reducible have hu2 := Nat.lt_of_succ_lt hv2) | skip
  first | (have hz2 : w.heap.size < w2.heap.size := by omega) | (have hz2 := hB2.size)
  first | (have hq2 : w1.heap.size ≤ w2.heap.size := by omega) | skip
  first | (have hx1_2 := Nat.lt_of_lt_of_le hx1 hq2) | skip
  first | (have hv1_2 := Nat.lt_of_lt_of_le hv1 hq2) | skip
  first | (have hu1_2 := Nat.lt_of_lt_of_le hu1 hq2) | skip
  clear hb2
  go_wp2_with fail
  go_ret
  exact ⟨rfl, by go_grown⟩
end Go.Proofs.Ytpfbapekameibaa
