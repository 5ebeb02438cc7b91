/- Contracts and walks of the laws: automorphs of primitive indefinite forms. -/
import Derived.Test.YtdonpiihjoihcaaAP
import Derived.Deep.Cut
namespace Go.Proofs.Ytdonpiihjoihcaa
set_option linter.unusedVariables false
open Go.ChangeShapes Go.WideShapes Go.ChangeAt Go.RowKit

def primB (a b c : Int) : Bool := indefB a b c && (content a b c == 1)
theorem primB_iff {a b c : Int} : primB a b c = true ↔ indefB a b c = true ∧ (content a b c == 1) = true := by simp [primB]
theorem spec_unForm (a b c : Int) (v : Bool) (w : World) (hv : primB a b c = v) :
    Calls Try.prog 51 #[.agg #[.int .i64 a, .int .i64 b, .int .i64 c]] w fun e w' => e = .returned (.bool v) ∧ Below w.heap.size w w' := by
  have Hv := Lib.hid hv
  clear hv
  cases h : indefB a b c with
  | true =>
    have H := Lib.hid h
    clear h
    go_enter Try.func51, Try.ntmps51
    go_wp2_with fail
    refine (spec_cyGood a b c true _ H.out).mono ?_
    rintro e w1 ⟨rfl, hb1⟩
    have hB1 : Below w.heap.size w w1 := Below.after (by go_grown) hb1
    obtain ⟨hc1, hf1⟩ := bcell hb1
    have hy1 := hb1.size
    try simp at hy1
    first | (with_reducible have hx1 := Nat.lt_of_succ_le hy1) | skip
    first | (with_reducible have hv1 := Nat.lt_of_succ_lt hx1) | skip
    first | (with_reducible have hu1 := Nat.lt_of_succ_lt hv1) | skip
    first | (have hz1 : w.heap.size < w1.heap.size := by omega) | (have hz1 := hB1.size)
    clear hb1
    go_wp2_with fail
    refine (spec_foContent a b c _ (indefB_good H.out)).mono ?_
    rintro e w2 ⟨rfl, hb2⟩
    have hB2 : Below w.heap.size w w2 := Below.after (by go_grown) hb2
    obtain ⟨hc2, hf2⟩ := bcell hb2
    have hy2 := hb2.size
    try simp at hy2
    first | (with_reducible have hx2 := Nat.lt_of_succ_le hy2) | skip
    first | (with_reducible have hv2 := Nat.lt_of_succ_lt hx2) | skip
    first | (with_reducible have hu2 := Nat.lt_of_succ_lt hv2) | skip
    first | (have hz2 : w.heap.size < w2.heap.size := by omega) | (have hz2 := hB2.size)
    first | (have hq2 : w1.heap.size ≤ w2.heap.size := by omega) | skip
    first | (have hx1_2 := Nat.lt_of_lt_of_le hx1 hq2) | skip
    first | (have hv1_2 := Nat.lt_of_lt_of_le hv1 hq2) | skip
    first | (have hu1_2 := Nat.lt_of_lt_of_le hu1 hq2) | skip
    clear hb2
    go_wp2_with fail
    all_goals (try go_ret)
    all_goals exact ⟨rbool (by rw [← Hv.out]; simp [primB, H.out]), by go_grown⟩
  | false =>
    have H := Lib.hid h
    clear h
    go_enter Try.func51, Try.ntmps51
    go_wp2_with fail
    refine (spec_cyGood a b c false _ H.out).mono ?_
    rintro e w1 ⟨rfl, hb1⟩
    have hB1 : Below w.heap.size w w1 := Below.after (by go_grown) hb1
    obtain ⟨hc1, hf1⟩ := bcell hb1
    have hy1 := hb1.size
    try simp at hy1
    first | (with_reducible have hx1 := Nat.lt_of_succ_le hy1) | skip
    first | (with_reducible have hv1 := Nat.lt_of_succ_lt hx1) | skip
    first | (with_reducible have hu1 := Nat.lt_of_succ_lt hv1) | skip
    first | (have hz1 : w.heap.size < w1.heap.size := by omega) | (have hz1 := hB1.size)
    clear hb1
    go_wp2_with fail
    go_ret
    exact ⟨rbool (by rw [← Hv.out]; simp [primB, H.out]), by go_grown⟩
theorem impl_isPrimitiveIndefinite (a b c : Int) (v : Bool) (w : World) (hv : primB a b c = v) :
    Calls Try.prog 56 #[.agg #[.int .i64 a, .int .i64 b, .int .i64 c]] w fun e w' => e = .returned (.bool v) ∧ Below w.heap.size w w' := by
  have Hv := Lib.hid hv
  clear hv
  cases h : indefB a b c with
  | true =>
    have H := Lib.hid h
    clear h
    go_enter Try.func56, Try.ntmps56
    go_wp2_with fail
    refine (impl_isIndefinite a b c true _ H.out).mono ?_
    rintro e w1 ⟨rfl, hb1⟩
    have hB1 : Below w.heap.size w w1 := Below.after (by go_grown) hb1
    obtain ⟨hc1, hf1⟩ := bcell hb1
    have hy1 := hb1.size
    try simp at hy1
    first | (with_reducible have hx1 := Nat.lt_of_succ_le hy1) | skip
    first | (with_reducible have hv1 := Nat.lt_of_succ_lt hx1) | skip
    first | (with_reducible have hu1 := Nat.lt_of_succ_lt hv1) | skip
    first | (have hz1 : w.heap.size < w1.heap.size := by omega) | (have hz1 := hB1.size)
    clear hb1
    go_wp2_with fail
    refine (impl_content a b c _ (indefB_good H.out)).mono ?_
    rintro e w2 ⟨rfl, hb2⟩
    have hB2 : Below w.heap.size w w2 := Below.after (by go_grown) hb2
    obtain ⟨hc2, hf2⟩ := bcell hb2
    have hy2 := hb2.size
    try simp at hy2
    first | (with_reducible have hx2 := Nat.lt_of_succ_le hy2) | skip
    first | (with_reducible have hv2 := Nat.lt_of_succ_lt hx2) | skip
    first | (with_reducible have hu2 := Nat.lt_of_succ_lt hv2) | skip
    first | (have hz2 : w.heap.size < w2.heap.size := by omega) | (have hz2 := hB2.size)
    first | (have hq2 : w1.heap.size ≤ w2.heap.size := by omega) | skip
    first | (have hx1_2 := Nat.lt_of_lt_of_le hx1 hq2) | skip
    first | (have hv1_2 := Nat.lt_of_lt_of_le hv1 hq2) | skip
    first | (have hu1_2 := Nat.lt_of_lt_of_le hu1 hq2) | skip
    clear hb2
    go_wp2_with fail
    all_goals (try go_ret)
    all_goals exact ⟨rbool (by rw [← Hv.out]; simp [primB, H.out]), by go_grown⟩
  | false =>
    have H := Lib.hid h
    clear h
    go_enter Try.func56, Try.ntmps56
    go_wp2_with fail
    refine (impl_isIndefinite a b c false _ H.out).mono ?_
    rintro e w1 ⟨rfl, hb1⟩
    have hB1 : Below w.heap.size w w1 := Below.after (by go_grown) hb1
    obtain ⟨hc1, hf1⟩ := bcell hb1
    have hy1 := hb1.size
    try simp at hy1
    first | (with_reducible have hx1 := Nat.lt_of_succ_le hy1) | skip
    first | (with_reducible have hv1 := Nat.lt_of_succ_lt hx1) | skip
    first | (with_reducible have hu1 := Nat.lt_of_succ_lt hv1) | skip
    first | (have hz1 : w.heap.size < w1.heap.size := by omega) | (have hz1 := hB1.size)
    clear hb1
    go_wp2_with fail
    go_ret
    exact ⟨rbool (by rw [← Hv.out]; simp [primB, H.out]), by go_grown⟩
/-- a matrix beside true, or whatever beside false -/
def MatE (m : Mx) (v : Bool) (e : Ending) : Prop := ∃ p q r s, e = .returned (.tuple #[.agg #[.int .i64 p, .int .i64 q, .int .i64 r, .int .i64 s], .bool v]) ∧ (v = true → (⟨p, q, r, s⟩ : Mx) = m)
theorem aut_bd {a b c t u : Int} (h : indefB a b c = true) (hu : -1000000 ≤ u ∧ u ≤ 1000000) (ht : -100000000 ≤ t ∧ t ≤ 100000000) :
    (-1000000000000 ≤ b * u ∧ b * u ≤ 1000000000000) ∧ (-1000000000000 ≤ -c * u ∧ -c * u ≤ 1000000000000) ∧ (-1000000000000 ≤ a * u ∧ a * u ≤ 1000000000000) ∧
    (-2000000000000 ≤ (t - b * u).tdiv 2 ∧ (t - b * u).tdiv 2 ≤ 2000000000000) ∧ (-2000000000000 ≤ (t + b * u).tdiv 2 ∧ (t + b * u).tdiv 2 ≤ 2000000000000) := by
  obtain ⟨ha, hb, hc, _⟩ := indef_bds h
  have h1 : -1000000000000 ≤ b * u ∧ b * u ≤ 1000000000000 := mulb hb.1 hb.2 hu.1 hu.2
  have h2 : -1000000000000 ≤ -c * u ∧ -c * u ≤ 1000000000000 := mulb (A := 1000000) (by omega) (by omega) hu.1 hu.2
  have h3 : -1000000000000 ≤ a * u ∧ a * u ≤ 1000000000000 := mulb ha.1 ha.2 hu.1 hu.2
  exact ⟨h1, h2, h3, tdiv2_bd (by omega), tdiv2_bd (by omega)⟩
theorem expU_bd {k u : Int} (hu : -1000000 ≤ u ∧ u ≤ 1000000) : -1000000 ≤ expU k u ∧ expU k u ≤ 1000000 := by
  unfold expU; split <;> omega
set_option maxHeartbeats 1000000 in
set_option maxRecDepth 100000 in
theorem spec_unAutomorph (a b c k : Int) (m : Mx) (v : Bool) (w : World) (h : indefB a b c = true) (hk1 : -20 ≤ k) (hk2 : k ≤ 20) (ho : AutOut a b c k m v) :
    Calls Try.prog 55 #[.agg #[.int .i64 a, .int .i64 b, .int .i64 c], .int .i64 k] w fun e w' => MatE m v e ∧ Below w.heap.size w w' := by
  obtain ⟨t, u, pv, hp, hc⟩ := ho
  obtain ⟨⟨ha1, ha2⟩, ⟨hb1, hb2⟩, ⟨hc1, hc2⟩, _⟩ := indef_bds h
  have hkn : k.natAbs ≤ 20 := by omega
  have Hd := Lib.hid (indefB_iff.1 h).2
  have H := Lib.hid h
  clear h
  have Hp := Lib.hid hp
  clear hp
  rcases hc with ⟨rfl, rfl, rfl⟩ | ⟨rfl, hsm, hc⟩
  · go_enter Try.func55, Try.ntmps55
    go_wp2_with fail
    refine (spec_foDisc a b c _ (indefB_good H.out)).mono ?_
    rintro e w1 ⟨rfl, hb1⟩
    have hB1 : Below w.heap.size w w1 := Below.after (by go_grown) hb1
    have a1 : Holds w1 (w.heap.size + 1) #[.int .i64 0, .int .i64 0, .int .i64 0, .int .i64 0] 30 := Holds.below (by repeat (first | (refine Holds.new' _ _ _ ?_; simp; done) | refine Holds.alloc ?_ _ | refine Holds.far ?_ (by first | omega | (simp; done) | (simp; omega)))) hb1
    clear hb1
    go_wp2_with fail
    refine (spec_l1Abs k _ (by omega) (by omega)).mono ?_
    rintro e w' ⟨rfl, rfl⟩
    go_wp2_with fail
    refine (spec_unPower (disc a b c) k.natAbs t u false _ Hd.out hkn Hp.out).mono ?_
    rintro e w2 ⟨rfl, hb2⟩
    have hB2 : Below w.heap.size w w2 := Below.after (by go_grown) hb2
    have a2 := Holds.below a1 hb2
    clear hb2 a1
    have hz := a2.lt
    have y0 : w2.cell? ⟨(w.heap.size + 1), 0, none⟩ = some (.int .i64 0) := Holds.cell a2 rfl
    have y1 : w2.cell? ⟨(w.heap.size + 1), 1, none⟩ = some (.int .i64 0) := Holds.cell a2 rfl
    have y2 : w2.cell? ⟨(w.heap.size + 1), 2, none⟩ = some (.int .i64 0) := Holds.cell a2 rfl
    have y3 : w2.cell? ⟨(w.heap.size + 1), 3, none⟩ = some (.int .i64 0) := Holds.cell a2 rfl
    have yf0 : w2.frozen? ⟨(w.heap.size + 1), 0, none⟩ = false := Holds.free a2
    have yf1 : w2.frozen? ⟨(w.heap.size + 1), 1, none⟩ = false := Holds.free a2
    have yf2 : w2.frozen? ⟨(w.heap.size + 1), 2, none⟩ = false := Holds.free a2
    have yf3 : w2.frozen? ⟨(w.heap.size + 1), 3, none⟩ = false := Holds.free a2
    go_wp2_with fail
    refine bodyPost_ret (v := .tuple #[.agg #[.int .i64 0, .int .i64 0, .int .i64 0, .int .i64 0], .bool false]) (by simp [results, Try.results55, go_sem, *] <;> rfl) rfl ⟨⟨0, 0, 0, 0, rfl, fun h => by cases h⟩, by go_grown⟩
  · obtain ⟨ht, hu⟩ := smB_bd hsm
    have hU := expU_bd (k := k) hu
    have Hc := Lib.hid hc
    clear hc
    obtain ⟨U, hUe⟩ : ∃ U, expU k u = U := ⟨_, rfl⟩
    have HUe := Lib.hid hUe
    rw [hUe] at hU
    obtain ⟨⟨b1, b2⟩, ⟨c1, c2⟩, ⟨d1, d2⟩, ⟨e1, e2⟩, ⟨f1, f2⟩⟩ := aut_bd H.out hU ht
    obtain ⟨t1, t2⟩ := ht
    obtain ⟨u1, u2⟩ := hu
    obtain ⟨U1, U2⟩ := hU
    clear hsm hUe
    by_cases hneg : k < 0
    all_goals
      go_enter Try.func55, Try.ntmps55
      go_wp2_with fail
      refine (spec_foDisc a b c _ (indefB_good H.out)).mono ?_
      rintro e w1 ⟨rfl, hb1⟩
      have hB1 : Below w.heap.size w w1 := Below.after (by go_grown) hb1
      have a0 : Holds w1 w.heap.size (cF ⟨a, b, c⟩) 28 := Holds.below (by repeat (first | (refine Holds.new' _ _ _ ?_; simp; done) | refine Holds.alloc ?_ _ | refine Holds.far ?_ (by first | omega | (simp; done) | (simp; omega)))) hb1
      have a1 : Holds w1 (w.heap.size + 1) #[.int .i64 0, .int .i64 0, .int .i64 0, .int .i64 0] 30 := Holds.below (by repeat (first | (refine Holds.new' _ _ _ ?_; simp; done) | refine Holds.alloc ?_ _ | refine Holds.far ?_ (by first | omega | (simp; done) | (simp; omega)))) hb1
      clear hb1
      go_wp2_with fail
      refine (spec_l1Abs k _ (by omega) (by omega)).mono ?_
      rintro e w' ⟨rfl, rfl⟩
      go_wp2_with fail
      refine (spec_unPower (disc a b c) k.natAbs t u true _ Hd.out hkn Hp.out).mono ?_
      rintro e w2 ⟨rfl, hb2⟩
      have hB2 : Below w.heap.size w w2 := Below.after (by go_grown) hb2
      have b0 := Holds.below a0 hb2
      have b1' := Holds.below a1 hb2
      clear hb2 a1 a0 hB1
      have hz := b0.lt
      have hz1 := b1'.lt
      go_upto_region 6 with (fail)
      have hUv : U = if k < 0 then -u else u := HUe.out.symm
      refine region_named (fun W hW => ?_)
      have iS : Holds W w2.heap.size #[.int .i64 t, .int .i64 U] 55 := by
        rw [hW]
        first
          | (rw [if_pos (by omega)] at hUv; subst hUv; exact Holds.new _ _ _)
          | (rw [if_neg (by omega)] at hUv; subst hUv; exact Holds.new _ _ _)
      have i0 : Holds W w.heap.size (cF ⟨a, b, c⟩) 28 := by
        rw [hW]
        first
          | exact (Holds.alloc b0 _).far (by omega)
          | exact Holds.alloc b0 _
      have i1 : Holds W (w.heap.size + 1) #[.int .i64 0, .int .i64 0, .int .i64 0, .int .i64 0] 30 := by
        rw [hW]
        first
          | exact (Holds.alloc b1' _).far (by omega)
          | exact Holds.alloc b1' _
      have hBW : Below w.heap.size w W := by rw [hW]; go_grown
      clear hW hUv b0 b1' hB2 hneg
      have hzW := i0.lt
      have hzW1 := iS.lt
      have hzW2 := i1.lt
      have y0 : W.cell? ⟨w.heap.size, 0, none⟩ = some (.int .i64 a) := Holds.cell i0 rfl
      have y1 : W.cell? ⟨w.heap.size, 1, none⟩ = some (.int .i64 b) := Holds.cell i0 rfl
      have y2 : W.cell? ⟨w.heap.size, 2, none⟩ = some (.int .i64 c) := Holds.cell i0 rfl
      have yf0 : W.frozen? ⟨w.heap.size, 0, none⟩ = false := Holds.free i0
      have yf1 : W.frozen? ⟨w.heap.size, 1, none⟩ = false := Holds.free i0
      have yf2 : W.frozen? ⟨w.heap.size, 2, none⟩ = false := Holds.free i0
      have x0 : W.cell? ⟨w2.heap.size, 0, none⟩ = some (.int .i64 t) := Holds.cell iS rfl
      have x1 : W.cell? ⟨w2.heap.size, 1, none⟩ = some (.int .i64 U) := Holds.cell iS rfl
      have xf0 : W.frozen? ⟨w2.heap.size, 0, none⟩ = false := Holds.free iS
      have xf1 : W.frozen? ⟨w2.heap.size, 1, none⟩ = false := Holds.free iS
      go_upto_region 7 with (fail)
      obtain ⟨P, hP⟩ : ∃ P, (t - b * U).tdiv 2 = P := ⟨_, rfl⟩
      obtain ⟨Q, hQ⟩ : ∃ Q, -c * U = Q := ⟨_, rfl⟩
      obtain ⟨R, hR⟩ : ∃ R, a * U = R := ⟨_, rfl⟩
      obtain ⟨S, hS⟩ : ∃ S, (t + b * U).tdiv 2 = S := ⟨_, rfl⟩
      rw [hP, hQ, hR, hS]
      rw [hP] at e1 e2; rw [hQ] at c1 c2; rw [hR] at d1 d2; rw [hS] at f1 f2
      have hM : autM a b c t U = ⟨P, Q, R, S⟩ := by unfold autM; rw [hP, hQ, hR, hS]
      have hcc := Hc.out
      rw [HUe.out, hM] at hcc
      clear hP hQ hR hS hM y0 y1 y2 yf0 yf1 yf2 x0 x1 xf0 xf1
      have Hcc := Lib.hid hcc
      clear hcc
      refine region_named (fun W' hW => ?_)
      have j1 : Holds W' (w.heap.size + 1) #[.int .i64 0, .int .i64 0, .int .i64 0, .int .i64 0] 30 := by rw [hW]; exact Holds.alloc i1 _
      have j8 : Holds W' W.heap.size #[.int .i64 P, .int .i64 Q, .int .i64 R, .int .i64 S] 30 := by rw [hW]; exact Holds.new _ _ _
      have hBW' : Below w.heap.size w W' := by rw [hW]; go_grown
      clear hW i1 i0 iS hBW
      have hz8 := j8.lt
      have z0 : ∀ x' : Aft W', x'.w.cell? ⟨W.heap.size, 0, none⟩ = some (.int .i64 P) := fun x' => x'.cell (Holds.lt j8) (Holds.cell j8 rfl)
      have z1 : ∀ x' : Aft W', x'.w.cell? ⟨W.heap.size, 1, none⟩ = some (.int .i64 Q) := fun x' => x'.cell (Holds.lt j8) (Holds.cell j8 rfl)
      have z2 : ∀ x' : Aft W', x'.w.cell? ⟨W.heap.size, 2, none⟩ = some (.int .i64 R) := fun x' => x'.cell (Holds.lt j8) (Holds.cell j8 rfl)
      have z3 : ∀ x' : Aft W', x'.w.cell? ⟨W.heap.size, 3, none⟩ = some (.int .i64 S) := fun x' => x'.cell (Holds.lt j8) (Holds.cell j8 rfl)
      refine region_aft_tail 3 (by kernel_rfl) (by kernel_rfl) ?_
      simp only [List.take_succ_cons, List.take_zero, List.drop_succ_cons, List.drop_zero]
      rcases Hcc.out with ⟨hg, rfl, rfl⟩ | ⟨hg, rfl, rfl⟩
      all_goals
        have Hg := Lib.hid hg
        clear hg
        repeat go_big_quiet_step ((go_at_call 52; exact callsAft (spec_foMatrix P Q R S _ _ Hg.out)))
        refine wpQuiet_nil ?_
        intro w5 hb5
        have hB6 : Below w.heap.size w w5 := Below.after hBW' hb5
        have k1 := j1.below hb5
        have g0 : w5.cell? ⟨(w.heap.size + 1), 0, none⟩ = some (.int .i64 0) := Holds.cell k1 rfl
        have g1 : w5.cell? ⟨(w.heap.size + 1), 1, none⟩ = some (.int .i64 0) := Holds.cell k1 rfl
        have g2 : w5.cell? ⟨(w.heap.size + 1), 2, none⟩ = some (.int .i64 0) := Holds.cell k1 rfl
        have g3 : w5.cell? ⟨(w.heap.size + 1), 3, none⟩ = some (.int .i64 0) := Holds.cell k1 rfl
        have gf0 : w5.frozen? ⟨(w.heap.size + 1), 0, none⟩ = false := Holds.free k1
        have gf1 : w5.frozen? ⟨(w.heap.size + 1), 1, none⟩ = false := Holds.free k1
        have gf2 : w5.frozen? ⟨(w.heap.size + 1), 2, none⟩ = false := Holds.free k1
        have gf3 : w5.frozen? ⟨(w.heap.size + 1), 3, none⟩ = false := Holds.free k1
        clear z0 z1 z2 z3 hb5 hBW' j1 j8
        go_wp2_with fail
      · refine bodyPost_ret (v := .tuple #[.agg #[.int .i64 P, .int .i64 Q, .int .i64 R, .int .i64 S], .bool true]) (by simp [results, Try.results55, go_sem, *] <;> rfl) rfl ⟨⟨P, Q, R, S, rfl, fun _ => rfl⟩, by go_grown⟩
      · refine bodyPost_ret (v := .tuple #[.agg #[.int .i64 P, .int .i64 Q, .int .i64 R, .int .i64 S], .bool false]) (by simp [results, Try.results55, go_sem, *] <;> rfl) rfl ⟨⟨P, Q, R, S, rfl, fun h => by cases h⟩, by go_grown⟩
set_option maxHeartbeats 1000000 in
set_option maxRecDepth 100000 in
theorem impl_automorph (a b c k : Int) (m : Mx) (v : Bool) (w : World) (h : indefB a b c = true) (hk1 : -20 ≤ k) (hk2 : k ≤ 20) (ho : AutOut a b c k m v) :
    Calls Try.prog 58 #[.agg #[.int .i64 a, .int .i64 b, .int .i64 c], .int .i64 k] w fun e w' => e = .returned (.tuple #[.agg #[.int .i64 m.p, .int .i64 m.q, .int .i64 m.r, .int .i64 m.s], .bool v]) ∧ Below w.heap.size w w' := by
  obtain ⟨t, u, pv, hp, hc⟩ := ho
  obtain ⟨⟨ha1, ha2⟩, ⟨hb1, hb2⟩, ⟨hc1, hc2⟩, _⟩ := indef_bds h
  have hkn : k.natAbs ≤ 20 := by omega
  have Hd := Lib.hid (indefB_iff.1 h).2
  have H := Lib.hid h
  clear h
  have Hp := Lib.hid hp
  clear hp
  rcases hc with ⟨rfl, rfl, rfl⟩ | ⟨rfl, hsm, hc⟩
  · go_enter Try.func58, Try.ntmps58
    go_wp2_with fail
    refine (impl_disc a b c _ (indefB_good H.out)).mono ?_
    rintro e w1 ⟨rfl, hb1⟩
    have hB1 : Below w.heap.size w w1 := Below.after (by go_grown) hb1
    have a1 : Holds w1 (w.heap.size + 1) #[.int .i64 0, .int .i64 0, .int .i64 0, .int .i64 0] 30 := Holds.below (by repeat (first | (refine Holds.new' _ _ _ ?_; simp; done) | refine Holds.alloc ?_ _ | refine Holds.far ?_ (by first | omega | (simp; done) | (simp; omega)))) hb1
    clear hb1
    go_wp2_with fail
    refine (impl_abs k _ (by omega) (by omega)).mono ?_
    rintro e w' ⟨rfl, rfl⟩
    go_wp2_with fail
    refine (impl_pellPower (disc a b c) k.natAbs t u false _ Hd.out hkn Hp.out).mono ?_
    rintro e w2 ⟨rfl, hb2⟩
    have hB2 : Below w.heap.size w w2 := Below.after (by go_grown) hb2
    have a2 := Holds.below a1 hb2
    clear hb2 a1
    have hz := a2.lt
    have y0 : w2.cell? ⟨(w.heap.size + 1), 0, none⟩ = some (.int .i64 0) := Holds.cell a2 rfl
    have y1 : w2.cell? ⟨(w.heap.size + 1), 1, none⟩ = some (.int .i64 0) := Holds.cell a2 rfl
    have y2 : w2.cell? ⟨(w.heap.size + 1), 2, none⟩ = some (.int .i64 0) := Holds.cell a2 rfl
    have y3 : w2.cell? ⟨(w.heap.size + 1), 3, none⟩ = some (.int .i64 0) := Holds.cell a2 rfl
    have yf0 : w2.frozen? ⟨(w.heap.size + 1), 0, none⟩ = false := Holds.free a2
    have yf1 : w2.frozen? ⟨(w.heap.size + 1), 1, none⟩ = false := Holds.free a2
    have yf2 : w2.frozen? ⟨(w.heap.size + 1), 2, none⟩ = false := Holds.free a2
    have yf3 : w2.frozen? ⟨(w.heap.size + 1), 3, none⟩ = false := Holds.free a2
    go_wp2_with fail
    refine bodyPost_ret (v := .tuple #[.agg #[.int .i64 0, .int .i64 0, .int .i64 0, .int .i64 0], .bool false]) (by simp [results, Try.results58, go_sem, *] <;> rfl) rfl ⟨rfl, by go_grown⟩
  · obtain ⟨ht, hu⟩ := smB_bd hsm
    have hU := expU_bd (k := k) hu
    have Hc := Lib.hid hc
    clear hc
    obtain ⟨U, hUe⟩ : ∃ U, expU k u = U := ⟨_, rfl⟩
    have HUe := Lib.hid hUe
    rw [hUe] at hU
    obtain ⟨⟨b1, b2⟩, ⟨c1, c2⟩, ⟨d1, d2⟩, ⟨e1, e2⟩, ⟨f1, f2⟩⟩ := aut_bd H.out hU ht
    obtain ⟨t1, t2⟩ := ht
    obtain ⟨u1, u2⟩ := hu
    obtain ⟨U1, U2⟩ := hU
    clear hsm hUe
    by_cases hneg : k < 0
    all_goals
      go_enter Try.func58, Try.ntmps58
      go_wp2_with fail
      refine (impl_disc a b c _ (indefB_good H.out)).mono ?_
      rintro e w1 ⟨rfl, hb1⟩
      have hB1 : Below w.heap.size w w1 := Below.after (by go_grown) hb1
      have a0 : Holds w1 w.heap.size (cF ⟨a, b, c⟩) 28 := Holds.below (by repeat (first | (refine Holds.new' _ _ _ ?_; simp; done) | refine Holds.alloc ?_ _ | refine Holds.far ?_ (by first | omega | (simp; done) | (simp; omega)))) hb1
      have a1 : Holds w1 (w.heap.size + 1) #[.int .i64 0, .int .i64 0, .int .i64 0, .int .i64 0] 30 := Holds.below (by repeat (first | (refine Holds.new' _ _ _ ?_; simp; done) | refine Holds.alloc ?_ _ | refine Holds.far ?_ (by first | omega | (simp; done) | (simp; omega)))) hb1
      clear hb1
      go_wp2_with fail
      refine (impl_abs k _ (by omega) (by omega)).mono ?_
      rintro e w' ⟨rfl, rfl⟩
      go_wp2_with fail
      refine (impl_pellPower (disc a b c) k.natAbs t u true _ Hd.out hkn Hp.out).mono ?_
      rintro e w2 ⟨rfl, hb2⟩
      have hB2 : Below w.heap.size w w2 := Below.after (by go_grown) hb2
      have b0 := Holds.below a0 hb2
      have b1' := Holds.below a1 hb2
      clear hb2 a1 a0 hB1
      have hz := b0.lt
      have hz1 := b1'.lt
      go_upto_region 6 with (fail)
      have hUv : U = if k < 0 then -u else u := HUe.out.symm
      refine region_named (fun W hW => ?_)
      have iS : Holds W w2.heap.size #[.int .i64 t, .int .i64 U] 55 := by
        rw [hW]
        first
          | (rw [if_pos (by omega)] at hUv; subst hUv; exact Holds.new _ _ _)
          | (rw [if_neg (by omega)] at hUv; subst hUv; exact Holds.new _ _ _)
      have i0 : Holds W w.heap.size (cF ⟨a, b, c⟩) 28 := by
        rw [hW]
        first
          | exact (Holds.alloc b0 _).far (by omega)
          | exact Holds.alloc b0 _
      have i1 : Holds W (w.heap.size + 1) #[.int .i64 0, .int .i64 0, .int .i64 0, .int .i64 0] 30 := by
        rw [hW]
        first
          | exact (Holds.alloc b1' _).far (by omega)
          | exact Holds.alloc b1' _
      have hBW : Below w.heap.size w W := by rw [hW]; go_grown
      clear hW hUv b0 b1' hB2 hneg
      have hzW := i0.lt
      have hzW1 := iS.lt
      have hzW2 := i1.lt
      have y0 : W.cell? ⟨w.heap.size, 0, none⟩ = some (.int .i64 a) := Holds.cell i0 rfl
      have y1 : W.cell? ⟨w.heap.size, 1, none⟩ = some (.int .i64 b) := Holds.cell i0 rfl
      have y2 : W.cell? ⟨w.heap.size, 2, none⟩ = some (.int .i64 c) := Holds.cell i0 rfl
      have yf0 : W.frozen? ⟨w.heap.size, 0, none⟩ = false := Holds.free i0
      have yf1 : W.frozen? ⟨w.heap.size, 1, none⟩ = false := Holds.free i0
      have yf2 : W.frozen? ⟨w.heap.size, 2, none⟩ = false := Holds.free i0
      have x0 : W.cell? ⟨w2.heap.size, 0, none⟩ = some (.int .i64 t) := Holds.cell iS rfl
      have x1 : W.cell? ⟨w2.heap.size, 1, none⟩ = some (.int .i64 U) := Holds.cell iS rfl
      have xf0 : W.frozen? ⟨w2.heap.size, 0, none⟩ = false := Holds.free iS
      have xf1 : W.frozen? ⟨w2.heap.size, 1, none⟩ = false := Holds.free iS
      go_wp2_with fail
      obtain ⟨P, hP⟩ : ∃ P, (t - b * U).tdiv 2 = P := ⟨_, rfl⟩
      obtain ⟨Q, hQ⟩ : ∃ Q, -c * U = Q := ⟨_, rfl⟩
      obtain ⟨R, hR⟩ : ∃ R, a * U = R := ⟨_, rfl⟩
      obtain ⟨S, hS⟩ : ∃ S, (t + b * U).tdiv 2 = S := ⟨_, rfl⟩
      rw [hP, hQ, hR, hS]
      rw [hP] at e1 e2; rw [hQ] at c1 c2; rw [hR] at d1 d2; rw [hS] at f1 f2
      have hM : autM a b c t U = ⟨P, Q, R, S⟩ := by unfold autM; rw [hP, hQ, hR, hS]
      have hcc := Hc.out
      rw [HUe.out, hM] at hcc
      clear hP hQ hR hS hM y0 y1 y2 yf0 yf1 yf2 x0 x1 xf0 xf1
      rcases hcc with ⟨hg, rfl, rfl⟩ | ⟨hg, rfl, rfl⟩
      · have Hg := Lib.hid hg
        clear hg
        refine (impl_checked_yes P Q R S _ Hg.out).mono ?_
        rintro e w5 ⟨rfl, hb5⟩
        have hB6 : Below w.heap.size w w5 := Below.after hBW hb5
        have k1 := i1.below hb5
        have g0 : w5.cell? ⟨(w.heap.size + 1), 0, none⟩ = some (.int .i64 0) := Holds.cell k1 rfl
        have g1 : w5.cell? ⟨(w.heap.size + 1), 1, none⟩ = some (.int .i64 0) := Holds.cell k1 rfl
        have g2 : w5.cell? ⟨(w.heap.size + 1), 2, none⟩ = some (.int .i64 0) := Holds.cell k1 rfl
        have g3 : w5.cell? ⟨(w.heap.size + 1), 3, none⟩ = some (.int .i64 0) := Holds.cell k1 rfl
        have gf0 : w5.frozen? ⟨(w.heap.size + 1), 0, none⟩ = false := Holds.free k1
        have gf1 : w5.frozen? ⟨(w.heap.size + 1), 1, none⟩ = false := Holds.free k1
        have gf2 : w5.frozen? ⟨(w.heap.size + 1), 2, none⟩ = false := Holds.free k1
        have gf3 : w5.frozen? ⟨(w.heap.size + 1), 3, none⟩ = false := Holds.free k1
        clear i1 i0 iS hBW hb5
        go_wp2_with fail
        refine bodyPost_ret (v := .tuple #[.agg #[.int .i64 P, .int .i64 Q, .int .i64 R, .int .i64 S], .bool true]) (by simp [results, Try.results58, go_sem, *] <;> rfl) rfl ⟨rfl, by go_grown⟩
      · have Hg := Lib.hid hg
        clear hg
        refine (impl_checked_no P Q R S _ Hg.out).mono ?_
        rintro e w5 ⟨rfl, hb5⟩
        have hB6 : Below w.heap.size w w5 := Below.after hBW hb5
        have k1 := i1.below hb5
        have g0 : w5.cell? ⟨(w.heap.size + 1), 0, none⟩ = some (.int .i64 0) := Holds.cell k1 rfl
        have g1 : w5.cell? ⟨(w.heap.size + 1), 1, none⟩ = some (.int .i64 0) := Holds.cell k1 rfl
        have g2 : w5.cell? ⟨(w.heap.size + 1), 2, none⟩ = some (.int .i64 0) := Holds.cell k1 rfl
        have g3 : w5.cell? ⟨(w.heap.size + 1), 3, none⟩ = some (.int .i64 0) := Holds.cell k1 rfl
        have gf0 : w5.frozen? ⟨(w.heap.size + 1), 0, none⟩ = false := Holds.free k1
        have gf1 : w5.frozen? ⟨(w.heap.size + 1), 1, none⟩ = false := Holds.free k1
        have gf2 : w5.frozen? ⟨(w.heap.size + 1), 2, none⟩ = false := Holds.free k1
        have gf3 : w5.frozen? ⟨(w.heap.size + 1), 3, none⟩ = false := Holds.free k1
        clear i1 i0 iS hBW hb5
        go_wp2_with fail
        refine bodyPost_ret (v := .tuple #[.agg #[.int .i64 0, .int .i64 0, .int .i64 0, .int .i64 0], .bool false]) (by simp [results, Try.results58, go_sem, *] <;> rfl) rfl ⟨rfl, by go_grown⟩
/-- what IndefiniteAutomorph hands back -/
def IAOut (a b c k : Int) (m : Mx) (v : Bool) : Prop := (primB a b c = true ∧ -20 ≤ k ∧ k ≤ 20 ∧ AutOut a b c k m v) ∨ (¬ (primB a b c = true ∧ -20 ≤ k ∧ k ≤ 20) ∧ m = zM ∧ v = false)
theorem iaOut_ex (a b c k : Int) : ∃ m v, IAOut a b c k m v := by
  by_cases h : primB a b c = true ∧ -20 ≤ k ∧ k ≤ 20
  · obtain ⟨m, v, ho⟩ := autOut_ex (indefB_iff.1 (primB_iff.1 h.1).1).2 k
    exact ⟨m, v, .inl ⟨h.1, h.2.1, h.2.2, ho⟩⟩
  · exact ⟨zM, false, .inr ⟨h, rfl, rfl⟩⟩
theorem autOut_no {a b c k : Int} {m : Mx} (h : AutOut a b c k m false) : m = zM := by
  obtain ⟨t, u, w, _, ⟨_, _, h⟩ | ⟨_, _, ⟨_, h, _⟩ | ⟨_, _, h⟩⟩⟩ := h
  · exact h
  · cases h
  · exact h
set_option maxHeartbeats 1000000 in
theorem spec_IndefiniteAutomorph (a b c k : Int) (m : Mx) (v : Bool) (w : World) (h : IAOut a b c k m v) :
    Calls Try.prog 48 #[.agg #[.int .i64 a, .int .i64 b, .int .i64 c], .int .i64 k] w fun e w' => e = .returned (.tuple #[.agg #[.int .i64 m.p, .int .i64 m.q, .int .i64 m.r, .int .i64 m.s], .bool v]) ∧ Below w.heap.size w w' := by
  rcases h with ⟨hp, hk1, hk2, ho⟩ | ⟨hno, rfl, rfl⟩
  · have Hl := Lib.hid (show (decide (-20 ≤ k) && decide (k ≤ 20)) = true by simp; omega)
    have Hi := Lib.hid (primB_iff.1 hp).1
    have Hp := Lib.hid hp
    clear hp
    cases v with
    | true =>
      have Ho := Lib.hid ho
      clear ho
      go_enter Try.func48, Try.ntmps48
      go_wp2_with fail
      refine (spec_unForm a b c true _ Hp.out).mono ?_
      rintro e w1 ⟨rfl, hb1⟩
      have hB1 : Below w.heap.size w w1 := Below.after (by go_grown) hb1
      obtain ⟨hc1, hf1⟩ := bcell hb1
      have hy1 := hb1.size
      try simp at hy1
      first | (with_reducible have hx1 := Nat.lt_of_succ_le hy1) | skip
      first | (with_reducible have hv1 := Nat.lt_of_succ_lt hx1) | skip
      first | (with_reducible have hu1 := Nat.lt_of_succ_lt hv1) | skip
      first | (have hz1 : w.heap.size < w1.heap.size := by omega) | (have hz1 := hB1.size)
      clear hb1
      go_wp2_with fail
      refine (spec_l1In k (-20) 20 true _ Hl.out).mono ?_
      rintro e w' ⟨rfl, rfl⟩
      go_wp2_with fail
      refine (spec_unAutomorph a b c k m true _ Hi.out hk1 hk2 Ho.out).mono ?_
      rintro e w2 ⟨⟨p, q, r, s, rfl, hm⟩, hb2⟩
      obtain rfl := hm rfl
      have hB2 : Below w.heap.size w w2 := Below.after (by go_grown) hb2
      obtain ⟨hc2, hf2⟩ := bcell hb2
      have hy2 := hb2.size
      try simp at hy2
      first | (with_reducible have hx2 := Nat.lt_of_succ_le hy2) | skip
      first | (with_reducible have hv2 := Nat.lt_of_succ_lt hx2) | skip
      first | (with_reducible have hu2 := Nat.lt_of_succ_lt hv2) | skip
      first | (have hz2 : w.heap.size < w2.heap.size := by omega) | (have hz2 := hB2.size)
      first | (have hq2 : w1.heap.size ≤ w2.heap.size := by omega) | skip
      first | (have hx1_2 := Nat.lt_of_lt_of_le hx1 hq2) | skip
      first | (have hv1_2 := Nat.lt_of_lt_of_le hv1 hq2) | skip
      first | (have hu1_2 := Nat.lt_of_lt_of_le hu1 hq2) | skip
      clear hb2
      have hk1 : w.heap.size < w1.heap.size + 1 := by omega
      go_wp2_with fail
      refine bodyPost_ret (v := .tuple #[.agg #[.int .i64 p, .int .i64 q, .int .i64 r, .int .i64 s], .bool true]) (by simp [results, Try.results48, go_sem, *] <;> rfl) rfl ⟨rfl, by go_grown⟩
    | false =>
      obtain rfl := autOut_no ho
      have Ho := Lib.hid ho
      clear ho
      go_enter Try.func48, Try.ntmps48
      go_wp2_with fail
      refine (spec_unForm a b c true _ Hp.out).mono ?_
      rintro e w1 ⟨rfl, hb1⟩
      have hB1 : Below w.heap.size w w1 := Below.after (by go_grown) hb1
      obtain ⟨hc1, hf1⟩ := bcell hb1
      have hy1 := hb1.size
      try simp at hy1
      first | (with_reducible have hx1 := Nat.lt_of_succ_le hy1) | skip
      first | (with_reducible have hv1 := Nat.lt_of_succ_lt hx1) | skip
      first | (with_reducible have hu1 := Nat.lt_of_succ_lt hv1) | skip
      first | (have hz1 : w.heap.size < w1.heap.size := by omega) | (have hz1 := hB1.size)
      clear hb1
      go_wp2_with fail
      refine (spec_l1In k (-20) 20 true _ Hl.out).mono ?_
      rintro e w' ⟨rfl, rfl⟩
      go_wp2_with fail
      refine (spec_unAutomorph a b c k zM false _ Hi.out hk1 hk2 Ho.out).mono ?_
      rintro e w2 ⟨⟨p, q, r, s, rfl, hm⟩, hb2⟩
      clear hm
      have hB2 : Below w.heap.size w w2 := Below.after (by go_grown) hb2
      obtain ⟨hc2, hf2⟩ := bcell hb2
      have hy2 := hb2.size
      try simp at hy2
      first | (with_reducible have hx2 := Nat.lt_of_succ_le hy2) | skip
      first | (with_reducible have hv2 := Nat.lt_of_succ_lt hx2) | skip
      first | (with_reducible have hu2 := Nat.lt_of_succ_lt hv2) | skip
      first | (have hz2 : w.heap.size < w2.heap.size := by omega) | (have hz2 := hB2.size)
      first | (have hq2 : w1.heap.size ≤ w2.heap.size := by omega) | skip
      first | (have hx1_2 := Nat.lt_of_lt_of_le hx1 hq2) | skip
      first | (have hv1_2 := Nat.lt_of_lt_of_le hv1 hq2) | skip
      first | (have hu1_2 := Nat.lt_of_lt_of_le hu1 hq2) | skip
      clear hb2
      have hk1 : w.heap.size < w1.heap.size + 1 := by omega
      go_wp2_with fail
      refine bodyPost_ret (v := .tuple #[.agg #[.int .i64 0, .int .i64 0, .int .i64 0, .int .i64 0], .bool false]) (by simp [results, Try.results48, go_sem, *] <;> rfl) rfl ⟨rfl, by go_grown⟩
  · cases hp : primB a b c with
    | true =>
      have Hl := Lib.hid (show (decide (-20 ≤ k) && decide (k ≤ 20)) = false by simp; intro h1; exact Int.not_le.1 fun h2 => hno ⟨hp, h1, h2⟩)
      have Hp := Lib.hid hp
      clear hp
      clear hno
      go_enter Try.func48, Try.ntmps48
      go_wp2_with fail
      refine (spec_unForm a b c true _ Hp.out).mono ?_
      rintro e w1 ⟨rfl, hb1⟩
      have hB1 : Below w.heap.size w w1 := Below.after (by go_grown) hb1
      obtain ⟨hc1, hf1⟩ := bcell hb1
      have hy1 := hb1.size
      try simp at hy1
      first | (with_reducible have hx1 := Nat.lt_of_succ_le hy1) | skip
      first | (with_reducible have hv1 := Nat.lt_of_succ_lt hx1) | skip
      first | (with_reducible have hu1 := Nat.lt_of_succ_lt hv1) | skip
      first | (have hz1 : w.heap.size < w1.heap.size := by omega) | (have hz1 := hB1.size)
      clear hb1
      go_wp2_with fail
      refine (spec_l1In k (-20) 20 false _ Hl.out).mono ?_
      rintro e w' ⟨rfl, rfl⟩
      go_wp2_with fail
      refine bodyPost_ret (v := .tuple #[.agg #[.int .i64 0, .int .i64 0, .int .i64 0, .int .i64 0], .bool false]) (by simp [results, Try.results48, go_sem, *] <;> rfl) rfl ⟨rfl, by go_grown⟩
    | false =>
      have Hp := Lib.hid hp
      clear hp
      clear hno
      go_enter Try.func48, Try.ntmps48
      go_wp2_with fail
      refine (spec_unForm a b c false _ Hp.out).mono ?_
      rintro e w1 ⟨rfl, hb1⟩
      have hB1 : Below w.heap.size w w1 := Below.after (by go_grown) hb1
      obtain ⟨hc1, hf1⟩ := bcell hb1
      have hy1 := hb1.size
      try simp at hy1
      first | (with_reducible have hx1 := Nat.lt_of_succ_le hy1) | skip
      first | (with_reducible have hv1 := Nat.lt_of_succ_lt hx1) | skip
      first | (with_reducible have hu1 := Nat.lt_of_succ_lt hv1) | skip
      first | (have hz1 : w.heap.size < w1.heap.size := by omega) | (have hz1 := hB1.size)
      clear hb1
      go_wp2_with fail
      refine bodyPost_ret (v := .tuple #[.agg #[.int .i64 0, .int .i64 0, .int .i64 0, .int .i64 0], .bool false]) (by simp [results, Try.results48, go_sem, *] <;> rfl) rfl ⟨rfl, by go_grown⟩
set_option maxHeartbeats 1000000 in
theorem impl_IndefiniteAutomorph (a b c k : Int) (m : Mx) (v : Bool) (w : World) (h : IAOut a b c k m v) :
    Calls Try.prog 49 #[.agg #[.int .i64 a, .int .i64 b, .int .i64 c], .int .i64 k] w fun e w' => e = .returned (.tuple #[.agg #[.int .i64 m.p, .int .i64 m.q, .int .i64 m.r, .int .i64 m.s], .bool v]) ∧ Below w.heap.size w w' := by
  rcases h with ⟨hp, hk1, hk2, ho⟩ | ⟨hno, rfl, rfl⟩
  · have Hi := Lib.hid (primB_iff.1 hp).1
    have Hp := Lib.hid hp
    clear hp
    have Ho := Lib.hid ho
    clear ho
    obtain ⟨p, q, r, s⟩ := m
    go_enter Try.func49, Try.ntmps49
    go_wp2_with fail
    refine (impl_isPrimitiveIndefinite a b c true _ Hp.out).mono ?_
    rintro e w1 ⟨rfl, hb1⟩
    have hB1 : Below w.heap.size w w1 := Below.after (by go_grown) hb1
    obtain ⟨hc1, hf1⟩ := bcell hb1
    have hy1 := hb1.size
    try simp at hy1
    first | (with_reducible have hx1 := Nat.lt_of_succ_le hy1) | skip
    first | (with_reducible have hv1 := Nat.lt_of_succ_lt hx1) | skip
    first | (with_reducible have hu1 := Nat.lt_of_succ_lt hv1) | skip
    first | (have hz1 : w.heap.size < w1.heap.size := by omega) | (have hz1 := hB1.size)
    clear hb1
    go_wp2_with fail
    refine (impl_automorph a b c k ⟨p, q, r, s⟩ v _ Hi.out hk1 hk2 Ho.out).mono ?_
    rintro e w2 ⟨rfl, hb2⟩
    have hB2 : Below w.heap.size w w2 := Below.after (by go_grown) hb2
    obtain ⟨hc2, hf2⟩ := bcell hb2
    have hy2 := hb2.size
    try simp at hy2
    first | (with_reducible have hx2 := Nat.lt_of_succ_le hy2) | skip
    first | (with_reducible have hv2 := Nat.lt_of_succ_lt hx2) | skip
    first | (with_reducible have hu2 := Nat.lt_of_succ_lt hv2) | skip
    first | (have hz2 : w.heap.size < w2.heap.size := by omega) | (have hz2 := hB2.size)
    first | (have hq2 : w1.heap.size ≤ w2.heap.size := by omega) | skip
    first | (have hx1_2 := Nat.lt_of_lt_of_le hx1 hq2) | skip
    first | (have hv1_2 := Nat.lt_of_lt_of_le hv1 hq2) | skip
    first | (have hu1_2 := Nat.lt_of_lt_of_le hu1 hq2) | skip
    clear hb2
    have hk3 : w.heap.size < w1.heap.size + 1 := by omega
    go_wp2_with fail
    refine bodyPost_ret (v := .tuple #[.agg #[.int .i64 p, .int .i64 q, .int .i64 r, .int .i64 s], .bool v]) (by simp [results, Try.results49, go_sem, *] <;> rfl) rfl ⟨rfl, by go_grown⟩
  · cases hp : primB a b c with
    | true =>
      have hk : k < -20 ∨ (-20 ≤ k ∧ 20 < k) := by
        by_cases h1 : -20 ≤ k
        · right; exact ⟨h1, Int.not_le.1 fun h2 => hno ⟨hp, h1, h2⟩⟩
        · left; omega
      have Hp := Lib.hid hp
      clear hp
      clear hno
      rcases hk with hk | ⟨hk, hk'⟩
      all_goals
        go_enter Try.func49, Try.ntmps49
        go_wp2_with fail
        refine (impl_isPrimitiveIndefinite a b c true _ Hp.out).mono ?_
        rintro e w1 ⟨rfl, hb1⟩
        have hB1 : Below w.heap.size w w1 := Below.after (by go_grown) hb1
        obtain ⟨hc1, hf1⟩ := bcell hb1
        have hy1 := hb1.size
        try simp at hy1
        first | (with_reducible have hx1 := Nat.lt_of_succ_le hy1) | skip
        first | (with_reducible have hv1 := Nat.lt_of_succ_lt hx1) | skip
        first | (with_reducible have hu1 := Nat.lt_of_succ_lt hv1) | skip
        first | (have hz1 : w.heap.size < w1.heap.size := by omega) | (have hz1 := hB1.size)
        clear hb1
        go_wp2_with fail
        refine bodyPost_ret (v := .tuple #[.agg #[.int .i64 0, .int .i64 0, .int .i64 0, .int .i64 0], .bool false]) (by simp [results, Try.results49, go_sem, *] <;> rfl) rfl ⟨rfl, by go_grown⟩
    | false =>
      have Hp := Lib.hid hp
      clear hp
      clear hno
      go_enter Try.func49, Try.ntmps49
      go_wp2_with fail
      refine (impl_isPrimitiveIndefinite a b c false _ Hp.out).mono ?_
      rintro e w1 ⟨rfl, hb1⟩
      have hB1 : Below w.heap.size w w1 := Below.after (by go_grown) hb1
      obtain ⟨hc1, hf1⟩ := bcell hb1
      have hy1 := hb1.size
      try simp at hy1
      first | (with_reducible have hx1 := Nat.lt_of_succ_le hy1) | skip
      first | (with_reducible have hv1 := Nat.lt_of_succ_lt hx1) | skip
      first | (with_reducible have hu1 := Nat.lt_of_succ_lt hv1) | skip
      first | (have hz1 : w.heap.size < w1.heap.size := by omega) | (have hz1 := hB1.size)
      clear hb1
      go_wp2_with fail
      refine bodyPost_ret (v := .tuple #[.agg #[.int .i64 0, .int .i64 0, .int .i64 0, .int .i64 0], .bool false]) (by simp [results, Try.results49, go_sem, *] <;> rfl) rfl ⟨rfl, by go_grown⟩
theorem walkIA (a b c k : Int) (m : Mx) (v : Bool) (w : World) (h : IAOut a b c k m v) :
    Calls Try.prog 12 #[.agg #[.int .i64 a, .int .i64 b, .int .i64 c], .int .i64 k] w fun e w' => e = .returned (.bool true) ∧ Below w.heap.size w w' := by
  obtain ⟨p, q, r, s⟩ := m
  have Hs := Lib.hid (fun w => spec_IndefiniteAutomorph a b c k ⟨p, q, r, s⟩ v w h)
  have Hi := Lib.hid (fun w => impl_IndefiniteAutomorph a b c k ⟨p, q, r, s⟩ v w h)
  clear h
  go_enter Try.func12, Try.ntmps12
  go_wp2_with fail
  refine (laws_toForm a b c _).mono ?_
  rintro e w1 ⟨rfl, hb1⟩
  have hB1 : Below w.heap.size w w1 := Below.after (by go_grown) hb1
  obtain ⟨hc1, hf1⟩ := bcell hb1
  have hy1 := hb1.size
  try simp at hy1
  first | (with_reducible have hx1 := Nat.lt_of_succ_le hy1) | skip
  first | (with_reducible have hv1 := Nat.lt_of_succ_lt hx1) | skip
  first | (with_reducible have hu1 := Nat.lt_of_succ_lt hv1) | skip
  first | (have hz1 : w.heap.size < w1.heap.size := by omega) | (have hz1 := hB1.size)
  clear hb1
  go_wp2_with fail
  refine (Hs.out _).mono ?_
  rintro e w2 ⟨rfl, hb2⟩
  have hB2 : Below w.heap.size w w2 := Below.after (by go_grown) hb2
  obtain ⟨hc2, hf2⟩ := bcell hb2
  have hy2 := hb2.size
  try simp at hy2
  first | (with_reducible have hx2 := Nat.lt_of_succ_le hy2) | skip
  first | (with_reducible have hv2 := Nat.lt_of_succ_lt hx2) | skip
  first | (with_reducible have hu2 := Nat.lt_of_succ_lt hv2) | skip
  first | (have hz2 : w.heap.size < w2.heap.size := by omega) | (have hz2 := hB2.size)
  first | (have hq2 : w1.heap.size ≤ w2.heap.size := by omega) | skip
  first | (have hx1_2 := Nat.lt_of_lt_of_le hx1 hq2) | skip
  first | (have hv1_2 := Nat.lt_of_lt_of_le hv1 hq2) | skip
  first | (have hu1_2 := Nat.lt_of_lt_of_le hu1 hq2) | skip
  clear hb2
  go_wp2_with fail
  refine (laws_toForm a b c _).mono ?_
  rintro e w3 ⟨rfl, hb3⟩
  have hB3 : Below w.heap.size w w3 := Below.after (by go_grown) hb3
  obtain ⟨hc3, hf3⟩ := bcell hb3
  have hy3 := hb3.size
  try simp at hy3
  first | (with_reducible have hx3 := Nat.lt_of_succ_le hy3) | skip
  first | (with_reducible have hv3 := Nat.lt_of_succ_lt hx3) | skip
  first | (with_reducible have hu3 := Nat.lt_of_succ_lt hv3) | skip
  first | (have hz3 : w.heap.size < w3.heap.size := by omega) | (have hz3 := hB3.size)
  first | (have hq3 : w2.heap.size ≤ w3.heap.size := by omega) | skip
  first | (have hx1_3 := Nat.lt_of_lt_of_le hx1_2 hq3) | skip
  first | (have hv1_3 := Nat.lt_of_lt_of_le hv1_2 hq3) | skip
  first | (have hu1_3 := Nat.lt_of_lt_of_le hu1_2 hq3) | skip
  first | (have hx2_3 := Nat.lt_of_lt_of_le hx2 hq3) | skip
  first | (have hv2_3 := Nat.lt_of_lt_of_le hv2 hq3) | skip
  first | (have hu2_3 := Nat.lt_of_lt_of_le hu2 hq3) | skip
  clear hb3
  go_wp2_with fail
  refine (Hi.out _).mono ?_
  rintro e w4 ⟨rfl, hb4⟩
  have hB4 : Below w.heap.size w w4 := Below.after (by go_grown) hb4
  obtain ⟨hc4, hf4⟩ := bcell hb4
  have hy4 := hb4.size
  try simp at hy4
  first | (with_reducible have hx4 := Nat.lt_of_succ_le hy4) | skip
  first | (with_reducible have hv4 := Nat.lt_of_succ_lt hx4) | skip
  first | (with_reducible have hu4 := Nat.lt_of_succ_lt hv4) | skip
  first | (have hz4 : w.heap.size < w4.heap.size := by omega) | (have hz4 := hB4.size)
  first | (have hq4 : w3.heap.size ≤ w4.heap.size := by omega) | skip
  first | (have hx1_4 := Nat.lt_of_lt_of_le hx1_3 hq4) | skip
  first | (have hv1_4 := Nat.lt_of_lt_of_le hv1_3 hq4) | skip
  first | (have hu1_4 := Nat.lt_of_lt_of_le hu1_3 hq4) | skip
  first | (have hx2_4 := Nat.lt_of_lt_of_le hx2_3 hq4) | skip
  first | (have hv2_4 := Nat.lt_of_lt_of_le hv2_3 hq4) | skip
  first | (have hu2_4 := Nat.lt_of_lt_of_le hu2_3 hq4) | skip
  first | (have hx3_4 := Nat.lt_of_lt_of_le hx3 hq4) | skip
  first | (have hv3_4 := Nat.lt_of_lt_of_le hv3 hq4) | skip
  first | (have hu3_4 := Nat.lt_of_lt_of_le hu3 hq4) | skip
  clear hb4
  go_wp2_with fail
  refine (laws_eqMatrix p q r s _).mono ?_
  rintro e w5 ⟨rfl, hb5⟩
  have hB5 : Below w.heap.size w w5 := Below.after (by go_grown) hb5
  obtain ⟨hc5, hf5⟩ := bcell hb5
  have hy5 := hb5.size
  try simp at hy5
  first | (with_reducible have hx5 := Nat.lt_of_succ_le hy5) | skip
  first | (with_reducible have hv5 := Nat.lt_of_succ_lt hx5) | skip
  first | (with_reducible have hu5 := Nat.lt_of_succ_lt hv5) | skip
  first | (have hz5 : w.heap.size < w5.heap.size := by omega) | (have hz5 := hB5.size)
  first | (have hq5 : w4.heap.size ≤ w5.heap.size := by omega) | skip
  first | (have hx1_5 := Nat.lt_of_lt_of_le hx1_4 hq5) | skip
  first | (have hv1_5 := Nat.lt_of_lt_of_le hv1_4 hq5) | skip
  first | (have hu1_5 := Nat.lt_of_lt_of_le hu1_4 hq5) | skip
  first | (have hx2_5 := Nat.lt_of_lt_of_le hx2_4 hq5) | skip
  first | (have hv2_5 := Nat.lt_of_lt_of_le hv2_4 hq5) | skip
  first | (have hu2_5 := Nat.lt_of_lt_of_le hu2_4 hq5) | skip
  first | (have hx3_5 := Nat.lt_of_lt_of_le hx3_4 hq5) | skip
  first | (have hv3_5 := Nat.lt_of_lt_of_le hv3_4 hq5) | skip
  first | (have hu3_5 := Nat.lt_of_lt_of_le hu3_4 hq5) | skip
  first | (have hx4_5 := Nat.lt_of_lt_of_le hx4 hq5) | skip
  first | (have hv4_5 := Nat.lt_of_lt_of_le hv4 hq5) | skip
  first | (have hu4_5 := Nat.lt_of_lt_of_le hu4 hq5) | skip
  clear hb5
  go_wp2_with fail
  all_goals (try go_ret)
  all_goals exact ⟨rfl, by go_grown⟩
theorem walkIndefiniteAutomorph (a b c k : Int) (w : World) (wa : (Lit.int .i64 a).wf = true) (wb : (Lit.int .i64 b).wf = true) (wc : (Lit.int .i64 c).wf = true) (wk : (Lit.int .i64 k).wf = true) :
    Calls Try.prog 12 #[.agg #[.int .i64 a, .int .i64 b, .int .i64 c], .int .i64 k] w fun e w' => e = .returned (.bool true) ∧ Below w.heap.size w w' := by
  obtain ⟨m, v, h⟩ := iaOut_ex a b c k
  exact walkIA a b c k m v w h
end Go.Proofs.Ytdonpiihjoihcaa
