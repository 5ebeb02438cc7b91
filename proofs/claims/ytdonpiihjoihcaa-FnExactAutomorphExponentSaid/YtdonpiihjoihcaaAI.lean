/- Contracts and the walk of the law: the exponent of an automorph, the program's side. -/
import Derived.Test.YtdonpiihjoihcaaAX
namespace Go.Proofs.Ytdonpiihjoihcaa
set_option linter.unusedVariables false
open Go.ChangeShapes Go.WideShapes Go.ChangeAt Go.RowKit

set_option maxHeartbeats 4000000 in
set_option maxRecDepth 100000 in
theorem impl_AutomorphExponent (a b c p q r s sg ex : Int) (ok : Bool) (w : World) (h : AEOut a b c p q r s sg ex ok) :
    Calls Try.prog 16 #[.agg #[.int .i64 a, .int .i64 b, .int .i64 c], .agg #[.int .i64 p, .int .i64 q, .int .i64 r, .int .i64 s]] w fun e w' => e = .returned (.tuple #[.int .i64 sg, .int .i64 ex, .bool ok]) ∧ Below w.heap.size w w' := by
  by_cases hpm : primB a b c = true ∧ good4 p q r s = true
  · obtain ⟨hp, hm⟩ := hpm
    have hae : AE a b c ⟨p, q, r, s⟩ (-20) sg ex ok := by
      rcases h with ⟨_, _, h⟩ | ⟨h, _⟩
      · exact h
      · exact absurd ⟨hp, hm⟩ h
    clear h
    have Hi := Lib.hid (primB_iff.1 hp).1
    have Hae := Lib.hid hae
    have Hp := Lib.hid hp
    clear hp
    have Hm := Lib.hid hm
    clear hm
    clear hae
    go_enter Try.func16, Try.ntmps16
    go_wp2_with fail
    refine (impl_isPrimitiveIndefinite a b c true _ Hp.out).mono ?_
    rintro e w0 ⟨rfl, hb0⟩
    have hB0 : Below w.heap.size w w0 := Below.after (by go_grown) hb0
    have a0 : Holds w0 w.heap.size (cF ⟨a, b, c⟩) 28 := Holds.below (by repeat (first | (refine Holds.new' _ _ _ ?_; simp; done) | refine Holds.alloc ?_ _ | refine Holds.far ?_ (by first | omega | (simp; done) | (simp; omega)))) hb0
    have a1 : Holds w0 (w.heap.size + 1) (cM ⟨p, q, r, s⟩) 30 := Holds.below (by repeat (first | (refine Holds.new' _ _ _ ?_; simp; done) | refine Holds.alloc ?_ _ | refine Holds.far ?_ (by first | omega | (simp; done) | (simp; omega)))) hb0
    clear hb0
    have x0 : w0.cell? ⟨(w.heap.size + 1), 0, none⟩ = some (.int .i64 p) := Holds.cell a1 rfl
    have x1 : w0.cell? ⟨(w.heap.size + 1), 1, none⟩ = some (.int .i64 q) := Holds.cell a1 rfl
    have x2 : w0.cell? ⟨(w.heap.size + 1), 2, none⟩ = some (.int .i64 r) := Holds.cell a1 rfl
    have x3 : w0.cell? ⟨(w.heap.size + 1), 3, none⟩ = some (.int .i64 s) := Holds.cell a1 rfl
    have xf0 : w0.frozen? ⟨(w.heap.size + 1), 0, none⟩ = false := Holds.free a1
    have xf1 : w0.frozen? ⟨(w.heap.size + 1), 1, none⟩ = false := Holds.free a1
    have xf2 : w0.frozen? ⟨(w.heap.size + 1), 2, none⟩ = false := Holds.free a1
    have xf3 : w0.frozen? ⟨(w.heap.size + 1), 3, none⟩ = false := Holds.free a1
    go_wp2_with fail
    refine (impl_IsMatrix p q r s true _ Hm.out).mono ?_
    rintro e w1 ⟨rfl, hb1⟩
    have hB1 : Below w.heap.size w w1 := Below.after hB0 hb1
    have b0 := Lib.hid (a0.below hb1)
    have b1 := Lib.hid (a1.below hb1)
    clear x0 x1 x2 x3 xf0 xf1 xf2 xf3
    clear a0 a1 hb1 hB0
    go_wp2_with fail
    go_loopw [7] (fun i wr => AEAt w ⟨a, b, c⟩ ⟨p, q, r, s⟩ sg ex ok i wr) (fun i _ => (21 - intOf i).toNat)
    case atStart => exact ⟨-20, rfl, by omega, by omega, Hae.out, hB1, b0.out, b1.out⟩
    case round =>
      obtain ⟨k, rfl, hk1, hk2, hae, hB, h0, h1⟩ := hrel
      clear b0 b1 hB1
      rcases ae_cases hae with ⟨hk, rfl, rfl, rfl⟩ | ⟨hk, n, v, ho, hc⟩
      · clear hae h0 h1
        go_wp2_with fail
        refine bodyPost_ret (v := .tuple #[.int .i64 0, .int .i64 0, .bool false]) (by simp [results, Try.results16, go_sem, *] <;> rfl) rfl ⟨rfl, hB⟩
      · clear hae
        obtain ⟨p', q', r', s'⟩ := n
        have Ho := Lib.hid ho
        have Hc := Lib.hid hc
        clear ho hc
        have hz0 := h0.lt
        have hz1 := h1.lt
        have y0 : wr.cell? ⟨w.heap.size, 0, none⟩ = some (.int .i64 a) := Holds.cell h0 rfl
        have y1 : wr.cell? ⟨w.heap.size, 1, none⟩ = some (.int .i64 b) := Holds.cell h0 rfl
        have y2 : wr.cell? ⟨w.heap.size, 2, none⟩ = some (.int .i64 c) := Holds.cell h0 rfl
        have yf0 : wr.frozen? ⟨w.heap.size, 0, none⟩ = false := Holds.free h0
        have yf1 : wr.frozen? ⟨w.heap.size, 1, none⟩ = false := Holds.free h0
        have yf2 : wr.frozen? ⟨w.heap.size, 2, none⟩ = false := Holds.free h0
        go_wp2_with fail
        refine (impl_automorph a b c k ⟨p', q', r', s'⟩ v _ Hi.out hk1 hk Ho.out).mono ?_
        rintro e w2 ⟨rfl, hb2⟩
        have hB2 : Below w.heap.size w w2 := Below.after hB hb2
        have g0 := Holds.below h0 hb2
        have g1 := Holds.below h1 hb2
        clear y0 y1 y2 yf0 yf1 yf2
        clear hb2 h0 h1 hB
        have hz2 := g0.lt
        have hz3 := g1.lt
        have x0 : w2.cell? ⟨(w.heap.size + 1), 0, none⟩ = some (.int .i64 p) := Holds.cell g1 rfl
        have x1 : w2.cell? ⟨(w.heap.size + 1), 1, none⟩ = some (.int .i64 q) := Holds.cell g1 rfl
        have x2 : w2.cell? ⟨(w.heap.size + 1), 2, none⟩ = some (.int .i64 r) := Holds.cell g1 rfl
        have x3 : w2.cell? ⟨(w.heap.size + 1), 3, none⟩ = some (.int .i64 s) := Holds.cell g1 rfl
        have xf0 : w2.frozen? ⟨(w.heap.size + 1), 0, none⟩ = false := Holds.free g1
        have xf1 : w2.frozen? ⟨(w.heap.size + 1), 1, none⟩ = false := Holds.free g1
        have xf2 : w2.frozen? ⟨(w.heap.size + 1), 2, none⟩ = false := Holds.free g1
        have xf3 : w2.frozen? ⟨(w.heap.size + 1), 3, none⟩ = false := Holds.free g1
        have G := Lib.hid (And.intro g0 g1)
        clear g0 g1
        cases v with
        | false =>
          have hnx : AE a b c ⟨p, q, r, s⟩ (k + 1) sg ex ok := by
            rcases Hc.out with ⟨h, _⟩ | ⟨h, _⟩ | ⟨_, h⟩
            · cases h
            · cases h
            · exact h
          have Hnx := Lib.hid hnx
          clear hnx
          go_wp2_with fail
          go_roundw
          case rel => exact ⟨k + 1, rfl, by omega, by omega, Hnx.out, by go_grown, G.out.1.alloc _, G.out.2.alloc _⟩
          case measure => simp [intOf]; omega
        | true =>
          obtain ⟨⟨hq1, hq2⟩, ⟨hq3, hq4⟩, ⟨hq5, hq6⟩, hq7, hq8⟩ := good4_iff.1 (autOut_auto Ho.out).2
          simp only at hq1 hq2 hq3 hq4 hq5 hq6 hq7 hq8
          clear Ho
          rcases Hc.out with ⟨_, he, rfl, rfl, rfl⟩ | ⟨_, hne, he, rfl, rfl, rfl⟩ | ⟨hno, hnx⟩
          · simp only [Mx.mk.injEq] at he
            obtain ⟨rfl, rfl, rfl, rfl⟩ := he
            clear Hc G
            go_wp2_with fail
            refine bodyPost_ret (v := .tuple #[.int .i64 1, .int .i64 ex, .bool true]) (by simp [results, Try.results16, go_sem, *] <;> rfl) rfl ⟨rfl, by go_grown⟩
          · unfold negM at he
            simp only [Mx.mk.injEq] at he
            obtain ⟨rfl, rfl, rfl, rfl⟩ := he
            clear Hc G
            rcases mx_ne (Ne.symm hne) with f1 | ⟨f1, f2⟩ | ⟨f1, f2, f3⟩ | ⟨f1, f2, f3, f4⟩
            all_goals
              clear hne
              go_wp2_with fail
              refine bodyPost_ret (v := .tuple #[.int .i64 (-1), .int .i64 ex, .bool true]) (by simp [results, Try.results16, go_sem, *] <;> rfl) rfl ⟨rfl, by go_grown⟩
          · obtain ⟨hn1, hn2⟩ := hno rfl
            unfold negM at hn2
            have Hnx := Lib.hid hnx
            clear hno hnx Hc
            rcases mx_ne (Ne.symm hn1) with f1 | ⟨f1, f2⟩ | ⟨f1, f2, f3⟩ | ⟨f1, f2, f3, f4⟩ <;> rcases mx_ne (Ne.symm hn2) with k1 | ⟨k1, k2⟩ | ⟨k1, k2, k3⟩ | ⟨k1, k2, k3, k4⟩
            all_goals
              clear hn1 hn2
              go_wp2_with fail
              go_roundw
              case rel => exact ⟨k + 1, rfl, by omega, by omega, Hnx.out, by go_grown, G.out.1.alloc _, G.out.2.alloc _⟩
              case measure => simp [intOf]; omega
  · obtain ⟨rfl, rfl, rfl⟩ : sg = 0 ∧ ex = 0 ∧ ok = false := by
      rcases h with ⟨h1, h2, _⟩ | ⟨_, h⟩
      · exact absurd ⟨h1, h2⟩ hpm
      · exact h
    clear h
    cases hp : primB a b c with
    | false =>
      have Hp := Lib.hid hp
      clear hp
      clear hpm
      go_enter Try.func16, Try.ntmps16
      go_wp2_with fail
      refine (impl_isPrimitiveIndefinite a b c false _ Hp.out).mono ?_
      rintro e w1 ⟨rfl, hb1⟩
      have hB1 : Below w.heap.size w w1 := Below.after (by go_grown) hb1
      obtain ⟨hc1, hf1⟩ := bcell hb1
      have hy1 := hb1.size
      try simp at hy1
      first | (with_reducible have hx1 := Nat.lt_of_succ_le hy1) | skip
      first | (with_reducible have hv1 := Nat.lt_of_succ_lt hx1) | skip
      first | (with_reducible have hu1 := Nat.lt_of_succ_lt hv1) | skip
      first | (have hz1 : w.heap.size < w1.heap.size := by omega) | (have hz1 := hB1.size)
      clear hb1
      go_wp2_with fail
      refine bodyPost_ret (v := .tuple #[.int .i64 0, .int .i64 0, .bool false]) (by simp [results, Try.results16, go_sem, *] <;> rfl) rfl ⟨rfl, by go_grown⟩
    | true =>
      have hm : good4 p q r s = false := by
        cases hm : good4 p q r s with
        | false => rfl
        | true => exact absurd ⟨hp, hm⟩ hpm
      have Hp := Lib.hid hp
      clear hp
      have Hm := Lib.hid hm
      clear hm
      clear hpm
      go_enter Try.func16, Try.ntmps16
      go_wp2_with fail
      refine (impl_isPrimitiveIndefinite a b c true _ Hp.out).mono ?_
      rintro e w1 ⟨rfl, hb1⟩
      have hB1 : Below w.heap.size w w1 := Below.after (by go_grown) hb1
      obtain ⟨hc1, hf1⟩ := bcell hb1
      have hy1 := hb1.size
      try simp at hy1
      first | (with_reducible have hx1 := Nat.lt_of_succ_le hy1) | skip
      first | (with_reducible have hv1 := Nat.lt_of_succ_lt hx1) | skip
      first | (with_reducible have hu1 := Nat.lt_of_succ_lt hv1) | skip
      first | (have hz1 : w.heap.size < w1.heap.size := by omega) | (have hz1 := hB1.size)
      clear hb1
      go_wp2_with fail
      refine (impl_IsMatrix p q r s false _ Hm.out).mono ?_
      rintro e w2 ⟨rfl, hb2⟩
      have hB2 : Below w.heap.size w w2 := Below.after (by go_grown) hb2
      obtain ⟨hc2, hf2⟩ := bcell hb2
      have hy2 := hb2.size
      try simp at hy2
      first | (with_reducible have hx2 := Nat.lt_of_succ_le hy2) | skip
      first | (with_reducible have hv2 := Nat.lt_of_succ_lt hx2) | skip
      first | (with_reducible have hu2 := Nat.lt_of_succ_lt hv2) | skip
      first | (have hz2 : w.heap.size < w2.heap.size := by omega) | (have hz2 := hB2.size)
      first | (have hq2 : w1.heap.size ≤ w2.heap.size := by omega) | skip
      first | (have hx1_2 := Nat.lt_of_lt_of_le hx1 hq2) | skip
      first | (have hv1_2 := Nat.lt_of_lt_of_le hv1 hq2) | skip
      first | (have hu1_2 := Nat.lt_of_lt_of_le hu1 hq2) | skip
      clear hb2
      go_wp2_with fail
      refine bodyPost_ret (v := .tuple #[.int .i64 0, .int .i64 0, .bool false]) (by simp [results, Try.results16, go_sem, *] <;> rfl) rfl ⟨rfl, by go_grown⟩
theorem walkAEx (a b c p q r s sg ex : Int) (ok : Bool) (w : World) (h : AEOut a b c p q r s sg ex ok) :
    Calls Try.prog 3 #[.agg #[.int .i64 a, .int .i64 b, .int .i64 c], .agg #[.int .i64 p, .int .i64 q, .int .i64 r, .int .i64 s]] w fun e w' => e = .returned (.bool true) ∧ Below w.heap.size w w' := by
  have HS := Lib.hid (fun w => spec_AutomorphExponent a b c p q r s sg ex ok w h)
  have HI := Lib.hid (fun w => impl_AutomorphExponent a b c p q r s sg ex ok w h)
  clear h
  go_enter Try.func3, Try.ntmps3
  have HC := HS
  go_wp2_with fail
  refine region_named (fun W hW => ?_)
  have i0 : Holds W w.heap.size (cF ⟨a, b, c⟩) 23 := by rw [hW]; exact (by repeat (first | (refine Holds.new' _ _ _ ?_; simp; done) | refine Holds.alloc ?_ _ | refine Holds.far ?_ (by first | omega | (simp; done) | (simp; omega))))
  have i1 : Holds W (w.heap.size + 1) (cM ⟨p, q, r, s⟩) 25 := by rw [hW]; exact (by repeat (first | (refine Holds.new' _ _ _ ?_; simp; done) | refine Holds.alloc ?_ _ | refine Holds.far ?_ (by first | omega | (simp; done) | (simp; omega))))
  have hB : Below w.heap.size w W := by rw [hW]; go_grown
  clear hW
  have e0 : ∀ x' : Aft W, x'.w.cell? ⟨w.heap.size, 0, none⟩ = some (.int .i64 a) := fun x' => x'.cell (Holds.lt i0) (Holds.cell i0 rfl)
  have e1 : ∀ x' : Aft W, x'.w.cell? ⟨w.heap.size, 1, none⟩ = some (.int .i64 b) := fun x' => x'.cell (Holds.lt i0) (Holds.cell i0 rfl)
  have e2 : ∀ x' : Aft W, x'.w.cell? ⟨w.heap.size, 2, none⟩ = some (.int .i64 c) := fun x' => x'.cell (Holds.lt i0) (Holds.cell i0 rfl)
  have g0 : ∀ x' : Aft W, x'.w.cell? ⟨(w.heap.size + 1), 0, none⟩ = some (.int .i64 p) := fun x' => x'.cell (Holds.lt i1) (Holds.cell i1 rfl)
  have g1 : ∀ x' : Aft W, x'.w.cell? ⟨(w.heap.size + 1), 1, none⟩ = some (.int .i64 q) := fun x' => x'.cell (Holds.lt i1) (Holds.cell i1 rfl)
  have g2 : ∀ x' : Aft W, x'.w.cell? ⟨(w.heap.size + 1), 2, none⟩ = some (.int .i64 r) := fun x' => x'.cell (Holds.lt i1) (Holds.cell i1 rfl)
  have g3 : ∀ x' : Aft W, x'.w.cell? ⟨(w.heap.size + 1), 3, none⟩ = some (.int .i64 s) := fun x' => x'.cell (Holds.lt i1) (Holds.cell i1 rfl)
  refine region_aft (by kernel_rfl) (by kernel_rfl) ?_
  repeat go_big_quiet_step ((first
    | (go_at_call 14; exact callsAft (laws_toForm a b c _))
    | (go_at_call 15; exact callsAft (laws_toMatrix p q r s _))
    | (go_at_call 13; exact callsAft (HC.out _))))
  refine wpQuiet_nil ?_
  clear HC
  intro w1 hb1
  have j0 := i0.below hb1
  have j1 := i1.below hb1
  have hB1 : Below w.heap.size w w1 := Below.after hB hb1
  clear i0 i1 hB hb1 e0 e1 e2 g0 g1 g2 g3
  have HC := HI
  go_wp2_with fail
  refine region_named (fun W hW => ?_)
  have i0 : Holds W w.heap.size (cF ⟨a, b, c⟩) 23 := by rw [hW]; exact j0
  have i1 : Holds W (w.heap.size + 1) (cM ⟨p, q, r, s⟩) 25 := by rw [hW]; exact j1
  have hB : Below w.heap.size w W := by rw [hW]; go_grown
  clear hW
  have e0 : ∀ x' : Aft W, x'.w.cell? ⟨w.heap.size, 0, none⟩ = some (.int .i64 a) := fun x' => x'.cell (Holds.lt i0) (Holds.cell i0 rfl)
  have e1 : ∀ x' : Aft W, x'.w.cell? ⟨w.heap.size, 1, none⟩ = some (.int .i64 b) := fun x' => x'.cell (Holds.lt i0) (Holds.cell i0 rfl)
  have e2 : ∀ x' : Aft W, x'.w.cell? ⟨w.heap.size, 2, none⟩ = some (.int .i64 c) := fun x' => x'.cell (Holds.lt i0) (Holds.cell i0 rfl)
  have g0 : ∀ x' : Aft W, x'.w.cell? ⟨(w.heap.size + 1), 0, none⟩ = some (.int .i64 p) := fun x' => x'.cell (Holds.lt i1) (Holds.cell i1 rfl)
  have g1 : ∀ x' : Aft W, x'.w.cell? ⟨(w.heap.size + 1), 1, none⟩ = some (.int .i64 q) := fun x' => x'.cell (Holds.lt i1) (Holds.cell i1 rfl)
  have g2 : ∀ x' : Aft W, x'.w.cell? ⟨(w.heap.size + 1), 2, none⟩ = some (.int .i64 r) := fun x' => x'.cell (Holds.lt i1) (Holds.cell i1 rfl)
  have g3 : ∀ x' : Aft W, x'.w.cell? ⟨(w.heap.size + 1), 3, none⟩ = some (.int .i64 s) := fun x' => x'.cell (Holds.lt i1) (Holds.cell i1 rfl)
  refine region_aft (by kernel_rfl) (by kernel_rfl) ?_
  repeat go_big_quiet_step ((first
    | (go_at_call 14; exact callsAft (laws_toForm a b c _))
    | (go_at_call 15; exact callsAft (laws_toMatrix p q r s _))
    | (go_at_call 16; exact callsAft (HC.out _))))
  refine wpQuiet_nil ?_
  intro w2 hb2
  have hB2 : Below w.heap.size w w2 := Below.after hB hb2
  clear i0 i1 hB hb2 e0 e1 e2 g0 g1 g2 g3 j0 j1
  go_wp2_with fail
  all_goals (try go_ret)
  all_goals exact ⟨rfl, hB2⟩
theorem walkAutomorphExponent (a b c p q r s : Int) (w : World) (wa : (Lit.int .i64 a).wf = true) (wb : (Lit.int .i64 b).wf = true) (wc : (Lit.int .i64 c).wf = true) (wp : (Lit.int .i64 p).wf = true) (wq : (Lit.int .i64 q).wf = true) (wr : (Lit.int .i64 r).wf = true) (ws : (Lit.int .i64 s).wf = true) :
    Calls Try.prog 3 #[.agg #[.int .i64 a, .int .i64 b, .int .i64 c], .agg #[.int .i64 p, .int .i64 q, .int .i64 r, .int .i64 s]] w fun e w' => e = .returned (.bool true) ∧ Below w.heap.size w w' := by
  obtain ⟨sg, ex, ok, h⟩ := aeOut_ex a b c p q r s
  exact walkAEx a b c p q r s sg ex ok w h
end Go.Proofs.Ytdonpiihjoihcaa
