/- Contracts and the walk of the law: the exponent of an automorph. -/
import Derived.Test.YtdonpiihjoihcaaAU
namespace Go.Proofs.Ytdonpiihjoihcaa
set_option linter.unusedVariables false
open Go.ChangeShapes Go.WideShapes Go.ChangeAt Go.RowKit

theorem spec_foDet (p q r s : Int) (w : World) (h : good4 p q r s = true) :
    Calls Try.prog 53 #[.agg #[.int .i64 p, .int .i64 q, .int .i64 r, .int .i64 s]] w fun e w' => e = .returned (.int .i64 (p * s - q * r)) ∧ Below w.heap.size w w' := by
  obtain ⟨hp, hq, hr, hs⟩ := good4_iff.1 h
  obtain ⟨a1, a2⟩ := prod_bd hp hs
  obtain ⟨b1, b2⟩ := prod_bd hq hr
  clear h hp hq hr hs
  go_enter Try.func53, Try.ntmps53
  go_wp2_with fail
  go_ret
  exact ⟨rfl, by go_grown⟩
/-- at the head of the loop -/
def AEAt (w : World) (f : Fm) (m : Mx) (sg ex : Int) (ok : Bool) (i : Value) (wr : World) : Prop :=
  ∃ k : Int, i = .int .i64 k ∧ -20 ≤ k ∧ k ≤ 21 ∧ AE f.a f.b f.c m k sg ex ok ∧ Below w.heap.size w wr ∧ Holds wr w.heap.size (cF f) 28 ∧ Holds wr (w.heap.size + 1) (cM m) 30
/-- what AutomorphExponent hands back -/
def AEOut (a b c p q r s sg ex : Int) (ok : Bool) : Prop := (primB a b c = true ∧ good4 p q r s = true ∧ AE a b c ⟨p, q, r, s⟩ (-20) sg ex ok) ∨ (¬ (primB a b c = true ∧ good4 p q r s = true) ∧ sg = 0 ∧ ex = 0 ∧ ok = false)
theorem aeOut_ex (a b c p q r s : Int) : ∃ sg ex ok, AEOut a b c p q r s sg ex ok := by
  by_cases h : primB a b c = true ∧ good4 p q r s = true
  · obtain ⟨sg, ex, ok, hr⟩ := ae_ex (indefB_iff.1 (primB_iff.1 h.1).1).2 ⟨p, q, r, s⟩ 41 (-20) (by omega)
    exact ⟨sg, ex, ok, .inl ⟨h.1, h.2, hr⟩⟩
  · exact ⟨0, 0, false, .inr ⟨h, rfl, rfl, rfl⟩⟩
/-- the tests ahead of the search -/
theorem ax_tests {a b c p q r s : Int} (h : ¬ Auto a b c ⟨p, q, r, s⟩) : (p * s - q * r == 1) = false ∨ ((p * s - q * r == 1) = true ∧ (valF a b c p r == a) = false) ∨ ((p * s - q * r == 1) = true ∧ (valF a b c p r == a) = true ∧ (polF a b c p r q s == b) = false) ∨
    ((p * s - q * r == 1) = true ∧ (valF a b c p r == a) = true ∧ (polF a b c p r q s == b) = true ∧ (valF a b c q s == c) = false) := by
  by_cases h1 : p * s - q * r = 1
  · by_cases h2 : valF a b c p r = a
    · by_cases h3 : polF a b c p r q s = b
      · by_cases h4 : valF a b c q s = c
        · exact absurd ⟨h1, h2, h3, h4⟩ h
        · right; right; right; exact ⟨by simp [h1], by simp [h2], by simp [h3], by simp [h4]⟩
      · right; right; left; exact ⟨by simp [h1], by simp [h2], by simp [h3]⟩
    · right; left; exact ⟨by simp [h1], by simp [h2]⟩
  · left; simp [h1]
theorem neB {x y : Int} (h : (x == y) = false) : (x != y) = true := by rw [bne, h]; rfl
theorem eqB {x y : Int} (h : (x == y) = true) : (x != y) = false := by rw [bne, h]; rfl
theorem mx_ne {x y z u p q r s : Int} (h : (⟨x, y, z, u⟩ : Mx) ≠ ⟨p, q, r, s⟩) : (x == p) = false ∨ ((x == p) = true ∧ (y == q) = false) ∨ ((x == p) = true ∧ (y == q) = true ∧ (z == r) = false) ∨ ((x == p) = true ∧ (y == q) = true ∧ (z == r) = true ∧ (u == s) = false) := by
  by_cases h1 : x = p
  · by_cases h2 : y = q
    · by_cases h3 : z = r
      · by_cases h4 : u = s
        · subst h1 h2 h3 h4; exact absurd rfl h
        · right; right; right; exact ⟨by simp [h1], by simp [h2], by simp [h3], by simp [h4]⟩
      · right; right; left; exact ⟨by simp [h1], by simp [h2], by simp [h3]⟩
    · right; left; exact ⟨by simp [h1], by simp [h2]⟩
  · left; simp [h1]
set_option maxHeartbeats 4000000 in
set_option maxRecDepth 100000 in
theorem spec_AutomorphExponent (a b c p q r s sg ex : Int) (ok : Bool) (w : World) (h : AEOut a b c p q r s sg ex ok) :
    Calls Try.prog 13 #[.agg #[.int .i64 a, .int .i64 b, .int .i64 c], .agg #[.int .i64 p, .int .i64 q, .int .i64 r, .int .i64 s]] w fun e w' => e = .returned (.tuple #[.int .i64 sg, .int .i64 ex, .bool ok]) ∧ Below w.heap.size w w' := by
  by_cases hpm : primB a b c = true ∧ good4 p q r s = true
  · obtain ⟨hp, hm⟩ := hpm
    have hae : AE a b c ⟨p, q, r, s⟩ (-20) sg ex ok := by
      rcases h with ⟨_, _, h⟩ | ⟨h, _⟩
      · exact h
      · exact absurd ⟨hp, hm⟩ h
    clear h
    have Hi := Lib.hid (primB_iff.1 hp).1
    have Hg := Lib.hid (indefB_good (primB_iff.1 hp).1)
    have Hp := Lib.hid hp
    clear hp
    have Hm := Lib.hid hm
    clear hm
    by_cases hA : Auto a b c ⟨p, q, r, s⟩
    · have e1 : (p * s - q * r == 1) = true := by have := hA.1; unfold detM at this; simpa using this
      have e2 : (valF a b c p r == a) = true := by simpa using hA.2.1
      have e3 : (polF a b c p r q s == b) = true := by simpa using hA.2.2.1
      have e4 : (valF a b c q s == c) = true := by simpa using hA.2.2.2
      have n1 := eqB e1
      have Hae := Lib.hid hae
      clear hae hA
      go_enter Try.func13, Try.ntmps13
      go_wp2_with fail
      refine region_named (fun W hW => ?_)
      have a0 : Holds W w.heap.size (cF ⟨a, b, c⟩) 28 := by rw [hW]; repeat (first | (refine Holds.new' _ _ _ ?_; simp; done) | refine Holds.alloc ?_ _ | refine Holds.far ?_ (by first | omega | (simp; done) | (simp; omega)))
      have a1 : Holds W (w.heap.size + 1) (cM ⟨p, q, r, s⟩) 30 := by rw [hW]; repeat (first | (refine Holds.new' _ _ _ ?_; simp; done) | refine Holds.alloc ?_ _ | refine Holds.far ?_ (by first | omega | (simp; done) | (simp; omega)))
      have y0 : ∀ x' : Aft W, x'.w.cell? ⟨w.heap.size, 0, none⟩ = some (.int .i64 a) := fun x' => x'.cell (Holds.lt a0) (Holds.cell a0 rfl)
      have y1 : ∀ x' : Aft W, x'.w.cell? ⟨w.heap.size, 1, none⟩ = some (.int .i64 b) := fun x' => x'.cell (Holds.lt a0) (Holds.cell a0 rfl)
      have y2 : ∀ x' : Aft W, x'.w.cell? ⟨w.heap.size, 2, none⟩ = some (.int .i64 c) := fun x' => x'.cell (Holds.lt a0) (Holds.cell a0 rfl)
      have x0 : ∀ x' : Aft W, x'.w.cell? ⟨w.heap.size + 1, 0, none⟩ = some (.int .i64 p) := fun x' => x'.cell (Holds.lt a1) (Holds.cell a1 rfl)
      have x1 : ∀ x' : Aft W, x'.w.cell? ⟨w.heap.size + 1, 1, none⟩ = some (.int .i64 q) := fun x' => x'.cell (Holds.lt a1) (Holds.cell a1 rfl)
      have x2 : ∀ x' : Aft W, x'.w.cell? ⟨w.heap.size + 1, 2, none⟩ = some (.int .i64 r) := fun x' => x'.cell (Holds.lt a1) (Holds.cell a1 rfl)
      have x3 : ∀ x' : Aft W, x'.w.cell? ⟨w.heap.size + 1, 3, none⟩ = some (.int .i64 s) := fun x' => x'.cell (Holds.lt a1) (Holds.cell a1 rfl)
      refine region_aft (by kernel_rfl) (by kernel_rfl) ?_
      repeat go_big_quiet_step ((first
        | (go_at_call 51; exact callsAft (spec_unForm a b c _ _ Hp.out))
        | (go_at_call 52; exact callsAft (spec_foMatrix p q r s _ _ Hm.out))
        | (go_at_call 53; exact callsAft (spec_foDet p q r s _ Hm.out))
        | (go_at_call 54; exact callsAft (spec_foAct a b c p q r s _ Hg.out Hm.out))))
      refine wpQuiet_nil ?_
      intro w1 hb1
      have hB1 : Below w.heap.size w w1 := Below.after (by rw [hW]; go_grown) hb1
      have b0 := Lib.hid (a0.below hb1)
      have b1 := Lib.hid (a1.below hb1)
      clear y0 y1 y2 x0 x1 x2 x3 a0 a1 hW hb1 e1 e2 e3 e4 n1
      go_wp2_with fail
      go_loopw [7] (fun i wr => AEAt w ⟨a, b, c⟩ ⟨p, q, r, s⟩ sg ex ok i wr) (fun i _ => (21 - intOf i).toNat)
      case atStart => exact ⟨-20, rfl, by omega, by omega, Hae.out, hB1, b0.out, b1.out⟩
      case round =>
        obtain ⟨k, rfl, hk1, hk2, hae, hB, h0, h1⟩ := hrel
        clear b0 b1 hB1
        rcases ae_cases hae with ⟨hk, rfl, rfl, rfl⟩ | ⟨hk, n, v, ho, hc⟩
        · clear hae h0 h1
          go_wp2_with fail
          refine bodyPost_ret (v := .tuple #[.int .i64 0, .int .i64 0, .bool false]) (by simp [results, Try.results13, go_sem, *] <;> rfl) rfl ⟨rfl, hB⟩
        · clear hae
          obtain ⟨np, nq, nr, ns⟩ := n
          have Ho := Lib.hid ho
          have Hc := Lib.hid hc
          clear ho hc
          have hz0 := h0.lt
          have hz1 := h1.lt
          have y0 : wr.cell? ⟨w.heap.size, 0, none⟩ = some (.int .i64 a) := Holds.cell h0 rfl
          have y1 : wr.cell? ⟨w.heap.size, 1, none⟩ = some (.int .i64 b) := Holds.cell h0 rfl
          have y2 : wr.cell? ⟨w.heap.size, 2, none⟩ = some (.int .i64 c) := Holds.cell h0 rfl
          have yf0 : wr.frozen? ⟨w.heap.size, 0, none⟩ = false := Holds.free h0
          have yf1 : wr.frozen? ⟨w.heap.size, 1, none⟩ = false := Holds.free h0
          have yf2 : wr.frozen? ⟨w.heap.size, 2, none⟩ = false := Holds.free h0
          go_wp2_with fail
          refine (spec_unAutomorph a b c k ⟨np, nq, nr, ns⟩ v _ Hi.out hk1 hk Ho.out).mono ?_
          rintro e w2 ⟨⟨p', q', r', s', rfl, hm'⟩, hb2⟩
          have hB2 : Below w.heap.size w w2 := Below.after hB hb2
          have g0 := Holds.below h0 hb2
          have g1 := Holds.below h1 hb2
          clear y0 y1 y2 yf0 yf1 yf2
          clear hb2 h0 h1 hB
          have hz2 := g0.lt
          have hz3 := g1.lt
          have x0 : w2.cell? ⟨(w.heap.size + 1), 0, none⟩ = some (.int .i64 p) := Holds.cell g1 rfl
          have x1 : w2.cell? ⟨(w.heap.size + 1), 1, none⟩ = some (.int .i64 q) := Holds.cell g1 rfl
          have x2 : w2.cell? ⟨(w.heap.size + 1), 2, none⟩ = some (.int .i64 r) := Holds.cell g1 rfl
          have x3 : w2.cell? ⟨(w.heap.size + 1), 3, none⟩ = some (.int .i64 s) := Holds.cell g1 rfl
          have xf0 : w2.frozen? ⟨(w.heap.size + 1), 0, none⟩ = false := Holds.free g1
          have xf1 : w2.frozen? ⟨(w.heap.size + 1), 1, none⟩ = false := Holds.free g1
          have xf2 : w2.frozen? ⟨(w.heap.size + 1), 2, none⟩ = false := Holds.free g1
          have xf3 : w2.frozen? ⟨(w.heap.size + 1), 3, none⟩ = false := Holds.free g1
          have G := Lib.hid (And.intro g0 g1)
          have Hm' := Lib.hid hm'
          clear g0 g1 hm'
          cases v with
          | false =>
            have hnx : AE a b c ⟨p, q, r, s⟩ (k + 1) sg ex ok := by
              rcases Hc.out with ⟨h, _⟩ | ⟨h, _⟩ | ⟨_, h⟩
              · cases h
              · cases h
              · exact h
            have Hnx := Lib.hid hnx
            clear hnx
            go_wp2_with fail
            go_roundw
            case rel => exact ⟨k + 1, rfl, by omega, by omega, Hnx.out, by go_grown, G.out.1.alloc _, G.out.2.alloc _⟩
            case measure => simp [intOf]; omega
          | true =>
            obtain ⟨rfl, rfl, rfl, rfl⟩ : p' = np ∧ q' = nq ∧ r' = nr ∧ s' = ns := by have := Hm'.out rfl; simpa using this
            obtain ⟨⟨hq1, hq2⟩, ⟨hq3, hq4⟩, ⟨hq5, hq6⟩, hq7, hq8⟩ := good4_iff.1 (autOut_auto Ho.out).2
            simp only at hq1 hq2 hq3 hq4 hq5 hq6 hq7 hq8
            clear Hm' Ho
            rcases Hc.out with ⟨_, he, rfl, rfl, rfl⟩ | ⟨_, hne, he, rfl, rfl, rfl⟩ | ⟨hno, hnx⟩
            · simp only [Mx.mk.injEq] at he
              obtain ⟨rfl, rfl, rfl, rfl⟩ := he
              clear Hc G
              go_wp2_with fail
              refine bodyPost_ret (v := .tuple #[.int .i64 1, .int .i64 ex, .bool true]) (by simp [results, Try.results13, go_sem, *] <;> rfl) rfl ⟨rfl, by go_grown⟩
            · unfold negM at he
              simp only [Mx.mk.injEq] at he
              obtain ⟨rfl, rfl, rfl, rfl⟩ := he
              clear Hc G
              rcases mx_ne (id hne) with f1 | ⟨f1, f2⟩ | ⟨f1, f2, f3⟩ | ⟨f1, f2, f3, f4⟩
              all_goals
                clear hne
                go_wp2_with fail
                refine bodyPost_ret (v := .tuple #[.int .i64 (-1), .int .i64 ex, .bool true]) (by simp [results, Try.results13, go_sem, *] <;> rfl) rfl ⟨rfl, by go_grown⟩
            · obtain ⟨hn1, hn2⟩ := hno rfl
              unfold negM at hn2
              have Hnx := Lib.hid hnx
              clear hno hnx Hc
              rcases mx_ne (id hn1) with f1 | ⟨f1, f2⟩ | ⟨f1, f2, f3⟩ | ⟨f1, f2, f3, f4⟩ <;> rcases mx_ne (id hn2) with k1 | ⟨k1, k2⟩ | ⟨k1, k2, k3⟩ | ⟨k1, k2, k3, k4⟩
              all_goals
                clear hn1 hn2
                go_wp2_with fail
                go_roundw
                case rel => exact ⟨k + 1, rfl, by omega, by omega, Hnx.out, by go_grown, G.out.1.alloc _, G.out.2.alloc _⟩
                case measure => simp [intOf]; omega
    · obtain ⟨rfl, rfl, rfl⟩ := ae_no hae hA
      have ht := ax_tests hA
      clear hae hA
      rcases ht with e1 | ⟨e1, e2⟩ | ⟨e1, e2, e3⟩ | ⟨e1, e2, e3, e4⟩
      · have n1 := neB e1
        go_enter Try.func13, Try.ntmps13
        go_wp2_with fail
        refine region_named (fun W hW => ?_)
        have a0 : Holds W w.heap.size (cF ⟨a, b, c⟩) 28 := by rw [hW]; repeat (first | (refine Holds.new' _ _ _ ?_; simp; done) | refine Holds.alloc ?_ _ | refine Holds.far ?_ (by first | omega | (simp; done) | (simp; omega)))
        have a1 : Holds W (w.heap.size + 1) (cM ⟨p, q, r, s⟩) 30 := by rw [hW]; repeat (first | (refine Holds.new' _ _ _ ?_; simp; done) | refine Holds.alloc ?_ _ | refine Holds.far ?_ (by first | omega | (simp; done) | (simp; omega)))
        have y0 : ∀ x' : Aft W, x'.w.cell? ⟨w.heap.size, 0, none⟩ = some (.int .i64 a) := fun x' => x'.cell (Holds.lt a0) (Holds.cell a0 rfl)
        have y1 : ∀ x' : Aft W, x'.w.cell? ⟨w.heap.size, 1, none⟩ = some (.int .i64 b) := fun x' => x'.cell (Holds.lt a0) (Holds.cell a0 rfl)
        have y2 : ∀ x' : Aft W, x'.w.cell? ⟨w.heap.size, 2, none⟩ = some (.int .i64 c) := fun x' => x'.cell (Holds.lt a0) (Holds.cell a0 rfl)
        have x0 : ∀ x' : Aft W, x'.w.cell? ⟨w.heap.size + 1, 0, none⟩ = some (.int .i64 p) := fun x' => x'.cell (Holds.lt a1) (Holds.cell a1 rfl)
        have x1 : ∀ x' : Aft W, x'.w.cell? ⟨w.heap.size + 1, 1, none⟩ = some (.int .i64 q) := fun x' => x'.cell (Holds.lt a1) (Holds.cell a1 rfl)
        have x2 : ∀ x' : Aft W, x'.w.cell? ⟨w.heap.size + 1, 2, none⟩ = some (.int .i64 r) := fun x' => x'.cell (Holds.lt a1) (Holds.cell a1 rfl)
        have x3 : ∀ x' : Aft W, x'.w.cell? ⟨w.heap.size + 1, 3, none⟩ = some (.int .i64 s) := fun x' => x'.cell (Holds.lt a1) (Holds.cell a1 rfl)
        refine region_aft (by kernel_rfl) (by kernel_rfl) ?_
        repeat go_big_quiet_step ((first
          | (go_at_call 51; exact callsAft (spec_unForm a b c _ _ Hp.out))
          | (go_at_call 52; exact callsAft (spec_foMatrix p q r s _ _ Hm.out))
          | (go_at_call 53; exact callsAft (spec_foDet p q r s _ Hm.out))
          | (go_at_call 54; exact callsAft (spec_foAct a b c p q r s _ Hg.out Hm.out))))
        refine wpQuiet_nil ?_
        intro w1 hb1
        have hB1 : Below w.heap.size w w1 := Below.after (by rw [hW]; go_grown) hb1
        clear y0 y1 y2 x0 x1 x2 x3 a0 a1 hW hb1
        go_wp2_with fail
        refine bodyPost_ret (v := .tuple #[.int .i64 0, .int .i64 0, .bool false]) (by simp [results, Try.results13, go_sem, *] <;> rfl) rfl ⟨rfl, hB1⟩
      all_goals
        have n1 := eqB e1
        go_enter Try.func13, Try.ntmps13
        go_wp2_with fail
        refine region_named (fun W hW => ?_)
        have a0 : Holds W w.heap.size (cF ⟨a, b, c⟩) 28 := by rw [hW]; repeat (first | (refine Holds.new' _ _ _ ?_; simp; done) | refine Holds.alloc ?_ _ | refine Holds.far ?_ (by first | omega | (simp; done) | (simp; omega)))
        have a1 : Holds W (w.heap.size + 1) (cM ⟨p, q, r, s⟩) 30 := by rw [hW]; repeat (first | (refine Holds.new' _ _ _ ?_; simp; done) | refine Holds.alloc ?_ _ | refine Holds.far ?_ (by first | omega | (simp; done) | (simp; omega)))
        have y0 : ∀ x' : Aft W, x'.w.cell? ⟨w.heap.size, 0, none⟩ = some (.int .i64 a) := fun x' => x'.cell (Holds.lt a0) (Holds.cell a0 rfl)
        have y1 : ∀ x' : Aft W, x'.w.cell? ⟨w.heap.size, 1, none⟩ = some (.int .i64 b) := fun x' => x'.cell (Holds.lt a0) (Holds.cell a0 rfl)
        have y2 : ∀ x' : Aft W, x'.w.cell? ⟨w.heap.size, 2, none⟩ = some (.int .i64 c) := fun x' => x'.cell (Holds.lt a0) (Holds.cell a0 rfl)
        have x0 : ∀ x' : Aft W, x'.w.cell? ⟨w.heap.size + 1, 0, none⟩ = some (.int .i64 p) := fun x' => x'.cell (Holds.lt a1) (Holds.cell a1 rfl)
        have x1 : ∀ x' : Aft W, x'.w.cell? ⟨w.heap.size + 1, 1, none⟩ = some (.int .i64 q) := fun x' => x'.cell (Holds.lt a1) (Holds.cell a1 rfl)
        have x2 : ∀ x' : Aft W, x'.w.cell? ⟨w.heap.size + 1, 2, none⟩ = some (.int .i64 r) := fun x' => x'.cell (Holds.lt a1) (Holds.cell a1 rfl)
        have x3 : ∀ x' : Aft W, x'.w.cell? ⟨w.heap.size + 1, 3, none⟩ = some (.int .i64 s) := fun x' => x'.cell (Holds.lt a1) (Holds.cell a1 rfl)
        refine region_aft (by kernel_rfl) (by kernel_rfl) ?_
        repeat go_big_quiet_step ((first
          | (go_at_call 51; exact callsAft (spec_unForm a b c _ _ Hp.out))
          | (go_at_call 52; exact callsAft (spec_foMatrix p q r s _ _ Hm.out))
          | (go_at_call 53; exact callsAft (spec_foDet p q r s _ Hm.out))
          | (go_at_call 54; exact callsAft (spec_foAct a b c p q r s _ Hg.out Hm.out))))
        refine wpQuiet_nil ?_
        intro w1 hb1
        have hB1 : Below w.heap.size w w1 := Below.after (by rw [hW]; go_grown) hb1
        clear y0 y1 y2 x0 x1 x2 x3 a0 a1 hW hb1
        go_wp2_with fail
        refine bodyPost_ret (v := .tuple #[.int .i64 0, .int .i64 0, .bool false]) (by simp [results, Try.results13, go_sem, *] <;> rfl) rfl ⟨rfl, hB1⟩
  · obtain ⟨rfl, rfl, rfl⟩ : sg = 0 ∧ ex = 0 ∧ ok = false := by
      rcases h with ⟨h1, h2, _⟩ | ⟨_, h⟩
      · exact absurd ⟨h1, h2⟩ hpm
      · exact h
    clear h
    have Hg : True := trivial
    cases hp : primB a b c with
    | false =>
      have Hp := Lib.hid hp
      clear hp
      have Hm : True := trivial
      clear hpm
      go_enter Try.func13, Try.ntmps13
      go_wp2_with fail
      refine region_named (fun W hW => ?_)
      have a0 : Holds W w.heap.size (cF ⟨a, b, c⟩) 28 := by rw [hW]; repeat (first | (refine Holds.new' _ _ _ ?_; simp; done) | refine Holds.alloc ?_ _ | refine Holds.far ?_ (by first | omega | (simp; done) | (simp; omega)))
      have a1 : Holds W (w.heap.size + 1) (cM ⟨p, q, r, s⟩) 30 := by rw [hW]; repeat (first | (refine Holds.new' _ _ _ ?_; simp; done) | refine Holds.alloc ?_ _ | refine Holds.far ?_ (by first | omega | (simp; done) | (simp; omega)))
      have y0 : ∀ x' : Aft W, x'.w.cell? ⟨w.heap.size, 0, none⟩ = some (.int .i64 a) := fun x' => x'.cell (Holds.lt a0) (Holds.cell a0 rfl)
      have y1 : ∀ x' : Aft W, x'.w.cell? ⟨w.heap.size, 1, none⟩ = some (.int .i64 b) := fun x' => x'.cell (Holds.lt a0) (Holds.cell a0 rfl)
      have y2 : ∀ x' : Aft W, x'.w.cell? ⟨w.heap.size, 2, none⟩ = some (.int .i64 c) := fun x' => x'.cell (Holds.lt a0) (Holds.cell a0 rfl)
      have x0 : ∀ x' : Aft W, x'.w.cell? ⟨w.heap.size + 1, 0, none⟩ = some (.int .i64 p) := fun x' => x'.cell (Holds.lt a1) (Holds.cell a1 rfl)
      have x1 : ∀ x' : Aft W, x'.w.cell? ⟨w.heap.size + 1, 1, none⟩ = some (.int .i64 q) := fun x' => x'.cell (Holds.lt a1) (Holds.cell a1 rfl)
      have x2 : ∀ x' : Aft W, x'.w.cell? ⟨w.heap.size + 1, 2, none⟩ = some (.int .i64 r) := fun x' => x'.cell (Holds.lt a1) (Holds.cell a1 rfl)
      have x3 : ∀ x' : Aft W, x'.w.cell? ⟨w.heap.size + 1, 3, none⟩ = some (.int .i64 s) := fun x' => x'.cell (Holds.lt a1) (Holds.cell a1 rfl)
      refine region_aft (by kernel_rfl) (by kernel_rfl) ?_
      repeat go_big_quiet_step ((first
        | (go_at_call 51; exact callsAft (spec_unForm a b c _ _ Hp.out))
        | (go_at_call 52; exact callsAft (spec_foMatrix p q r s _ _ Hm.out))
        | (go_at_call 53; exact callsAft (spec_foDet p q r s _ Hm.out))
        | (go_at_call 54; exact callsAft (spec_foAct a b c p q r s _ Hg.out Hm.out))))
      refine wpQuiet_nil ?_
      intro w1 hb1
      have hB1 : Below w.heap.size w w1 := Below.after (by rw [hW]; go_grown) hb1
      clear y0 y1 y2 x0 x1 x2 x3 a0 a1 hW hb1
      go_wp2_with fail
      refine bodyPost_ret (v := .tuple #[.int .i64 0, .int .i64 0, .bool false]) (by simp [results, Try.results13, go_sem, *] <;> rfl) rfl ⟨rfl, hB1⟩
    | true =>
      have hm : good4 p q r s = false := by
        cases hm : good4 p q r s with
        | false => rfl
        | true => exact absurd ⟨hp, hm⟩ hpm
      have Hp := Lib.hid hp
      clear hp
      have Hm := Lib.hid hm
      clear hm
      clear hpm
      go_enter Try.func13, Try.ntmps13
      go_wp2_with fail
      refine region_named (fun W hW => ?_)
      have a0 : Holds W w.heap.size (cF ⟨a, b, c⟩) 28 := by rw [hW]; repeat (first | (refine Holds.new' _ _ _ ?_; simp; done) | refine Holds.alloc ?_ _ | refine Holds.far ?_ (by first | omega | (simp; done) | (simp; omega)))
      have a1 : Holds W (w.heap.size + 1) (cM ⟨p, q, r, s⟩) 30 := by rw [hW]; repeat (first | (refine Holds.new' _ _ _ ?_; simp; done) | refine Holds.alloc ?_ _ | refine Holds.far ?_ (by first | omega | (simp; done) | (simp; omega)))
      have y0 : ∀ x' : Aft W, x'.w.cell? ⟨w.heap.size, 0, none⟩ = some (.int .i64 a) := fun x' => x'.cell (Holds.lt a0) (Holds.cell a0 rfl)
      have y1 : ∀ x' : Aft W, x'.w.cell? ⟨w.heap.size, 1, none⟩ = some (.int .i64 b) := fun x' => x'.cell (Holds.lt a0) (Holds.cell a0 rfl)
      have y2 : ∀ x' : Aft W, x'.w.cell? ⟨w.heap.size, 2, none⟩ = some (.int .i64 c) := fun x' => x'.cell (Holds.lt a0) (Holds.cell a0 rfl)
      have x0 : ∀ x' : Aft W, x'.w.cell? ⟨w.heap.size + 1, 0, none⟩ = some (.int .i64 p) := fun x' => x'.cell (Holds.lt a1) (Holds.cell a1 rfl)
      have x1 : ∀ x' : Aft W, x'.w.cell? ⟨w.heap.size + 1, 1, none⟩ = some (.int .i64 q) := fun x' => x'.cell (Holds.lt a1) (Holds.cell a1 rfl)
      have x2 : ∀ x' : Aft W, x'.w.cell? ⟨w.heap.size + 1, 2, none⟩ = some (.int .i64 r) := fun x' => x'.cell (Holds.lt a1) (Holds.cell a1 rfl)
      have x3 : ∀ x' : Aft W, x'.w.cell? ⟨w.heap.size + 1, 3, none⟩ = some (.int .i64 s) := fun x' => x'.cell (Holds.lt a1) (Holds.cell a1 rfl)
      refine region_aft (by kernel_rfl) (by kernel_rfl) ?_
      repeat go_big_quiet_step ((first
        | (go_at_call 51; exact callsAft (spec_unForm a b c _ _ Hp.out))
        | (go_at_call 52; exact callsAft (spec_foMatrix p q r s _ _ Hm.out))
        | (go_at_call 53; exact callsAft (spec_foDet p q r s _ Hm.out))
        | (go_at_call 54; exact callsAft (spec_foAct a b c p q r s _ Hg.out Hm.out))))
      refine wpQuiet_nil ?_
      intro w1 hb1
      have hB1 : Below w.heap.size w w1 := Below.after (by rw [hW]; go_grown) hb1
      clear y0 y1 y2 x0 x1 x2 x3 a0 a1 hW hb1
      go_wp2_with fail
      refine bodyPost_ret (v := .tuple #[.int .i64 0, .int .i64 0, .bool false]) (by simp [results, Try.results13, go_sem, *] <;> rfl) rfl ⟨rfl, hB1⟩
end Go.Proofs.Ytdonpiihjoihcaa
