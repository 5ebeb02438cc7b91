/- Contracts and the walk of the law: powers of the fundamental solution. -/
import Derived.Test.YtdonpiihjoihcaaPZ
namespace Go.Proofs.Ytdonpiihjoihcaa
set_option linter.unusedVariables false
open Go.ChangeShapes Go.WideShapes Go.ChangeAt Go.RowKit

def prT (d a b x y : Int) : Int := (a * x + d * b * y).tdiv 2
def prU (a b x y : Int) : Int := (a * y + b * x).tdiv 2
def powF (d x y : Int) : Nat → Int → Int → Int × Int × Bool
  | 0, a, b => (a, b, true)
  | k + 1, a, b => if smB (prT d a b x y) (prU a b x y) = true then powF d x y k (prT d a b x y) (prU a b x y) else (0, 0, false)
theorem pr_bd {d a b x y : Int} (hd : 5 ≤ d ∧ d ≤ 1000) (ha : -100000000 ≤ a ∧ a ≤ 100000000) (hb : -1000000 ≤ b ∧ b ≤ 1000000) (hx : -100000000 ≤ x ∧ x ≤ 100000000) (hy : -1000000 ≤ y ∧ y ≤ 1000000) :
    (-10000000000000000 ≤ a * x ∧ a * x ≤ 10000000000000000) ∧ (-1000000000 ≤ d * b ∧ d * b ≤ 1000000000) ∧ (-1000000000000000 ≤ d * b * y ∧ d * b * y ≤ 1000000000000000) ∧
    (-100000000000000 ≤ a * y ∧ a * y ≤ 100000000000000) ∧ (-100000000000000 ≤ b * x ∧ b * x ≤ 100000000000000) := by
  have h1 : -10000000000000000 ≤ a * x ∧ a * x ≤ 10000000000000000 := mulb ha.1 ha.2 hx.1 hx.2
  have h2 : -1000000000 ≤ d * b ∧ d * b ≤ 1000000000 := mulb (A := 1000) (by omega) hd.2 hb.1 hb.2
  have h3 : -1000000000000000 ≤ d * b * y ∧ d * b * y ≤ 1000000000000000 := mulb h2.1 h2.2 hy.1 hy.2
  have h4 : -100000000000000 ≤ a * y ∧ a * y ≤ 100000000000000 := mulb ha.1 ha.2 hy.1 hy.2
  have h5 : -100000000000000 ≤ b * x ∧ b * x ≤ 100000000000000 := mulb hb.1 hb.2 hx.1 hx.2
  exact ⟨h1, h2, h3, h4, h5⟩
theorem tdiv2_bd {n B : Int} (h : -B ≤ n ∧ n ≤ B) : -B ≤ n.tdiv 2 ∧ n.tdiv 2 ≤ B := by
  have := Int.natAbs_tdiv_le_natAbs n 2
  omega
theorem smB_bd {t u : Int} (h : smB t u = true) : (-100000000 ≤ t ∧ t ≤ 100000000) ∧ -1000000 ≤ u ∧ u ≤ 1000000 := by
  obtain ⟨h1, h2⟩ := smB_iff.1 h
  simp [good] at h2
  exact ⟨h1, h2⟩
theorem spec_unProduct (d a b x y : Int) (w : World) (hd : 5 ≤ d ∧ d ≤ 1000) (h : smB a b = true) (h' : smB x y = true) :
    Calls Try.prog 123 #[.int .i64 d, .agg #[.int .i64 a, .int .i64 b], .agg #[.int .i64 x, .int .i64 y]] w fun e w' => e = .returned (.agg #[.int .i64 (prT d a b x y), .int .i64 (prU a b x y)]) ∧ Below w.heap.size w w' := by
  obtain ⟨ha, hb⟩ := smB_bd h
  obtain ⟨hx, hy⟩ := smB_bd h'
  obtain ⟨⟨a1, a2⟩, ⟨b1, b2⟩, ⟨c1, c2⟩, ⟨d1, d2⟩, ⟨e1, e2⟩⟩ := pr_bd hd ha hb hx hy
  have g1 := tdiv2_bd (n := a * x + d * b * y) (B := 11000000000000000) (by omega)
  have g2 := tdiv2_bd (n := a * y + b * x) (B := 11000000000000000) (by omega)
  clear h h' ha hb hx hy hd
  go_enter Try.func123, Try.ntmps123
  go_wp2_with fail
  go_returns
  exact ⟨rfl, by go_grown⟩
theorem impl_pellTimes (d a b x y : Int) (w : World) (hd : 5 ≤ d ∧ d ≤ 1000) (h : smB a b = true) (h' : smB x y = true) :
    Calls Try.prog 124 #[.int .i64 d, .agg #[.int .i64 a, .int .i64 b], .agg #[.int .i64 x, .int .i64 y]] w fun e w' => e = .returned (.agg #[.int .i64 (prT d a b x y), .int .i64 (prU a b x y)]) ∧ Below w.heap.size w w' := by
  obtain ⟨ha, hb⟩ := smB_bd h
  obtain ⟨hx, hy⟩ := smB_bd h'
  obtain ⟨⟨a1, a2⟩, ⟨b1, b2⟩, ⟨c1, c2⟩, ⟨d1, d2⟩, ⟨e1, e2⟩⟩ := pr_bd hd ha hb hx hy
  have g1 := tdiv2_bd (n := a * x + d * b * y) (B := 11000000000000000) (by omega)
  have g2 := tdiv2_bd (n := a * y + b * x) (B := 11000000000000000) (by omega)
  clear h h' ha hb hx hy hd
  go_enter Try.func124, Try.ntmps124
  go_wp2_with fail
  go_returns
  exact ⟨rfl, by go_grown⟩
/-- what a power hands back -/
def PwOut (d : Int) (k : Nat) (t u : Int) (v : Bool) : Prop := ∃ x y b, PellOut d x y b ∧ ((b = false ∧ t = 0 ∧ u = 0 ∧ v = false) ∨ (b = true ∧ smB x y = true ∧ powF d x y k 2 0 = (t, u, v)))
theorem pwOut_ex {d : Int} (h : posD d = true) (k : Nat) : ∃ t u v, PwOut d k t u v := by
  obtain ⟨x, y, b, hp⟩ := pellOut_ex h
  cases b with
  | false => exact ⟨0, 0, false, x, y, false, hp, .inl ⟨rfl, rfl, rfl, rfl⟩⟩
  | true =>
    refine ⟨_, _, _, x, y, true, hp, .inr ⟨rfl, ?_, rfl⟩⟩
    have := pellOut_bd h hp
    exact smB_iff.2 ⟨by omega, good_yes (by omega) (by omega)⟩
theorem powF_sm {d x y : Int} : ∀ (k : Nat) (a b t u : Int), smB a b = true → powF d x y k a b = (t, u, true) → smB t u = true
  | 0, a, b, t, u, h, e => by unfold powF at e; simp at e; obtain ⟨rfl, rfl⟩ := e; exact h
  | k + 1, a, b, t, u, h, e => by
    unfold powF at e
    split at e
    · rename_i hs; exact powF_sm k _ _ t u hs e
    · simp at e
theorem powF_no {d x y : Int} : ∀ (k : Nat) (a b t u : Int), powF d x y k a b = (t, u, false) → t = 0 ∧ u = 0
  | 0, a, b, t, u, e => by unfold powF at e; simp at e
  | k + 1, a, b, t, u, e => by
    unfold powF at e
    split at e
    · exact powF_no k _ _ t u e
    · simp at e; obtain ⟨rfl, rfl⟩ := e; exact ⟨rfl, rfl⟩
/-- a power that is known is small -/
theorem pwOut_sm {d t u : Int} {k : Nat} (h : PwOut d k t u true) : smB t u = true := by
  obtain ⟨x, y, b, _, ⟨_, _, _, h⟩ | ⟨_, _, h⟩⟩ := h
  · cases h
  · exact powF_sm k 2 0 t u (by decide) h
theorem pwOut_no {d t u : Int} {k : Nat} (h : PwOut d k t u false) : t = 0 ∧ u = 0 := by
  obtain ⟨x, y, b, _, ⟨_, h1, h2, _⟩ | ⟨_, _, h⟩⟩ := h
  · exact ⟨h1, h2⟩
  · exact powF_no k 2 0 t u h
/-- at the head of the loop: the power so far lies in block B, the solution in block C -/
def PwAt (w : World) (B C : Nat) (d x y t u : Int) (v : Bool) (s1 : Value) (wr : World) : Prop :=
  ∃ (k : Nat) (a b : Int), s1 = .int .i64 (k : Int) ∧ k ≤ 20 ∧ smB a b = true ∧ powF d x y k a b = (t, u, v) ∧ Below w.heap.size w wr ∧ w.heap.size < B ∧ w.heap.size < C ∧ B ≠ C ∧
    Holds wr w.heap.size #[.int .i64 0, .int .i64 0] 55 ∧ Holds wr B #[.int .i64 a, .int .i64 b] 55 ∧ Holds wr C #[.int .i64 x, .int .i64 y] 55
theorem pr_big {d a b x y : Int} (hd : 5 ≤ d ∧ d ≤ 1000) (h : smB a b = true) (h' : smB x y = true) : -1000000000000000000 ≤ prT d a b x y ∧ prT d a b x y ≤ 1000000000000000000 := by
  obtain ⟨ha, hb⟩ := smB_bd h
  obtain ⟨hx, hy⟩ := smB_bd h'
  obtain ⟨⟨a1, a2⟩, ⟨b1, b2⟩, ⟨c1, c2⟩, ⟨d1, d2⟩, ⟨e1, e2⟩⟩ := pr_bd hd ha hb hx hy
  have g1 := tdiv2_bd (n := a * x + d * b * y) (B := 11000000000000000) (by omega)
  unfold prT
  omega
theorem spec_smallB (t u : Int) (v : Bool) (w : World) (ht : -1000000000000000000 ≤ t ∧ t ≤ 1000000000000000000) (hv : smB t u = v) :
    Calls Try.prog 120 #[.agg #[.int .i64 t, .int .i64 u]] w fun e w' => e = .returned (.bool v) ∧ Below w.heap.size w w' := spec_small t u v w hv
set_option maxHeartbeats 1000000 in
theorem spec_unPower (d : Int) (k : Nat) (t u : Int) (v : Bool) (w : World) (hd : posD d = true) (hk : k ≤ 20) (h : PwOut d k t u v) :
    Calls Try.prog 90 #[.int .i64 d, .int .i64 (k : Int)] w fun e w' => e = .returned (.tuple #[.agg #[.int .i64 t, .int .i64 u], .bool v]) ∧ Below w.heap.size w w' := by
  obtain ⟨x, y, b, hp, hc⟩ := h
  obtain ⟨hd1, hd2, _⟩ := posD_iff.1 hd
  have Hd := Lib.hid hd
  clear hd
  have Hp := Lib.hid hp
  clear hp
  rcases hc with ⟨rfl, rfl, rfl, rfl⟩ | ⟨rfl, hs, hw⟩
  · go_enter Try.func90, Try.ntmps90
    go_wp2_with fail
    refine (spec_unFour d _ _ false _ Hd.out Hp.out).mono ?_
    rintro e w1 ⟨⟨x', y', rfl, hxy⟩, hb1⟩
    clear hxy
    have hB1 : Below w.heap.size w w1 := Below.after (by go_grown) hb1
    have a0 : Holds w1 w.heap.size #[.int .i64 0, .int .i64 0] 55 := Holds.below (by repeat (first | (refine Holds.new' _ _ _ ?_; simp; done) | refine Holds.alloc ?_ _ | refine Holds.far ?_ (by first | omega | (simp; done) | (simp; omega)))) hb1
    have hz1 := a0.lt
    clear hb1
    have y0 : w1.cell? ⟨w.heap.size, 0, none⟩ = some (.int .i64 0) := Holds.cell a0 rfl
    have y1 : w1.cell? ⟨w.heap.size, 1, none⟩ = some (.int .i64 0) := Holds.cell a0 rfl
    have yf0 : w1.frozen? ⟨w.heap.size, 0, none⟩ = false := Holds.free a0
    have yf1 : w1.frozen? ⟨w.heap.size, 1, none⟩ = false := Holds.free a0
    go_wp2_with fail
    refine bodyPost_ret (v := .tuple #[.agg #[.int .i64 0, .int .i64 0], .bool false]) (by simp [results, Try.results90, go_sem, *] <;> rfl) rfl ⟨rfl, by go_grown⟩
  · have Hs := Lib.hid hs
    clear hs
    have Hw := Lib.hid hw
    clear hw
    go_enter Try.func90, Try.ntmps90
    go_wp2_with fail
    refine (spec_unFour d x y true _ Hd.out Hp.out).mono ?_
    rintro e w1 ⟨⟨x', y', rfl, hxy⟩, hb1⟩
    obtain ⟨rfl, rfl⟩ := hxy rfl
    have hB1 : Below w.heap.size w w1 := Below.after (by go_grown) hb1
    have a0 : Holds w1 w.heap.size #[.int .i64 0, .int .i64 0] 55 := Holds.below (by repeat (first | (refine Holds.new' _ _ _ ?_; simp; done) | refine Holds.alloc ?_ _ | refine Holds.far ?_ (by first | omega | (simp; done) | (simp; omega)))) hb1
    have a1 : Holds w1 (w.heap.size + 1) #[.int .i64 2, .int .i64 0] 55 := Holds.below (by repeat (first | (refine Holds.new' _ _ _ ?_; simp; done) | refine Holds.alloc ?_ _ | refine Holds.far ?_ (by first | omega | (simp; done) | (simp; omega)))) hb1
    have hz1 := a1.lt
    clear hb1
    have A0 := Lib.hid a0
    have A1 := Lib.hid a1
    clear a0 a1
    go_wp2_with fail
    go_loopw [1] (fun s1 wr => PwAt w (w.heap.size + 1) w1.heap.size d x' y' t u v s1 wr) (fun s1 _ => (intOf s1).toNat)
    case atStart =>
      refine ⟨k, 2, 0, rfl, hk, by decide, Hw.out, by go_grown, by omega, by omega, by omega, A0.out.alloc _, A1.out.alloc _, ?_⟩
      repeat (first | (refine Holds.new' _ _ _ ?_; simp; done) | refine Holds.alloc ?_ _ | refine Holds.far ?_ (by first | omega | (simp; done) | (simp; omega)))
    case round =>
      obtain ⟨k', a, b, rfl, hk', hsm, hpw, hB, z1, z2, z3, h1, h2, h3⟩ := hrel
      clear A0 A1 hB1
      have Hsm := Lib.hid hsm
      have Hpw := Lib.hid hpw
      clear hsm hpw
      have hz2 := h2.lt
      have hz3 := h3.lt
      have y0 : wr.cell? ⟨(w.heap.size + 1), 0, none⟩ = some (.int .i64 a) := Holds.cell h2 rfl
      have y1 : wr.cell? ⟨(w.heap.size + 1), 1, none⟩ = some (.int .i64 b) := Holds.cell h2 rfl
      have yf0 : wr.frozen? ⟨(w.heap.size + 1), 0, none⟩ = false := Holds.free h2
      have yf1 : wr.frozen? ⟨(w.heap.size + 1), 1, none⟩ = false := Holds.free h2
      have x0 : wr.cell? ⟨(w1.heap.size), 0, none⟩ = some (.int .i64 x') := Holds.cell h3 rfl
      have x1 : wr.cell? ⟨(w1.heap.size), 1, none⟩ = some (.int .i64 y') := Holds.cell h3 rfl
      have xf0 : wr.frozen? ⟨(w1.heap.size), 0, none⟩ = false := Holds.free h3
      have xf1 : wr.frozen? ⟨(w1.heap.size), 1, none⟩ = false := Holds.free h3
      cases k' with
      | zero =>
        have hp := Hpw.out
        unfold powF at hp
        simp only [Prod.mk.injEq] at hp
        obtain ⟨rfl, rfl, rfl⟩ := hp
        have z0 : wr.cell? ⟨w.heap.size, 0, none⟩ = some (.int .i64 0) := Holds.cell h1 rfl
        have z1 : wr.cell? ⟨w.heap.size, 1, none⟩ = some (.int .i64 0) := Holds.cell h1 rfl
        have zf0 : wr.frozen? ⟨w.heap.size, 0, none⟩ = false := Holds.free h1
        have zf1 : wr.frozen? ⟨w.heap.size, 1, none⟩ = false := Holds.free h1
        go_wp2_with fail
        refine bodyPost_ret (v := .tuple #[.agg #[.int .i64 a, .int .i64 b], .bool true]) (by simp [results, Try.results90, go_sem, *] <;> rfl) rfl ⟨rfl, by go_grown⟩
      | succ n =>
        have hp := Hpw.out
        unfold powF at hp
        have hn1 : (0 : Int) < ((n + 1 : Nat) : Int) := by omega
        have H1 := Lib.hid h1
        have H3 := Lib.hid h3
        clear h1 h3
        go_wp2_with fail
        refine (spec_unProduct d a b x' y' _ ⟨hd1, hd2⟩ Hsm.out Hs.out).mono ?_
        rintro e w2 ⟨rfl, hb2⟩
        have hB2 : Below w.heap.size w w2 := Below.after hB hb2
        have g1 := Holds.below H1.out hb2
        have g2 := Holds.below h2 hb2
        have g3 := Holds.below H3.out hb2
        clear y0 y1 yf0 yf1
        clear x0 x1 xf0 xf1
        have y0 : w2.cell? ⟨(w.heap.size + 1), 0, none⟩ = some (.int .i64 a) := Holds.cell g2 rfl
        have y1 : w2.cell? ⟨(w.heap.size + 1), 1, none⟩ = some (.int .i64 b) := Holds.cell g2 rfl
        have yf0 : w2.frozen? ⟨(w.heap.size + 1), 0, none⟩ = false := Holds.free g2
        have yf1 : w2.frozen? ⟨(w.heap.size + 1), 1, none⟩ = false := Holds.free g2
        have hz4 := g2.lt
        have hz5 := g3.lt
        have hz6 := g1.lt
        have G := Lib.hid (And.intro g1 (And.intro g2 g3))
        have hbig := pr_big ⟨hd1, hd2⟩ Hsm.out Hs.out
        clear g1 g2 g3 hb2 H1 H3 hB
        generalize prT d a b x' y' = a' at *
        generalize prU a b x' y' = b' at *
        go_wp2_with fail
        cases hgd : smB a' b' with
        | true =>
          rw [if_pos hgd] at hp
          have Hgd := Lib.hid hgd
          have Hp' := Lib.hid hp
          clear hgd hp
          refine (spec_smallB a' b' true _ hbig Hgd.out).mono ?_
          rintro e w3 ⟨rfl, hb3⟩
          have hB3 : Below w.heap.size w w3 := Below.after (by go_grown) hb3
          have i1 : Holds w3 w.heap.size #[.int .i64 0, .int .i64 0] 55 := Holds.below ((G.out.1.far (by omega)).far (by omega)) hb3
          have i2 : Holds w3 (w.heap.size + 1) #[.int .i64 a', .int .i64 b'] 55 := Holds.below (Holds.set2 G.out.2.1) hb3
          have i3 : Holds w3 (w1.heap.size) #[.int .i64 x', .int .i64 y'] 55 := Holds.below ((G.out.2.2.far (by omega)).far (by omega)) hb3
          clear hb3 hB2
          have I := Lib.hid (And.intro i1 (And.intro i2 i3))
          clear y0 y1 yf0 yf1
          clear i1 i2 i3 G
          go_wp2_with fail
          go_roundw
          case rel => exact ⟨n, a', b', by first | rfl | go_num | (congr 1; omega), by omega, Hgd.out, Hp'.out, hB3, z1, z2, z3, I.out.1, I.out.2.1, I.out.2.2⟩
          case measure => simp [intOf] <;> omega
        | false =>
          rw [if_neg (by rw [hgd]; decide)] at hp
          simp only [Prod.mk.injEq] at hp
          obtain ⟨rfl, rfl, rfl⟩ := hp
          have Hgd := Lib.hid hgd
          clear hgd
          refine (spec_smallB a' b' false _ hbig Hgd.out).mono ?_
          rintro e w3 ⟨rfl, hb3⟩
          have hB3 : Below w.heap.size w w3 := Below.after (by go_grown) hb3
          have i1 : Holds w3 w.heap.size #[.int .i64 0, .int .i64 0] 55 := Holds.below ((G.out.1.far (by omega)).far (by omega)) hb3
          clear hb3 hB2
          clear y0 y1 yf0 yf1
          have z0 : w3.cell? ⟨w.heap.size, 0, none⟩ = some (.int .i64 0) := Holds.cell i1 rfl
          have z1 : w3.cell? ⟨w.heap.size, 1, none⟩ = some (.int .i64 0) := Holds.cell i1 rfl
          have zf0 : w3.frozen? ⟨w.heap.size, 0, none⟩ = false := Holds.free i1
          have zf1 : w3.frozen? ⟨w.heap.size, 1, none⟩ = false := Holds.free i1
          go_wp2_with fail
          refine bodyPost_ret (v := .tuple #[.agg #[.int .i64 0, .int .i64 0], .bool false]) (by simp [results, Try.results90, go_sem, *] <;> rfl) rfl ⟨rfl, by go_grown⟩
set_option maxHeartbeats 1000000 in
theorem impl_pellPower (d : Int) (k : Nat) (t u : Int) (v : Bool) (w : World) (hd : posD d = true) (hk : k ≤ 20) (h : PwOut d k t u v) :
    Calls Try.prog 91 #[.int .i64 d, .int .i64 (k : Int)] w fun e w' => e = .returned (.tuple #[.agg #[.int .i64 t, .int .i64 u], .bool v]) ∧ Below w.heap.size w w' := by
  obtain ⟨x, y, b, hp, hc⟩ := h
  obtain ⟨hd1, hd2, _⟩ := posD_iff.1 hd
  have Hd := Lib.hid hd
  clear hd
  have Hp := Lib.hid hp
  clear hp
  rcases hc with ⟨rfl, rfl, rfl, rfl⟩ | ⟨rfl, hs, hw⟩
  · go_enter Try.func91, Try.ntmps91
    go_wp2_with fail
    refine (impl_pellFour d _ _ false _ Hd.out Hp.out).mono ?_
    rintro e w1 ⟨rfl, hb1⟩
    have hB1 : Below w.heap.size w w1 := Below.after (by go_grown) hb1
    obtain ⟨hc1, hf1⟩ := bcell hb1
    have hy1 := hb1.size
    try simp at hy1
    first | (with_reducible have hx1 := Nat.lt_of_succ_le hy1) | skip
    first | (with_reducible have hv1 := Nat.lt_of_succ_lt hx1) | skip
    first | (with_reducible have hu1 := Nat.lt_of_succ_lt hv1) | skip
    first | (have hz1 : w.heap.size < w1.heap.size := by omega) | (have hz1 := hB1.size)
    clear hb1
    go_wp2_with fail
    refine bodyPost_ret (v := .tuple #[.agg #[.int .i64 0, .int .i64 0], .bool false]) (by simp [results, Try.results91, go_sem, *] <;> rfl) rfl ⟨rfl, by go_grown⟩
  · have Hs := Lib.hid hs
    clear hs
    have Hw := Lib.hid hw
    clear hw
    have hk1 : ¬ ((k : Int) < 0) := by omega
    have hk2 : ¬ (20 < (k : Int)) := by omega
    have hk3 : (k : Int) ≤ 20 := by omega
    obtain ⟨x', hx⟩ : ∃ x', x' = x := ⟨x, rfl⟩
    obtain ⟨y', hy⟩ : ∃ y', y' = y := ⟨y, rfl⟩
    subst hx hy
    go_enter Try.func91, Try.ntmps91
    go_wp2_with fail
    refine (impl_pellFour d x' y' true _ Hd.out Hp.out).mono ?_
    rintro e w1 ⟨rfl, hb1⟩
    have hB1 : Below w.heap.size w w1 := Below.after (by go_grown) hb1
    have a0 : Holds w1 w.heap.size #[.int .i64 0, .int .i64 0] 55 := Holds.below (by repeat (first | (refine Holds.new' _ _ _ ?_; simp; done) | refine Holds.alloc ?_ _ | refine Holds.far ?_ (by first | omega | (simp; done) | (simp; omega)))) hb1
    have hz1 := a0.lt
    clear hb1
    have A0 := Lib.hid a0
    clear a0
    go_wp2_with fail
    have A1 := A0
    go_loopw [1] (fun s1 wr => PwAt w (w1.heap.size + 1) w1.heap.size d x' y' t u v s1 wr) (fun s1 _ => (intOf s1).toNat)
    case atStart =>
      refine ⟨k, 2, 0, rfl, hk, by decide, Hw.out, by go_grown, by omega, by omega, by omega, (A0.out.alloc _).alloc _, ?_, ?_⟩
      · repeat (first | (refine Holds.new' _ _ _ ?_; simp; done) | refine Holds.alloc ?_ _ | refine Holds.far ?_ (by first | omega | (simp; done) | (simp; omega)))
      · repeat (first | (refine Holds.new' _ _ _ ?_; simp; done) | refine Holds.alloc ?_ _ | refine Holds.far ?_ (by first | omega | (simp; done) | (simp; omega)))
    case round =>
      obtain ⟨k', a, b, rfl, hk', hsm, hpw, hB, z1, z2, z3, h1, h2, h3⟩ := hrel
      clear A0 A1 hB1
      have Hsm := Lib.hid hsm
      have Hpw := Lib.hid hpw
      clear hsm hpw
      have hz2 := h2.lt
      have hz3 := h3.lt
      have y0 : wr.cell? ⟨(w1.heap.size + 1), 0, none⟩ = some (.int .i64 a) := Holds.cell h2 rfl
      have y1 : wr.cell? ⟨(w1.heap.size + 1), 1, none⟩ = some (.int .i64 b) := Holds.cell h2 rfl
      have yf0 : wr.frozen? ⟨(w1.heap.size + 1), 0, none⟩ = false := Holds.free h2
      have yf1 : wr.frozen? ⟨(w1.heap.size + 1), 1, none⟩ = false := Holds.free h2
      have x0 : wr.cell? ⟨(w1.heap.size), 0, none⟩ = some (.int .i64 x') := Holds.cell h3 rfl
      have x1 : wr.cell? ⟨(w1.heap.size), 1, none⟩ = some (.int .i64 y') := Holds.cell h3 rfl
      have xf0 : wr.frozen? ⟨(w1.heap.size), 0, none⟩ = false := Holds.free h3
      have xf1 : wr.frozen? ⟨(w1.heap.size), 1, none⟩ = false := Holds.free h3
      cases k' with
      | zero =>
        have hp := Hpw.out
        unfold powF at hp
        simp only [Prod.mk.injEq] at hp
        obtain ⟨rfl, rfl, rfl⟩ := hp
        have z0 : wr.cell? ⟨w.heap.size, 0, none⟩ = some (.int .i64 0) := Holds.cell h1 rfl
        have z1 : wr.cell? ⟨w.heap.size, 1, none⟩ = some (.int .i64 0) := Holds.cell h1 rfl
        have zf0 : wr.frozen? ⟨w.heap.size, 0, none⟩ = false := Holds.free h1
        have zf1 : wr.frozen? ⟨w.heap.size, 1, none⟩ = false := Holds.free h1
        go_wp2_with fail
        refine bodyPost_ret (v := .tuple #[.agg #[.int .i64 a, .int .i64 b], .bool true]) (by simp [results, Try.results91, go_sem, *] <;> rfl) rfl ⟨rfl, by go_grown⟩
      | succ n =>
        have hp := Hpw.out
        unfold powF at hp
        have hn1 : (0 : Int) < ((n + 1 : Nat) : Int) := by omega
        have H1 := Lib.hid h1
        have H3 := Lib.hid h3
        clear h1 h3
        go_wp2_with fail
        refine (impl_pellTimes d a b x' y' _ ⟨hd1, hd2⟩ Hsm.out Hs.out).mono ?_
        rintro e w2 ⟨rfl, hb2⟩
        have hB2 : Below w.heap.size w w2 := Below.after hB hb2
        have g1 := Holds.below H1.out hb2
        have g2 := Holds.below h2 hb2
        have g3 := Holds.below H3.out hb2
        clear y0 y1 yf0 yf1
        clear x0 x1 xf0 xf1
        have y0 : w2.cell? ⟨(w1.heap.size + 1), 0, none⟩ = some (.int .i64 a) := Holds.cell g2 rfl
        have y1 : w2.cell? ⟨(w1.heap.size + 1), 1, none⟩ = some (.int .i64 b) := Holds.cell g2 rfl
        have yf0 : w2.frozen? ⟨(w1.heap.size + 1), 0, none⟩ = false := Holds.free g2
        have yf1 : w2.frozen? ⟨(w1.heap.size + 1), 1, none⟩ = false := Holds.free g2
        have hz4 := g2.lt
        have hz5 := g3.lt
        have hz6 := g1.lt
        have G := Lib.hid (And.intro g1 (And.intro g2 g3))
        have hbig := pr_big ⟨hd1, hd2⟩ Hsm.out Hs.out
        clear g1 g2 g3 hb2 H1 H3 hB
        generalize prT d a b x' y' = a' at *
        generalize prU a b x' y' = b' at *
        go_wp2_with fail
        cases hgd : smB a' b' with
        | true =>
          rw [if_pos hgd] at hp
          have Hgd := Lib.hid hgd
          have Hp' := Lib.hid hp
          clear hgd hp
          refine (impl_small a' b' true _ hbig Hgd.out).mono ?_
          rintro e w3 ⟨rfl, hb3⟩
          have hB3 : Below w.heap.size w w3 := Below.after (by go_grown) hb3
          have i1 : Holds w3 w.heap.size #[.int .i64 0, .int .i64 0] 55 := Holds.below ((G.out.1.far (by omega)).far (by omega)) hb3
          have i2 : Holds w3 (w1.heap.size + 1) #[.int .i64 a', .int .i64 b'] 55 := Holds.below (Holds.set2 G.out.2.1) hb3
          have i3 : Holds w3 (w1.heap.size) #[.int .i64 x', .int .i64 y'] 55 := Holds.below ((G.out.2.2.far (by omega)).far (by omega)) hb3
          clear hb3 hB2
          have I := Lib.hid (And.intro i1 (And.intro i2 i3))
          clear y0 y1 yf0 yf1
          clear i1 i2 i3 G
          go_wp2_with fail
          go_roundw
          case rel => exact ⟨n, a', b', by first | rfl | go_num | (congr 1; omega), by omega, Hgd.out, Hp'.out, hB3, z1, z2, z3, I.out.1, I.out.2.1, I.out.2.2⟩
          case measure => simp [intOf] <;> omega
        | false =>
          rw [if_neg (by rw [hgd]; decide)] at hp
          simp only [Prod.mk.injEq] at hp
          obtain ⟨rfl, rfl, rfl⟩ := hp
          have Hgd := Lib.hid hgd
          clear hgd
          refine (impl_small a' b' false _ hbig Hgd.out).mono ?_
          rintro e w3 ⟨rfl, hb3⟩
          have hB3 : Below w.heap.size w w3 := Below.after (by go_grown) hb3
          have i1 : Holds w3 w.heap.size #[.int .i64 0, .int .i64 0] 55 := Holds.below ((G.out.1.far (by omega)).far (by omega)) hb3
          clear hb3 hB2
          clear y0 y1 yf0 yf1
          have z0 : w3.cell? ⟨w.heap.size, 0, none⟩ = some (.int .i64 0) := Holds.cell i1 rfl
          have z1 : w3.cell? ⟨w.heap.size, 1, none⟩ = some (.int .i64 0) := Holds.cell i1 rfl
          have zf0 : w3.frozen? ⟨w.heap.size, 0, none⟩ = false := Holds.free i1
          have zf1 : w3.frozen? ⟨w.heap.size, 1, none⟩ = false := Holds.free i1
          go_wp2_with fail
          refine bodyPost_ret (v := .tuple #[.agg #[.int .i64 0, .int .i64 0], .bool false]) (by simp [results, Try.results91, go_sem, *] <;> rfl) rfl ⟨rfl, by go_grown⟩
/-- what PellPower hands back -/
def PPOut (d k t u : Int) (v : Bool) : Prop := (posD d = true ∧ 0 ≤ k ∧ k ≤ 20 ∧ PwOut d k.toNat t u v) ∨ (¬ (posD d = true ∧ 0 ≤ k ∧ k ≤ 20) ∧ t = 0 ∧ u = 0 ∧ v = false)
theorem ppOut_ex (d k : Int) : ∃ t u v, PPOut d k t u v := by
  by_cases h : posD d = true ∧ 0 ≤ k ∧ k ≤ 20
  · obtain ⟨t, u, v, hp⟩ := pwOut_ex h.1 k.toNat
    exact ⟨t, u, v, .inl ⟨h.1, h.2.1, h.2.2, hp⟩⟩
  · exact ⟨0, 0, false, .inr ⟨h, rfl, rfl, rfl⟩⟩
theorem spec_PellPower (d k t u : Int) (v : Bool) (w : World) (h : PPOut d k t u v) :
    Calls Try.prog 44 #[.int .i64 d, .int .i64 k] w fun e w' => e = .returned (.tuple #[.agg #[.int .i64 t, .int .i64 u], .bool v]) ∧ Below w.heap.size w w' := by
  rcases h with ⟨hd, h1, h2, hp⟩ | ⟨h, rfl, rfl, rfl⟩
  · obtain ⟨n, rfl⟩ : ∃ n : Nat, k = n := ⟨k.toNat, by omega⟩
    have hn : n ≤ 20 := by omega
    rw [Int.toNat_natCast] at hp
    have Hl := Lib.hid (show (decide ((0 : Int) ≤ n) && decide ((n : Int) ≤ 20)) = true by simp; omega)
    have Hd := Lib.hid hd
    clear hd
    have Hp := Lib.hid hp
    clear hp
    go_enter Try.func44, Try.ntmps44
    go_wp2_with fail
    refine (spec_cyDisc d true _ Hd.out).mono ?_
    rintro e w' ⟨rfl, rfl⟩
    go_wp2_with fail
    refine (spec_l1In n 0 20 true _ Hl.out).mono ?_
    rintro e w' ⟨rfl, rfl⟩
    go_wp2_with fail
    refine (spec_unPower d n t u v _ Hd.out hn Hp.out).mono ?_
    rintro e w1 ⟨rfl, hb1⟩
    have hB1 : Below w.heap.size w w1 := Below.after (by go_grown) hb1
    obtain ⟨hc1, hf1⟩ := bcell hb1
    have hy1 := hb1.size
    try simp at hy1
    first | (with_reducible have hx1 := Nat.lt_of_succ_le hy1) | skip
    first | (with_reducible have hv1 := Nat.lt_of_succ_lt hx1) | skip
    first | (with_reducible have hu1 := Nat.lt_of_succ_lt hv1) | skip
    first | (have hz1 : w.heap.size < w1.heap.size := by omega) | (have hz1 := hB1.size)
    clear hb1
    go_wp2_with fail
    refine bodyPost_ret (v := .tuple #[.agg #[.int .i64 t, .int .i64 u], .bool v]) (by simp [results, Try.results44, go_sem, *] <;> rfl) rfl ⟨rfl, by go_grown⟩
  · cases hd : posD d with
    | false =>
      have Hd := Lib.hid hd
      clear hd
      clear h
      go_enter Try.func44, Try.ntmps44
      go_wp2_with fail
      refine (spec_cyDisc d false _ Hd.out).mono ?_
      rintro e w' ⟨rfl, rfl⟩
      go_wp2_with fail
      refine bodyPost_ret (v := .tuple #[.agg #[.int .i64 0, .int .i64 0], .bool false]) (by simp [results, Try.results44, go_sem, *] <;> rfl) rfl ⟨rfl, by go_grown⟩
    | true =>
      have Hl := Lib.hid (show (decide ((0 : Int) ≤ k) && decide (k ≤ 20)) = false by simp; intro h1; exact Int.not_le.1 fun h2 => h ⟨hd, h1, h2⟩)
      have Hd := Lib.hid hd
      clear hd
      clear h
      go_enter Try.func44, Try.ntmps44
      go_wp2_with fail
      refine (spec_cyDisc d true _ Hd.out).mono ?_
      rintro e w' ⟨rfl, rfl⟩
      go_wp2_with fail
      refine (spec_l1In k 0 20 false _ Hl.out).mono ?_
      rintro e w' ⟨rfl, rfl⟩
      go_wp2_with fail
      refine bodyPost_ret (v := .tuple #[.agg #[.int .i64 0, .int .i64 0], .bool false]) (by simp [results, Try.results44, go_sem, *] <;> rfl) rfl ⟨rfl, by go_grown⟩
theorem impl_pellPower_out (d k : Int) (w : World) (hd : posD d = true) (h : ¬ (0 ≤ k ∧ k ≤ 20)) :
    Calls Try.prog 91 #[.int .i64 d, .int .i64 k] w fun e w' => e = .returned (.tuple #[.agg #[.int .i64 0, .int .i64 0], .bool false]) ∧ Below w.heap.size w w' := by
  obtain ⟨x, y, b, hp⟩ := pellOut_ex hd
  have Hd := Lib.hid hd
  clear hd
  have Hp := Lib.hid hp
  clear hp
  have h' : k < 0 ∨ (0 ≤ k ∧ 20 < k) := by omega
  clear h
  cases b with
  | false =>
    go_enter Try.func91, Try.ntmps91
    go_wp2_with fail
    refine (impl_pellFour d x y false _ Hd.out Hp.out).mono ?_
    rintro e w1 ⟨rfl, hb1⟩
    have hB1 : Below w.heap.size w w1 := Below.after (by go_grown) hb1
    obtain ⟨hc1, hf1⟩ := bcell hb1
    have hy1 := hb1.size
    try simp at hy1
    first | (with_reducible have hx1 := Nat.lt_of_succ_le hy1) | skip
    first | (with_reducible have hv1 := Nat.lt_of_succ_lt hx1) | skip
    first | (with_reducible have hu1 := Nat.lt_of_succ_lt hv1) | skip
    first | (have hz1 : w.heap.size < w1.heap.size := by omega) | (have hz1 := hB1.size)
    clear hb1
    go_wp2_with fail
    refine bodyPost_ret (v := .tuple #[.agg #[.int .i64 0, .int .i64 0], .bool false]) (by simp [results, Try.results91, go_sem, *] <;> rfl) rfl ⟨rfl, by go_grown⟩
  | true =>
    rcases h' with h1 | ⟨h1, h2⟩
    all_goals
      go_enter Try.func91, Try.ntmps91
      go_wp2_with fail
      refine (impl_pellFour d x y true _ Hd.out Hp.out).mono ?_
      rintro e w1 ⟨rfl, hb1⟩
      have hB1 : Below w.heap.size w w1 := Below.after (by go_grown) hb1
      obtain ⟨hc1, hf1⟩ := bcell hb1
      have hy1 := hb1.size
      try simp at hy1
      first | (with_reducible have hx1 := Nat.lt_of_succ_le hy1) | skip
      first | (with_reducible have hv1 := Nat.lt_of_succ_lt hx1) | skip
      first | (with_reducible have hu1 := Nat.lt_of_succ_lt hv1) | skip
      first | (have hz1 : w.heap.size < w1.heap.size := by omega) | (have hz1 := hB1.size)
      clear hb1
      go_wp2_with fail
      refine bodyPost_ret (v := .tuple #[.agg #[.int .i64 0, .int .i64 0], .bool false]) (by simp [results, Try.results91, go_sem, *] <;> rfl) rfl ⟨rfl, by go_grown⟩
theorem impl_PellPower (d k t u : Int) (v : Bool) (w : World) (h : PPOut d k t u v) :
    Calls Try.prog 45 #[.int .i64 d, .int .i64 k] w fun e w' => e = .returned (.tuple #[.agg #[.int .i64 t, .int .i64 u], .bool v]) ∧ Below w.heap.size w w' := by
  rcases h with ⟨hd, h1, h2, hp⟩ | ⟨h, rfl, rfl, rfl⟩
  · obtain ⟨n, rfl⟩ : ∃ n : Nat, k = n := ⟨k.toNat, by omega⟩
    have hn : n ≤ 20 := by omega
    rw [Int.toNat_natCast] at hp
    have Hd := Lib.hid hd
    clear hd
    have Hp := Lib.hid hp
    clear hp
    go_enter Try.func45, Try.ntmps45
    go_wp2_with fail
    refine (impl_isPositiveDisc d true _ Hd.out).mono ?_
    rintro e w' ⟨rfl, rfl⟩
    go_wp2_with fail
    refine (impl_pellPower d n t u v _ Hd.out hn Hp.out).mono ?_
    rintro e w1 ⟨rfl, hb1⟩
    have hB1 : Below w.heap.size w w1 := Below.after (by go_grown) hb1
    obtain ⟨hc1, hf1⟩ := bcell hb1
    have hy1 := hb1.size
    try simp at hy1
    first | (with_reducible have hx1 := Nat.lt_of_succ_le hy1) | skip
    first | (with_reducible have hv1 := Nat.lt_of_succ_lt hx1) | skip
    first | (with_reducible have hu1 := Nat.lt_of_succ_lt hv1) | skip
    first | (have hz1 : w.heap.size < w1.heap.size := by omega) | (have hz1 := hB1.size)
    clear hb1
    go_wp2_with fail
    refine bodyPost_ret (v := .tuple #[.agg #[.int .i64 t, .int .i64 u], .bool v]) (by simp [results, Try.results45, go_sem, *] <;> rfl) rfl ⟨rfl, by go_grown⟩
  · cases hd : posD d with
    | false =>
      have Hd := Lib.hid hd
      clear hd
      clear h
      go_enter Try.func45, Try.ntmps45
      go_wp2_with fail
      refine (impl_isPositiveDisc d false _ Hd.out).mono ?_
      rintro e w' ⟨rfl, rfl⟩
      go_wp2_with fail
      refine bodyPost_ret (v := .tuple #[.agg #[.int .i64 0, .int .i64 0], .bool false]) (by simp [results, Try.results45, go_sem, *] <;> rfl) rfl ⟨rfl, by go_grown⟩
    | true =>
      have Hk := Lib.hid (show ¬ (0 ≤ k ∧ k ≤ 20) from fun hk => h ⟨hd, hk.1, hk.2⟩)
      have Hd := Lib.hid hd
      clear hd
      clear h
      go_enter Try.func45, Try.ntmps45
      go_wp2_with fail
      refine (impl_isPositiveDisc d true _ Hd.out).mono ?_
      rintro e w' ⟨rfl, rfl⟩
      go_wp2_with fail
      refine (impl_pellPower_out d k _ Hd.out Hk.out).mono ?_
      rintro e w1 ⟨rfl, hb1⟩
      have hB1 : Below w.heap.size w w1 := Below.after (by go_grown) hb1
      obtain ⟨hc1, hf1⟩ := bcell hb1
      have hy1 := hb1.size
      try simp at hy1
      first | (with_reducible have hx1 := Nat.lt_of_succ_le hy1) | skip
      first | (with_reducible have hv1 := Nat.lt_of_succ_lt hx1) | skip
      first | (with_reducible have hu1 := Nat.lt_of_succ_lt hv1) | skip
      first | (have hz1 : w.heap.size < w1.heap.size := by omega) | (have hz1 := hB1.size)
      clear hb1
      go_wp2_with fail
      refine bodyPost_ret (v := .tuple #[.agg #[.int .i64 0, .int .i64 0], .bool false]) (by simp [results, Try.results45, go_sem, *] <;> rfl) rfl ⟨rfl, by go_grown⟩
theorem walkPP (d k t u : Int) (v : Bool) (w : World) (h : PPOut d k t u v) :
    Calls Try.prog 9 #[.int .i64 d, .int .i64 k] w fun e w' => e = .returned (.bool true) ∧ Below w.heap.size w w' := by
  have H := Lib.hid h
  clear h
  go_enter Try.func9, Try.ntmps9
  go_wp2_with fail
  refine (spec_PellPower d k t u v _ H.out).mono ?_
  rintro e w1 ⟨rfl, hb1⟩
  have hB1 : Below w.heap.size w w1 := Below.after (by go_grown) hb1
  obtain ⟨hc1, hf1⟩ := bcell hb1
  have hy1 := hb1.size
  try simp at hy1
  first | (with_reducible have hx1 := Nat.lt_of_succ_le hy1) | skip
  first | (with_reducible have hv1 := Nat.lt_of_succ_lt hx1) | skip
  first | (with_reducible have hu1 := Nat.lt_of_succ_lt hv1) | skip
  first | (have hz1 : w.heap.size < w1.heap.size := by omega) | (have hz1 := hB1.size)
  clear hb1
  go_wp2_with fail
  refine (impl_PellPower d k t u v _ H.out).mono ?_
  rintro e w2 ⟨rfl, hb2⟩
  have hB2 : Below w.heap.size w w2 := Below.after (by go_grown) hb2
  obtain ⟨hc2, hf2⟩ := bcell hb2
  have hy2 := hb2.size
  try simp at hy2
  first | (with_reducible have hx2 := Nat.lt_of_succ_le hy2) | skip
  first | (with_reducible have hv2 := Nat.lt_of_succ_lt hx2) | skip
  first | (with_reducible have hu2 := Nat.lt_of_succ_lt hv2) | skip
  first | (have hz2 : w.heap.size < w2.heap.size := by omega) | (have hz2 := hB2.size)
  first | (have hq2 : w1.heap.size ≤ w2.heap.size := by omega) | skip
  first | (have hx1_2 := Nat.lt_of_lt_of_le hx1 hq2) | skip
  first | (have hv1_2 := Nat.lt_of_lt_of_le hv1 hq2) | skip
  first | (have hu1_2 := Nat.lt_of_lt_of_le hu1 hq2) | skip
  clear hb2
  go_wp2_with fail
  refine (laws_eqSolution t u _).mono ?_
  rintro e w3 ⟨rfl, hb3⟩
  have hB3 : Below w.heap.size w w3 := Below.after (by go_grown) hb3
  obtain ⟨hc3, hf3⟩ := bcell hb3
  have hy3 := hb3.size
  try simp at hy3
  first | (with_reducible have hx3 := Nat.lt_of_succ_le hy3) | skip
  first | (with_reducible have hv3 := Nat.lt_of_succ_lt hx3) | skip
  first | (with_reducible have hu3 := Nat.lt_of_succ_lt hv3) | skip
  first | (have hz3 : w.heap.size < w3.heap.size := by omega) | (have hz3 := hB3.size)
  first | (have hq3 : w2.heap.size ≤ w3.heap.size := by omega) | skip
  first | (have hx1_3 := Nat.lt_of_lt_of_le hx1_2 hq3) | skip
  first | (have hv1_3 := Nat.lt_of_lt_of_le hv1_2 hq3) | skip
  first | (have hu1_3 := Nat.lt_of_lt_of_le hu1_2 hq3) | skip
  first | (have hx2_3 := Nat.lt_of_lt_of_le hx2 hq3) | skip
  first | (have hv2_3 := Nat.lt_of_lt_of_le hv2 hq3) | skip
  first | (have hu2_3 := Nat.lt_of_lt_of_le hu2 hq3) | skip
  clear hb3
  go_wp2_with fail
  all_goals (try go_ret)
  all_goals exact ⟨rfl, by go_grown⟩
theorem walkPellPower (d k : Int) (w : World) (wd : (Lit.int .i64 d).wf = true) (wk : (Lit.int .i64 k).wf = true) :
    Calls Try.prog 9 #[.int .i64 d, .int .i64 k] w fun e w' => e = .returned (.bool true) ∧ Below w.heap.size w w' := by
  obtain ⟨t, u, v, h⟩ := ppOut_ex d k
  exact walkPP d k t u v w h
end Go.Proofs.Ytdonpiihjoihcaa
