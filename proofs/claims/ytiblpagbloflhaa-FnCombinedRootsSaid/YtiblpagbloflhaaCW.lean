/- Plain: the completed form of a definite form with a first column, number by number. -/
import Derived.Test.YtiblpagbloflhaaCQ
namespace Go.Proofs.Ytiblpagbloflhaa
set_option linter.unusedVariables false
open Go.ChangeShapes Go.WideShapes Go.ChangeAt Go.RowKit

def cin (x : Int) : Bool := decide (-1000 ≤ x) && decide (x ≤ 1000)
theorem cin_iff {x : Int} : cin x = true ↔ -1000 ≤ x ∧ x ≤ 1000 := by simp [cin]
/-- what the two programs compute on the way -/
structure CmF (a b c x y q s n B0 T Q S B C : Int) : Prop where
  base : (y = 0 ∧ q = 0 ∧ s = x) ∨ (y ≠ 0 ∧ Inv x y.natAbs s ∧ x * s - 1 = y * q)
  q1 : -1001 ≤ q
  q2 : q ≤ 1001
  s1 : -1000 ≤ s
  s2 : s ≤ 1000
  hn : fV a b c x y = n
  n1 : 1 ≤ n
  n2 : n ≤ 3000000000000
  hB0 : fP a b c x y q s = B0
  b1 : -9000000000000 ≤ B0
  b2 : B0 ≤ 9000000000000
  hT : -(B0 / (2 * n)) = T
  t1 : -9000000000001 ≤ T
  t2 : T ≤ 9000000000001
  tq : (B - B0).tdiv (2 * n) = T
  u1 : -9000000000000000 - 1000 ≤ T * x
  u2 : T * x ≤ 9000000000000000 + 1000
  v1 : -9000000000000000 - 1000 ≤ T * y
  v2 : T * y ≤ 9000000000000000 + 1000
  hQ : q + T * x = Q
  hS : s + T * y = S
  hB : B0 % (2 * n) = B
  B1 : 0 ≤ B
  B2 : B < 2 * n
  Bt : B0 + 2 * n * T = B
  m1 : -20000000000000 ≤ 2 * n * T
  m2 : 2 * n * T ≤ 20000000000000
  BP : fP a b c x y Q S = B
  hC : fV a b c Q S = C
  C1 : 0 ≤ C
  C2 : C ≤ n + 2000
  Cq : n ≤ 1000000 → (B * B - disc a b c).tdiv (4 * n) = C
theorem det_disc {a b c x y Q S : Int} (h : x * S - y * Q = 1) : fP a b c x y Q S * fP a b c x y Q S - 4 * (fV a b c x y * fV a b c Q S) = disc a b c := by
  have e : fP a b c x y Q S * fP a b c x y Q S - 4 * (fV a b c x y * fV a b c Q S) = disc a b c * ((x * S - y * Q) * (x * S - y * Q)) := by
    unfold fP fV disc
    grind
  rw [e, h]; simp
theorem fV_pos {a b c x y : Int} (h : definB a b c = true) (hg : Int.gcd x y = 1) : 1 ≤ fV a b c x y := by
  obtain ⟨_, hd, ha⟩ := definB_iff.1 h
  have e : 4 * a * fV a b c x y = (2 * a * x + b * y) * (2 * a * x + b * y) + (-disc a b c) * (y * y) := by
    unfold fV disc; grind
  have h1 := sqn (2 * a * x + b * y)
  have h2 := Int.mul_nonneg (show 0 ≤ -disc a b c by omega) (sqn y)
  refine Int.not_lt.1 fun hc => ?_
  have h3 := Int.mul_le_mul_of_nonneg_left (show fV a b c x y ≤ 0 by omega) (show 0 ≤ 4 * a by omega)
  rw [Int.mul_zero] at h3
  have h4 : -disc a b c * (y * y) = 0 := by omega
  have h5 : (2 * a * x + b * y) * (2 * a * x + b * y) = 0 := by omega
  have hy : y = 0 := by
    rcases Int.mul_eq_zero.1 h4 with h | h
    · omega
    · rcases Int.mul_eq_zero.1 h with h | h <;> exact h
  subst hy
  have hx : x = 0 := by
    have h6 : 2 * a * x + b * 0 = 0 := by rcases Int.mul_eq_zero.1 h5 with h | h <;> exact h
    rw [Int.mul_zero, Int.add_zero] at h6
    rcases Int.mul_eq_zero.1 h6 with h | h
    · omega
    · exact h
  subst hx
  simp at hg
theorem cmf_ex {a b c x y : Int} (h : shownB a b c = true) (hx : cin x = true) (hy : cin y = true) (hg : Int.gcd x y = 1) : ∃ q s n B0 T Q S B C, CmF a b c x y q s n B0 T Q S B C := by
  have hd : definB a b c = true ∧ -2000 ≤ disc a b c := by simpa [shownB] using h
  obtain ⟨hgd, hdn, ha⟩ := definB_iff.1 hd.1
  obtain ⟨⟨a1, a2⟩, ⟨b1, b2⟩, ⟨c1, c2⟩⟩ := good3_iff.1 hgd
  obtain ⟨x1, x2⟩ := cin_iff.1 hx
  obtain ⟨y1, y2⟩ := cin_iff.1 hy
  obtain ⟨q, s, hb, hq, hs, hdet⟩ : ∃ q s, ((y = 0 ∧ q = 0 ∧ s = x) ∨ (y ≠ 0 ∧ Inv x y.natAbs s ∧ x * s - 1 = y * q)) ∧ (-1001 ≤ q ∧ q ≤ 1001) ∧ (-1000 ≤ s ∧ s ≤ 1000) ∧ x * s - y * q = 1 := by
    by_cases h0 : y = 0
    · subst h0
      refine ⟨0, x, .inl ⟨rfl, rfl, rfl⟩, by omega, by omega, ?_⟩
      have hx1 : x.natAbs = 1 := by simpa using hg
      have : x = 1 ∨ x = -1 := by omega
      rcases this with e | e <;> subst e <;> rfl
    · obtain ⟨s, hs⟩ := inv_total (a := x) (m := y.natAbs) (by omega) (by rw [← hg]; simp [Int.gcd])
      obtain ⟨k, hk⟩ := Int.dvd_of_emod_eq_zero hs.2.2
      obtain ⟨q, hq⟩ : ∃ q, x * s - 1 = y * q := by
        rcases Int.natAbs_eq y with e | e
        · exact ⟨k, by rw [hk, ← e]⟩
        · refine ⟨-k, ?_⟩
          have e' : (y.natAbs : Int) = -y := by omega
          rw [hk, e', Int.neg_mul, Int.mul_neg]
      have hs1 := hs.1
      have hs2 := hs.2.1
      refine ⟨q, s, .inr ⟨h0, hs, hq⟩, ?_, by omega, by omega⟩
      have hab : (y * q).natAbs ≤ 1000 * y.natAbs + 1 := by
        have h1 := mulb (a := x) (b := s) (A := 1000) (B := y.natAbs) x1 x2 (by omega) (by omega)
        omega
      rw [Int.natAbs_mul] at hab
      have : q.natAbs ≤ 1001 := by
        refine Nat.not_lt.1 fun hc => ?_
        have := Nat.mul_le_mul_left y.natAbs (show 1002 ≤ q.natAbs by omega)
        omega
      omega
  have hn1 := fV_pos (x := x) (y := y) hd.1 hg
  obtain ⟨n, hn⟩ : ∃ n, fV a b c x y = n := ⟨_, rfl⟩
  have hn2 : n ≤ 3000000000000 := by
    rw [← hn]; unfold fV
    have g1 := mulb (a := a) (b := x) (A := 1000000) (B := 1000) a1 a2 x1 x2
    have g2 := mulb (a := a * x) (b := x) (A := 1000000000) (B := 1000) (by omega) (by omega) x1 x2
    have g3 := mulb (a := b) (b := x) (A := 1000000) (B := 1000) b1 b2 x1 x2
    have g4 := mulb (a := b * x) (b := y) (A := 1000000000) (B := 1000) (by omega) (by omega) y1 y2
    have g5 := mulb (a := c) (b := y) (A := 1000000) (B := 1000) c1 c2 y1 y2
    have g6 := mulb (a := c * y) (b := y) (A := 1000000000) (B := 1000) (by omega) (by omega) y1 y2
    omega
  rw [hn] at hn1
  obtain ⟨B0, hB0⟩ : ∃ B0, fP a b c x y q s = B0 := ⟨_, rfl⟩
  have hB0b : -9000000000000 ≤ B0 ∧ B0 ≤ 9000000000000 := by
    rw [← hB0]; unfold fP
    have g1 := mulb (a := 2 * a) (b := x) (A := 2000000) (B := 1000) (by omega) (by omega) x1 x2
    have g2 := mulb (a := 2 * a * x) (b := q) (A := 2000000000) (B := 1001) (by omega) (by omega) hq.1 hq.2
    have g3 := mulb (a := x) (b := s) (A := 1000) (B := 1000) x1 x2 hs.1 hs.2
    have g4 := mulb (a := y) (b := q) (A := 1000) (B := 1001) y1 y2 hq.1 hq.2
    have g5 := mulb (a := b) (b := x * s + y * q) (A := 1000000) (B := 2001000) b1 b2 (by omega) (by omega)
    have g6 := mulb (a := 2 * c) (b := y) (A := 2000000) (B := 1000) (by omega) (by omega) y1 y2
    have g7 := mulb (a := 2 * c * y) (b := s) (A := 2000000000) (B := 1000) (by omega) (by omega) hs.1 hs.2
    omega
  obtain ⟨B, hB⟩ : ∃ B, B0 % (2 * n) = B := ⟨_, rfl⟩
  obtain ⟨T, hT⟩ : ∃ T, -(B0 / (2 * n)) = T := ⟨_, rfl⟩
  have k1 := Int.emod_nonneg B0 (show 2 * n ≠ 0 by omega)
  have k2 := Int.emod_lt_of_pos B0 (show 0 < 2 * n by omega)
  have k3 := Int.emod_add_mul_ediv B0 (2 * n)
  have hBt : B0 + 2 * n * T = B := by rw [← hT, Int.mul_neg]; omega
  have hT1 : -9000000000001 ≤ T ∧ T ≤ 9000000000001 := by
    refine ⟨Int.not_lt.1 fun hc => ?_, Int.not_lt.1 fun hc => ?_⟩
    · have := Int.mul_le_mul_of_nonneg_left (show T ≤ -9000000000002 by omega) (show 0 ≤ 2 * n by omega)
      omega
    · have := Int.mul_le_mul_of_nonneg_left (show 9000000000002 ≤ T by omega) (show 0 ≤ 2 * n by omega)
      omega
  have hTx := mulb (a := T) (b := x) (A := 9000000000001) (B := 1000) (by omega) (by omega) x1 x2
  have hTy := mulb (a := T) (b := y) (A := 9000000000001) (B := 1000) (by omega) (by omega) y1 y2
  have hP : fP a b c x y (q + T * x) (s + T * y) = B := by
    rw [← hBt, ← hB0, ← hn]; unfold fP fV; grind
  have hdet2 : x * (s + T * y) - y * (q + T * x) = 1 := by rw [← hdet]; grind
  obtain ⟨C, hC⟩ : ∃ C, fV a b c (q + T * x) (s + T * y) = C := ⟨_, rfl⟩
  have hdd := det_disc (a := a) (b := b) (c := c) hdet2
  rw [hP, hC, hn] at hdd
  have hBB : 0 ≤ B * B ∧ B * B ≤ 2 * n * (2 * n) := by
    have := mul_le (a := B) (b := B) (A := 2 * n) (B := 2 * n) (by omega) (by omega) (by omega) (by omega)
    exact this
  have hC1 : 0 ≤ C := by
    refine Int.not_lt.1 fun hc => ?_
    have := Int.mul_le_mul_of_nonneg_left (show C ≤ 0 by omega) (show 0 ≤ n by omega)
    omega
  have hC2 : C ≤ n + 2000 := by
    refine Int.not_lt.1 fun hc => ?_
    have h1 := Int.mul_le_mul_of_nonneg_left (show n + 2001 ≤ C by omega) (show 0 ≤ n by omega)
    have h2 : 2 * n * (2 * n) = 4 * (n * n) := by rw [Int.mul_assoc, Int.mul_left_comm n 2 n]; omega
    rw [Int.mul_add] at h1
    omega
  refine ⟨q, s, n, B0, T, q + T * x, s + T * y, B, C, ⟨hb, hq.1, hq.2, hs.1, hs.2, hn, hn1, hn2, hB0, hB0b.1, hB0b.2, hT, hT1.1, hT1.2, ?_, by omega, by omega, by omega, by omega, rfl, rfl, hB, by omega, by omega, hBt, by omega, by omega, hP, hC, hC1, hC2, fun _ => ?_⟩⟩
  · rw [show B - B0 = 2 * n * T by omega, Int.mul_tdiv_cancel_left _ (by omega)]
  · rw [show B * B - disc a b c = 4 * n * C by rw [Int.mul_assoc]; omega, Int.mul_tdiv_cancel_left _ (by omega)]
end Go.Proofs.Ytiblpagbloflhaa
