/- Plain: the float64 square root of any integer below 2^53 is small. -/
import Derived.Test.YtdonpiihjoihcaaSQ
namespace Go.Proofs.Ytdonpiihjoihcaa
set_option linter.unusedVariables false
open Ieee

/-- what is cut at last is between the quotient and one more -/
theorem cut_between (q drop : Nat) (h : drop ≤ q.log2 + 2) : ∃ more : Nat, more ≤ 1 ∧ Toward.even.cut false q drop = q / 2 ^ drop + more := by
  unfold Toward.cut
  rw [Nat.min_eq_left h, shl, Nat.one_mul]
  exact ⟨_, Bool.toNat_le _, rfl⟩
theorem write_any {m M d : Nat} (h1 : 2 ^ M ≤ m) (h2 : m < 2 ^ (M + 1)) (hM : 52 ≤ M) (hd : M ≤ d + 27) (hd2 : d ≤ 100) :
    ∃ x k : Nat, double.nearest false m (-(d : Int)) = x * 2 ^ 52 + k ∧ 2 ^ 52 ≤ k ∧ k < 2 ^ 53 ∧ x ≤ 1050 := by
  have h0 : m ≠ 0 := by have := Nat.two_pow_pos M; omega
  have e0 : m.log2 = M := log2_eq h1 h2
  obtain ⟨more, hm1, hm2⟩ := cut_between m (M - 52) (by omega)
  have hq1 : 2 ^ 52 ≤ m / 2 ^ (M - 52) := by
    rw [Nat.le_div_iff_mul_le (Nat.two_pow_pos _), ← Nat.pow_add, show 52 + (M - 52) = M by omega]; exact h1
  have hq2 : m / 2 ^ (M - 52) < 2 ^ 53 := by
    rw [Nat.div_lt_iff_lt_mul (Nat.two_pow_pos _), ← Nat.pow_add, show 53 + (M - 52) = M + 1 by omega]; exact h2
  have e2 : double.binade = 2 ^ 52 := rfl
  have e3 : double.infRung = 2047 * 2 ^ 52 := rfl
  have e4 : double.leastPlace = -1074 := by decide
  have e5 : double.fractionBits = 52 := rfl
  have hlast : max (-(d : Int) + (M : Int) - (52 : Nat)) (-1074) = (M : Int) - 52 - d := by omega
  have hw : double.nearest false m (-(d : Int)) = (M + 1022 - d) * 2 ^ 52 + (m / 2 ^ (M - 52) + more) := by
    unfold Format.nearest
    rw [if_neg h0]
    simp only [e0, e2, e3, e4, e5, hlast]
    have a1 : (-(d : Int) - ((M : Int) - 52 - d)).toNat = 0 := by omega
    have a2 : ((M : Int) - 52 - d - -(d : Int)).toNat = M - 52 := by omega
    have a3 : ((M : Int) - 52 - d - -1074).toNat = M + 1022 - d := by omega
    rw [a1, a2, a3, shl, Nat.pow_zero, Nat.mul_one, hm2]
    unfold Format.word
    simp only [Bool.false_eq_true, if_false]
    clear a1 a2 a3 e0 e2 e3 e4 e5 hlast h1 h2 hm2 h0
    generalize m / 2 ^ (M - 52) = z at *
    omega
  rw [hw]
  clear hw e0 e2 e3 e4 e5 hlast h1 h2 hm2 h0
  generalize m / 2 ^ (M - 52) = z at *
  by_cases hc : z + more < 2 ^ 53
  · exact ⟨M + 1022 - d, z + more, rfl, by omega, hc, by omega⟩
  · exact ⟨M + 1023 - d, 2 ^ 52, by omega, by omega, by omega, by omega⟩
theorem toInt_any {x k : Nat} (h1 : 2 ^ 52 ≤ k) (h2 : k < 2 ^ 53) (hx : x ≤ 1050) : ∃ t : Nat, t ≤ 2 ^ 29 ∧ (double.read (x * 2 ^ 52 + k)).toInt .zero = some (t : Int) := by
  rw [read_word (by omega) h1 h2]
  have e0 : k.log2 = 52 := log2_eq h1 h2
  unfold Datum.toInt Datum.integral
  have a1 : ((-1074 : Int) + (x : Int)).toNat = 0 := by clear h1 h2 e0; omega
  obtain ⟨g, hg, hg1⟩ : ∃ g, (-((-1074 : Int) + (x : Int))).toNat = g ∧ 24 ≤ g := ⟨_, rfl, by clear h1 h2 e0; omega⟩
  simp only [a1, hg, shl, Nat.pow_zero, Nat.mul_one]
  unfold Toward.cut
  rw [e0, shl, Nat.one_mul]
  refine ⟨k / 2 ^ min g (52 + 2), ?_, by simp [signed]⟩
  have : 2 ^ 24 ≤ 2 ^ min g (52 + 2) := Nat.pow_le_pow_right (by omega) (by omega)
  refine Nat.le_of_lt_succ ((Nat.div_lt_iff_lt_mul (Nat.two_pow_pos _)).2 ?_)
  have : (2 ^ 29 + 1) * 2 ^ 24 ≤ (2 ^ 29 + 1) * 2 ^ min g (52 + 2) := Nat.mul_le_mul_left _ this
  omega
/-- the square root of whatever integer, as an integer -/
theorem sqrt_any {n : Nat} (h0 : n ≠ 0) (h : n < 2 ^ 53) : ∃ r, double.sqrt (double.nearest false n 0) = some r ∧ ∃ t : Nat, t ≤ 2 ^ 29 ∧ (double.read r).toInt .zero = some (t : Int) := by
  obtain ⟨g1, g2⟩ := log2_bd h0
  have hL : n.log2 ≤ 52 := by
    refine Nat.not_lt.1 fun hc => ?_
    have := Nat.pow_le_pow_right (n := 2) (by omega) (show 53 ≤ n.log2 from hc)
    omega
  unfold Format.sqrt
  rw [read_int h0 h]
  have hk1 : 2 ^ 52 ≤ n * 2 ^ (52 - n.log2) := by
    have : 2 ^ n.log2 * 2 ^ (52 - n.log2) ≤ n * 2 ^ (52 - n.log2) := Nat.mul_le_mul_right _ g1
    rwa [← Nat.pow_add, show n.log2 + (52 - n.log2) = 52 by omega] at this
  have hk2 : n * 2 ^ (52 - n.log2) < 2 ^ 53 := by
    have : n * 2 ^ (52 - n.log2) < 2 ^ (n.log2 + 1) * 2 ^ (52 - n.log2) := Nat.mul_lt_mul_of_pos_right g2 (Nat.two_pow_pos _)
    rwa [← Nat.pow_add, show n.log2 + 1 + (52 - n.log2) = 53 by omega] at this
  have hlog : (n * 2 ^ (52 - n.log2)).log2 = 52 := log2_eq hk1 hk2
  have hm0 : n * 2 ^ (52 - n.log2) ≠ 0 := by omega
  generalize n.log2 = L at *
  generalize n * 2 ^ (52 - L) = m at *
  unfold Datum.root
  simp only [if_neg hm0, hlog]
  have e5 : double.fractionBits = 52 := rfl
  rw [e5]
  obtain ⟨y, hy, hy2⟩ : ∃ y, (2 * (52 + 2) - 52 + (((L : Int) - 52 - ((2 * (52 + 2) - 52 : Nat) : Int)) % 2).toNat) = y ∧ (y = 56 ∨ y = 57) ∧ (L + y) % 2 = 0 := ⟨_, rfl, by clear g1 g2 hk1 hk2 hlog hm0 e5 h h0; omega, by clear g1 g2 hk1 hk2 hlog hm0 e5 h h0; omega⟩
  obtain ⟨e, he⟩ : ∃ e, ((L : Int) - 52 - (y : Int)) / 2 - 1 = -((e + 1 : Nat) : Int) := ⟨(52 + y - L) / 2, by clear g1 g2 hk1 hk2 hlog hm0 e5 h h0 hy; omega⟩
  have he2 : 2 * e + L = 52 + y := by clear g1 g2 hk1 hk2 hlog hm0 e5 h h0 hy; omega
  simp only [hy, he, shl]
  have hN0 : m * 2 ^ y ≠ 0 := Nat.mul_ne_zero hm0 (Nat.ne_of_gt (Nat.two_pow_pos _))
  obtain ⟨r1, r2⟩ := root_all hN0
  generalize Datum.rootFrom (m * 2 ^ y) ((m * 2 ^ y).log2 / 2 + 1) 0 = q at *
  have hq1 : 2 ^ 54 ≤ q := by
    refine Nat.not_lt.1 fun hc => ?_
    have a1 : (q + 1) * (q + 1) ≤ 2 ^ 54 * 2 ^ 54 := Nat.mul_le_mul hc hc
    have a2 : 2 ^ 52 * 2 ^ 56 ≤ m * 2 ^ y := Nat.mul_le_mul hk1 (Nat.pow_le_pow_right (by omega) (by omega))
    have a3 : (2 : Nat) ^ 52 * 2 ^ 56 = 2 ^ 54 * 2 ^ 54 := by decide
    exact absurd (Nat.lt_of_le_of_lt a2 (Nat.lt_of_lt_of_le r2 a1)) (by rw [a3]; exact Nat.lt_irrefl _)
  have hq2 : q < 2 ^ 55 := by
    refine Nat.not_le.1 fun hc => ?_
    have a1 : 2 ^ 55 * 2 ^ 55 ≤ q * q := Nat.mul_le_mul hc hc
    have a2 : m * 2 ^ y < 2 ^ 53 * 2 ^ 57 := Nat.lt_of_lt_of_le (Nat.mul_lt_mul_of_pos_right hk2 (Nat.two_pow_pos _)) (Nat.mul_le_mul_left _ (Nat.pow_le_pow_right (by omega) (by omega)))
    have a3 : (2 : Nat) ^ 53 * 2 ^ 57 = 2 ^ 55 * 2 ^ 55 := by decide
    exact absurd (Nat.lt_of_le_of_lt (Nat.le_trans a1 r1) a2) (by rw [a3]; exact Nat.lt_irrefl _)
  have hb : (q * q != m * 2 ^ y).toNat ≤ 1 := Bool.toNat_le _
  generalize (q * q != m * 2 ^ y).toNat = b at *
  obtain ⟨x, k, hx1, hx2, hx3, hx4⟩ := write_any (m := 2 * q + b) (M := 55) (d := e + 1) (by omega) (by omega) (by omega) (by omega) (by omega)
  refine ⟨_, rfl, ?_⟩
  show ∃ t : Nat, t ≤ 2 ^ 29 ∧ (double.read (double.nearest false (2 * q + b) (-((e + 1 : Nat) : Int)))).toInt .zero = _
  rw [hx1]
  exact toInt_any hx2 hx3 hx4
end Go.Proofs.Ytdonpiihjoihcaa
