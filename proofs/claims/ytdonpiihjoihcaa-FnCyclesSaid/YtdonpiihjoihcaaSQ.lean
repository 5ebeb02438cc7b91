/- Plain: the float64 square root of an integer's square is exact. -/
import Ieee.Arith
namespace Go.Proofs.Ytdonpiihjoihcaa
set_option linter.unusedVariables false
open Ieee

theorem shl (a b : Nat) : a <<< b = a * 2 ^ b := Nat.shiftLeft_eq a b
theorem log2_bd {n : Nat} (h : n ≠ 0) : 2 ^ n.log2 ≤ n ∧ n < 2 ^ (n.log2 + 1) := ⟨Nat.log2_self_le h, Nat.lt_log2_self⟩
theorem log2_eq {n k : Nat} (h1 : 2 ^ k ≤ n) (h2 : n < 2 ^ (k + 1)) : n.log2 = k := by
  have h0 : n ≠ 0 := by have := Nat.two_pow_pos k; omega
  exact (Nat.log2_eq_iff h0).2 ⟨h1, h2⟩
theorem cut_exact (way : Toward) (q drop : Nat) (hq : q ≠ 0) : way.cut false (q * 2 ^ drop) drop = q := by
  have hm : q * 2 ^ drop ≠ 0 := Nat.mul_ne_zero hq (Nat.ne_of_gt (Nat.two_pow_pos drop))
  have h1 : drop ≤ (q * 2 ^ drop).log2 := by
    rw [Nat.le_log2 hm]
    exact Nat.le_mul_of_pos_left _ (Nat.pos_of_ne_zero hq)
  have hp := Nat.two_pow_pos drop
  unfold Toward.cut
  rw [Nat.min_eq_left (by omega), shl, Nat.one_mul]
  simp only [Nat.mul_div_cancel _ hp, Nat.mul_mod_left]
  cases way <;> simp
theorem rootFrom_spec (n : Nat) : ∀ (todo root : Nat), root * root ≤ n → n < (root + 2 ^ todo) * (root + 2 ^ todo) →
    Datum.rootFrom n todo root * Datum.rootFrom n todo root ≤ n ∧ n < (Datum.rootFrom n todo root + 1) * (Datum.rootFrom n todo root + 1)
  | 0, root, h1, h2 => ⟨h1, by simpa [Datum.rootFrom] using h2⟩
  | todo + 1, root, h1, h2 => by
    unfold Datum.rootFrom
    simp only [shl, Nat.one_mul]
    split
    · rename_i h
      refine rootFrom_spec n todo _ h ?_
      rw [Nat.pow_succ] at h2
      rw [Nat.add_assoc, ← Nat.mul_two]
      exact h2
    · rename_i h
      exact rootFrom_spec n todo _ h1 (by omega)
theorem root_all {n : Nat} (h : n ≠ 0) : Datum.rootFrom n (n.log2 / 2 + 1) 0 * Datum.rootFrom n (n.log2 / 2 + 1) 0 ≤ n ∧ n < (Datum.rootFrom n (n.log2 / 2 + 1) 0 + 1) * (Datum.rootFrom n (n.log2 / 2 + 1) 0 + 1) := by
  refine rootFrom_spec n _ 0 (by omega) ?_
  rw [Nat.zero_add, ← Nat.pow_add]
  exact Nat.lt_of_lt_of_le (log2_bd h).2 (Nat.pow_le_pow_right (by omega) (by omega))
theorem root_sq {n s : Nat} (h : n ≠ 0) (hs : n = s * s) : Datum.rootFrom n (n.log2 / 2 + 1) 0 = s := by
  obtain ⟨h1, h2⟩ := root_all h
  generalize Datum.rootFrom n (n.log2 / 2 + 1) 0 = r at *
  subst hs
  have a : r ≤ s := Nat.not_lt.1 fun hc => by have := Nat.mul_lt_mul_of_lt_of_lt hc hc; omega
  have b : s ≤ r := Nat.not_lt.1 fun hc => by have := Nat.mul_le_mul (show r + 1 ≤ s from hc) (show r + 1 ≤ s from hc); omega
  omega
/-- reading a normal word -/
theorem read_word {x k : Nat} (hx : x ≤ 2000) (h1 : 2 ^ 52 ≤ k) (h2 : k < 2 ^ 53) : double.read (x * 2 ^ 52 + k) = .number false k (-1074 + (x : Int)) := by
  have e1 : double.signWeight = 2 ^ 63 := rfl
  have e2 : double.binade = 2 ^ 52 := rfl
  have e3 : double.infRung = 2047 * 2 ^ 52 := rfl
  have e4 : double.leastPlace = -1074 := by decide
  have hlt : x * 2 ^ 52 + k < 2 ^ 63 := by omega
  have hmod : (x * 2 ^ 52 + k) % 2 ^ 63 = x * 2 ^ 52 + k := Nat.mod_eq_of_lt hlt
  have hdiv : (x * 2 ^ 52 + k) / 2 ^ 63 = 0 := Nat.div_eq_of_lt hlt
  unfold Format.read
  simp only [e1, e2, e3, e4, hmod, hdiv]
  rw [if_neg (by omega), if_pos (by omega)]
  have h3 : (x * 2 ^ 52 + k) / 2 ^ 52 = x + 1 := by omega
  have h4 : 2 ^ 52 + (x * 2 ^ 52 + k) % 2 ^ 52 = k := by omega
  rw [h3, h4]
  rfl
/-- writing a number that the format has: shifted up -/
theorem write_up {n L : Nat} (h1 : 2 ^ L ≤ n) (h2 : n < 2 ^ (L + 1)) (hL : L ≤ 52) : double.nearest false n 0 = (L + 1022) * 2 ^ 52 + n * 2 ^ (52 - L) := by
  have h0 : n ≠ 0 := by have := Nat.two_pow_pos L; omega
  have e0 : n.log2 = L := log2_eq h1 h2
  have e2 : double.binade = 2 ^ 52 := rfl
  have e3 : double.infRung = 2047 * 2 ^ 52 := rfl
  have e4 : double.leastPlace = -1074 := by decide
  have e5 : double.fractionBits = 52 := rfl
  have hlast : max (0 + (L : Int) - (52 : Nat)) (-1074) = (L : Int) - 52 := by omega
  have hk : n * 2 ^ (52 - L) < 2 ^ 53 := by
    have : n * 2 ^ (52 - L) < 2 ^ (L + 1) * 2 ^ (52 - L) := Nat.mul_lt_mul_of_pos_right h2 (Nat.two_pow_pos _)
    rwa [← Nat.pow_add, show L + 1 + (52 - L) = 53 by omega] at this
  unfold Format.nearest
  rw [if_neg h0]
  simp only [e0, e2, e3, e4, e5, hlast]
  have a1 : (0 - ((L : Int) - 52)).toNat = 52 - L := by omega
  have a2 : ((L : Int) - 52 - 0).toNat = 0 := by omega
  have a3 : ((L : Int) - 52 - -1074).toNat = L + 1022 := by omega
  rw [a1, a2, a3, shl]
  have a4 := cut_exact .even (n * 2 ^ (52 - L)) 0 (Nat.mul_ne_zero h0 (Nat.ne_of_gt (Nat.two_pow_pos _)))
  rw [Nat.pow_zero, Nat.mul_one] at a4
  rw [a4]
  unfold Format.word
  simp only [Bool.false_eq_true, if_false]
  clear e0 e2 e3 e4 e5 hlast h1 h2
  omega
/-- writing a number that the format has: with noughts behind -/
theorem write_down {s l d : Nat} (h1 : 2 ^ l ≤ s) (h2 : s < 2 ^ (l + 1)) (hl : l ≤ 52) (hd : 52 ≤ l + d) (hd2 : d ≤ 100) :
    double.nearest false (s * 2 ^ d) (-(d : Int)) = (l + 1022) * 2 ^ 52 + s * 2 ^ (52 - l) := by
  have h0 : s ≠ 0 := by have := Nat.two_pow_pos l; omega
  have h0' : s * 2 ^ d ≠ 0 := Nat.mul_ne_zero h0 (Nat.ne_of_gt (Nat.two_pow_pos _))
  have e0 : (s * 2 ^ d).log2 = l + d := by
    refine log2_eq ?_ ?_
    · rw [Nat.pow_add]; exact Nat.mul_le_mul_right _ h1
    · rw [show l + d + 1 = (l + 1) + d by omega, Nat.pow_add]; exact Nat.mul_lt_mul_of_pos_right h2 (Nat.two_pow_pos _)
  have e2 : double.binade = 2 ^ 52 := rfl
  have e3 : double.infRung = 2047 * 2 ^ 52 := rfl
  have e4 : double.leastPlace = -1074 := by decide
  have e5 : double.fractionBits = 52 := rfl
  have hlast : max (-(d : Int) + ((l + d : Nat) : Int) - (52 : Nat)) (-1074) = (l : Int) - 52 := by omega
  have hk : s * 2 ^ (52 - l) < 2 ^ 53 := by
    have : s * 2 ^ (52 - l) < 2 ^ (l + 1) * 2 ^ (52 - l) := Nat.mul_lt_mul_of_pos_right h2 (Nat.two_pow_pos _)
    rwa [← Nat.pow_add, show l + 1 + (52 - l) = 53 by omega] at this
  unfold Format.nearest
  rw [if_neg h0']
  simp only [e0, e2, e3, e4, e5, hlast]
  have a1 : (-(d : Int) - ((l : Int) - 52)).toNat = 52 - l - d := by omega
  have a2 : ((l : Int) - 52 - -(d : Int)).toNat = l + d - 52 := by omega
  have a3 : ((l : Int) - 52 - -1074).toNat = l + 1022 := by omega
  rw [a1, a2, a3, shl, show 52 - l - d = 0 by omega, Nat.pow_zero, Nat.mul_one]
  have a5 : s * 2 ^ d = (s * 2 ^ (52 - l)) * 2 ^ (l + d - 52) := by
    rw [Nat.mul_assoc, ← Nat.pow_add, show 52 - l + (l + d - 52) = d by omega]
  rw [a5, cut_exact .even (s * 2 ^ (52 - l)) (l + d - 52) (Nat.mul_ne_zero h0 (Nat.ne_of_gt (Nat.two_pow_pos _)))]
  unfold Format.word
  simp only [Bool.false_eq_true, if_false]
  clear a1 a2 a3 a5 e0 e2 e3 e4 e5 hlast h1 h2 h0' hd hd2
  omega
/-- the word of an integer, read back -/
theorem read_int {n : Nat} (h0 : n ≠ 0) (h : n < 2 ^ 53) : double.read (double.nearest false n 0) = .number false (n * 2 ^ (52 - n.log2)) ((n.log2 : Int) - 52) := by
  obtain ⟨h1, h2⟩ := log2_bd h0
  have hL : n.log2 ≤ 52 := by
    refine Nat.not_lt.1 fun hc => ?_
    have := Nat.pow_le_pow_right (n := 2) (by omega) (show 53 ≤ n.log2 from hc)
    omega
  generalize n.log2 = L at *
  rw [write_up h1 h2 hL]
  have hk1 : 2 ^ 52 ≤ n * 2 ^ (52 - L) := by
    have : 2 ^ L * 2 ^ (52 - L) ≤ n * 2 ^ (52 - L) := Nat.mul_le_mul_right _ h1
    rwa [← Nat.pow_add, show L + (52 - L) = 52 by omega] at this
  have hk2 : n * 2 ^ (52 - L) < 2 ^ 53 := by
    have : n * 2 ^ (52 - L) < 2 ^ (L + 1) * 2 ^ (52 - L) := Nat.mul_lt_mul_of_pos_right h2 (Nat.two_pow_pos _)
    rwa [← Nat.pow_add, show L + 1 + (52 - L) = 53 by omega] at this
  rw [read_word (by omega) hk1 hk2]
  have e : (-1074 : Int) + ((L + 1022 : Nat) : Int) = (L : Int) - 52 := by omega
  rw [e]
/-- the integer of a word -/
theorem toInt_word {s l : Nat} (h0 : s ≠ 0) (hl : l ≤ 52) : Datum.toInt .zero (.number false (s * 2 ^ (52 - l)) ((l : Int) - 52)) = some (s : Int) := by
  unfold Datum.toInt Datum.integral
  have a1 : ((l : Int) - 52).toNat = 0 := by omega
  have a2 : (-((l : Int) - 52)).toNat = 52 - l := by omega
  simp only [a1, a2, shl, Nat.pow_zero, Nat.mul_one]
  rw [cut_exact .zero s (52 - l) h0]
  simp [signed]
/-- the root of an integer's square -/
theorem sqrt_sq {s : Nat} (h0 : s ≠ 0) (h : s * s < 2 ^ 53) : double.sqrt (double.nearest false (s * s) 0) = some (double.nearest false s 0) := by
  have hn0 : s * s ≠ 0 := Nat.mul_ne_zero h0 h0
  obtain ⟨h1, h2⟩ := log2_bd h0
  obtain ⟨g1, g2⟩ := log2_bd hn0
  have hs27 : s < 2 ^ 27 := by
    refine Nat.not_le.1 fun hc => ?_
    have := Nat.mul_le_mul hc hc
    omega
  have hl : s.log2 ≤ 26 := by
    refine Nat.not_lt.1 fun hc => ?_
    have := Nat.pow_le_pow_right (n := 2) (by omega) (show 27 ≤ s.log2 from hc)
    omega
  have hL : (s * s).log2 ≤ 52 := by
    refine Nat.not_lt.1 fun hc => ?_
    have := Nat.pow_le_pow_right (n := 2) (by omega) (show 53 ≤ (s * s).log2 from hc)
    omega
  unfold Format.sqrt
  rw [read_int hn0 h]
  have hk1 : 2 ^ 52 ≤ s * s * 2 ^ (52 - (s * s).log2) := by
    have : 2 ^ (s * s).log2 * 2 ^ (52 - (s * s).log2) ≤ s * s * 2 ^ (52 - (s * s).log2) := Nat.mul_le_mul_right _ g1
    rwa [← Nat.pow_add, show (s * s).log2 + (52 - (s * s).log2) = 52 by omega] at this
  have hk2 : s * s * 2 ^ (52 - (s * s).log2) < 2 ^ 53 := by
    have : s * s * 2 ^ (52 - (s * s).log2) < 2 ^ ((s * s).log2 + 1) * 2 ^ (52 - (s * s).log2) := Nat.mul_lt_mul_of_pos_right g2 (Nat.two_pow_pos _)
    rwa [← Nat.pow_add, show (s * s).log2 + 1 + (52 - (s * s).log2) = 53 by omega] at this
  have hlog : (s * s * 2 ^ (52 - (s * s).log2)).log2 = 52 := log2_eq hk1 hk2
  have hm0 : s * s * 2 ^ (52 - (s * s).log2) ≠ 0 := by omega
  generalize (s * s).log2 = L at *
  unfold Datum.root
  simp only [if_neg hm0, hlog]
  have e5 : double.fractionBits = 52 := rfl
  rw [e5]
  obtain ⟨e, he⟩ : ∃ e, 52 - L + (2 * (52 + 2) - 52 + (((L : Int) - 52 - ((2 * (52 + 2) - 52 : Nat) : Int)) % 2).toNat) = 2 * e := ⟨(52 - L + (2 * (52 + 2) - 52 + (((L : Int) - 52 - ((2 * (52 + 2) - 52 : Nat) : Int)) % 2).toNat)) / 2, by omega⟩
  have hsq : (s * s * 2 ^ (52 - L)) <<< (2 * (52 + 2) - 52 + (((L : Int) - 52 - ((2 * (52 + 2) - 52 : Nat) : Int)) % 2).toNat) = (s * 2 ^ e) * (s * 2 ^ e) := by
    rw [shl, Nat.mul_assoc (s * s), ← Nat.pow_add, he, Nat.two_mul, Nat.pow_add, Nat.mul_mul_mul_comm]
  have hne : (s * 2 ^ e) * (s * 2 ^ e) ≠ 0 := Nat.mul_ne_zero (Nat.mul_ne_zero h0 (Nat.ne_of_gt (Nat.two_pow_pos e))) (Nat.mul_ne_zero h0 (Nat.ne_of_gt (Nat.two_pow_pos e)))
  have hr := root_sq hne rfl
  have hLl : L < s.log2 + 1 + (s.log2 + 1) := by
    have : 2 ^ L < 2 ^ (s.log2 + 1 + (s.log2 + 1)) := by
      rw [Nat.pow_add]
      exact Nat.lt_of_le_of_lt g1 (Nat.mul_lt_mul_of_lt_of_lt h2 h2)
    exact (Nat.pow_lt_pow_iff_right (by omega)).1 this
  have hpl : ((L : Int) - 52 - ((2 * (52 + 2) - 52 + (((L : Int) - 52 - ((2 * (52 + 2) - 52 : Nat) : Int)) % 2).toNat : Nat) : Int)) / 2 - 1 = -((e + 1 : Nat) : Int) := by
    clear hsq hne hr hlog hk1 hk2 g1 g2 h1 h2 hm0 e5
    omega
  have he1 : 28 ≤ e + 1 ∧ e + 1 ≤ 100 ∧ 52 ≤ s.log2 + (e + 1) := by
    clear hsq hne hr hlog hk1 hk2 g1 g2 h1 h2 hm0 e5 hpl
    omega
  simp only [hsq, hr, bne_self_eq_false, Bool.toNat_false, Nat.add_zero, Bool.false_eq_true, if_false, Option.map_some, hpl]
  have e6 : 2 * (s * 2 ^ e) = s * 2 ^ (e + 1) := by rw [Nat.pow_succ, Nat.mul_left_comm, Nat.mul_comm 2]
  rw [write_up h1 h2 (by omega), e6]
  show some (double.nearest false (s * 2 ^ (e + 1)) (-((e + 1 : Nat) : Int))) = _
  rw [write_down h1 h2 (by omega) he1.2.2 he1.2.1]
/-- the square root of a square, as an integer -/
theorem sqrt_int {s : Nat} (h0 : s ≠ 0) (h : s * s < 2 ^ 53) : ∃ r, double.sqrt (double.nearest false (s * s) 0) = some r ∧ (double.read r).toInt .zero = some (s : Int) := by
  refine ⟨_, sqrt_sq h0 h, ?_⟩
  have hs : s < 2 ^ 53 := Nat.lt_of_le_of_lt (Nat.le_mul_of_pos_left s (Nat.pos_of_ne_zero h0)) h
  obtain ⟨h1, h2⟩ := log2_bd h0
  have hl : s.log2 ≤ 52 := by
    refine Nat.not_lt.1 fun hc => ?_
    have := Nat.pow_le_pow_right (n := 2) (by omega) (show 53 ≤ s.log2 from hc)
    omega
  rw [read_int h0 hs]
  exact toInt_word h0 hl
end Go.Proofs.Ytdonpiihjoihcaa
