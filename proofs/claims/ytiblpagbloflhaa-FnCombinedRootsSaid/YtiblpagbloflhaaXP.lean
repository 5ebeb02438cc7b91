/- Plain: the root of a product is a root, and the numbers of roots multiply. -/
import Derived.Test.YtiblpagbloflhaaWR
namespace Go.Proofs.Ytiblpagbloflhaa
set_option linter.unusedVariables false

theorem qB_iff {a m x : Int} : qB a m x = true ↔ (x * x - a) % m = 0 := by
  unfold qB
  rw [beq_iff_eq]
  exact ⟨fun e => Int.emod_eq_zero_of_dvd (Int.dvd_of_tmod_eq_zero e), fun e => Int.tmod_eq_zero_of_dvd (Int.dvd_of_emod_eq_zero e)⟩
theorem cr_root {a x m y n v : Int} (h : crB a x m y n = true) (hv : Inv m n v) :
    0 ≤ crF x m y n v ∧ crF x m y n v < m * n ∧ (crF x m y n v * crF x m y n v - a) % (m * n) = 0 ∧ crF x m y n v % m = x ∧ crF x m y n v % n = y := by
  obtain ⟨_, c1, c2, _, c3, c5, c6⟩ := crB_yes h
  obtain ⟨x0, x1, hx⟩ := rtB_yes c5
  obtain ⟨y0, y1, hy⟩ := rtB_yes c6
  obtain ⟨r0, r1, rm, rn⟩ := crt c1 c2 x0 x1 y0 y1 hv
  refine ⟨r0, r1, ?_, rm, rn⟩
  refine cop_dvd c3 (sq_cong hx ?_) (sq_cong hy ?_)
  · rw [Int.emod_eq_of_lt x0 x1]; exact rm
  · rw [Int.emod_eq_of_lt y0 y1]; exact rn
theorem cong_mod {a m x : Int} : (x * x - a) % m = 0 ↔ ((x % m) * (x % m) - a) % m = 0 :=
  ⟨fun h => sq_cong h (Int.emod_emod_of_dvd _ (Int.dvd_refl m)), fun h => sq_cong h (Int.emod_emod_of_dvd _ (Int.dvd_refl m)).symm⟩
theorem count_roots {a m n : Int} (hm : 1 ≤ m) (hn : 1 ≤ n) (hg : Int.gcd m n = 1) :
    (qL a (m * n) (m * n).toNat).length = (qL a m m.toNat).length * (qL a n n.toNat).length := by
  obtain ⟨M, rfl⟩ : ∃ M : Nat, m = M := ⟨m.toNat, by omega⟩
  obtain ⟨N, rfl⟩ : ∃ N : Nat, n = N := ⟨n.toNat, by omega⟩
  have e : ((M : Int) * N).toNat = M * N := by rw [← Int.natCast_mul, Int.toNat_natCast]
  rw [e, Int.toNat_natCast, Int.toNat_natCast]
  unfold qL
  rw [List.length_map, List.length_map, List.length_map]
  refine count_pairs (by omega) (by omega) (by simpa [Int.gcd] using hg) (fun j => qB a M j) (fun j => qB a N j) (fun j => qB a (M * N) j) fun z _ => ?_
  rw [qB_iff, qB_iff, qB_iff, Int.natCast_emod, Int.natCast_emod, ← cong_mod, ← cong_mod]
  constructor
  · intro h
    have hd := Int.dvd_of_emod_eq_zero h
    exact ⟨Int.emod_eq_zero_of_dvd (Int.dvd_trans ⟨_, rfl⟩ hd), Int.emod_eq_zero_of_dvd (Int.dvd_trans ⟨_, Int.mul_comm _ _⟩ hd)⟩
  · rintro ⟨h1, h2⟩
    exact cop_dvd hg h1 h2
end Go.Proofs.Ytiblpagbloflhaa
