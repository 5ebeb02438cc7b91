/- Contracts and walks of the laws: characters, conjugates, matrix products, ideals of forms. -/
import Derived.Test.YtiblpagbloflhaaF
namespace Go.Proofs.Ytiblpagbloflhaa
set_option linter.unusedVariables false
open Go.ChangeShapes Go.WideShapes Go.ChangeAt Go.RowKit

/-! odd primes, characters -/
theorem impl_IsPrime (n : Int) (v : Bool) (w : World) (hv : (good n && primeB n) = v) :
    Calls Try.prog 164 #[.int .i64 n] w fun e w' => e = .returned (.bool v) ∧ Below w.heap.size w w' := by
  have Hv := Lib.hid hv
  clear hv
  by_cases h : good n = true
  · obtain ⟨h1, h2⟩ := good_iff.1 h
    have H := Lib.hid h
    clear h
    go_enter Try.func164, Try.ntmps164
    go_wp2_with fail
    refine (are1 n _ _ true _ H.out (by simp)).mono ?_
    rintro e w' ⟨rfl, rfl⟩
    go_wp2_with fail
    refine (impl_isPrime n _ _ (by omega) rfl).mono ?_
    rintro e w' ⟨rfl, rfl⟩
    go_wp2_with fail
    go_ret
    exact ⟨rbool (by rw [← Hv.out]; simp [H.out]), by go_grown⟩
  · have H := Lib.hid (Bool.not_eq_true _ ▸ h)
    clear h
    go_enter Try.func164, Try.ntmps164
    go_wp2_with fail
    refine (are1 n _ _ false _ H.out (by simp)).mono ?_
    rintro e w' ⟨rfl, rfl⟩
    go_wp2_with fail
    go_ret
    exact ⟨rbool (by rw [← Hv.out]; simp [H.out]), by go_grown⟩
theorem impl_isOddPrime (n : Int) (v : Bool) (w : World) (hv : oddPrimeB n = v) :
    Calls Try.prog 105 #[.int .i64 n] w fun e w' => e = .returned (.bool v) ∧ Below w.heap.size w w' := by
  by_cases h : n = 2
  · have hf : oddPrimeB 2 = false := oddPrimeB_no (by omega)
    subst h
    rw [hf] at hv
    subst hv
    clear hf
    go_enter Try.func105, Try.ntmps105
    go_wp2_with fail
    go_ret
    exact ⟨rfl, by go_grown⟩
  · have hn : (n != 2) = true := by simpa using h
    have hv2 : (good n && primeB n) = v := by rw [← hv]; simp [oddPrimeB, h]
    have Hv := Lib.hid hv2
    clear hv2
    clear hv h
    go_enter Try.func105, Try.ntmps105
    go_wp2_with fail
    refine (impl_IsPrime n v _ Hv.out).mono ?_
    rintro e w1 ⟨rfl, hb1⟩
    have hB1 : Below w.heap.size w w1 := Below.after (by go_grown) hb1
    obtain ⟨hc1, hf1⟩ := bcell hb1
    have hy1 := hb1.size
    try simp at hy1
    first | (with_reducible have hx1 := Nat.lt_of_succ_le hy1) | skip
    first | (with_reducible have hv1 := Nat.lt_of_succ_lt hx1) | skip
    first | (with_reducible have hu1 := Nat.lt_of_succ_lt hv1) | skip
    first | (have hz1 : w.heap.size < w1.heap.size := by omega) | (have hz1 := hB1.size)
    clear hb1
    go_wp2_with fail
    go_ret
    exact ⟨rfl, by go_grown⟩
theorem spec_syOddPrime (n : Int) (v : Bool) (w : World) (hv : oddPrimeB n = v) :
    Calls Try.prog 106 #[.int .i64 n] w fun e w' => e = .returned (.bool v) ∧ w = w' := by
  by_cases h : 2 < n
  · have hv2 : (good n && primeB n) = v := by rw [← hv]; simp [oddPrimeB, show n ≠ 2 by omega]
    have Hv := Lib.hid hv2
    clear hv2
    clear hv
    by_cases hg : good n = true
    · obtain ⟨h1, h2⟩ := good_iff.1 hg
      have H := Lib.hid hg
      clear hg
      go_enter Try.func106, Try.ntmps106
      go_wp2_with fail
      refine (spec_nuGood n true _ H.out).mono ?_
      rintro e w' ⟨rfl, rfl⟩
      go_wp2_with fail
      refine (spec_nuPrime n _ _ (by omega) rfl).mono ?_
      rintro e w' ⟨rfl, rfl⟩
      go_wp2_with fail
      go_ret
      exact ⟨rbool (by rw [← Hv.out]; simp [H.out]), rfl⟩
    · have H := Lib.hid (Bool.not_eq_true _ ▸ hg)
      clear hg
      go_enter Try.func106, Try.ntmps106
      go_wp2_with fail
      refine (spec_nuGood n false _ H.out).mono ?_
      rintro e w' ⟨rfl, rfl⟩
      go_wp2_with fail
      go_ret
      exact ⟨rbool (by rw [← Hv.out]; simp [H.out]), rfl⟩
  · rw [oddPrimeB_no (by omega)] at hv
    subst hv
    go_enter Try.func106, Try.ntmps106
    go_wp2_with fail
    go_ret
    exact ⟨rfl, rfl⟩

/-! conjugates -/
end Go.Proofs.Ytiblpagbloflhaa
