/- Contracts: values of characters (without the test of a prime). -/
import Derived.Test.YtiblpagbloflhaaZ
namespace Go.Proofs.Ytiblpagbloflhaa
set_option linter.unusedVariables false
open Go.ChangeShapes Go.WideShapes Go.ChangeAt Go.RowKit

def chV (k p n : Int) : Int := if k = 1 then J n p else if n % 2 = 0 then 0 else if k = 2 then 2 - n % 4 else if k = 3 then two8 n else (2 - n % 4) * two8 n
/-- a kind of character, and its prime where it has one -/
def ChOk (k p : Int) : Prop := (k = 1 ∧ 1 ≤ p ∧ p ≤ 1000000 ∧ p % 2 = 1) ∨ ((k = 2 ∨ k = 3 ∨ k = 4) ∧ p = 0)
theorem chV_one (p n : Int) : chV 1 p n = J n p := rfl
theorem chV_even {k p n : Int} (h : k ≠ 1) (hn : n % 2 = 0) : chV k p n = 0 := by unfold chV; rw [if_neg h, if_pos hn]
theorem chV_two {p n : Int} (hn : n % 2 = 1) : chV 2 p n = 2 - n % 4 := by unfold chV; rw [if_neg (by omega), if_neg (by omega), if_pos rfl]
theorem chV_three {p n : Int} (hn : n % 2 = 1) : chV 3 p n = two8 n := by unfold chV; rw [if_neg (by omega), if_neg (by omega), if_neg (by omega), if_pos rfl]
theorem chV_four {p n : Int} (hn : n % 2 = 1) : chV 4 p n = (2 - n % 4) * two8 n := by unfold chV; rw [if_neg (by omega), if_neg (by omega), if_neg (by omega), if_neg (by omega)]
theorem teven {n : Int} (h : n % 2 = 0) : (n.tmod 2 == 0) = true := beqT (Int.tmod_eq_zero_of_dvd (Int.dvd_of_emod_eq_zero h))
theorem todd {n : Int} (h : ¬ n % 2 = 0) : (n.tmod 2 == 0) = false := beqF fun h1 => h (Int.emod_eq_zero_of_dvd (Int.dvd_of_tmod_eq_zero h1))
theorem impl_value (k p n v : Int) (w : World) (hc : ChOk k p) (hn : -1000000 ≤ n ∧ n ≤ 1000000) (hv : chV k p n = v) :
    Calls Try.prog 163 #[.agg #[.int .i64 k, .int .i64 p], .int .i64 n] w fun e w' => e = .returned (.int .i64 v) ∧ Below w.heap.size w w' := by
  obtain ⟨n1, n2⟩ := hn
  obtain ⟨rfl, p1, p2, p3⟩ | ⟨hk, rfl⟩ := hc
  · have P3 := Lib.hid p3
    have Hv := Lib.hid hv
    clear hv p3
    go_enter Try.func163, Try.ntmps163
    go_wp2_with fail
    refine (impl_jacobi n p _ p1 (by omega) P3.out).mono ?_
    rintro e w' ⟨rfl, rfl⟩
    go_wp2_with fail
    go_ret
    exact ⟨rint (by rw [← Hv.out]; rfl), by go_grown⟩
  · by_cases he : n % 2 = 0
    · have Hv := Lib.hid ((chV_even (by omega) he).symm.trans hv)
      have be := teven he
      clear hv he
      obtain rfl | rfl | rfl := hk
      · go_enter Try.func163, Try.ntmps163
        go_wp2_with fail
        go_ret
        exact ⟨rint Hv.out, by go_grown⟩
      · go_enter Try.func163, Try.ntmps163
        go_wp2_with fail
        go_ret
        exact ⟨rint Hv.out, by go_grown⟩
      · go_enter Try.func163, Try.ntmps163
        go_wp2_with fail
        go_ret
        exact ⟨rint Hv.out, by go_grown⟩
    · have be := todd he
      have he1 : n % 2 = 1 := by omega
      clear he
      obtain rfl | rfl | rfl := hk
      · have Hv := Lib.hid ((chV_two he1).symm.trans hv)
        clear hv
        go_enter Try.func163, Try.ntmps163
        go_wp2_with fail
        refine (impl_mod n 4 _ (by omega) (by omega)).mono ?_
        rintro e w' ⟨rfl, rfl⟩
        go_wp2_with fail
        go_ret
        exact ⟨rint Hv.out, by go_grown⟩
      · have Hv := Lib.hid ((chV_three he1).symm.trans hv)
        clear hv
        go_enter Try.func163, Try.ntmps163
        go_wp2_with fail
        refine (impl_mod n 4 _ (by omega) (by omega)).mono ?_
        rintro e w' ⟨rfl, rfl⟩
        go_wp2_with fail
        refine (impl_symbolOfTwo n _).mono ?_
        rintro e w' ⟨rfl, rfl⟩
        go_wp2_with fail
        go_ret
        exact ⟨rint Hv.out, by go_grown⟩
      · have Hv := Lib.hid ((chV_four he1).symm.trans hv)
        clear hv
        obtain ht | ht := two8_pm n
        · have Ht := Lib.hid ht
          go_enter Try.func163, Try.ntmps163
          go_wp2_with fail
          refine (impl_mod n 4 _ (by omega) (by omega)).mono ?_
          rintro e w' ⟨rfl, rfl⟩
          go_wp2_with fail
          refine (impl_symbolOfTwo n _).mono ?_
          rintro e w' ⟨rfl, rfl⟩
          rw [Ht.out]
          go_wp2_with fail
          go_ret
          exact ⟨rint (by rw [← Hv.out, Ht.out]; omega), by go_grown⟩
        · have Ht := Lib.hid ht
          go_enter Try.func163, Try.ntmps163
          go_wp2_with fail
          refine (impl_mod n 4 _ (by omega) (by omega)).mono ?_
          rintro e w' ⟨rfl, rfl⟩
          go_wp2_with fail
          refine (impl_symbolOfTwo n _).mono ?_
          rintro e w' ⟨rfl, rfl⟩
          rw [Ht.out]
          go_wp2_with fail
          go_ret
          exact ⟨rint (by rw [← Hv.out, Ht.out]; omega), by go_grown⟩
theorem spec_chAt (k p n v : Int) (w : World) (hc : ChOk k p) (hn : -1000000 ≤ n ∧ n ≤ 1000000) (hv : chV k p n = v) :
    Calls Try.prog 161 #[.agg #[.int .i64 k, .int .i64 p], .int .i64 n] w fun e w' => e = .returned (.int .i64 v) ∧ Below w.heap.size w w' := by
  obtain ⟨n1, n2⟩ := hn
  obtain ⟨rfl, p1, p2, p3⟩ | ⟨hk, rfl⟩ := hc
  · have P3 := Lib.hid p3
    have Hv := Lib.hid hv
    clear hv p3
    go_enter Try.func161, Try.ntmps161
    go_wp2_with fail
    refine (spec_syJacobi n p _ p1 (by omega) P3.out).mono ?_
    rintro e w1 ⟨rfl, hb1⟩
    have hB1 : Below w.heap.size w w1 := Below.after (by go_grown) hb1
    obtain ⟨hc1, hf1⟩ := bcell hb1
    have hy1 := hb1.size
    try simp at hy1
    first | (with_reducible have hx1 := Nat.lt_of_succ_le hy1) | skip
    first | (with_reducible have hv1 := Nat.lt_of_succ_lt hx1) | skip
    first | (with_reducible have hu1 := Nat.lt_of_succ_lt hv1) | skip
    first | (have hz1 : w.heap.size < w1.heap.size := by omega) | (have hz1 := hB1.size)
    clear hb1
    go_wp2_with fail
    go_ret
    exact ⟨rint (by rw [← Hv.out]; rfl), by go_grown⟩
  · by_cases he : n % 2 = 0
    · have Hv := Lib.hid ((chV_even (by omega) he).symm.trans hv)
      have be := teven he
      clear hv he
      obtain rfl | rfl | rfl := hk
      · go_enter Try.func161, Try.ntmps161
        go_wp2_with fail
        go_ret
        exact ⟨rint Hv.out, by go_grown⟩
      · go_enter Try.func161, Try.ntmps161
        go_wp2_with fail
        go_ret
        exact ⟨rint Hv.out, by go_grown⟩
      · go_enter Try.func161, Try.ntmps161
        go_wp2_with fail
        go_ret
        exact ⟨rint Hv.out, by go_grown⟩
    · have be := todd he
      have he1 : n % 2 = 1 := by omega
      clear he
      obtain ht | ht := two8_pm n
      · have Ht := Lib.hid ((two8_odd he1).trans ht)
        obtain rfl | rfl | rfl := hk
        · have Hv := Lib.hid ((chV_two he1).symm.trans hv)
          clear hv ht
          go_enter Try.func161, Try.ntmps161
          go_wp2_with fail
          refine (spec_nuMod n 4 _ (by omega) (by omega)).mono ?_
          rintro e w' ⟨rfl, rfl⟩
          go_wp2_with fail
          refine (spec_syTwo n _).mono ?_
          rintro e w' ⟨rfl, rfl⟩
          rw [Ht.out]
          go_wp2_with fail
          go_ret
          exact ⟨rint Hv.out, by go_grown⟩
        · have Hv := Lib.hid (show (1 : Int) = v by rw [← hv, chV_three he1, ht])
          clear hv ht
          go_enter Try.func161, Try.ntmps161
          go_wp2_with fail
          refine (spec_nuMod n 4 _ (by omega) (by omega)).mono ?_
          rintro e w' ⟨rfl, rfl⟩
          go_wp2_with fail
          refine (spec_syTwo n _).mono ?_
          rintro e w' ⟨rfl, rfl⟩
          rw [Ht.out]
          go_wp2_with fail
          go_ret
          exact ⟨rint Hv.out, by go_grown⟩
        · have Hv := Lib.hid (show 2 - n % 4 = v by rw [← hv, chV_four he1, ht]; omega)
          clear hv ht
          go_enter Try.func161, Try.ntmps161
          go_wp2_with fail
          refine (spec_nuMod n 4 _ (by omega) (by omega)).mono ?_
          rintro e w' ⟨rfl, rfl⟩
          go_wp2_with fail
          refine (spec_syTwo n _).mono ?_
          rintro e w' ⟨rfl, rfl⟩
          rw [Ht.out]
          go_wp2_with fail
          go_ret
          exact ⟨rint Hv.out, by go_grown⟩
      · have Ht := Lib.hid ((two8_odd he1).trans ht)
        obtain rfl | rfl | rfl := hk
        · have Hv := Lib.hid ((chV_two he1).symm.trans hv)
          clear hv ht
          go_enter Try.func161, Try.ntmps161
          go_wp2_with fail
          refine (spec_nuMod n 4 _ (by omega) (by omega)).mono ?_
          rintro e w' ⟨rfl, rfl⟩
          go_wp2_with fail
          refine (spec_syTwo n _).mono ?_
          rintro e w' ⟨rfl, rfl⟩
          rw [Ht.out]
          go_wp2_with fail
          go_ret
          exact ⟨rint Hv.out, by go_grown⟩
        · have Hv := Lib.hid (show (-1 : Int) = v by rw [← hv, chV_three he1, ht])
          clear hv ht
          go_enter Try.func161, Try.ntmps161
          go_wp2_with fail
          refine (spec_nuMod n 4 _ (by omega) (by omega)).mono ?_
          rintro e w' ⟨rfl, rfl⟩
          go_wp2_with fail
          refine (spec_syTwo n _).mono ?_
          rintro e w' ⟨rfl, rfl⟩
          rw [Ht.out]
          go_wp2_with fail
          go_ret
          exact ⟨rint Hv.out, by go_grown⟩
        · have Hv := Lib.hid (show -(2 - n % 4) = v by rw [← hv, chV_four he1, ht]; omega)
          clear hv ht
          go_enter Try.func161, Try.ntmps161
          go_wp2_with fail
          refine (spec_nuMod n 4 _ (by omega) (by omega)).mono ?_
          rintro e w' ⟨rfl, rfl⟩
          go_wp2_with fail
          refine (spec_syTwo n _).mono ?_
          rintro e w' ⟨rfl, rfl⟩
          rw [Ht.out]
          go_wp2_with fail
          go_ret
          exact ⟨rint Hv.out, by go_grown⟩
end Go.Proofs.Ytiblpagbloflhaa
