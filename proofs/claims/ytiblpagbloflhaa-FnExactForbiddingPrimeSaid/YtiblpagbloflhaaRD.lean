/- Contracts: the roots of a discriminant. -/
import Derived.Test.YtiblpagbloflhaaS
namespace Go.Proofs.Ytiblpagbloflhaa
set_option linter.unusedVariables false
open Go.ChangeShapes Go.WideShapes Go.ChangeAt Go.RowKit

/-- 4 n divides b b - d -/
def rdB (d n b : Int) : Bool := (b * b - d).tmod (4 * n) == 0
/-- those below k -/
def rdL (d n : Int) (k : Nat) : List Int := ((List.range k).filter fun (j : Nat) => rdB d n j).map fun (j : Nat) => (j : Int)
theorem rdL_succ (d n : Int) (k : Nat) : rdL d n (k + 1) = rdL d n k ++ (if rdB d n k = true then [(k : Int)] else []) := by
  unfold rdL
  rw [List.range_succ, List.filter_append, List.map_append]
  congr 1
  by_cases h : rdB d n k = true <;> simp [h]
theorem rdL_len (d n : Int) (k : Nat) : (rdL d n k).length ≤ k := by
  unfold rdL
  rw [List.length_map]
  have := List.length_filter_le (fun (j : Nat) => rdB d n j) (List.range k)
  simpa using this
theorem rdL_mem {d n : Int} {k : Nat} {b : Int} (h : b ∈ rdL d n k) : 0 ≤ b ∧ b < k ∧ rdB d n b = true := by
  unfold rdL at h
  obtain ⟨j, hj, rfl⟩ := List.mem_map.1 h
  obtain ⟨h1, h2⟩ := List.mem_filter.1 hj
  have := List.mem_range.1 h1
  exact ⟨by omega, by omega, h2⟩
theorem Ints.emptyR (w : World) {B b : Nat} (hb : b = w.heap.size) (hB : B ≤ w.heap.size) : Ints (w.alloc (.cells #[] 3)) B (.slice (some ⟨b, 0, none⟩) 0 0) [] := by
  subst hb; exact Ints.made w [] #[] rfl hB (by simp)
theorem rd_bd {d n : Int} {k : Nat} (hd : -1000000 ≤ d ∧ d ≤ 1000000) (hn : 1 ≤ n) (hn2 : n ≤ 10000) (hk : (k : Int) < 2 * n) : (0 ≤ (k : Int) * k ∧ (k : Int) * k ≤ 400000000) ∧ -1000000000 ≤ ((k : Int) * k - d).tmod (4 * n) ∧ ((k : Int) * k - d).tmod (4 * n) ≤ 1000000000 := by
  have h1 : (0 : Int) ≤ (k : Int) * k := Int.mul_nonneg (by omega) (by omega)
  have h2 : (k : Int) * k ≤ 20000 * 20000 := Int.mul_le_mul (by omega) (by omega) (by omega) (by omega)
  have h3 : (((k : Int) * k - d).tmod (4 * n)).natAbs ≤ ((k : Int) * k - d).natAbs := by
    rw [Int.natAbs_tmod]; exact Nat.mod_le _ _
  omega
theorem impl_rootsOfDiscriminant (d n : Int) (w : World) (hd1 : -1000000 ≤ d) (hd2 : d ≤ 1000000) (hn1 : 1 ≤ n) (hn2 : n ≤ 10000) :
    Calls Try.prog 83 #[.int .i64 d, .int .i64 n] w fun e w' => ∃ v, e = .returned v ∧ Ints w' w.heap.size v (rdL d n (2 * n).toNat) ∧ Below w.heap.size w w' := by
  go_enter Try.func83, Try.ntmps83
  go_wp2_with fail
  go_loopw [5, 6] (fun vl i wr => ∃ k : Nat, i = .int .i64 k ∧ (k : Int) ≤ 2 * n ∧ Ints wr w.heap.size vl (rdL d n k) ∧ Below w.heap.size w wr) (fun _ i _ => (2 * n - intOf i).toNat)
  case atStart => exact ⟨0, rfl, by omega, Ints.emptyR _ rfl (by go_size), by go_grown⟩
  case round =>
    obtain ⟨k, rfl, hk, hown, hB⟩ := hrel
    have hs := hB.size
    have hlen := rdL_len d n k
    have Hown := Lib.hid hown
    clear hown
    by_cases hlt : (k : Int) < 2 * n
    · obtain ⟨⟨b1, b2⟩, b3, b4⟩ := rd_bd ⟨hd1, hd2⟩ hn1 hn2 hlt
      have hsuc := rdL_succ d n k
      by_cases hr : ((k : Int) * k - d).tmod (4 * n) = 0
      · have hb : rdB d n k = true := by unfold rdB; simp [hr]
        rw [if_pos hb] at hsuc
        have Hsuc := Lib.hid hsuc
        clear hsuc hb
        go_wp2_with (at_builtin; refine app_int w.heap.size (rdL d n k) k u5 _ _ _ rfl rfl rfl rfl (Hown.out.alloc _) (World.cell?_alloc_at _ _ _ _ rfl) (by omega) (by go_size) ?_)
        intro v3 w3 hown3 hgrow3 _
        have hB3 : Below w.heap.size w w3 := below_grown (hB.alloc hs _) (Hown.out.alloc _) hgrow3 (by go_size)
        have Hown3 := Lib.hid hown3
        clear hgrow3 hown3
        go_wp2_with fail
        go_roundw
        case rel => exact ⟨k + 1, by go_num, by omega, by rw [Hsuc.out]; exact Hown3.out, hB3⟩
        case measure => simp [intOf]; omega
      · have hb : rdB d n k = false := by unfold rdB; simp [hr]
        rw [if_neg (by rw [hb]; decide), List.append_nil] at hsuc
        have Hsuc := Lib.hid hsuc
        clear hsuc hb
        go_wp2_with fail
        go_roundw
        case rel => exact ⟨k + 1, by go_num, by omega, by rw [Hsuc.out]; exact Hown.out, hB⟩
        case measure => simp [intOf]; omega
    · have hk' : (2 * n).toNat = k := by omega
      have Hk := Lib.hid hk'
      clear hk'
      go_wp2_with fail
      go_ret
      exact ⟨_, rfl, by rw [Hk.out]; exact Hown.out, hB⟩
end Go.Proofs.Ytiblpagbloflhaa
