/- Contracts: two lists compared, a list marked, a list whose marks are held; the tail of a law on lists. -/
import Derived.Test.YtiblpagbloflhaaS
namespace Go.Proofs.Ytiblpagbloflhaa
set_option linter.unusedVariables false
open Go.ChangeShapes Go.WideShapes Go.ChangeAt Go.RowKit

/-- a list that was there before a call, and one that the call made -/
theorem sep_of {w w' : World} {B : Nat} {u v : Value} {l m : List Int} (h : Ints w B u l) (h' : Ints w' w.heap.size v m) : u.ownBlock = none ∨ u.ownBlock ≠ v.ownBlock := by
  cases hu : u.ownBlock with
  | none => exact .inl rfl
  | some k =>
    right
    intro e
    have h1 := (h.lt k hu).2
    have h2 := (h'.lt k e.symm).1
    omega
theorem Below.drewN' {B : Nat} {a w : World} (h : Below B a w) (n : Nat) : Below B a (w.drewN n) := below_drewN h n
theorem grow_trans {a b c : World} {row : Option Nat} (h : a.grownBy b row) (k : b.grownBy c row) : a.grownBy c row :=
  ⟨k.os.trans h.os, k.tape.trans h.tape, k.output.trans h.output, Nat.le_trans h.size k.size, fun i hi hne => (k.block i (Nat.lt_of_lt_of_le hi h.size) hne).trans (h.block i hi hne)⟩
def marks (n : Nat) : List Int := (List.range n).map fun (i : Nat) => (i : Int) + 1
theorem marks_len (n : Nat) : (marks n).length = n := by simp [marks]
theorem marks_get (n k : Nat) (h : k < (marks n).length) : (marks n)[k] = (k : Int) + 1 := by simp [marks]
def markAt (l : List Int) (k : Nat) : List Int := marks k ++ l.drop k
theorem markAt_len (l : List Int) (k : Nat) (h : k ≤ l.length) : (markAt l k).length = l.length := by simp [markAt, marks_len]; omega
theorem markAt_next (l : List Int) (k : Nat) (h : k < l.length) : (markAt l k).set k ((k : Int) + 1) = markAt l (k + 1) := by
  unfold markAt
  rw [List.set_append_right _ _ (by rw [marks_len]; exact Nat.le_refl _), marks_len, Nat.sub_self, List.drop_eq_getElem_cons h, List.set_cons_zero]
  simp [marks, List.range_succ]
theorem laws_eqIntS (l : List Int) (u v : Value) (B B' : Nat) (w : World) (hl : l.length ≤ 1000000) (hu : Ints w B u l) (hv : Ints w B' v l) :
    Calls Try.prog 34 #[u, v] w fun e w' => e = .returned (.bool true) ∧ ∃ n, w' = w.drewN n := by
  obtain ⟨p, c, rfl, _, hr⟩ := hu.view
  obtain ⟨p', c', rfl, _, hr'⟩ := hv.view
  have Hr := Lib.hid hr
  have Hr' := Lib.hid hr'
  clear hr hr' hu hv
  go_enter Try.func34, Try.ntmps34
  go_wp2_with fail
  go_loopw [5] (fun i wr => (∃ k : Nat, i = .int .i64 k ∧ k ≤ l.length) ∧ ∃ n, wr = w.drewN n) (fun i _ => l.length - (intOf i).toNat)
  case atStart => exact ⟨⟨0, rfl, by omega⟩, 0, rfl⟩
  case round =>
    obtain ⟨⟨k, rfl, hk⟩, n, rfl⟩ := hrel
    by_cases hlt : k < l.length
    · obtain ⟨g, rfl, _, _, hc, _⟩ := Hr.out k hlt
      obtain ⟨g', rfl, _, _, hc', _⟩ := Hr'.out k hlt
      go_wp2_with fail
      go_quiet (fail)
      go_wp2_with fail
      go_roundw
      case rel => exact ⟨⟨k + 1, by go_num, by omega⟩, _, by first | rfl | exact World.drewN_drewN _ _ _⟩
      case measure => simp [intOf]; omega
    · go_wp2_with fail
      go_ret
      exact ⟨rfl, _, rfl⟩
theorem laws_markIntS (l : List Int) (u : Value) (B : Nat) (w : World) (hl : l.length ≤ 1000000) (hu : Ints w B u l) :
    Calls Try.prog 35 #[u, .int .i64 1] w fun e w' => e = .returned (.int .i64 ((l.length : Int) + 1)) ∧ Ints w' B u (marks l.length) ∧ w.grownBy w' u.ownBlock := by
  obtain ⟨p, c, rfl, _, hr⟩ := hu.view
  clear hr
  go_enter Try.func35, Try.ntmps35
  go_wp2_with fail
  go_loopw [1, 5] (fun m i wr => ∃ k : Nat, i = .int .i64 k ∧ m = .int .i64 ((k : Int) + 1) ∧ k ≤ l.length ∧ Ints wr B (.slice p l.length c) (markAt l k) ∧ w.grownBy wr (Value.slice p l.length c).ownBlock) (fun _ i _ => l.length - (intOf i).toNat)
  case atStart => exact ⟨0, rfl, rfl, by omega, by simpa [markAt, marks] using hu, ⟨rfl, rfl, rfl, Nat.le_refl _, fun _ _ _ => rfl⟩⟩
  case round =>
    clear hu
    obtain ⟨k, rfl, rfl, hk, hown, hg⟩ := hrel
    have hlen := markAt_len l k hk
    have Hlen := Lib.hid hlen
    clear hlen
    by_cases hlt : k < l.length
    · obtain ⟨g, rfl, _, hg2, hc, hfz⟩ := hown.read k (by rw [Hlen.out]; exact hlt)
      have hst : Ints (wr.setCell ⟨g, k, none⟩ (.int .i64 ((k : Int) + 1))) B (.slice (some ⟨g, 0, none⟩) l.length c) (markAt l (k + 1)) ∧ wr.grownBy (wr.setCell ⟨g, k, none⟩ (.int .i64 ((k : Int) + 1))) (some g) := by
        have ho : wr.ownsRow B 3 1 (.slice (some ⟨g, 0, none⟩) l.length c) l.length ((markAt l k).map (Value.int .i64)) := by
          have := hown
          unfold Ints at this
          rwa [Hlen.out] at this
        obtain ⟨s1, s2⟩ := World.ownsRow.stored ho k (.int .i64 ((k : Int) + 1))
        refine ⟨?_, s2⟩
        unfold Ints
        rw [markAt_len l (k + 1) (by omega), ← markAt_next l k hlt, List.map_set]
        exact s1
      have Hst := Lib.hid hst
      have Hg := Lib.hid hg
      clear hst hg hown
      go_wp2_with fail
      go_roundw
      case rel => exact ⟨k + 1, by go_num, by go_num, by omega, Hst.out.1, grow_trans Hg.out Hst.out.2⟩
      case measure => simp [intOf]; omega
    · go_wp2_with fail
      go_ret
      obtain rfl : k = l.length := by omega
      exact ⟨rfl, by simpa [markAt] using hown, hg⟩
theorem laws_heldIntS (n : Nat) (u : Value) (B : Nat) (w : World) (hl : n ≤ 1000000) (hu : Ints w B u (marks n)) :
    Calls Try.prog 36 #[u, .int .i64 1] w fun e w' => e = .returned (.int .i64 ((n : Int) + 1)) ∧ w = w' := by
  obtain ⟨p, c, rfl, _, hr⟩ := hu.view
  have hr2 : ∀ k, k < n → ∃ g, p = some ⟨g, 0, none⟩ ∧ w.cell? ⟨g, k, none⟩ = some (.int .i64 ((k : Int) + 1)) := fun k hk => by
    obtain ⟨g, h1, _, _, h2, _⟩ := hr k (by rw [marks_len]; exact hk)
    rw [marks_get] at h2
    exact ⟨g, h1, h2⟩
  rw [marks_len]
  have Hr := Lib.hid hr2
  clear hr hr2 hu
  go_enter Try.func36, Try.ntmps36
  go_wp2_with fail
  go_loop [1, 5] (fun m i => ∃ k : Nat, i = .int .i64 k ∧ m = .int .i64 ((k : Int) + 1) ∧ k ≤ n) (fun _ i => n - (intOf i).toNat)
  case atStart => exact ⟨0, rfl, rfl, by omega⟩
  case round =>
    obtain ⟨k, rfl, rfl, hk⟩ := hrel
    by_cases hlt : k < n
    · obtain ⟨g, rfl, hc⟩ := Hr.out k hlt
      go_wp2_with fail
      go_round
      case rel => exact ⟨k + 1, by go_num, by go_num, by omega⟩
      case measure => simp [intOf]; omega
    · go_wp2_with fail
      go_ret
      obtain rfl : k = n := by omega
      exact ⟨rfl, rfl⟩
end Go.Proofs.Ytiblpagbloflhaa
