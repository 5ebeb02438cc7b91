/- Contracts: factors, different primes, square-free parts. -/
import Derived.Test.YtafcbaganjcnlaaS
import Derived.Test.YtafcbaganjcnlaaN
namespace Go.Proofs.Ytafcbaganjcnlaa
set_option linter.unusedVariables false
open Go.ChangeShapes Go.WideShapes Go.ChangeAt Go.RowKit

theorem stripL_len : ∀ (k : Nat) (p n : Int), n.toNat ≤ k → (stripL p n).length ≤ n.toNat := by
  intro k
  induction k with
  | zero =>
    intro p n h
    rw [stripL]
    split
    · omega
    · simp
  | succ k ih =>
    intro p n h
    rw [stripL]
    split
    · rename_i hh
      have := div_lt hh.1 hh.2.1
      have := ih p (n / p) (by omega)
      simp
      omega
    · simp

theorem cell_src {w : World} {o : Obj} {g : Nat} {l : List Int} (hg : g < w.heap.size) (hc : ∀ i (hi : i < l.length), w.cell? ⟨g, i, none⟩ = some (.int .i64 l[i])) : ∀ i (hi : i < l.length), (w.alloc o).cell? ((⟨g, 0, none⟩ : Addr).add i) = some (.int .i64 l[i]) := by
  intro i hi
  have hadd : (⟨g, 0, none⟩ : Addr).add i = ⟨g, i, none⟩ := by unfold Addr.add; split <;> simp_all
  rw [hadd, World.cell?_alloc_past _ _ _ hg]
  exact hc i hi
theorem ownBlock_len (p : Option Addr) (n m c : Nat) : (Value.slice p n c).ownBlock = (Value.slice p m c).ownBlock := by cases p <;> rfl
/-- the state of the outer loop: what has been found, and what is left -/
def FacAt (w : World) (N : Int) (n : Value) (v : Value) (p : Value) (wr : World) : Prop :=
  ∃ (n' p' : Int) (l : List Int), n = .int .i64 n' ∧ p = .int .i64 p' ∧ 1 ≤ n' ∧ n' ≤ N ∧ 2 ≤ p' ∧ p' ≤ 1000002 ∧ l ++ facGo p' n' = facs N ∧ (l.length : Int) + n' ≤ N ∧ Ints wr w.heap.size v l ∧ Below w.heap.size w wr
/-- the state of the inner loop -/
def FacIn (w : World) (N p' : Int) (n : Value) (v : Value) (wr : World) : Prop :=
  ∃ (n' : Int) (l : List Int), n = .int .i64 n' ∧ 1 ≤ n' ∧ n' ≤ N ∧ l ++ (stripL p' n' ++ facGo (p' + 1) (stripN p' n')) = facs N ∧ (l.length : Int) + n' ≤ N ∧ Ints wr w.heap.size v l ∧ Below w.heap.size w wr
theorem impl_factors (N : Int) (w : World) (h0 : 1 ≤ N) (h1 : N ≤ 1000000) :
    Calls Try.prog 86 #[.int .i64 N] w fun e w' => ∃ v, e = .returned v ∧ Ints w' w.heap.size v (facs N) ∧ Below w.heap.size w w' := by
  go_enter Try.func86, Try.ntmps86
  go_wp2_with fail
  go_loopw [0, 3, 4] (fun n v p wr => FacAt w N n v p wr) (fun n _ p _ => (1000003 - intOf p).toNat)
  case atStart => exact ⟨N, 2, [], rfl, rfl, h0, Int.le_refl _, by omega, by omega, rfl, by simp, Ints.made _ [] _ rfl (Nat.le_refl _) (by simp), by go_grown⟩
  case round =>
    obtain ⟨n, p, l, rfl, rfl, hn0, hnN, hp, hp2, hl, hlen, hown, hB⟩ := hrel
    have Hl := Lib.hid hl
    clear hl
    have hpp := mul_le (a := p) (b := p) (A := 1000002) (B := 1000002) (by omega) (by omega) (by omega) (by omega)
    have hs := hB.size
    by_cases hle : p * p ≤ n
    · have hlt : p < 1000001 := sq_lt (by omega) (by omega) (by omega)
      go_wp2_with fail
      go_loopw [0, 3] (fun n v wr => FacIn w N p n v wr) (fun n _ _ => (intOf n).toNat)
      case atStart => exact ⟨n, l, rfl, hn0, hnN, by rw [← facGo_step hp hle]; exact Hl.out, hlen, hown, hB⟩
      case round =>
        clear hlen hown hB hs hn0 hnN Hl
        obtain ⟨n, l, rfl, hn0, hnN, hl, hlen, hown, hB⟩ := hrel
        have Hl := Lib.hid hl
        clear hl
        have hs := hB.size
        by_cases hm : n % p = 0
        · obtain ⟨hd1, hd2⟩ := div_exact hp hn0 hm
          have hdl := div_lt hp hn0
          have hm' : (n % p == 0) = true := by simpa using hm
          have Hm := Lib.hid hm
          clear hm hd2
          go_wp2_with (at_builtin; refine app_int w.heap.size l p u3 _ _ _ rfl rfl rfl rfl (hown.alloc _) (World.cell?_alloc_at _ _ _ _ rfl) (by omega) (by simp; omega) ?_)
          intro v' w1 hown' hgrow hblk
          have hB' : Below w.heap.size w w1 := below_grown (hB.alloc hs _) (hown.alloc _) hgrow (by simp; omega)
          clear hgrow hown hB hblk
          go_wp2_with fail
          go_roundw
          case rel =>
            refine ⟨n / p, l ++ [p], rfl, hd1, by omega, ?_, ?_, hown', hB'⟩
            · rw [← Hl.out, stripL_yes hp hn0 Hm.out, stripN_yes hp hn0 Hm.out]; simp
            · simp; omega
          case measure => simp [intOf]; omega
        · have hm' : (n % p == 0) = false := by simpa using hm
          have Hm := Lib.hid hm
          clear hm
          go_wp2_with fail
          go_roundw
          case rel =>
            refine ⟨n, p + 1, l, rfl, by go_num, hn0, hnN, by omega, by omega, ?_, hlen, hown, hB⟩
            have := Hl.out
            rwa [stripL_no Hm.out, stripN_no Hm.out] at this
          case measure => simp [intOf]; omega
    · by_cases hn1 : 1 < n
      · go_wp2_with (at_builtin; refine app_int w.heap.size l n u3 _ _ _ rfl rfl rfl rfl (hown.alloc _) (World.cell?_alloc_at _ _ _ _ rfl) (by omega) (by simp; omega) ?_)
        intro v' w1 hown' hgrow hblk
        have hB' : Below w.heap.size w w1 := below_grown (hB.alloc hs _) (hown.alloc _) hgrow (by simp; omega)
        clear hgrow hown hB hblk
        go_wp2_with fail
        go_ret
        exact ⟨_, rfl, by rw [← Hl.out, facGo_end hle, if_pos hn1]; exact hown', hB'⟩
      · go_wp2_with fail
        go_ret
        exact ⟨_, rfl, by rw [← Hl.out, facGo_end hle, if_neg (by omega)]; simpa using hown, hB⟩
theorem spec_nuFactors (N : Int) (w : World) (h0 : 1 ≤ N) (h1 : N ≤ 1000000) :
    Calls Try.prog 83 #[.int .i64 N] w fun e w' => ∃ v, e = .returned v ∧ Ints w' w.heap.size v (facs N) ∧ Below w.heap.size w w' := by
  go_enter Try.func83, Try.ntmps83
  go_wp2_with fail
  go_loopw [0, 3, 4] (fun n v p wr => FacAt w N n v p wr) (fun n _ p _ => (1000003 - intOf p).toNat)
  case atStart => exact ⟨N, 2, [], rfl, rfl, h0, Int.le_refl _, by omega, by omega, rfl, by simp, Ints.nil _ _, by go_grown⟩
  case round =>
    obtain ⟨n, p, l, rfl, rfl, hn0, hnN, hp, hp2, hl, hlen, hown, hB⟩ := hrel
    have Hl := Lib.hid hl
    clear hl
    have hpp := mul_le (a := p) (b := p) (A := 1000002) (B := 1000002) (by omega) (by omega) (by omega) (by omega)
    have hs := hB.size
    by_cases hle : p * p ≤ n
    · have hlt : p < 1000001 := sq_lt (by omega) (by omega) (by omega)
      go_wp2_with fail
      go_loopw [0, 3] (fun n v wr => FacIn w N p n v wr) (fun n _ _ => (intOf n).toNat)
      case atStart => exact ⟨n, l, rfl, hn0, hnN, by rw [← facGo_step hp hle]; exact Hl.out, hlen, hown, hB⟩
      case round =>
        clear hlen hown hB hs hn0 hnN Hl
        obtain ⟨n, l, rfl, hn0, hnN, hl, hlen, hown, hB⟩ := hrel
        have Hl := Lib.hid hl
        clear hl
        have hs := hB.size
        by_cases hm : n % p = 0
        · obtain ⟨hd1, hd2⟩ := div_exact hp hn0 hm
          have hdl := div_lt hp hn0
          have hm' : (n % p == 0) = true := by simpa using hm
          have Hm := Lib.hid hm
          clear hm hd2
          go_wp2_with (at_builtin; refine app_int w.heap.size l p u3 _ _ _ rfl rfl rfl rfl (hown.alloc _) (World.cell?_alloc_at _ _ _ _ rfl) (by omega) (by simp; omega) ?_)
          intro v' w1 hown' hgrow hblk
          have hB' : Below w.heap.size w w1 := below_grown (hB.alloc hs _) (hown.alloc _) hgrow (by simp; omega)
          clear hgrow hown hB hblk
          go_wp2_with fail
          go_roundw
          case rel =>
            refine ⟨n / p, l ++ [p], rfl, hd1, by omega, ?_, ?_, hown', hB'⟩
            · rw [← Hl.out, stripL_yes hp hn0 Hm.out, stripN_yes hp hn0 Hm.out]; simp
            · simp; omega
          case measure => simp [intOf]; omega
        · have hm' : (n % p == 0) = false := by simpa using hm
          have Hm := Lib.hid hm
          clear hm
          go_wp2_with fail
          go_roundw
          case rel =>
            refine ⟨n, p + 1, l, rfl, by go_num, hn0, hnN, by omega, by omega, ?_, hlen, hown, hB⟩
            have := Hl.out
            rwa [stripL_no Hm.out, stripN_no Hm.out] at this
          case measure => simp [intOf]; omega
    · by_cases hn1 : 1 < n
      · go_wp2_with (at_builtin; refine app_int w.heap.size l n u3 _ _ _ rfl rfl rfl rfl (hown.alloc _) (World.cell?_alloc_at _ _ _ _ rfl) (by omega) (by simp; omega) ?_)
        intro v' w1 hown' hgrow hblk
        have hB' : Below w.heap.size w w1 := below_grown (hB.alloc hs _) (hown.alloc _) hgrow (by simp; omega)
        clear hgrow hown hB hblk
        go_wp2_with fail
        go_ret
        exact ⟨_, rfl, by rw [← Hl.out, facGo_end hle, if_pos hn1]; exact hown', hB'⟩
      · go_wp2_with fail
        go_ret
        exact ⟨_, rfl, by rw [← Hl.out, facGo_end hle, if_neg (by omega)]; simpa using hown, hB⟩
/-! the inserting of an integer into an increasing list: where it is the last one, and where it is greater than all -/
theorem spec_l1Put_same (l : List Int) (x : Int) (v : Value) (B : Nat) (w : World) (hown : Ints w B v l) (hl : l.length ≤ 1000000) (hinc : l.Pairwise (· < ·)) (hx : l.getLast? = some x) :
    Calls Try.prog 84 #[v, .int .i64 x] w fun e w' => e = .returned v ∧ w = w' := by
  have hpos : 0 < l.length := by cases l with | nil => simp at hx | cons _ _ => simp
  rw [last_of hpos] at hx
  injection hx with hx
  have Hinc := Lib.hid (List.pairwise_iff_getElem.1 hinc)
  clear hinc
  obtain ⟨p, cap, rfl, _, hr⟩ := hown.view
  obtain ⟨g, rfl, _, _, hc, _⟩ := hr (l.length - 1) (by omega)
  rw [hx] at hc
  have Hr := Lib.hid hr
  have Hx := Lib.hid hx
  clear hr hx
  go_enter Try.func84, Try.ntmps84
  go_wp2_with fail
  go_loop [5] (fun i => ∃ k : Nat, i = .int .i64 k ∧ k ≤ l.length - 1) (fun i => l.length - (intOf i).toNat)
  case atStart => exact ⟨0, rfl, by omega⟩
  case round =>
    obtain ⟨k, rfl, hk⟩ := hrel
    by_cases hlt : k < l.length - 1
    · have hck := Hr.out k (by omega)
      obtain ⟨g', hg', _, _, hck, _⟩ := hck
      injection hg' with hg'
      injection hg' with hg'
      subst hg'
      have hlt2 : l[k] < x := by have := Hinc.out k (l.length - 1) (by omega) (by omega) hlt; rw [Hx.out] at this; exact this
      have hlt3 : k < l.length := by omega
      have hw : ((k : Int) < (l.length : Int)) := by omega
      go_wp2_with fail
      go_round
      case rel => exact ⟨k + 1, by go_num, by omega⟩
      case measure => simp [intOf]; omega
    · obtain rfl : k = l.length - 1 := by omega
      have hw : (((l.length - 1 : Nat) : Int) < (l.length : Int)) := by omega
      go_wp2_with fail
      go_ret
      exact ⟨rfl, rfl⟩
theorem spec_l1Put_new (l : List Int) (x : Int) (v : Value) (B : Nat) (w : World) (hown : Ints w B v l) (hl : l.length ≤ 1000000) (hx : ∀ y, y ∈ l → y < x) :
    Calls Try.prog 84 #[v, .int .i64 x] w fun e w' => ∃ v', e = .returned v' ∧ Ints w' w.heap.size v' (l ++ [x]) ∧ Below w.heap.size w w' := by
  rcases hown.parts with ⟨rfl, rfl⟩ | ⟨g, cap, rfl, hcap, hcm, hg1, hg2, hcell⟩
  · clear hx hown
    go_enter Try.func84, Try.ntmps84
    go_wp2_with fail
    go_loop [5] (fun i => i = .int .i64 0) (fun i => 0)
    case atStart => rfl
    case round =>
      subst hrel
      have hm0 : Ints (w.alloc (.cells #[] 3)) w.heap.size (.slice (some ⟨w.heap.size, 0, none⟩) 0 0) [] := Ints.made w [] #[] rfl (Nat.le_refl _) (by simp)
      go_wp2_with (at_builtin; refine app_int w.heap.size [] x (.slice (some ⟨w.heap.size, 0, none⟩) 0 0) _ _ _ rfl rfl rfl rfl (hm0.alloc _) (World.cell?_alloc_at _ _ _ _ (by simp)) (by simp) (by go_size) ?_)
      intro v' w1 hown' hgrow _
      have hB' : Below w.heap.size w w1 := below_grown (by go_grown) (hm0.alloc _) hgrow (by go_size)
      clear hgrow hm0
      go_wp2_with (at_builtin; refine app_none w.heap.size _ v' _ _ rfl rfl rfl rfl hown' ?_)
      go_ret
      exact ⟨v', rfl, by simpa using hown', hB'⟩
  · unfold maxLen at hcm
    have Hcell := Lib.hid hcell
    have Hx := Lib.hid hx
    clear hcell hx hown
    by_cases hcl : cap = l.length
    · subst hcl
      go_enter Try.func84, Try.ntmps84
      go_wp2_with fail
      go_loop [5] (fun i => ∃ k : Nat, i = .int .i64 k ∧ k ≤ l.length) (fun i => l.length - (intOf i).toNat)
      case atStart => exact ⟨0, rfl, by omega⟩
      case round =>
        obtain ⟨k, rfl, hk⟩ := hrel
        by_cases hlt : k < l.length
        · have hck := Hcell.out k hlt
          have hlt2 : l[k] < x := Hx.out _ (List.getElem_mem hlt)
          go_wp2_with fail
          go_round
          case rel => exact ⟨k + 1, by go_num, by omega⟩
          case measure => simp [intOf]; omega
        · obtain rfl : k = l.length := by omega
          have hm0 : Ints (w.alloc (.cells #[] 3)) w.heap.size (.slice (some ⟨w.heap.size, 0, none⟩) 0 0) [] := Ints.made w [] #[] rfl (Nat.le_refl _) (by simp)
          go_wp2_with (at_builtin; refine app_ints w.heap.size [] l (.slice (some ⟨w.heap.size, 0, none⟩) 0 0) ⟨g, 0, none⟩ _ _ _ rfl rfl rfl rfl hm0 (cell_src hg2 Hcell.out) (by simp; omega) (by go_size) ?_)
          intro v1 w1 hown1 hgrow1
          have hB1 : Below w.heap.size w w1 := below_grown (by go_grown) hm0 hgrow1 (by go_size)
          have hs1 := hB1.size
          clear hgrow1 hm0
          go_wp2_with (at_builtin; refine app_int w.heap.size l x v1 _ _ _ rfl rfl rfl rfl (hown1.alloc _) (World.cell?_alloc_at _ _ _ _ rfl) (by omega) (by go_size) ?_)
          intro v2 w2 hown2 hgrow2 _
          have hB2 : Below w.heap.size w w2 := below_grown (hB1.alloc hs1 _) (hown1.alloc _) hgrow2 (by go_size)
          have hs2 := hB2.size
          clear hgrow2 hown1
          go_wp2_with (at_builtin; refine app_ints w.heap.size (l ++ [x]) [] v2 _ _ _ _ rfl rfl rfl rfl hown2 (fun i hi => absurd hi (by simp)) (by simp; omega) (by go_size) ?_)
          intro v3 w3 hown3 hgrow3
          have hB3 : Below w.heap.size w w3 := below_grown hB2 hown2 hgrow3 (by go_size)
          clear hgrow3 hown2
          go_wp2_with fail
          go_ret
          exact ⟨v3, rfl, by simpa using hown3, hB3⟩
    · go_enter Try.func84, Try.ntmps84
      go_wp2_with fail
      go_loop [5] (fun i => ∃ k : Nat, i = .int .i64 k ∧ k ≤ l.length) (fun i => l.length - (intOf i).toNat)
      case atStart => exact ⟨0, rfl, by omega⟩
      case round =>
        obtain ⟨k, rfl, hk⟩ := hrel
        by_cases hlt : k < l.length
        · have hck := Hcell.out k hlt
          have hlt2 : l[k] < x := Hx.out _ (List.getElem_mem hlt)
          go_wp2_with fail
          go_round
          case rel => exact ⟨k + 1, by go_num, by omega⟩
          case measure => simp [intOf]; omega
        · obtain rfl : k = l.length := by omega
          have hm0 : Ints (w.alloc (.cells #[] 3)) w.heap.size (.slice (some ⟨w.heap.size, 0, none⟩) 0 0) [] := Ints.made w [] #[] rfl (Nat.le_refl _) (by simp)
          go_wp2_with (at_builtin; refine app_ints w.heap.size [] l (.slice (some ⟨w.heap.size, 0, none⟩) 0 0) ⟨g, 0, none⟩ _ _ _ rfl rfl rfl rfl hm0 (cell_src hg2 Hcell.out) (by simp; omega) (by go_size) ?_)
          intro v1 w1 hown1 hgrow1
          have hB1 : Below w.heap.size w w1 := below_grown (by go_grown) hm0 hgrow1 (by go_size)
          have hs1 := hB1.size
          clear hgrow1 hm0
          go_wp2_with (at_builtin; refine app_int w.heap.size l x v1 _ _ _ rfl rfl rfl rfl (hown1.alloc _) (World.cell?_alloc_at _ _ _ _ rfl) (by omega) (by go_size) ?_)
          intro v2 w2 hown2 hgrow2 _
          have hB2 : Below w.heap.size w w2 := below_grown (hB1.alloc hs1 _) (hown1.alloc _) hgrow2 (by go_size)
          have hs2 := hB2.size
          clear hgrow2 hown1
          go_wp2_with (at_builtin; refine app_ints w.heap.size (l ++ [x]) [] v2 _ _ _ _ rfl rfl rfl rfl hown2 (fun i hi => absurd hi (by simp)) (by simp; omega) (by go_size) ?_)
          intro v3 w3 hown3 hgrow3
          have hB3 : Below w.heap.size w w3 := below_grown hB2 hown2 hgrow3 (by go_size)
          clear hgrow3 hown2
          go_wp2_with fail
          go_ret
          exact ⟨v3, rfl, by simpa using hown3, hB3⟩
theorem impl_primesOf (N : Int) (w : World) (h0 : 1 ≤ N) (h1 : N ≤ 1000000) :
    Calls Try.prog 52 #[.int .i64 N] w fun e w' => ∃ v, e = .returned v ∧ Ints w' w.heap.size v (prs N) ∧ Below w.heap.size w w' := by
  have hfl := facs_len h0
  go_enter Try.func52, Try.ntmps52
  go_wp2_with fail
  refine (impl_factors N _ h0 h1).mono ?_
  rintro e w1 ⟨v0, rfl, hf, hb1⟩
  have hB1 : Below w.heap.size w w1 := Below.after (by go_grown) hb1
  have hown1 : Ints w1 w.heap.size (.slice (some ⟨w.heap.size, 0, none⟩) 0 0) [] := (Ints.made w [] #[] rfl (Nat.le_refl _) (by simp)).below hb1
  have hsep1 : v0.ownBlock = none ∨ v0.ownBlock ≠ Value.ownBlock (.slice (some ⟨w.heap.size, 0, none⟩) 0 0) := by
    cases hv : v0.ownBlock with
    | none => exact .inl rfl
    | some k =>
      right
      have := (hf.lt k hv).1
      simp at this
      intro e
      simp [Value.ownBlock] at e
      omega
  have hf1 := hf.mono (B' := w.heap.size) (by simp)
  clear hf hb1
  obtain ⟨p0, cap, rfl, _, _⟩ := hf1.view
  go_wp2_with fail
  go_loopw [3, 10] (fun v i wr => ∃ (k : Nat) (l : List Int), k ≤ (facs N).length ∧ i = .int .i64 k ∧ l = ((facs N).take k).foldl addP [] ∧ l.length ≤ k ∧ Ints wr w.heap.size v l ∧ Ints wr w.heap.size (.slice p0 (facs N).length cap) (facs N) ∧
      ((Value.slice p0 (facs N).length cap).ownBlock = none ∨ (Value.slice p0 (facs N).length cap).ownBlock ≠ v.ownBlock) ∧ Below w.heap.size w wr) (fun _ i _ => (facs N).length - (intOf i).toNat)
  case atStart => exact ⟨0, [], by omega, rfl, rfl, by simp, hown1, hf1, hsep1, hB1⟩
  case round =>
    clear hown1 hf1 hsep1 hB1
    obtain ⟨k, l, hk, rfl, hl, hlk, hown, hf, hsep, hB⟩ := hrel
    have Hl := Lib.hid hl
    clear hl
    have hs := hB.size
    by_cases hlt : k < (facs N).length
    · obtain ⟨g, rfl, _, hg2, hcell, _⟩ := hf.read k hlt
      obtain ⟨x, hx⟩ : ∃ x, x = (facs N)[k] := ⟨_, rfl⟩
      rw [← hx] at hcell
      have Hx := Lib.hid hx
      clear hx
      obtain ⟨pl, capl, rfl, _, hrl⟩ := hown.view
      have Hf := Lib.hid hf
      have Hsep := Lib.hid hsep
      have Hrl := Lib.hid hrl
      clear hf hsep hrl
      by_cases hl0 : l = []
      · have Hn := Lib.hid (show ¬ l.getLast? = some x by rw [hl0]; simp)
        have hlen : l.length = 0 := by rw [hl0]; rfl
        have hlen' : ((l.length : Int) == 0) = true := by simp [hlen]
        clear hl0
        go_wp2_with (at_builtin; refine app_int w.heap.size l x _ _ _ _ rfl rfl rfl rfl (hown.alloc _) (World.cell?_alloc_at _ _ _ _ rfl) (by omega) (by simp; omega) ?_)
        intro v' w1 hown' hgrow hblk
        rw [ownBlock_len pl 0 l.length] at hgrow hblk
        replace hblk : v'.ownBlock = (Value.slice pl l.length capl).ownBlock ∨ v'.ownBlock = some (wr.alloc (Obj.cells #[Value.int IntKind.i64 x] 3)).heap.size := by simpa using hblk
        have hB' : Below w.heap.size w w1 := below_grown (hB.alloc hs _) (hown.alloc _) hgrow (by simp; omega)
        have hbs := Ints.beside (Hf.out.alloc _) Hsep.out hgrow hblk
        have Hbs := Lib.hid hbs
        clear hgrow hown hB hblk hbs
        go_wp2_with fail
        go_roundw
        case rel => exact ⟨k + 1, l ++ [x], by omega, by go_num, by rw [fold_take hlt, ← Hl.out, ← Hx.out, addP_new Hn.out], by simp; omega, hown', Hbs.out.1, Hbs.out.2, hB'⟩
        case measure => simp [intOf]; omega
      · have hpos : 0 < l.length := List.length_pos_iff.2 hl0
        obtain ⟨g', rfl, _, _, hc', _⟩ := Hrl.out (l.length - 1) (by omega)
        have hlen' : ((l.length : Int) == 0) = false := by simp; omega
        by_cases hsame : l[l.length - 1] = x
        · have Hn := Lib.hid (show l.getLast? = some x by rw [last_of hpos, hsame])
          go_wp2_with fail
          go_roundw
          case rel => exact ⟨k + 1, l, by omega, by go_num, by rw [fold_take hlt, ← Hl.out, ← Hx.out, addP_same Hn.out], by omega, hown, Hf.out, Hsep.out, hB⟩
          case measure => simp [intOf]; omega
        · have Hn := Lib.hid (show ¬ l.getLast? = some x by rw [last_of hpos]; simpa using hsame)
          go_wp2_with (at_builtin; refine app_int w.heap.size l x _ _ _ _ rfl rfl rfl rfl (hown.alloc _) (World.cell?_alloc_at _ _ _ _ rfl) (by omega) (by simp; omega) ?_)
          intro v' w1 hown' hgrow hblk
          have hB' : Below w.heap.size w w1 := below_grown (hB.alloc hs _) (hown.alloc _) hgrow (by simp; omega)
          have hbs := Ints.beside (Hf.out.alloc _) Hsep.out hgrow (by simpa using hblk)
          have Hbs := Lib.hid hbs
          clear hgrow hown hB hblk hbs
          go_wp2_with fail
          go_roundw
          case rel => exact ⟨k + 1, l ++ [x], by omega, by go_num, by rw [fold_take hlt, ← Hl.out, ← Hx.out, addP_new Hn.out], by simp; omega, hown', Hbs.out.1, Hbs.out.2, hB'⟩
          case measure => simp [intOf]; omega
    · go_wp2_with fail
      go_ret
      obtain rfl : k = (facs N).length := by omega
      exact ⟨_, rfl, by have := Hl.out; rw [List.take_length] at this; unfold prs; rw [← this]; exact hown, hB⟩
theorem spec_nuPrimes (N : Int) (w : World) (h0 : 1 ≤ N) (h1 : N ≤ 1000000) :
    Calls Try.prog 50 #[.int .i64 N] w fun e w' => ∃ v, e = .returned v ∧ Ints w' w.heap.size v (prs N) ∧ Below w.heap.size w w' := by
  have hfl := facs_len h0
  have Hs := Lib.hid (facs_sorted h0).2
  go_enter Try.func50, Try.ntmps50
  go_wp2_with fail
  refine (spec_nuFactors N _ h0 h1).mono ?_
  rintro e w1 ⟨v0, rfl, hf1, hB1⟩
  obtain ⟨p0, cap, rfl, _, _⟩ := hf1.view
  go_wp2_with fail
  go_loopw [3, 9] (fun v i wr => ∃ (k : Nat) (l : List Int), k ≤ (facs N).length ∧ i = .int .i64 k ∧ l = ((facs N).take k).foldl addP [] ∧ l.length ≤ k ∧ Ints wr w.heap.size v l ∧ Ints wr w.heap.size (.slice p0 (facs N).length cap) (facs N) ∧ Below w.heap.size w wr) (fun _ i _ => (facs N).length - (intOf i).toNat)
  case atStart => exact ⟨0, [], by omega, rfl, rfl, by simp, Ints.nil _ _, hf1, hB1⟩
  case round =>
    clear hf1 hB1
    obtain ⟨k, l, hk, rfl, hl, hlk, hown, hf, hB⟩ := hrel
    have Hl := Lib.hid hl
    clear hl
    have hs := hB.size
    by_cases hlt : k < (facs N).length
    · obtain ⟨g, rfl, _, hg2, hcell, _⟩ := hf.read k hlt
      obtain ⟨x, hx⟩ : ∃ x, x = (facs N)[k] := ⟨_, rfl⟩
      rw [← hx] at hcell
      have Hnext := Lib.hid (fold_next Hs.out hlt)
      rw [← Hl.out, ← hx] at Hnext
      have Hx := Lib.hid hx
      have Hf := Lib.hid hf
      have Hown := Lib.hid hown
      clear hf hx hown
      by_cases hn : l.getLast? = some x
      · have Hn := Lib.hid hn
        clear hn
        go_wp2_with fail
        refine (spec_l1Put_same l x u3 w.heap.size _ Hown.out (by omega) Hnext.out.1 Hn.out).mono ?_
        rintro e w' ⟨rfl, rfl⟩
        go_wp2_with fail
        go_roundw
        case rel => exact ⟨k + 1, l, by omega, by go_num, by rw [fold_take hlt, ← Hl.out, ← Hx.out, addP_same Hn.out], by omega, Hown.out, Hf.out, hB⟩
        case measure => simp [intOf]; omega
      · have Hn := Lib.hid hn
        clear hn
        go_wp2_with fail
        refine (spec_l1Put_new l x u3 w.heap.size _ Hown.out (by omega) (Hnext.out.2 Hn.out)).mono ?_
        rintro e w2 ⟨v2, rfl, hown2, hb2⟩
        have hB2 : Below w.heap.size w w2 := Below.after hB hb2
        have Hf2 := Lib.hid (Hf.out.below hb2)
        have Hown2 := Lib.hid (hown2.mono hs)
        clear hb2 hown2
        go_wp2_with fail
        go_roundw
        case rel => exact ⟨k + 1, l ++ [x], by omega, by go_num, by rw [fold_take hlt, ← Hl.out, ← Hx.out, addP_new Hn.out], by simp; omega, Hown2.out, Hf2.out, hB2⟩
        case measure => simp [intOf]; omega
    · go_wp2_with fail
      go_ret
      obtain rfl : k = (facs N).length := by omega
      exact ⟨_, rfl, by have := Hl.out; rw [List.take_length] at this; unfold prs; rw [← this]; exact hown, hB⟩

/-! square-free parts -/
def SfAt (N : Int) (n k p : Value) : Prop := ∃ n' k' p' : Int, n = .int .i64 n' ∧ k = .int .i64 k' ∧ p = .int .i64 p' ∧ SfInv N n' k' ∧ 2 ≤ p' ∧ p' ≤ 1001 ∧ sfGo p' n' k' = sqf N
def SfWithin (N p' : Int) (n k : Value) : Prop := ∃ n' k' : Int, n = .int .i64 n' ∧ k = .int .i64 k' ∧ SfInv N n' k' ∧ sfGo (p' + 1) (sfIn p' n' k').1 (sfIn p' n' k').2 = sqf N
theorem impl_squareFree (N : Int) (w : World) (h0 : N ≠ 0) (h1 : -1000000 ≤ N ∧ N ≤ 1000000) :
    Calls Try.prog 82 #[.int .i64 N] w fun e w' => e = .returned (.tuple #[.int .i64 (sqf N).1, .int .i64 (sqf N).2]) ∧ w = w' := by
  go_enter Try.func82, Try.ntmps82
  go_wp2_with fail
  go_loop [0, 4, 5] (fun n k p => SfAt N n k p) (fun _ _ p => (1002 - intOf p).toNat)
  case atStart => exact ⟨N, 1, 2, rfl, rfl, rfl, ⟨h0, by omega, by omega⟩, by omega, by omega, rfl⟩
  case round =>
    obtain ⟨n, k, p, rfl, rfl, rfl, hi, hp, hp2, hg⟩ := hrel
    have Hi := Lib.hid hi
    have Hg := Lib.hid hg
    obtain ⟨b1, b2, b3⟩ := sfInv_bd hi h1
    obtain ⟨hn0, hk1, _⟩ := hi
    clear hg
    obtain ⟨q1, q2⟩ := mul_le (a := p) (b := p) (A := 1001) (B := 1001) (by omega) (by omega) (by omega) (by omega)
    have q3 := sq_pos hp
    go_wp2_with fail
    refine (impl_abs n _ (by omega) (by omega)).mono ?_
    rintro e w' ⟨rfl, rfl⟩
    by_cases hle : p * p ≤ (n.natAbs : Int)
    · have hlt : p < 1001 := sq_lt (by omega) (by omega) (by omega)
      have Hle := Lib.hid hle
      go_wp2_with fail
      go_loop [0, 4] (fun n k => SfWithin N p n k) (fun n _ => (intOf n).natAbs)
      case atStart => exact ⟨n, k, rfl, rfl, Hi.out, by rw [← sfGo_step hp hn0 Hle.out]; exact Hg.out⟩
      case round =>
        clear b1 b2 b3 hn0 hk1 Hi Hg hle Hle
        obtain ⟨n, k, rfl, rfl, hi, hg⟩ := hrel
        have Hi := Lib.hid hi
        have Hg := Lib.hid hg
        obtain ⟨b1, b2, b3⟩ := sfInv_bd hi h1
        obtain ⟨hn0, hk1, _⟩ := hi
        clear hg
        obtain ⟨r1, r2⟩ := mul_le (a := k) (b := p) (A := 1000) (B := 1001) (by omega) (by omega) (by omega) (by omega)
        by_cases hm : n % (p * p) = 0
        · have Hm := Lib.hid hm
          have Hd := Lib.hid (abs_tdiv q3 hn0 hm)
          have hm' : (n.tmod (p * p) == 0) = true := by rw [beq_tmod]; simpa using hm
          clear hm
          go_wp2_with fail
          go_round
          case rel => exact ⟨_, _, rfl, rfl, sfInv_in hp Hi.out Hm.out, by rw [← sfIn_yes hp hn0 Hm.out]; exact Hg.out⟩
          case measure => exact Hd.out.1
        · have Hm := Lib.hid hm
          have hm' : (n.tmod (p * p) == 0) = false := by rw [beq_tmod]; simpa using hm
          clear hm
          go_wp2_with fail
          go_round
          case rel => exact ⟨n, k, p + 1, rfl, rfl, rfl, Hi.out, by omega, by omega, by have := Hg.out; rwa [sfIn_no Hm.out] at this⟩
          case measure => simp [intOf]; omega
    · go_wp2_with fail
      go_ret2
      exact ⟨by rw [← Hg.out, sfGo_end (by omega)]; rfl, rfl⟩
theorem spec_nuFree (N : Int) (w : World) (h0 : N ≠ 0) (h1 : -1000000 ≤ N ∧ N ≤ 1000000) :
    Calls Try.prog 79 #[.int .i64 N] w fun e w' => e = .returned (.tuple #[.int .i64 (sqf N).1, .int .i64 (sqf N).2]) ∧ w = w' := by
  go_enter Try.func79, Try.ntmps79
  go_wp2_with fail
  go_loop [0, 4, 5] (fun n k p => SfAt N n k p) (fun _ _ p => (1002 - intOf p).toNat)
  case atStart => exact ⟨N, 1, 2, rfl, rfl, rfl, ⟨h0, by omega, by omega⟩, by omega, by omega, rfl⟩
  case round =>
    obtain ⟨n, k, p, rfl, rfl, rfl, hi, hp, hp2, hg⟩ := hrel
    have Hi := Lib.hid hi
    have Hg := Lib.hid hg
    obtain ⟨b1, b2, b3⟩ := sfInv_bd hi h1
    obtain ⟨hn0, hk1, _⟩ := hi
    clear hg
    obtain ⟨q1, q2⟩ := mul_le (a := p) (b := p) (A := 1001) (B := 1001) (by omega) (by omega) (by omega) (by omega)
    have q3 := sq_pos hp
    go_wp2_with fail
    refine (spec_l1Abs n _ (by omega) (by omega)).mono ?_
    rintro e w' ⟨rfl, rfl⟩
    by_cases hle : p * p ≤ (n.natAbs : Int)
    · have hlt : p < 1001 := sq_lt (by omega) (by omega) (by omega)
      have Hle := Lib.hid hle
      go_wp2_with fail
      go_loop [0, 4] (fun n k => SfWithin N p n k) (fun n _ => (intOf n).natAbs)
      case atStart => exact ⟨n, k, rfl, rfl, Hi.out, by rw [← sfGo_step hp hn0 Hle.out]; exact Hg.out⟩
      case round =>
        clear b1 b2 b3 hn0 hk1 Hi Hg hle Hle
        obtain ⟨n, k, rfl, rfl, hi, hg⟩ := hrel
        have Hi := Lib.hid hi
        have Hg := Lib.hid hg
        obtain ⟨b1, b2, b3⟩ := sfInv_bd hi h1
        obtain ⟨hn0, hk1, _⟩ := hi
        clear hg
        obtain ⟨r1, r2⟩ := mul_le (a := k) (b := p) (A := 1000) (B := 1001) (by omega) (by omega) (by omega) (by omega)
        by_cases hm : n % (p * p) = 0
        · have Hm := Lib.hid hm
          have Hd := Lib.hid (abs_tdiv q3 hn0 hm)
          have hm' : (n.tmod (p * p) == 0) = true := by rw [beq_tmod]; simpa using hm
          clear hm
          go_wp2_with fail
          go_round
          case rel => exact ⟨_, _, rfl, rfl, sfInv_in hp Hi.out Hm.out, by rw [← sfIn_yes hp hn0 Hm.out]; exact Hg.out⟩
          case measure => exact Hd.out.1
        · have Hm := Lib.hid hm
          have hm' : (n.tmod (p * p) == 0) = false := by rw [beq_tmod]; simpa using hm
          clear hm
          go_wp2_with fail
          go_round
          case rel => exact ⟨n, k, p + 1, rfl, rfl, rfl, Hi.out, by omega, by omega, by have := Hg.out; rwa [sfIn_no Hm.out] at this⟩
          case measure => simp [intOf]; omega
    · go_wp2_with fail
      go_ret2
      exact ⟨by rw [← Hg.out, sfGo_end (by omega)]; rfl, rfl⟩
end Go.Proofs.Ytafcbaganjcnlaa
