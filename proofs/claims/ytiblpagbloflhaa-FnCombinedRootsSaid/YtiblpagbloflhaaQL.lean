/- Contracts: lists of the roots of a modulo m; membership and equality of lists. -/
import Derived.Test.YtiblpagbloflhaaS
import Derived.Test.YtiblpagbloflhaaRQ
namespace Go.Proofs.Ytiblpagbloflhaa
set_option linter.unusedVariables false
open Go.ChangeShapes Go.WideShapes Go.ChangeAt Go.RowKit

/-- m divides x x - a -/
def qB (a m x : Int) : Bool := (x * x - a).tmod m == 0
/-- those below k -/
def qL (a m : Int) (k : Nat) : List Int := ((List.range k).filter fun (j : Nat) => qB a m j).map fun (j : Nat) => (j : Int)
theorem qL_succ (a m : Int) (k : Nat) : qL a m (k + 1) = qL a m k ++ (if qB a m k = true then [(k : Int)] else []) := by
  unfold qL
  rw [List.range_succ, List.filter_append, List.map_append]
  congr 1
  by_cases h : qB a m k = true <;> simp [h]
theorem qL_len (a m : Int) (k : Nat) : (qL a m k).length ≤ k := by
  unfold qL
  rw [List.length_map]
  have := List.length_filter_le (fun (j : Nat) => qB a m j) (List.range k)
  simpa using this
theorem qL_mem {a m : Int} {k : Nat} {x : Int} : x ∈ qL a m k ↔ 0 ≤ x ∧ x < k ∧ qB a m x = true := by
  unfold qL
  constructor
  · intro h
    obtain ⟨j, hj, rfl⟩ := List.mem_map.1 h
    obtain ⟨h1, h2⟩ := List.mem_filter.1 hj
    have := List.mem_range.1 h1
    exact ⟨by omega, by omega, h2⟩
  · rintro ⟨h1, h2, h3⟩
    obtain ⟨j, rfl⟩ : ∃ j : Nat, x = j := ⟨x.toNat, by omega⟩
    exact List.mem_map.2 ⟨j, List.mem_filter.2 ⟨List.mem_range.2 (by omega), h3⟩, rfl⟩
theorem Ints.emptyQ (w : World) {B b : Nat} (hb : b = w.heap.size) (hB : B ≤ w.heap.size) : Ints (w.alloc (.cells #[] 3)) B (.slice (some ⟨b, 0, none⟩) 0 0) [] := by
  subst hb; exact Ints.made w [] #[] rfl hB (by simp)
theorem q_bd {a m : Int} {k : Nat} (ha : -1000000 ≤ a ∧ a ≤ 1000000) (hm : 1 ≤ m) (hm2 : m ≤ 10000) (hk : (k : Int) < m) : (0 ≤ (k : Int) * k ∧ (k : Int) * k ≤ 100000000) ∧ -1000000000 ≤ ((k : Int) * k - a).tmod m ∧ ((k : Int) * k - a).tmod m ≤ 1000000000 := by
  have h1 : (0 : Int) ≤ (k : Int) * k := Int.mul_nonneg (by omega) (by omega)
  have h2 : (k : Int) * k ≤ 10000 * 10000 := Int.mul_le_mul (by omega) (by omega) (by omega) (by omega)
  have h3 : (((k : Int) * k - a).tmod m).natAbs ≤ ((k : Int) * k - a).natAbs := by
    rw [Int.natAbs_tmod]; exact Nat.mod_le _ _
  omega
theorem spec_roAll (a m : Int) (w : World) (ha1 : -1000000 ≤ a) (ha2 : a ≤ 1000000) (hm1 : 1 ≤ m) (hm2 : m ≤ 10000) :
    Calls Try.prog 124 #[.int .i64 a, .int .i64 m] w fun e w' => ∃ v, e = .returned v ∧ Ints w' w.heap.size v (qL a m m.toNat) ∧ Below w.heap.size w w' := by
  go_enter Try.func124, Try.ntmps124
  go_wp2_with fail
  go_loopw [5, 6] (fun vl i wr => ∃ k : Nat, i = .int .i64 k ∧ (k : Int) ≤ m ∧ Ints wr w.heap.size vl (qL a m k) ∧ Below w.heap.size w wr) (fun _ i _ => (m - intOf i).toNat)
  case atStart => exact ⟨0, rfl, by omega, Ints.nil _ _, by go_grown⟩
  case round =>
    obtain ⟨k, rfl, hk, hown, hB⟩ := hrel
    have hs := hB.size
    have hlen := qL_len a m k
    have Hown := Lib.hid hown
    clear hown
    by_cases hlt : (k : Int) < m
    · obtain ⟨⟨b1, b2⟩, b3, b4⟩ := q_bd ⟨ha1, ha2⟩ hm1 hm2 hlt
      have hsuc := qL_succ a m k
      have hplus : (k : Int) * k + -a = (k : Int) * k - a := by omega
      by_cases hr : ((k : Int) * k - a).tmod m = 0
      · have hb : qB a m k = true := by unfold qB; simp [hr]
        rw [if_pos hb] at hsuc
        have Hsuc := Lib.hid hsuc
        clear hsuc hb
        go_wp2_with (at_builtin; refine app_int w.heap.size (qL a m k) k u5 _ _ _ rfl rfl rfl rfl (Hown.out.alloc _) (World.cell?_alloc_at _ _ _ _ rfl) (by omega) (by go_size) ?_)
        intro v3 w3 hown3 hgrow3 _
        have hB3 : Below w.heap.size w w3 := below_grown (hB.alloc hs _) (Hown.out.alloc _) hgrow3 (by go_size)
        have Hown3 := Lib.hid hown3
        clear hgrow3 hown3
        go_wp2_with fail
        go_roundw
        case rel => exact ⟨k + 1, by go_num, by omega, by rw [Hsuc.out]; exact Hown3.out, hB3⟩
        case measure => simp [intOf]; omega
      · have hb : qB a m k = false := by unfold qB; simp [hr]
        rw [if_neg (by rw [hb]; decide), List.append_nil] at hsuc
        have Hsuc := Lib.hid hsuc
        clear hsuc hb
        go_wp2_with fail
        go_roundw
        case rel => exact ⟨k + 1, by go_num, by omega, by rw [Hsuc.out]; exact Hown.out, hB⟩
        case measure => simp [intOf]; omega
    · have hk' : m.toNat = k := by omega
      have Hk := Lib.hid hk'
      clear hk'
      (go_wp2_with fail; go_ret; exact ⟨_, rfl, by rw [Hk.out]; exact Hown.out, hB⟩)
/-- the arguments are fit -/
def sqrB (a m : Int) : Bool := good a && (decide (1 ≤ m) && decide (m ≤ 10000))
theorem sqrB_yes {a m : Int} (h : sqrB a m = true) : (-1000000 ≤ a ∧ a ≤ 1000000) ∧ 1 ≤ m ∧ m ≤ 10000 := by
  unfold sqrB good at h
  simp only [Bool.and_eq_true, decide_eq_true_eq] at h
  omega
theorem sqrB_no {a m : Int} (h : sqrB a m = false) : (¬ -1000000 ≤ a) ∨ (¬ a ≤ 1000000) ∨ (¬ 1 ≤ m) ∨ ¬ m ≤ 10000 := by
  have : ¬ sqrB a m = true := by rw [h]; decide
  unfold sqrB good at this
  simp only [Bool.and_eq_true, decide_eq_true_eq] at this
  omega
theorem spec_SqR_yes (a m : Int) (w : World) (h : sqrB a m = true) :
    Calls Try.prog 61 #[.int .i64 a, .int .i64 m] w fun e w' => ∃ v, e = .returned (.tuple #[v, .bool true]) ∧ Ints w' w.heap.size v (qL a m m.toNat) ∧ Below w.heap.size w w' := by
  obtain ⟨⟨h1, h2⟩, h3, h4⟩ := sqrB_yes h
  have g1 := Lib.hid (show good a = true by unfold good; simp; omega)
  have g2 := Lib.hid (show (decide (1 ≤ m) && decide (m ≤ 10000)) = true by simp; omega)
  clear h
  go_enter Try.func61, Try.ntmps61
  go_wp2_with fail
  refine (spec_nuGood a true _ g1.out).mono ?_
  rintro e w' ⟨rfl, rfl⟩
  go_wp2_with fail
  refine (spec_l1In m 1 10000 true _ g2.out).mono ?_
  rintro e w' ⟨rfl, rfl⟩
  go_wp2_with fail
  refine (spec_roAll a m _ h1 h2 h3 h4).mono ?_
  rintro e w' ⟨v, rfl, hv, hB⟩
  have HV := Lib.hid hv
  clear hv
  go_wp2_with fail
  refine bodyPost_ret (v := .tuple #[v, .bool true]) (by simp [results, Try.results61, go_sem, *] <;> rfl) rfl (⟨v, rfl, HV.out, hB⟩)
theorem spec_SqR_no (a m : Int) (w : World) (h : sqrB a m = false) :
    Calls Try.prog 61 #[.int .i64 a, .int .i64 m] w fun e w' => e = .returned (.tuple #[.slice none 0 0, .bool false]) ∧ w = w' := by
  by_cases g : good a = true
  · have g1 := Lib.hid g
    have g2 := Lib.hid (show (decide (1 ≤ m) && decide (m ≤ 10000)) = false by
      unfold sqrB at h
      rw [g, Bool.true_and] at h
      exact h)
    clear h g
    go_enter Try.func61, Try.ntmps61
    go_wp2_with fail
    refine (spec_nuGood a true _ g1.out).mono ?_
    rintro e w' ⟨rfl, rfl⟩
    go_wp2_with fail
    refine (spec_l1In m 1 10000 false _ g2.out).mono ?_
    rintro e w' ⟨rfl, rfl⟩
    go_wp2_with fail
    refine bodyPost_ret (v := .tuple #[.slice none 0 0, .bool false]) (by simp [results, Try.results61, go_sem, *] <;> rfl) rfl (⟨rfl, rfl⟩)
  · have g1 := Lib.hid (show good a = false by simpa using g)
    clear h g
    go_enter Try.func61, Try.ntmps61
    go_wp2_with fail
    refine (spec_nuGood a false _ g1.out).mono ?_
    rintro e w' ⟨rfl, rfl⟩
    go_wp2_with fail
    refine bodyPost_ret (v := .tuple #[.slice none 0 0, .bool false]) (by simp [results, Try.results61, go_sem, *] <;> rfl) rfl (⟨rfl, rfl⟩)
theorem impl_QR_yes (a m : Int) (w : World) (h : sqrB a m = true) :
    Calls Try.prog 63 #[.int .i64 1, .int .i64 0, .int .i64 (-a), .int .i64 m] w fun e w' => ∃ v, e = .returned (.tuple #[v, .bool true]) ∧ Ints w' w.heap.size v (qL a m m.toNat) ∧ Below w.heap.size w w' := by
  obtain ⟨⟨ha1, ha2⟩, hm1, hm2⟩ := sqrB_yes h
  have g1 := Lib.hid (show good3 1 0 (-a) = true by unfold good3 good; simp; omega)
  clear h
  go_enter Try.func63, Try.ntmps63
  go_wp2_with fail
  refine (are3 1 0 (-a) _ _ true _ g1.out (by simp) (by simp) (by simp)).mono ?_
  rintro e w' ⟨rfl, rfl⟩
  go_wp2_with fail
  go_loopw [10, 11] (fun vl i wr => ∃ k : Nat, i = .int .i64 k ∧ (k : Int) ≤ m ∧ Ints wr w.heap.size vl (qL a m k) ∧ Below w.heap.size w wr) (fun _ i _ => (m - intOf i).toNat)
  case atStart => exact ⟨0, rfl, by omega, Ints.emptyQ _ (by simp) (by go_size), by go_grown⟩
  case round =>
    obtain ⟨k, rfl, hk, hown, hB⟩ := hrel
    have hs := hB.size
    have hlen := qL_len a m k
    have Hown := Lib.hid hown
    clear hown
    by_cases hlt : (k : Int) < m
    · obtain ⟨⟨b1, b2⟩, b3, b4⟩ := q_bd ⟨ha1, ha2⟩ hm1 hm2 hlt
      have hsuc := qL_succ a m k
      have hplus : (k : Int) * k + -a = (k : Int) * k - a := by omega
      by_cases hr : ((k : Int) * k - a).tmod m = 0
      · have hb : qB a m k = true := by unfold qB; simp [hr]
        rw [if_pos hb] at hsuc
        have Hsuc := Lib.hid hsuc
        clear hsuc hb
        go_wp2_with (at_builtin; refine app_int w.heap.size (qL a m k) k u10 _ _ _ rfl rfl rfl rfl (Hown.out.alloc _) (World.cell?_alloc_at _ _ _ _ rfl) (by omega) (by go_size) ?_)
        intro v3 w3 hown3 hgrow3 _
        have hB3 : Below w.heap.size w w3 := below_grown (hB.alloc hs _) (Hown.out.alloc _) hgrow3 (by go_size)
        have Hown3 := Lib.hid hown3
        clear hgrow3 hown3
        go_wp2_with fail
        go_roundw
        case rel => exact ⟨k + 1, by go_num, by omega, by rw [Hsuc.out]; exact Hown3.out, hB3⟩
        case measure => simp [intOf]; omega
      · have hb : qB a m k = false := by unfold qB; simp [hr]
        rw [if_neg (by rw [hb]; decide), List.append_nil] at hsuc
        have Hsuc := Lib.hid hsuc
        clear hsuc hb
        go_wp2_with fail
        go_roundw
        case rel => exact ⟨k + 1, by go_num, by omega, by rw [Hsuc.out]; exact Hown.out, hB⟩
        case measure => simp [intOf]; omega
    · have hk' : m.toNat = k := by omega
      have Hk := Lib.hid hk'
      clear hk'
      (go_wp2_with fail; refine bodyPost_ret (v := .tuple #[u10, .bool true]) (by simp [results, Try.results63, go_sem, *] <;> rfl) rfl ⟨_, rfl, by rw [Hk.out]; exact Hown.out, hB⟩)
theorem impl_QR_no (c m : Int) (w : World) (h : sqrB c m = false) :
    Calls Try.prog 63 #[.int .i64 1, .int .i64 0, .int .i64 c, .int .i64 m] w fun e w' => ∃ v, e = .returned (.tuple #[v, .bool false]) ∧ Ints w' w.heap.size v [] ∧ Below w.heap.size w w' := by
  by_cases g : good c = true
  · have g1 := Lib.hid g
    by_cases hm1 : 1 ≤ m
    · have hm2 : ¬ m ≤ 10000 := by
        intro e
        unfold sqrB at h
        rw [g] at h
        simp at h
        omega
      clear h g
      go_enter Try.func63, Try.ntmps63
      go_wp2_with fail
      refine (are3 1 0 c _ _ true _ (by unfold good3; rw [g1.out]; rfl) (by simp) (by simp) (by simp)).mono ?_
      rintro e w' ⟨rfl, rfl⟩
      go_wp2_with fail
      refine bodyPost_ret (v := .tuple #[.slice (some ⟨_, 0, none⟩) 0 0, .bool false]) (by simp [results, Try.results63, go_sem, *] <;> rfl) rfl ⟨_, rfl, Ints.emptyQ _ (by simp) (by go_size), by go_grown⟩
    · clear h g
      go_enter Try.func63, Try.ntmps63
      go_wp2_with fail
      refine (are3 1 0 c _ _ true _ (by unfold good3; rw [g1.out]; rfl) (by simp) (by simp) (by simp)).mono ?_
      rintro e w' ⟨rfl, rfl⟩
      go_wp2_with fail
      refine bodyPost_ret (v := .tuple #[.slice (some ⟨_, 0, none⟩) 0 0, .bool false]) (by simp [results, Try.results63, go_sem, *] <;> rfl) rfl ⟨_, rfl, Ints.emptyQ _ (by simp) (by go_size), by go_grown⟩
  · have g1 := Lib.hid (show good c = false by simpa using g)
    clear h g
    go_enter Try.func63, Try.ntmps63
    go_wp2_with fail
    refine (are3 1 0 c _ _ false _ (by unfold good3; rw [g1.out]; simp) (by simp) (by simp) (by simp)).mono ?_
    rintro e w' ⟨rfl, rfl⟩
    go_wp2_with fail
    refine bodyPost_ret (v := .tuple #[.slice (some ⟨_, 0, none⟩) 0 0, .bool false]) (by simp [results, Try.results63, go_sem, *] <;> rfl) rfl ⟨_, rfl, Ints.emptyQ _ (by simp) (by go_size), by go_grown⟩
theorem sqrB_neg (a m : Int) : sqrB (-a) m = sqrB a m := by
  unfold sqrB good
  congr 1
  apply Bool.eq_iff_iff.2
  simp
  omega
theorem sqrB_wrap {a m : Int} (h1 : -9223372036854775808 ≤ a) (h2 : a ≤ 9223372036854775807) (h : sqrB a m = false) : sqrB (wrap64 (-a)) m = false := by
  by_cases e : a = -9223372036854775808
  · subst e
    have : wrap64 (- -9223372036854775808) = -9223372036854775808 := by unfold wrap64; omega
    rw [this]
    exact h
  · have : wrap64 (-a) = -a := by unfold wrap64; omega
    rw [this, sqrB_neg, h]
theorem impl_SqR_yes (a m : Int) (w : World) (h : sqrB a m = true) :
    Calls Try.prog 60 #[.int .i64 a, .int .i64 m] w fun e w' => ∃ v, e = .returned (.tuple #[v, .bool true]) ∧ Ints w' w.heap.size v (qL a m m.toNat) ∧ Below w.heap.size w w' := by
  obtain ⟨⟨h1, h2⟩, h3, h4⟩ := sqrB_yes h
  have H := Lib.hid h
  clear h
  go_enter Try.func60, Try.ntmps60
  go_wp2_with fail
  refine (impl_QR_yes a m _ H.out).mono ?_
  rintro e w' ⟨v, rfl, hv, hB⟩
  have HV := Lib.hid hv
  clear hv
  go_wp2_with fail
  refine bodyPost_ret (v := .tuple #[v, .bool true]) (by simp [results, Try.results60, go_sem, *] <;> rfl) rfl (⟨v, rfl, HV.out, hB⟩)
theorem impl_SqR_no (a m : Int) (w : World) (h1 : -9223372036854775808 ≤ a) (h2 : a ≤ 9223372036854775807) (h : sqrB a m = false) :
    Calls Try.prog 60 #[.int .i64 a, .int .i64 m] w fun e w' => ∃ v, e = .returned (.tuple #[v, .bool false]) ∧ Ints w' w.heap.size v [] ∧ Below w.heap.size w w' := by
  have H := Lib.hid (sqrB_wrap h1 h2 h)
  clear h
  go_enter Try.func60, Try.ntmps60
  go_wp2_with fail
  refine (impl_QR_no (wrap64 (-a)) m _ H.out).mono ?_
  rintro e w' ⟨v, rfl, hv, hB⟩
  have HV := Lib.hid hv
  clear hv
  go_wp2_with fail
  refine bodyPost_ret (v := .tuple #[v, .bool false]) (by simp [results, Try.results60, go_sem, *] <;> rfl) rfl (⟨v, rfl, HV.out, hB⟩)
theorem laws_qIn (l : List Int) (n : Int) (v : Value) (b : Bool) (B : Nat) (w : World) (h : Ints w B v l) (hl : l.length ≤ 2000000) (hb : decide (n ∈ l) = b) :
    Calls Try.prog 58 #[v, .int .i64 n] w fun e w' => e = .returned (.bool b) ∧ w = w' := by
  obtain ⟨p, cap, rfl, hml, hr⟩ := h.view
  have Hr := Lib.hid hr
  have Hb := Lib.hid hb
  clear h hr hml hb
  go_enter Try.func58, Try.ntmps58
  go_wp2_with fail
  go_loop [9] (fun i => ∃ k : Nat, k ≤ l.length ∧ i = .int .i64 k ∧ ∀ j (hj : j < l.length), j < k → ¬ l[j] = n) (fun i => l.length - (intOf i).toNat)
  case atStart => exact ⟨0, by omega, rfl, by omega⟩
  case round =>
    obtain ⟨k, hk, rfl, hj⟩ := hrel
    have Hj := Lib.hid hj
    clear hj
    by_cases hlt : k < l.length
    · obtain ⟨g, rfl, _, hg, hc, _⟩ := Hr.out k hlt
      by_cases he : l[k] = n
      · have hin : b = true := by rw [← Hb.out]; exact decide_eq_true (he ▸ List.getElem_mem hlt)
        subst hin
        go_wp2_with fail
        go_ret
        exact ⟨rfl, rfl⟩
      · have Hne := Lib.hid he
        go_wp2_with fail
        go_round
        case rel =>
          refine ⟨k + 1, by omega, by go_num, fun j hj hjk => ?_⟩
          rcases Nat.lt_succ_iff_lt_or_eq.1 hjk with h | rfl
          · exact Hj.out j hj h
          · exact Hne.out
        case measure => simp [intOf]; omega
    · obtain rfl : k = l.length := by omega
      have hin : b = false := by
        rw [← Hb.out]
        refine decide_eq_false fun hm => ?_
        obtain ⟨j, hj, e⟩ := List.getElem_of_mem hm
        exact Hj.out j hj hj e
      subst hin
      go_wp2_with fail
      go_ret
      exact ⟨rfl, rfl⟩
theorem laws_sameInts (l : List Int) (v u : Value) (B1 B2 : Nat) (w : World) (hl : l.length ≤ 1000000) (h : Ints w B1 v l) (h2 : Ints w B2 u l) :
    Calls Try.prog 62 #[v, u] w fun e w' => e = .returned (.bool true) ∧ Below w.heap.size w w' := by
  obtain ⟨p, cap, rfl, _, hr⟩ := h.view
  obtain ⟨q, cap2, rfl, _, hr2⟩ := h2.view
  have Hr := Lib.hid hr
  have Hr2 := Lib.hid hr2
  clear h h2 hr hr2
  go_enter Try.func62, Try.ntmps62
  go_wp2_with fail
  go_loopw [13] (fun i wr => (∃ k : Nat, i = .int .i64 k ∧ k ≤ l.length) ∧ Below w.heap.size w wr) (fun i _ => l.length - (intOf i).toNat)
  case atStart => exact ⟨⟨0, rfl, by omega⟩, Below.refl _ _⟩
  case round =>
    obtain ⟨⟨k, rfl, hk⟩, hB⟩ := hrel
    have hzr := hB.size
    by_cases hlt : k < l.length
    · obtain ⟨g, rfl, _, hg1, d0, _⟩ := Hr.out k hlt
      obtain ⟨g', rfl, _, hg1', f0, _⟩ := Hr2.out k hlt
      have q0 : ∀ x : Aft wr, x.w.cell? ⟨g, k, none⟩ = some (.int .i64 l[k]) := fun x => x.cell (by omega) ((hB.cell (p := ⟨g, k, none⟩) hg1).trans d0)
      have q1 : ∀ x : Aft wr, x.w.cell? ⟨g', k, none⟩ = some (.int .i64 l[k]) := fun x => x.cell (by omega) ((hB.cell (p := ⟨g', k, none⟩) hg1').trans f0)
      clear d0 f0
      go_wp2_with fail
      refine region_aft (by kernel_rfl) (by kernel_rfl) ?_
      repeat go_big_quiet_step (fail)
      refine wpQuiet_nil ?_
      intro w2 hb2
      have hB2 : Below w.heap.size w w2 := Below.after hB hb2
      clear hb2 hB q0 q1
      go_wp2_with fail
      go_roundw
      case rel => exact ⟨⟨k + 1, by go_num, by omega⟩, hB2⟩
      case measure => simp [intOf]; omega
    · obtain rfl : k = l.length := by omega
      go_wp2_with fail
      go_ret
      exact ⟨rfl, hB⟩
end Go.Proofs.Ytiblpagbloflhaa
