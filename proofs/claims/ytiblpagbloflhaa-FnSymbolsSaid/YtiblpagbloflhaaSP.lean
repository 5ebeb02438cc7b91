/- Contracts: the sign of the multiplication by a on the residues. -/
import Derived.Test.YtiblpagbloflhaaSY
import Derived.Deep.LoopGhost
import Derived.OwnWalk
namespace Go.Proofs.Ytiblpagbloflhaa
set_option linter.unusedVariables false
open Go.ChangeShapes Go.WideShapes Go.ChangeAt Go.RowKit
open Classical

/-! rows of bools -/
def Bls (w : World) (B : Nat) (v : Value) (n : Nat) (f : Nat → Bool) : Prop := w.ownsRow B 4 1 v n ((List.range n).map fun i => Value.bool (f i))
theorem Bls.same {w : World} {B n : Nat} {v : Value} {f g : Nat → Bool} (h : Bls w B v n f) (e : ∀ i, i < n → f i = g i) : Bls w B v n g := by
  unfold Bls at *
  have : (List.range n).map (fun i => Value.bool (g i)) = (List.range n).map fun i => Value.bool (f i) := List.map_congr_left fun i hi => by rw [e i (List.mem_range.1 hi)]
  rw [this]; exact h
theorem Bls.read {w : World} {B n cap g : Nat} {f : Nat → Bool} (h : Bls w B (.slice (some ⟨g, 0, none⟩) n cap) n f) {i : Nat} (hi : i < n) : w.cell? ⟨g, i, none⟩ = some (.bool (f i)) ∧ w.frozen? ⟨g, i, none⟩ = false := by
  have := World.ownsRow.cells h (g := g) rfl i (.bool (f i)) (by simp [hi])
  have hadd : (⟨g, 0, none⟩ : Addr).add i = ⟨g, i, none⟩ := by unfold Addr.add; split <;> simp_all
  rw [hadd] at this
  exact ⟨this, World.ownsRow.frozenAt h i⟩
theorem Bls.set {w : World} {B n cap g : Nat} {f : Nat → Bool} (h : Bls w B (.slice (some ⟨g, 0, none⟩) n cap) n f) {i : Nat} (hi : i < n) :
    Bls (w.setCell ⟨g, i, none⟩ (.bool true)) B (.slice (some ⟨g, 0, none⟩) n cap) n (fun x => decide (x = i) || f x) ∧ w.grownBy (w.setCell ⟨g, i, none⟩ (.bool true)) (some g) := by
  obtain ⟨h1, h2⟩ := World.ownsRow.stored h i (.bool true)
  refine ⟨?_, h2⟩
  unfold Bls
  have e : ((List.range n).map fun i => Value.bool (f i)).set i (.bool true) = (List.range n).map fun x => Value.bool (decide (x = i) || f x) := by
    refine List.ext_getElem (by simp) fun j h1 h2 => ?_
    rw [List.getElem_set]
    simp only [List.getElem_map, List.getElem_range]
    by_cases hj : i = j
    · subst hj; simp
    · rw [if_neg hj]; simp [Ne.symm hj]
  rw [← e]
  exact h1
theorem Bls.low {w : World} {B n cap g : Nat} {f : Nat → Bool} (h : Bls w B (.slice (some ⟨g, 0, none⟩) n cap) n f) (hn : 0 < n) : B ≤ g ∧ g < w.heap.size := World.ownsRow.lt h g rfl
theorem infoB : (Try.prog.info? 4).map (fun i => (i.zero, i.size, i.bytes)) = some (some (.bool false), 1, 1) := by kernel_rfl
theorem made_bools (n : Nat) : (madeCells (Value.bool false).cells (n * 1)).toList = (List.range n).map fun _ => Value.bool false := by
  unfold madeCells
  simp [Value.cells]
  intro a _
  rw [Nat.mod_one]; rfl
theorem sgn_next (k j : Nat) (h : 1 ≤ j) : sgn (k + (j + 1 - 1)) = -sgn (k + (j - 1)) := by
  unfold sgn
  split <;> split <;> first | rfl | omega
theorem sgn_bd (k : Nat) : -1 ≤ sgn k ∧ sgn k ≤ 1 := by unfold sgn; split <;> omega
/-- the arguments that are taken -/
noncomputable def permB (a n : Int) : Bool := good a && oddM n && decide (n ≤ 10000) && decide (Int.gcd a n = 1)
theorem perm_no {a n : Int} (h : permB a n = false) : good a = false ∨ (good a = true ∧ oddM n = false) ∨ (good a = true ∧ oddM n = true ∧ 10000 < n) ∨ (good a = true ∧ oddM n = true ∧ n ≤ 10000 ∧ ¬ Int.gcd a n = 1) := by
  unfold permB at h
  cases h1 : good a
  · exact .inl rfl
  · cases h2 : oddM n
    · exact .inr (.inl ⟨rfl, rfl⟩)
    · by_cases h3 : n ≤ 10000
      · refine .inr (.inr (.inr ⟨rfl, rfl, h3, fun e => ?_⟩))
        rw [h1, h2] at h
        simp [h3, e] at h
      · exact .inr (.inr (.inl ⟨rfl, rfl, by omega⟩))
theorem perm_yes {a n : Int} (h : permB a n = true) : good a = true ∧ oddM n = true ∧ n ≤ 10000 ∧ Int.gcd a n = 1 := by
  unfold permB at h
  simpa [and_assoc] using h
theorem gcdI_r (a b g : Int) (w : World) (ha : -4000000000000000000 ≤ a ∧ a ≤ 4000000000000000000) (hb : -4000000000000000000 ≤ b ∧ b ≤ 4000000000000000000) (hg : (Int.gcd a b : Int) = g) :
    Calls Try.prog 95 #[.int .i64 a, .int .i64 b] w fun e w' => e = .returned (.int .i64 g) ∧ Below w.heap.size w w' := hg ▸ impl_gcd a b w ha hb
theorem gcdS_r (a b g : Int) (w : World) (ha : -4000000000000000000 ≤ a ∧ a ≤ 4000000000000000000) (hb : -4000000000000000000 ≤ b ∧ b ≤ 4000000000000000000) (hg : (Int.gcd a b : Int) = g) :
    Calls Try.prog 88 #[.int .i64 a, .int .i64 b] w fun e w' => e = .returned (.int .i64 g) ∧ Below w.heap.size w w' := hg ▸ spec_nuGcd a b w ha hb
/-- the state of the outer loop -/
def PermAt (w : World) (σ : Nat → Nat) (N : Nat) (sl s i : Value) (wr : World) : Prop :=
  ∃ k : Nat, s = .int .i64 (sgn (stepsN σ k)) ∧ i = .int .i64 k ∧ k ≤ N ∧ Bls wr w.heap.size sl N (fun x => decide (SeenN σ k 0 x)) ∧ Below w.heap.size w wr
/-- what the next element of a cycle tells -/
theorem perm_seen {N : Nat} {σ : Nat → Nat} (H : Prm N σ) {k j : Nat} (hk : k < N) (hj : j ≤ ordN σ k) (hl : 0 < j → leadN σ k = k) (h : SeenN σ k j (pit σ j k)) :
    stepsN σ (k + 1) = stepsN σ k + (j - 1) ∧ (0 < j → j = ordN σ k) ∧ ∀ x, x < N → (SeenN σ k j x ↔ SeenN σ (k + 1) 0 x) := by
  by_cases h0 : j = 0
  · subst h0
    have hlt := seen_zero.1 h
    have hne : leadN σ k ≠ k := fun e => by
      have : pit σ 0 k = k := rfl
      rw [this, e] at hlt; omega
    refine ⟨by rw [steps_succ, if_neg hne], fun h => by omega, fun x hx => (seen_skip H hk hx hne).2⟩
  · have hl' := hl (by omega)
    have he : j = ordN σ k := by
      refine Classical.byContradiction fun hne => ?_
      exact seen_not H hk hl' (by omega) h
    subst he
    exact ⟨by rw [steps_succ, if_pos hl'], fun _ => rfl, fun x hx => seen_next H hk hx hl'⟩
theorem perm_new {N : Nat} {σ : Nat → Nat} (H : Prm N σ) {k j : Nat} (hk : k < N) (hj : j ≤ ordN σ k) (h : ¬ SeenN σ k j (pit σ j k)) : leadN σ k = k ∧ j + 1 ≤ ordN σ k := by
  have hlt : j < ordN σ k := by
    refine Classical.byContradiction fun hne => ?_
    have : j = ordN σ k := by omega
    rw [this] at h
    exact h (seen_end H hk)
  refine ⟨?_, hlt⟩
  refine Classical.byContradiction fun hne => h ?_
  have := lead_reach H hk (i := j)
  refine .inl ?_
  rw [this]
  have := lead_self σ k
  omega
theorem sgn_even {k j : Nat} (h : 1 ≤ j) (h2 : j % 2 = 0) : sgn (k + (j - 1)) = -sgn k := by
  unfold sgn
  split <;> split <;> first | rfl | omega
theorem sgn_odd {k j : Nat} (h : 1 ≤ j) (h2 : ¬ j % 2 = 0) : sgn (k + (j - 1)) = sgn k := by
  unfold sgn
  split <;> split <;> first | rfl | omega
set_option maxRecDepth 100000 in
set_option maxHeartbeats 1000000 in
theorem impl_Perm_yes (a n : Int) (w : World) (h : permB a n = true) :
    Calls Try.prog 52 #[.int .i64 a, .int .i64 n] w fun e w' => e = .returned (.tuple #[.int .i64 (J a n), .bool true]) ∧ Below w.heap.size w w' := by
  obtain ⟨h1, h2, h3, h4⟩ := perm_yes h
  obtain ⟨a1, a2⟩ := good_iff.1 h1
  obtain ⟨k0, hk0, _⟩ := oddM_half h2
  obtain ⟨N, hN⟩ : ∃ N : Nat, N = 2 * k0 + 1 := ⟨_, rfl⟩
  have hn : n = (N : Int) := by omega
  have hP : Prm N (mulP k0 a) := by rw [hN]; exact mulP_prm (by rw [← hk0]; exact h4)
  have Hval := Lib.hid (show sgn (stepsN (mulP k0 a) N) = J a n by rw [hN, hk0]; exact zolo_J (by rw [← hk0]; exact h4))
  obtain ⟨σ, hσ⟩ : ∃ σ, σ = mulP k0 a := ⟨_, rfl⟩
  have Hmul := Lib.hid (show ∀ x : Nat, (a * (x : Int)) % (N : Int) = (σ x : Nat) from fun x => by rw [hσ, hN, mulP_eq]; congr 1)
  rw [← hσ] at hP Hval
  have HP := Lib.hid hP
  have N1 : 1 ≤ N := by omega
  have N2 : N ≤ 10000 := by omega
  have Hg := Lib.hid (show (Int.gcd a (N : Int) : Int) = 1 by rw [← hn, h4]; rfl)
  obtain ⟨i0, hi, iz0, iz1, iz2⟩ := info_parts infoB
  have H1 := Lib.hid h1
  clear h1
  rw [hn] at h2 Hval
  have H2 := Lib.hid h2
  clear h2
  clear h h3 h4 hk0 hN hP hσ
  subst hn
  go_enter Try.func52, Try.ntmps52
  go_wp2_with fail
  refine (are1 a _ _ true _ H1.out (by simp)).mono ?_
  rintro e w' ⟨rfl, rfl⟩
  go_wp2_with fail
  refine (impl_isOddModulus _ true _ H2.out).mono ?_
  rintro e w1 ⟨rfl, hb1⟩
  have hB1 : Below w.heap.size w w1 := Below.after (by go_grown) hb1
  obtain ⟨hc1, hf1⟩ := bcell hb1
  have hy1 := hb1.size
  try simp at hy1
  first | (with_reducible have hx1 := Nat.lt_of_succ_le hy1) | skip
  first | (with_reducible have hv1 := Nat.lt_of_succ_lt hx1) | skip
  first | (with_reducible have hu1 := Nat.lt_of_succ_lt hv1) | skip
  first | (have hz1 : w.heap.size < w1.heap.size := by omega) | (have hz1 := hB1.size)
  clear hb1
  go_wp2_with fail
  refine (gcdI_r a N 1 _ (by omega) (by omega) Hg.out).mono ?_
  rintro e w2 ⟨rfl, hb2⟩
  have hB2 : Below w.heap.size w w2 := Below.after (by go_grown) hb2
  obtain ⟨hc2, hf2⟩ := bcell hb2
  have hy2 := hb2.size
  try simp at hy2
  first | (with_reducible have hx2 := Nat.lt_of_succ_le hy2) | skip
  first | (with_reducible have hv2 := Nat.lt_of_succ_lt hx2) | skip
  first | (with_reducible have hu2 := Nat.lt_of_succ_lt hv2) | skip
  first | (have hz2 : w.heap.size < w2.heap.size := by omega) | (have hz2 := hB2.size)
  first | (have hq2 : w1.heap.size ≤ w2.heap.size := by omega) | skip
  first | (have hx1_2 := Nat.lt_of_lt_of_le hx1 hq2) | skip
  first | (have hv1_2 := Nat.lt_of_lt_of_le hv1 hq2) | skip
  first | (have hu1_2 := Nat.lt_of_lt_of_le hu1 hq2) | skip
  clear hb2
  go_wp2_with (at_make; refine wpList_make_full _ rfl _ _ _ rfl w.heap.size 4 i0 (.bool false) 1 Try.underlying100 hi iz0 iz1 .i64 .i64 _ _ N rfl rfl rfl rfl (by rw [iz2]; omega) (by unfold maxLen; omega) (by omega) ?_)
  intro w3 hown hgrow
  have hbl : Bls w3 w.heap.size (.slice (some ⟨w2.heap.size, 0, none⟩) N N) N (fun _ => false) := by
    unfold Bls
    rw [← made_bools N]
    simpa [Value.cells] using hown
  have hB3 : Below w.heap.size w w3 := hB2.grown hgrow hB2.size fun k hk => by cases hk
  have Hbl := Lib.hid hbl
  obtain ⟨G, hG⟩ : ∃ G, G = w2.heap.size := ⟨_, rfl⟩
  rw [← hG] at Hbl ⊢
  have hGz : w.heap.size ≤ G := by rw [hG]; exact hB2.size
  clear hown hgrow hbl hG
  go_wp2_with fail
  go_loopw [6, 8] (fun s i wr => PermAt w σ N (.slice (some ⟨G, 0, none⟩) N N) s i wr) (fun _ i _ => N - (intOf i).toNat)
  case atStart => exact ⟨0, rfl, rfl, by omega, Hbl.out.same (fun x hx => by simp [seen_zero]), hB3⟩
  case round =>
    obtain ⟨k, rfl, rfl, hk, hb, hB⟩ := hrel
    clear hB3 Hbl
    have HB := Lib.hid hb
    clear hb
    have hsz := hB.size
    obtain ⟨wA, rfl⟩ : ∃ wA, wA = wr := ⟨_, rfl⟩
    by_cases hlt : k < N
    · obtain ⟨p, hp⟩ : ∃ p, ordN σ k = p := ⟨_, rfl⟩
      have Hp := Lib.hid hp
      clear hp
      go_wp2_with fail
      go_loopg [6, 9, 10] p (fun n s i f wr => ∃ j : Nat, s = .int .i64 (sgn (stepsN σ k + (j - 1))) ∧ i = .int .i64 (pit σ j k : Nat) ∧ f = .bool (decide (j = 0)) ∧ j + n = p ∧ (0 < j → leadN σ k = k) ∧ Bls wr w.heap.size (.slice (some ⟨G, 0, none⟩) N N) N (fun x => decide (SeenN σ k j x)) ∧ Below w.heap.size w wr)
      case atStart => exact ⟨0, rfl, rfl, rfl, by omega, fun h => by omega, HB.out, hB⟩
      case round =>
        obtain ⟨j, rfl, rfl, rfl, hj, hl, hb, hB2⟩ := hrel
        have hjp : j ≤ ordN σ k := by rw [Hp.out]; omega
        have hpl := pit_lt HP.out hlt j
        obtain ⟨x, hx⟩ : ∃ x, pit σ j k = x := ⟨_, rfl⟩
        rw [hx] at hpl ⊢
        obtain ⟨hc, hf⟩ := hb.read hpl
        obtain ⟨hg1, hg2⟩ := hb.low (by omega)
        obtain ⟨sv, hsv⟩ : ∃ v, decide (SeenN σ k j x) = v := ⟨_, rfl⟩
        rw [hsv] at hc
        have hsz2 := hB2.size
        have hsb := sgn_bd (stepsN σ k + (j - 1))
        obtain ⟨sb1, sb2⟩ := hsb
        cases sv with
        | true =>
          have hseen : SeenN σ k j (pit σ j k) := by rw [hx]; simpa using hsv
          obtain ⟨e1, e2, e3⟩ := perm_seen HP.out hlt hjp hl hseen
          have Hb' : Hid (Bls wr w.heap.size (.slice (some ⟨G, 0, none⟩) N N) N (fun x => decide (SeenN σ (k + 1) 0 x))) := Lib.hid (hb.same fun x hx => by simp only [e3 x hx])
          have He := Lib.hid e1
          clear hb hsv hseen e1 e2 e3 hl hx
          go_wp2_with fail
          go_roundw
          case rel => exact ⟨k + 1, by rw [He.out], by go_num, by omega, Hb'.out, hB2⟩
          case measure => simp [intOf]; omega
        | false =>
          have hnew : ¬ SeenN σ k j (pit σ j k) := by rw [hx]; simpa using hsv
          obtain ⟨e1, e2⟩ := perm_new HP.out hlt hjp hnew
          obtain ⟨s1, s2⟩ := hb.set hpl
          have Hb' : Hid (Bls (wr.setCell ⟨G, x, none⟩ (.bool true)) w.heap.size (.slice (some ⟨G, 0, none⟩) N N) N (fun y => decide (SeenN σ k (j + 1) y))) := Lib.hid (s1.same fun y _ => by
            rw [Bool.eq_iff_iff]
            simp only [Bool.or_eq_true, decide_eq_true_iff]
            rw [seen_succ, hx]
            exact Or.comm)
          have hB3 : Below w.heap.size w (wr.setCell ⟨G, x, none⟩ (.bool true)) := hB2.grown s2 hsz2 fun k hk => by injection hk with hk; omega
          have hm := Hmul.out x
          obtain ⟨y, hy⟩ : ∃ y, σ x = y := ⟨_, rfl⟩
          have hpx : pit σ (j + 1) k = y := by show σ (pit σ j k) = y; rw [hx, hy]
          rw [hy] at hm
          have Hm := Lib.hid hm
          have Hpx := Lib.hid hpx
          have hxN : (x : Int) ≤ 10000 := by omega
          obtain ⟨q1, q2⟩ := mulb (a := a) (b := (x : Int)) (A := 1000000) (B := 10000) a1 a2 (by omega) (by omega)
          have hp2 : j + 1 ≤ p := by rw [Hp.out] at e2; exact e2
          have Hl := Lib.hid e1
          clear hb hsv hnew s1 s2 hl hx hy hpx hm e1
          by_cases h0 : j = 0
          · subst h0
            go_wp2_with fail
            refine (impl_mod _ _ _ (by omega) (by omega)).mono ?_
            rintro e w' ⟨rfl, rfl⟩
            rw [Hm.out]
            go_wp2_with fail
            go_roundg (gk - 1)
            case measure => omega
            case rel => exact ⟨1, rfl, by rw [Hpx.out], rfl, by omega, fun _ => Hl.out, Hb'.out, hB3⟩
          · have b0 : decide (j = 0) = false := by simpa using h0
            go_wp2_with fail
            refine (impl_mod _ _ _ (by omega) (by omega)).mono ?_
            rintro e w' ⟨rfl, rfl⟩
            rw [Hm.out]
            go_wp2_with fail
            go_roundg (gk - 1)
            case measure => omega
            case rel => exact ⟨j + 1, by rw [sgn_next _ _ (by omega)], by rw [Hpx.out], by simp, by omega, fun _ => Hl.out, Hb'.out, hB3⟩
    · obtain rfl : k = N := by omega
      go_wp2_with fail
      refine bodyPost_ret (v := .tuple #[.int .i64 (sgn (stepsN σ k)), .bool true]) (by simp [results, Try.results52, go_sem, *] <;> rfl) rfl ⟨by rw [Hval.out], hB⟩
theorem impl_Perm_no (a n : Int) (w : World) (h : permB a n = false) :
    Calls Try.prog 52 #[.int .i64 a, .int .i64 n] w fun e w' => e = .returned (.tuple #[.int .i64 0, .bool false]) ∧ Below w.heap.size w w' := by
  rcases perm_no h with h1 | ⟨h1, h2⟩ | ⟨h1, h2, h3⟩ | ⟨h1, h2, h3, h4⟩
  · have H1 := Lib.hid h1
    clear h1
    clear h
    go_enter Try.func52, Try.ntmps52
    go_wp2_with fail
    refine (are1 a _ _ false _ H1.out (by simp)).mono ?_
    rintro e w' ⟨rfl, rfl⟩
    go_wp2_with fail
    refine bodyPost_ret (v := .tuple #[.int .i64 0, .bool false]) (by simp [results, Try.results52, go_sem, *] <;> rfl) rfl ⟨rfl, by go_grown⟩
  · have H1 := Lib.hid h1
    clear h1
    have H2 := Lib.hid h2
    clear h2
    clear h
    go_enter Try.func52, Try.ntmps52
    go_wp2_with fail
    refine (are1 a _ _ true _ H1.out (by simp)).mono ?_
    rintro e w' ⟨rfl, rfl⟩
    go_wp2_with fail
    refine (impl_isOddModulus _ false _ H2.out).mono ?_
    rintro e w1 ⟨rfl, hb1⟩
    have hB1 : Below w.heap.size w w1 := Below.after (by go_grown) hb1
    obtain ⟨hc1, hf1⟩ := bcell hb1
    have hy1 := hb1.size
    try simp at hy1
    first | (with_reducible have hx1 := Nat.lt_of_succ_le hy1) | skip
    first | (with_reducible have hv1 := Nat.lt_of_succ_lt hx1) | skip
    first | (with_reducible have hu1 := Nat.lt_of_succ_lt hv1) | skip
    first | (have hz1 : w.heap.size < w1.heap.size := by omega) | (have hz1 := hB1.size)
    clear hb1
    go_wp2_with fail
    refine bodyPost_ret (v := .tuple #[.int .i64 0, .bool false]) (by simp [results, Try.results52, go_sem, *] <;> rfl) rfl ⟨rfl, by go_grown⟩
  · have H1 := Lib.hid h1
    clear h1
    have H2 := Lib.hid h2
    clear h2
    clear h
    go_enter Try.func52, Try.ntmps52
    go_wp2_with fail
    refine (are1 a _ _ true _ H1.out (by simp)).mono ?_
    rintro e w' ⟨rfl, rfl⟩
    go_wp2_with fail
    refine (impl_isOddModulus _ true _ H2.out).mono ?_
    rintro e w1 ⟨rfl, hb1⟩
    have hB1 : Below w.heap.size w w1 := Below.after (by go_grown) hb1
    obtain ⟨hc1, hf1⟩ := bcell hb1
    have hy1 := hb1.size
    try simp at hy1
    first | (with_reducible have hx1 := Nat.lt_of_succ_le hy1) | skip
    first | (with_reducible have hv1 := Nat.lt_of_succ_lt hx1) | skip
    first | (with_reducible have hu1 := Nat.lt_of_succ_lt hv1) | skip
    first | (have hz1 : w.heap.size < w1.heap.size := by omega) | (have hz1 := hB1.size)
    clear hb1
    go_wp2_with fail
    refine bodyPost_ret (v := .tuple #[.int .i64 0, .bool false]) (by simp [results, Try.results52, go_sem, *] <;> rfl) rfl ⟨rfl, by go_grown⟩
  · obtain ⟨a1, a2⟩ := good_iff.1 h1
    obtain ⟨⟨n1, n2⟩, n3, _⟩ := oddM_iff.1 h2
    obtain ⟨g, hg⟩ : ∃ g : Int, (Int.gcd a n : Int) = g := ⟨_, rfl⟩
    have bg : (g != 1) = true := bneT (by omega)
    have Hg := Lib.hid hg
    have H1 := Lib.hid h1
    clear h1
    have H2 := Lib.hid h2
    clear h2
    clear h h4 hg
    go_enter Try.func52, Try.ntmps52
    go_wp2_with fail
    refine (are1 a _ _ true _ H1.out (by simp)).mono ?_
    rintro e w' ⟨rfl, rfl⟩
    go_wp2_with fail
    refine (impl_isOddModulus _ true _ H2.out).mono ?_
    rintro e w1 ⟨rfl, hb1⟩
    have hB1 : Below w.heap.size w w1 := Below.after (by go_grown) hb1
    obtain ⟨hc1, hf1⟩ := bcell hb1
    have hy1 := hb1.size
    try simp at hy1
    first | (with_reducible have hx1 := Nat.lt_of_succ_le hy1) | skip
    first | (with_reducible have hv1 := Nat.lt_of_succ_lt hx1) | skip
    first | (with_reducible have hu1 := Nat.lt_of_succ_lt hv1) | skip
    first | (have hz1 : w.heap.size < w1.heap.size := by omega) | (have hz1 := hB1.size)
    clear hb1
    go_wp2_with fail
    refine (gcdI_r a n g _ (by omega) (by omega) Hg.out).mono ?_
    rintro e w2 ⟨rfl, hb2⟩
    have hB2 : Below w.heap.size w w2 := Below.after (by go_grown) hb2
    obtain ⟨hc2, hf2⟩ := bcell hb2
    have hy2 := hb2.size
    try simp at hy2
    first | (with_reducible have hx2 := Nat.lt_of_succ_le hy2) | skip
    first | (with_reducible have hv2 := Nat.lt_of_succ_lt hx2) | skip
    first | (with_reducible have hu2 := Nat.lt_of_succ_lt hv2) | skip
    first | (have hz2 : w.heap.size < w2.heap.size := by omega) | (have hz2 := hB2.size)
    first | (have hq2 : w1.heap.size ≤ w2.heap.size := by omega) | skip
    first | (have hx1_2 := Nat.lt_of_lt_of_le hx1 hq2) | skip
    first | (have hv1_2 := Nat.lt_of_lt_of_le hv1 hq2) | skip
    first | (have hu1_2 := Nat.lt_of_lt_of_le hu1 hq2) | skip
    clear hb2
    go_wp2_with fail
    refine bodyPost_ret (v := .tuple #[.int .i64 0, .bool false]) (by simp [results, Try.results52, go_sem, *] <;> rfl) rfl ⟨rfl, by go_grown⟩
set_option maxRecDepth 100000 in
set_option maxHeartbeats 1000000 in
theorem spec_Perm_yes (a n : Int) (w : World) (h : permB a n = true) :
    Calls Try.prog 53 #[.int .i64 a, .int .i64 n] w fun e w' => e = .returned (.tuple #[.int .i64 (J a n), .bool true]) ∧ Below w.heap.size w w' := by
  obtain ⟨h1, h2, h3, h4⟩ := perm_yes h
  obtain ⟨a1, a2⟩ := good_iff.1 h1
  obtain ⟨k0, hk0, _⟩ := oddM_half h2
  obtain ⟨N, hN⟩ : ∃ N : Nat, N = 2 * k0 + 1 := ⟨_, rfl⟩
  have hn : n = (N : Int) := by omega
  have hP : Prm N (mulP k0 a) := by rw [hN]; exact mulP_prm (by rw [← hk0]; exact h4)
  have Hval := Lib.hid (show sgn (stepsN (mulP k0 a) N) = J a n by rw [hN, hk0]; exact zolo_J (by rw [← hk0]; exact h4))
  obtain ⟨σ, hσ⟩ : ∃ σ, σ = mulP k0 a := ⟨_, rfl⟩
  have Hmul := Lib.hid (show ∀ x : Nat, (a * (x : Int)) % (N : Int) = (σ x : Nat) from fun x => by rw [hσ, hN, mulP_eq]; congr 1)
  rw [← hσ] at hP Hval
  have HP := Lib.hid hP
  have N1 : 1 ≤ N := by omega
  have N2 : N ≤ 10000 := by omega
  have Hg := Lib.hid (show (Int.gcd a (N : Int) : Int) = 1 by rw [← hn, h4]; rfl)
  obtain ⟨i0, hi, iz0, iz1, iz2⟩ := info_parts infoB
  have H1 := Lib.hid h1
  clear h1
  rw [hn] at h2 Hval
  have H2 := Lib.hid h2
  clear h2
  clear h h3 h4 hk0 hN hP hσ
  subst hn
  go_enter Try.func53, Try.ntmps53
  go_wp2_with fail
  refine (spec_nuGood a true _ H1.out).mono ?_
  rintro e w' ⟨rfl, rfl⟩
  go_wp2_with fail
  refine (spec_syOdd _ true _ H2.out).mono ?_
  rintro e w' ⟨rfl, rfl⟩
  go_wp2_with fail
  refine (gcdS_r a N 1 _ (by omega) (by omega) Hg.out).mono ?_
  rintro e w2 ⟨rfl, hb2⟩
  have hB2 : Below w.heap.size w w2 := Below.after (by go_grown) hb2
  obtain ⟨hc2, hf2⟩ := bcell hb2
  have hy2 := hb2.size
  try simp at hy2
  first | (with_reducible have hx2 := Nat.lt_of_succ_le hy2) | skip
  first | (with_reducible have hv2 := Nat.lt_of_succ_lt hx2) | skip
  first | (with_reducible have hu2 := Nat.lt_of_succ_lt hv2) | skip
  first | (have hz2 : w.heap.size < w2.heap.size := by omega) | (have hz2 := hB2.size)
  first | (have hq2 : w1.heap.size ≤ w2.heap.size := by omega) | skip
  first | (have hx1_2 := Nat.lt_of_lt_of_le hx1 hq2) | skip
  first | (have hv1_2 := Nat.lt_of_lt_of_le hv1 hq2) | skip
  first | (have hu1_2 := Nat.lt_of_lt_of_le hu1 hq2) | skip
  clear hb2
  go_wp2_with (at_make; refine wpList_make_full _ rfl _ _ _ rfl w.heap.size 4 i0 (.bool false) 1 Try.underlying100 hi iz0 iz1 .i64 .i64 _ _ N rfl rfl rfl rfl (by rw [iz2]; omega) (by unfold maxLen; omega) (by omega) ?_)
  intro w3 hown hgrow
  have hbl : Bls w3 w.heap.size (.slice (some ⟨w2.heap.size, 0, none⟩) N N) N (fun _ => false) := by
    unfold Bls
    rw [← made_bools N]
    simpa [Value.cells] using hown
  have hB3 : Below w.heap.size w w3 := hB2.grown hgrow hB2.size fun k hk => by cases hk
  have Hbl := Lib.hid hbl
  obtain ⟨G, hG⟩ : ∃ G, G = w2.heap.size := ⟨_, rfl⟩
  rw [← hG] at Hbl ⊢
  have hGz : w.heap.size ≤ G := by rw [hG]; exact hB2.size
  clear hown hgrow hbl hG
  go_wp2_with fail
  go_loopw [7, 33] (fun s i wr => PermAt w σ N (.slice (some ⟨G, 0, none⟩) N N) s i wr) (fun _ i _ => N - (intOf i).toNat)
  case atStart => exact ⟨0, rfl, rfl, by omega, Hbl.out.same (fun x hx => by simp [seen_zero]), hB3⟩
  case round =>
    obtain ⟨k, rfl, rfl, hk, hb, hB⟩ := hrel
    clear hB3 Hbl
    have HB := Lib.hid hb
    clear hb
    have hsz := hB.size
    obtain ⟨wA, rfl⟩ : ∃ wA, wA = wr := ⟨_, rfl⟩
    by_cases hlt : k < N
    · obtain ⟨p, hp⟩ : ∃ p, ordN σ k = p := ⟨_, rfl⟩
      have Hp := Lib.hid hp
      clear hp
      go_wp2_with fail
      go_loopg [9, 10] p (fun n f i wr => ∃ j : Nat, f = .int .i64 j ∧ i = .int .i64 (pit σ j k : Nat) ∧ j + n = p ∧ (0 < j → leadN σ k = k) ∧ Bls wr w.heap.size (.slice (some ⟨G, 0, none⟩) N N) N (fun x => decide (SeenN σ k j x)) ∧ Below w.heap.size w wr)
      case atStart => exact ⟨0, rfl, rfl, by omega, fun h => by omega, HB.out, hB⟩
      case round =>
        obtain ⟨j, rfl, rfl, hj, hl, hb, hB2⟩ := hrel
        have hjp : j ≤ ordN σ k := by rw [Hp.out]; omega
        have hpl := pit_lt HP.out hlt j
        obtain ⟨x, hx⟩ : ∃ x, pit σ j k = x := ⟨_, rfl⟩
        rw [hx] at hpl ⊢
        obtain ⟨hc, hf⟩ := hb.read hpl
        obtain ⟨hg1, hg2⟩ := hb.low (by omega)
        obtain ⟨sv, hsv⟩ : ∃ v, decide (SeenN σ k j x) = v := ⟨_, rfl⟩
        rw [hsv] at hc
        have hsz2 := hB2.size
        obtain ⟨sb1, sb2⟩ := sgn_bd (stepsN σ k)
        have hordN := ord_le HP.out hlt
        cases sv with
        | true =>
          have hseen : SeenN σ k j (pit σ j k) := by rw [hx]; simpa using hsv
          obtain ⟨e1, e2, e3⟩ := perm_seen HP.out hlt hjp hl hseen
          have Hb' : Hid (Bls wr w.heap.size (.slice (some ⟨G, 0, none⟩) N N) N (fun x => decide (SeenN σ (k + 1) 0 x))) := Lib.hid (hb.same fun x hx => by simp only [e3 x hx])
          have He := Lib.hid e1
          clear hb hsv hseen e1 e2 e3 hl hx
          by_cases h0 : j = 0
          · subst h0
            go_wp2_with fail
            go_roundw
            case rel => exact ⟨k + 1, by rw [He.out]; simp, by go_num, by omega, Hb'.out, hB2⟩
            case measure => simp [intOf]; omega
          · have hj0 : 0 < (j : Int) := by omega
            have hj1 : (j : Int) ≤ 10000 := by omega
            by_cases hev : j % 2 = 0
            · have b0 : ((j : Int) % 2 == 0) = true := beqT (by omega)
              have b1 : ((j : Int).tmod 2 == 0) = true := by rw [tmod2 (by omega)]; exact b0
              have Hs := Lib.hid (sgn_even (k := stepsN σ k) (j := j) (by omega) hev)
              clear hev
              go_wp2_with fail
              go_roundw
              case rel => exact ⟨k + 1, by rw [He.out, Hs.out], by go_num, by omega, Hb'.out, hB2⟩
              case measure => simp [intOf]; omega
            · have b0 : ((j : Int) % 2 == 0) = false := beqF (by omega)
              have b1 : ((j : Int).tmod 2 == 0) = false := by rw [tmod2 (by omega)]; exact b0
              have Hs := Lib.hid (sgn_odd (k := stepsN σ k) (j := j) (by omega) hev)
              clear hev
              go_wp2_with fail
              go_roundw
              case rel => exact ⟨k + 1, by rw [He.out, Hs.out], by go_num, by omega, Hb'.out, hB2⟩
              case measure => simp [intOf]; omega
        | false =>
          have hnew : ¬ SeenN σ k j (pit σ j k) := by rw [hx]; simpa using hsv
          obtain ⟨e1, e2⟩ := perm_new HP.out hlt hjp hnew
          obtain ⟨s1, s2⟩ := hb.set hpl
          have Hb' : Hid (Bls (wr.setCell ⟨G, x, none⟩ (.bool true)) w.heap.size (.slice (some ⟨G, 0, none⟩) N N) N (fun y => decide (SeenN σ k (j + 1) y))) := Lib.hid (s1.same fun y _ => by
            rw [Bool.eq_iff_iff]
            simp only [Bool.or_eq_true, decide_eq_true_iff]
            rw [seen_succ, hx]
            exact Or.comm)
          have hB3 : Below w.heap.size w (wr.setCell ⟨G, x, none⟩ (.bool true)) := hB2.grown s2 hsz2 fun k hk => by injection hk with hk; omega
          have hm := Hmul.out x
          obtain ⟨y, hy⟩ : ∃ y, σ x = y := ⟨_, rfl⟩
          have hpx : pit σ (j + 1) k = y := by show σ (pit σ j k) = y; rw [hx, hy]
          rw [hy] at hm
          have Hm := Lib.hid hm
          have Hpx := Lib.hid hpx
          have hxN : (x : Int) ≤ 10000 := by omega
          obtain ⟨q1, q2⟩ := mulb (a := a) (b := (x : Int)) (A := 1000000) (B := 10000) a1 a2 (by omega) (by omega)
          have hp2 : j + 1 ≤ p := by rw [Hp.out] at e2; exact e2
          have Hl := Lib.hid e1
          clear hb hsv hnew s1 s2 hl hx hy hpx hm e1
          go_wp2_with fail
          refine (spec_nuMod _ _ _ (by omega) (by omega)).mono ?_
          rintro e w' ⟨rfl, rfl⟩
          rw [Hm.out]
          go_wp2_with fail
          go_roundg (gk - 1)
          case measure => omega
          case rel => exact ⟨j + 1, by go_num, by rw [Hpx.out], by omega, fun _ => Hl.out, Hb'.out, hB3⟩
    · obtain rfl : k = N := by omega
      go_wp2_with fail
      refine bodyPost_ret (v := .tuple #[.int .i64 (sgn (stepsN σ k)), .bool true]) (by simp [results, Try.results53, go_sem, *] <;> rfl) rfl ⟨by rw [Hval.out], hB⟩
theorem spec_Perm_no (a n : Int) (w : World) (h : permB a n = false) :
    Calls Try.prog 53 #[.int .i64 a, .int .i64 n] w fun e w' => e = .returned (.tuple #[.int .i64 0, .bool false]) ∧ Below w.heap.size w w' := by
  rcases perm_no h with h1 | ⟨h1, h2⟩ | ⟨h1, h2, h3⟩ | ⟨h1, h2, h3, h4⟩
  · have H1 := Lib.hid h1
    clear h1
    clear h
    go_enter Try.func53, Try.ntmps53
    go_wp2_with fail
    refine (spec_nuGood a false _ H1.out).mono ?_
    rintro e w' ⟨rfl, rfl⟩
    go_wp2_with fail
    refine bodyPost_ret (v := .tuple #[.int .i64 0, .bool false]) (by simp [results, Try.results53, go_sem, *] <;> rfl) rfl ⟨rfl, by go_grown⟩
  · have H1 := Lib.hid h1
    clear h1
    have H2 := Lib.hid h2
    clear h2
    clear h
    go_enter Try.func53, Try.ntmps53
    go_wp2_with fail
    refine (spec_nuGood a true _ H1.out).mono ?_
    rintro e w' ⟨rfl, rfl⟩
    go_wp2_with fail
    refine (spec_syOdd _ false _ H2.out).mono ?_
    rintro e w' ⟨rfl, rfl⟩
    go_wp2_with fail
    refine bodyPost_ret (v := .tuple #[.int .i64 0, .bool false]) (by simp [results, Try.results53, go_sem, *] <;> rfl) rfl ⟨rfl, by go_grown⟩
  · have H1 := Lib.hid h1
    clear h1
    have H2 := Lib.hid h2
    clear h2
    clear h
    go_enter Try.func53, Try.ntmps53
    go_wp2_with fail
    refine (spec_nuGood a true _ H1.out).mono ?_
    rintro e w' ⟨rfl, rfl⟩
    go_wp2_with fail
    refine (spec_syOdd _ true _ H2.out).mono ?_
    rintro e w' ⟨rfl, rfl⟩
    go_wp2_with fail
    refine bodyPost_ret (v := .tuple #[.int .i64 0, .bool false]) (by simp [results, Try.results53, go_sem, *] <;> rfl) rfl ⟨rfl, by go_grown⟩
  · obtain ⟨a1, a2⟩ := good_iff.1 h1
    obtain ⟨⟨n1, n2⟩, n3, _⟩ := oddM_iff.1 h2
    obtain ⟨g, hg⟩ : ∃ g : Int, (Int.gcd a n : Int) = g := ⟨_, rfl⟩
    have bg : (g != 1) = true := bneT (by omega)
    have Hg := Lib.hid hg
    have H1 := Lib.hid h1
    clear h1
    have H2 := Lib.hid h2
    clear h2
    clear h h4 hg
    go_enter Try.func53, Try.ntmps53
    go_wp2_with fail
    refine (spec_nuGood a true _ H1.out).mono ?_
    rintro e w' ⟨rfl, rfl⟩
    go_wp2_with fail
    refine (spec_syOdd _ true _ H2.out).mono ?_
    rintro e w' ⟨rfl, rfl⟩
    go_wp2_with fail
    refine (gcdS_r a n g _ (by omega) (by omega) Hg.out).mono ?_
    rintro e w2 ⟨rfl, hb2⟩
    have hB2 : Below w.heap.size w w2 := Below.after (by go_grown) hb2
    obtain ⟨hc2, hf2⟩ := bcell hb2
    have hy2 := hb2.size
    try simp at hy2
    first | (with_reducible have hx2 := Nat.lt_of_succ_le hy2) | skip
    first | (with_reducible have hv2 := Nat.lt_of_succ_lt hx2) | skip
    first | (with_reducible have hu2 := Nat.lt_of_succ_lt hv2) | skip
    first | (have hz2 : w.heap.size < w2.heap.size := by omega) | (have hz2 := hB2.size)
    first | (have hq2 : w1.heap.size ≤ w2.heap.size := by omega) | skip
    first | (have hx1_2 := Nat.lt_of_lt_of_le hx1 hq2) | skip
    first | (have hv1_2 := Nat.lt_of_lt_of_le hv1 hq2) | skip
    first | (have hu1_2 := Nat.lt_of_lt_of_le hu1 hq2) | skip
    clear hb2
    go_wp2_with fail
    refine bodyPost_ret (v := .tuple #[.int .i64 0, .bool false]) (by simp [results, Try.results53, go_sem, *] <;> rfl) rfl ⟨rfl, by go_grown⟩
end Go.Proofs.Ytiblpagbloflhaa
