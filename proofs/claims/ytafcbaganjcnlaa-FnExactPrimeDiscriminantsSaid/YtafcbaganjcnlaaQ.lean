/- Contracts and walks: prime discriminants. -/
import Derived.Test.YtafcbaganjcnlaaR
namespace Go.Proofs.Ytafcbaganjcnlaa
set_option linter.unusedVariables false
open Go.ChangeShapes Go.WideShapes Go.ChangeAt Go.RowKit

def pdS (p : Int) : Int := if p % 4 = 3 then -p else p
def pdAdd (l : List Int) (p : Int) : List Int := if p = 2 then l else l ++ [pdS p]
def pdOdd (n : Int) : List Int := (prs n).foldl pdAdd []
def pdDiv (r p : Int) : Int := wrap64 (r.tdiv p)
def pdRest (d : Int) : Int := (pdOdd d.natAbs).foldl pdDiv d
def pdL (d : Int) : List Int := if pdRest d = 1 then pdOdd d.natAbs else pdRest d :: pdOdd d.natAbs
theorem pdS_three {p : Int} (h : p % 4 = 3) : pdS p = -p := by unfold pdS; rw [if_pos h]
theorem pdS_one {p : Int} (h : ¬ p % 4 = 3) : pdS p = p := by unfold pdS; rw [if_neg h]
theorem pdAdd_two (l : List Int) : pdAdd l 2 = l := by unfold pdAdd; rw [if_pos rfl]
theorem pdAdd_odd {p : Int} (l : List Int) (h : ¬ p = 2) : pdAdd l p = l ++ [pdS p] := by unfold pdAdd; rw [if_neg h]
theorem pd_take {L : List Int} {k : Nat} (h : k < L.length) : (L.take (k + 1)).foldl pdAdd [] = pdAdd ((L.take k).foldl pdAdd []) L[k] := by
  rw [List.take_succ_eq_append_getElem h, List.foldl_append]; rfl
theorem pd_div_next (l : List Int) (d x : Int) : (l ++ [x]).foldl pdDiv d = pdDiv (l.foldl pdDiv d) x := by rw [List.foldl_append]; rfl
theorem pd_len (L : List Int) : ∀ m : List Int, (L.foldl pdAdd m).length ≤ m.length + L.length := by
  induction L with
  | nil => intro m; simp
  | cons x t ih =>
    intro m
    have h1 := ih (pdAdd m x)
    have h2 : (pdAdd m x).length ≤ m.length + 1 := by unfold pdAdd; split <;> simp
    simp only [List.foldl_cons, List.length_cons]
    omega
theorem pd_take_len (L : List Int) (k : Nat) : ((L.take k).foldl pdAdd []).length ≤ k := by
  have h1 := pd_len (L.take k) []
  have h2 := List.length_take_le k L
  simp only [List.length_nil] at h1
  omega
theorem pdL_rest {d : Int} (h : pdRest d = 1) : pdL d = pdOdd d.natAbs := by unfold pdL; rw [if_pos h]
theorem pdL_more {d : Int} (h : ¬ pdRest d = 1) : pdL d = pdRest d :: pdOdd d.natAbs := by unfold pdL; rw [if_neg h]
theorem pdS_ne {p : Int} (h : 2 ≤ p) : pdS p ≠ 0 := by unfold pdS; split <;> omega
theorem pd_ne (L : List Int) : ∀ m : List Int, (∀ x, x ∈ L → 2 ≤ x) → (∀ x, x ∈ m → x ≠ 0) → ∀ x, x ∈ L.foldl pdAdd m → x ≠ 0 := by
  induction L with
  | nil => intro m _ h x hx; exact h x hx
  | cons y t ih =>
    intro m h1 h2 x hx
    refine ih (pdAdd m y) (fun z hz => h1 z (by simp [hz])) (fun z hz => ?_) x hx
    unfold pdAdd at hz
    split at hz
    · exact h2 z hz
    · rcases List.mem_append.1 hz with h3 | h3
      · exact h2 z h3
      · simp only [List.mem_singleton] at h3; rw [h3]; exact pdS_ne (h1 y (by simp))
theorem pdOdd_ne {n : Int} (hn : 1 ≤ n) : ∀ x, x ∈ pdOdd n → x ≠ 0 := pd_ne _ [] (fun x hx => (prs_bd hn hx).1) (fun x hx => by simp at hx)
theorem impl_primeDiscriminants (d : Int) (w : World) (h0 : d ≠ 0) (h1 : -1000000 ≤ d ∧ d ≤ 1000000) :
    Calls Try.prog 68 #[.int .i64 d] w fun e w' => ∃ v, e = .returned v ∧ Ints w' w.heap.size v (pdL d) ∧ Below w.heap.size w w' := by
  have n1 : 1 ≤ (d.natAbs : Int) := by omega
  have hfl := prs_len n1
  have Hb := Lib.hid (fun x (hx : x ∈ prs (d.natAbs : Int)) => prs_bd n1 hx)
  go_enter Try.func68, Try.ntmps68
  go_wp2_with fail
  refine (impl_abs d _ (by omega) (by omega)).mono ?_
  rintro e w' ⟨rfl, rfl⟩
  go_wp2_with fail
  refine (impl_primesOf (d.natAbs : Int) _ n1 (by omega)).mono ?_
  rintro e w1 ⟨v0, rfl, hf1, hb1⟩
  obtain ⟨p0, cap, rfl, _, _⟩ := hf1.view
  go_wp2_with fail
  have hB1 : Below w.heap.size w w1 := Below.after (by go_grown) hb1
  have hown1 : Ints w1 w.heap.size (.slice (some ⟨w.heap.size, 0, none⟩) 0 0) [] := (Ints.made w [] #[] rfl (Nat.le_refl _) (by simp)).below hb1
  have hsep1 : (Value.slice p0 (prs (d.natAbs : Int)).length cap).ownBlock = none ∨ (Value.slice p0 (prs (d.natAbs : Int)).length cap).ownBlock ≠ Value.ownBlock (.slice (some ⟨w.heap.size, 0, none⟩) 0 0) := by
    cases hv : (Value.slice p0 (prs (d.natAbs : Int)).length cap).ownBlock with
    | none => exact .inl rfl
    | some k =>
      right
      have := (hf1.lt k hv).1
      simp at this
      intro e
      simp [Value.ownBlock] at e
      omega
  have hf2 := hf1.mono (B' := w.heap.size) (by simp)
  clear hf1 hb1
  go_loopw [3, 4, 13] (fun v r i wr => ∃ (k : Nat) (l : List Int) (q : Int), k ≤ (prs (d.natAbs : Int)).length ∧ i = .int .i64 k ∧ r = .int .i64 q ∧ l = ((prs (d.natAbs : Int)).take k).foldl pdAdd [] ∧ l.length ≤ k ∧ q = l.foldl pdDiv d ∧ Ints wr w.heap.size v l ∧ Ints wr w.heap.size (.slice p0 (prs (d.natAbs : Int)).length cap) (prs (d.natAbs : Int)) ∧
      ((Value.slice p0 (prs (d.natAbs : Int)).length cap).ownBlock = none ∨ (Value.slice p0 (prs (d.natAbs : Int)).length cap).ownBlock ≠ v.ownBlock) ∧ Below w.heap.size w wr) (fun _ _ i _ => (prs (d.natAbs : Int)).length - (intOf i).toNat)
  case atStart => exact ⟨0, [], d, by omega, rfl, rfl, rfl, by simp, rfl, hown1, hf2, hsep1, hB1⟩
  case round =>
    clear hown1 hf2 hsep1 hB1
    obtain ⟨k, l, q, hk, rfl, rfl, hl, hlk, hr, hown, hf, hsep, hB⟩ := hrel
    have Hl := Lib.hid hl
    have Hr := Lib.hid hr
    clear hl hr
    have hs := hB.size
    by_cases hlt : k < (prs (d.natAbs : Int)).length
    · obtain ⟨g, rfl, _, hg2, hcell, _⟩ := hf.read k hlt
      obtain ⟨p, hp⟩ : ∃ x, x = (prs (d.natAbs : Int))[k] := ⟨_, rfl⟩
      rw [← hp] at hcell
      obtain ⟨q1, q2⟩ := Hb.out p (by rw [hp]; exact List.getElem_mem hlt)
      have Hp := Lib.hid hp
      have Hf := Lib.hid hf
      have Hsep := Lib.hid hsep
      clear hf hsep hp
      by_cases h2 : p = 2
      · subst h2
        go_wp2_with fail
        go_roundw
        case rel => exact ⟨k + 1, l, q, by omega, by go_num, rfl, by rw [pd_take hlt, ← Hl.out, ← Hp.out, pdAdd_two], by omega, Hr.out, hown, Hf.out, Hsep.out, hB⟩
        case measure => simp [intOf]; omega
      · have b2 := beqF h2
        by_cases h3 : p % 4 = 3
        · have b3 := beqT h3
          have hm := pdS_three h3
          have hp0 : ¬ -p = 0 := by omega
          have Hm := Lib.hid hm
          obtain ⟨pl, capl, rfl, _, _⟩ := hown.view
          clear hm
          go_wp2_with (at_builtin; refine app_int w.heap.size l (-p) _ _ _ _ rfl rfl rfl rfl (hown.alloc _) (World.cell?_alloc_at _ _ _ _ rfl) (by omega) (by simp; omega) ?_)
          intro v' w2 hown' hgrow hblk
          have hB' : Below w.heap.size w w2 := below_grown (hB.alloc hs _) (hown.alloc _) hgrow (by simp; omega)
          have hbs := Ints.beside (Hf.out.alloc _) Hsep.out hgrow (by simpa using hblk)
          have Hbs := Lib.hid hbs
          clear hgrow hown hB hblk hbs
          go_wp2_with fail
          go_roundw
          case rel => exact ⟨k + 1, l ++ [-p], _, by omega, by go_num, rfl, by rw [pd_take hlt, ← Hl.out, ← Hp.out, pdAdd_odd l h2, Hm.out], by simp; omega, by rw [pd_div_next, ← Hr.out]; first | rfl | (unfold pdDiv; rw [Int.tdiv_neg]), hown', Hbs.out.1, Hbs.out.2, hB'⟩
          case measure => simp [intOf]; omega
        · have b3 := beqF h3
          have hm := pdS_one h3
          have Hm := Lib.hid hm
          obtain ⟨pl, capl, rfl, _, _⟩ := hown.view
          clear hm
          go_wp2_with (at_builtin; refine app_int w.heap.size l (p) _ _ _ _ rfl rfl rfl rfl (hown.alloc _) (World.cell?_alloc_at _ _ _ _ rfl) (by omega) (by simp; omega) ?_)
          intro v' w2 hown' hgrow hblk
          have hB' : Below w.heap.size w w2 := below_grown (hB.alloc hs _) (hown.alloc _) hgrow (by simp; omega)
          have hbs := Ints.beside (Hf.out.alloc _) Hsep.out hgrow (by simpa using hblk)
          have Hbs := Lib.hid hbs
          clear hgrow hown hB hblk hbs
          go_wp2_with fail
          go_roundw
          case rel => exact ⟨k + 1, l ++ [p], _, by omega, by go_num, rfl, by rw [pd_take hlt, ← Hl.out, ← Hp.out, pdAdd_odd l h2, Hm.out], by simp; omega, by rw [pd_div_next, ← Hr.out]; first | rfl | (unfold pdDiv; rw [Int.tdiv_neg]), hown', Hbs.out.1, Hbs.out.2, hB'⟩
          case measure => simp [intOf]; omega
    · obtain rfl : k = (prs (d.natAbs : Int)).length := by omega
      have Ho := Lib.hid (show l = pdOdd (d.natAbs : Int) by have := Hl.out; rw [List.take_length] at this; exact this)
      have Hq := Lib.hid (show q = pdRest d by unfold pdRest; rw [← Ho.out]; exact Hr.out)
      by_cases hq : q = 1
      · have bq := beqT hq
        have Hz := Lib.hid (show pdL d = l by rw [pdL_rest (by rw [← Hq.out]; exact hq), ← Ho.out])
        clear hq
        go_wp2_with fail
        go_ret
        exact ⟨_, rfl, by rw [Hz.out]; exact hown, hB⟩
      · have bq := beqF hq
        have Hz := Lib.hid (show pdL d = [q] ++ l by rw [pdL_more (by rw [← Hq.out]; exact hq), ← Ho.out, ← Hq.out]; rfl)
        clear hq
        have hm0 : Ints (wr.alloc (.cells #[.int .i64 q] 3)) w.heap.size (.slice (some ⟨wr.heap.size, 0, none⟩) 1 1) [q] := Ints.made wr [q] #[.int .i64 q] rfl hs (by simp)
        have hB2 : Below w.heap.size w (wr.alloc (.cells #[.int .i64 q] 3)) := hB.alloc hs _
        rcases hown.parts with ⟨rfl, rfl⟩ | ⟨g', cap', rfl, _, hcm, hg3, hg4, hcell'⟩
        · go_wp2_with (at_builtin; refine app_none w.heap.size [q] _ _ _ rfl rfl rfl rfl hm0 ?_)
          go_wp2_with fail
          go_ret
          exact ⟨_, rfl, by rw [Hz.out]; exact hm0, hB2⟩
        · go_wp2_with (at_builtin; refine app_ints w.heap.size [q] l (.slice (some ⟨wr.heap.size, 0, none⟩) 1 1) ⟨g', 0, none⟩ _ _ _ rfl rfl rfl rfl hm0 (cell_src hg4 hcell') (by simp; omega) (by go_size) ?_)
          intro v3 w3 hown3 hgrow3
          have hB3 : Below w.heap.size w w3 := below_grown hB2 hm0 hgrow3 (by go_size)
          clear hgrow3
          go_wp2_with fail
          go_ret
          exact ⟨_, rfl, by rw [Hz.out]; exact hown3, hB3⟩
def pdB (d : Int) : Bool := discB d && ((fnd d).2 == 1)
def pdA (d : Int) : List Int := if pdB d = true then pdL d else []
theorem pdA_yes {d : Int} (h : pdB d = true) : pdA d = pdL d := by unfold pdA; rw [if_pos h]
theorem pdA_no {d : Int} (h : pdB d = false) : pdA d = [] := by unfold pdA; rw [if_neg (by rw [h]; simp)]
theorem pdL_len {d : Int} (h0 : d ≠ 0) (h2 : ((prs (d.natAbs : Int)).length : Int) + 1 ≤ (d.natAbs : Int)) : ((pdL d).length : Int) ≤ (d.natAbs : Int) := by
  have h1 := pd_len (prs (d.natAbs : Int)) []
  simp only [List.length_nil] at h1
  have h3 : (pdOdd (d.natAbs : Int)).length ≤ (prs (d.natAbs : Int)).length := by unfold pdOdd; omega
  unfold pdL
  split
  · omega
  · simp only [List.length_cons]; omega
theorem impl_IsFundamentalQ (d : Int) (v : Bool) (w : World) (hv : pdB d = v) :
    Calls Try.prog 18 #[.int .i64 d] w fun e w' => e = .returned (.tuple #[.bool v, .bool (discB d)]) ∧ Below w.heap.size w w' := by
  by_cases h : discB d = true
  · exact (impl_IsFundamental_yes d w h).mono fun e w' ⟨he, hb⟩ => ⟨by rw [he, ← hv, h]; simp [pdB, h], hb⟩
  · have h' : discB d = false := by simpa using h
    exact (impl_IsFundamental_no d w h').mono fun e w' ⟨he, hb⟩ => ⟨by rw [he, ← hv, h']; simp [pdB, h'], hb⟩
theorem impl_PrimeDiscriminants (d : Int) (w : World) :
    Calls Try.prog 39 #[.int .i64 d] w fun e w' => ∃ v, e = .returned (.tuple #[v, .bool (pdB d)]) ∧ Ints w' w.heap.size v (pdA d) ∧ Below w.heap.size w w' := by
  by_cases h : pdB d = true
  · have hd : discB d = true := by unfold pdB at h; rw [Bool.and_eq_true] at h; exact h.1
    have h0 := disc_ne hd
    have h1 := (discB_iff.1 hd).1
    have HL := Lib.hid (pdA_yes h)
    have H := Lib.hid h
    clear h
    clear hd
    go_enter Try.func39, Try.ntmps39
    go_wp2_with fail
    refine (impl_IsFundamentalQ d true _ H.out).mono ?_
    rintro e w1 ⟨rfl, hb1⟩
    have hB1 : Below w.heap.size w w1 := Below.after (by go_grown) hb1
    obtain ⟨hc1, hf1⟩ := bcell hb1
    have hy1 := hb1.size
    try simp at hy1
    first | (with_reducible have hx1 := Nat.lt_of_succ_le hy1) | skip
    first | (with_reducible have hv1 := Nat.lt_of_succ_lt hx1) | skip
    first | (with_reducible have hu1 := Nat.lt_of_succ_lt hv1) | skip
    first | (have hz1 : w.heap.size < w1.heap.size := by omega) | (have hz1 := hB1.size)
    clear hb1
    go_wp2_with fail
    refine (impl_primeDiscriminants d _ h0 h1).mono ?_
    rintro e w2 ⟨v, rfl, hown, hb2⟩
    have hB2 : Below w.heap.size w w2 := Below.after hB1 hb2
    have hs1 := hB1.size
    go_wp2_with fail
    go_ret2
    exact ⟨_, by rw [H.out]; rfl, by rw [HL.out]; exact hown.mono hs1, hB2⟩
  · have h' : pdB d = false := by simpa using h
    have HL := Lib.hid (pdA_no h')
    have H := Lib.hid h'
    clear h h'
    go_enter Try.func39, Try.ntmps39
    go_wp2_with fail
    refine (impl_IsFundamentalQ d false _ H.out).mono ?_
    rintro e w1 ⟨rfl, hb1⟩
    have hB1 : Below w.heap.size w w1 := Below.after (by go_grown) hb1
    obtain ⟨hc1, hf1⟩ := bcell hb1
    have hy1 := hb1.size
    try simp at hy1
    first | (with_reducible have hx1 := Nat.lt_of_succ_le hy1) | skip
    first | (with_reducible have hv1 := Nat.lt_of_succ_lt hx1) | skip
    first | (with_reducible have hu1 := Nat.lt_of_succ_lt hv1) | skip
    first | (have hz1 : w.heap.size < w1.heap.size := by omega) | (have hz1 := hB1.size)
    clear hb1
    have hs1 := hB1.size
    go_wp2_with fail
    go_ret2
    exact ⟨_, by rw [H.out]; rfl, by rw [HL.out]; exact Ints.made _ [] #[] rfl hs1 (by simp), by go_grown⟩
theorem spec_diPrimes (d : Int) (w : World) (h0 : d ≠ 0) (h1 : -1000000 ≤ d ∧ d ≤ 1000000) :
    Calls Try.prog 67 #[.int .i64 d] w fun e w' => ∃ v, e = .returned v ∧ Ints w' w.heap.size v (pdL d) ∧ Below w.heap.size w w' := by
  have n1 : 1 ≤ (d.natAbs : Int) := by omega
  have hfl := prs_len n1
  have Hb := Lib.hid (fun x (hx : x ∈ prs (d.natAbs : Int)) => prs_bd n1 hx)
  go_enter Try.func67, Try.ntmps67
  go_wp2_with fail
  refine (spec_l1Abs d _ (by omega) (by omega)).mono ?_
  rintro e w' ⟨rfl, rfl⟩
  go_wp2_with fail
  refine (spec_nuPrimes (d.natAbs : Int) _ n1 (by omega)).mono ?_
  rintro e w1 ⟨v0, rfl, hf1, hb1⟩
  obtain ⟨p0, cap, rfl, _, _⟩ := hf1.view
  go_wp2_with fail
  have hf2 := hf1
  have hsep1 : (Value.slice p0 (prs (d.natAbs : Int)).length cap).ownBlock = none ∨ (Value.slice p0 (prs (d.natAbs : Int)).length cap).ownBlock ≠ Value.ownBlock (.slice none 0 0) := by
    cases hv : (Value.slice p0 (prs (d.natAbs : Int)).length cap).ownBlock with
    | none => exact .inl rfl
    | some k => right; simp [Value.ownBlock]
  clear hf1
  go_loopw [3, 13] (fun v i wr => ∃ (k : Nat) (l : List Int), k ≤ (prs (d.natAbs : Int)).length ∧ i = .int .i64 k ∧ l = ((prs (d.natAbs : Int)).take k).foldl pdAdd [] ∧ l.length ≤ k ∧ Ints wr w.heap.size v l ∧ Ints wr w.heap.size (.slice p0 (prs (d.natAbs : Int)).length cap) (prs (d.natAbs : Int)) ∧
      ((Value.slice p0 (prs (d.natAbs : Int)).length cap).ownBlock = none ∨ (Value.slice p0 (prs (d.natAbs : Int)).length cap).ownBlock ≠ v.ownBlock) ∧ Below w.heap.size w wr) (fun _ i _ => (prs (d.natAbs : Int)).length - (intOf i).toNat)
  case atStart => exact ⟨0, [], by omega, rfl, rfl, by simp, Ints.nil _ _, hf2, hsep1, hb1⟩
  case round =>
    clear hf2 hsep1 hb1
    obtain ⟨k, l, hk, rfl, hl, hlk, hown, hf, hsep, hB⟩ := hrel
    have Hl := Lib.hid hl
    clear hl
    have hs := hB.size
    by_cases hlt : k < (prs (d.natAbs : Int)).length
    · obtain ⟨g, rfl, _, hg2, hcell, _⟩ := hf.read k hlt
      obtain ⟨p, hp⟩ : ∃ x, x = (prs (d.natAbs : Int))[k] := ⟨_, rfl⟩
      rw [← hp] at hcell
      obtain ⟨q1, q2⟩ := Hb.out p (by rw [hp]; exact List.getElem_mem hlt)
      have Hp := Lib.hid hp
      have Hf := Lib.hid hf
      have Hsep := Lib.hid hsep
      clear hf hsep hp
      by_cases h2 : p = 2
      · subst h2
        go_wp2_with fail
        go_roundw
        case rel => exact ⟨k + 1, l, by omega, by go_num, by rw [pd_take hlt, ← Hl.out, ← Hp.out, pdAdd_two], by omega, hown, Hf.out, Hsep.out, hB⟩
        case measure => simp [intOf]; omega
      · have b2 := beqF h2
        by_cases h3 : p % 4 = 3
        · have b3 := beqT h3
          have hm := pdS_three h3
          have Hm := Lib.hid hm
          obtain ⟨pl, capl, rfl, _, _⟩ := hown.view
          clear hm
          go_wp2_with (at_builtin; refine app_int w.heap.size l (-p) _ _ _ _ rfl rfl rfl rfl (hown.alloc _) (World.cell?_alloc_at _ _ _ _ rfl) (by omega) (by simp; omega) ?_)
          intro v' w2 hown' hgrow hblk
          have hB' : Below w.heap.size w w2 := below_grown (hB.alloc hs _) (hown.alloc _) hgrow (by simp; omega)
          have hbs := Ints.beside (Hf.out.alloc _) Hsep.out hgrow (by simpa using hblk)
          have Hbs := Lib.hid hbs
          clear hgrow hown hB hblk hbs
          go_wp2_with fail
          go_roundw
          case rel => exact ⟨k + 1, l ++ [-p], by omega, by go_num, by rw [pd_take hlt, ← Hl.out, ← Hp.out, pdAdd_odd l h2, Hm.out], by simp; omega, hown', Hbs.out.1, Hbs.out.2, hB'⟩
          case measure => simp [intOf]; omega
        · have b3 := beqF h3
          have hm := pdS_one h3
          have Hm := Lib.hid hm
          obtain ⟨pl, capl, rfl, _, _⟩ := hown.view
          clear hm
          go_wp2_with (at_builtin; refine app_int w.heap.size l (p) _ _ _ _ rfl rfl rfl rfl (hown.alloc _) (World.cell?_alloc_at _ _ _ _ rfl) (by omega) (by simp; omega) ?_)
          intro v' w2 hown' hgrow hblk
          have hB' : Below w.heap.size w w2 := below_grown (hB.alloc hs _) (hown.alloc _) hgrow (by simp; omega)
          have hbs := Ints.beside (Hf.out.alloc _) Hsep.out hgrow (by simpa using hblk)
          have Hbs := Lib.hid hbs
          clear hgrow hown hB hblk hbs
          go_wp2_with fail
          go_roundw
          case rel => exact ⟨k + 1, l ++ [p], by omega, by go_num, by rw [pd_take hlt, ← Hl.out, ← Hp.out, pdAdd_odd l h2, Hm.out], by simp; omega, hown', Hbs.out.1, Hbs.out.2, hB'⟩
          case measure => simp [intOf]; omega
    · obtain rfl : k = (prs (d.natAbs : Int)).length := by omega
      have Ho := Lib.hid (show l = pdOdd (d.natAbs : Int) by have := Hl.out; rw [List.take_length] at this; exact this)
      have Hne := Lib.hid (show ∀ x, x ∈ l → x ≠ 0 by rw [Ho.out]; exact pdOdd_ne n1)
      obtain ⟨q, hq⟩ : ∃ q, q = pdRest d := ⟨_, rfl⟩
      have Hq := Lib.hid hq
      have Hd := Lib.hid (show l.foldl pdDiv d = q by rw [hq, Ho.out]; rfl)
      clear hq
      have Hown := Lib.hid hown
      have HB := Lib.hid hB
      rcases hown.parts with ⟨rfl, rfl⟩ | ⟨g', cap', rfl, _, hcm, hg3, hg4, hcell'⟩
      · obtain rfl : d = q := Hd.out
        clear hown hf hB
        go_wp2_with fail
        go_loop [6, 34] (fun r i => i = .int .i64 0 ∧ r = .int .i64 d) (fun _ i => 0)
        case atStart => exact ⟨rfl, rfl⟩
        case round =>
          obtain ⟨rfl, rfl⟩ := hrel
          by_cases hq : d = 1
          · have bq := beqT hq
            have Hz := Lib.hid (show pdL d = [] by rw [pdL_rest (by rw [← Hq.out]; exact hq), ← Ho.out])
            clear hq
            go_wp2_with fail
            go_ret
            exact ⟨_, rfl, by rw [Hz.out]; exact Hown.out, HB.out⟩
          · have bq := beqF hq
            have Hz := Lib.hid (show pdL d = [d] by rw [pdL_more (by rw [← Hq.out]; exact hq), ← Ho.out, ← Hq.out])
            clear hq
            have hm0 : Ints (wr.alloc (.cells #[.int .i64 d] 3)) w.heap.size (.slice (some ⟨wr.heap.size, 0, none⟩) 1 1) [d] := Ints.made wr [d] #[.int .i64 d] rfl hs (by simp)
            have hB2 : Below w.heap.size w (wr.alloc (.cells #[.int .i64 d] 3)) := HB.out.alloc hs _
            go_wp2_with (at_builtin; refine app_none w.heap.size [d] _ _ _ rfl rfl rfl rfl hm0 ?_)
            go_wp2_with fail
            go_ret
            exact ⟨_, rfl, by rw [Hz.out]; exact hm0, hB2⟩
      · have Hc := Lib.hid hcell'
        clear hcell' hown hf hB
        go_wp2_with fail
        go_loop [6, 34] (fun r i => ∃ (j : Nat) (a : Int), j ≤ l.length ∧ i = .int .i64 j ∧ r = .int .i64 a ∧ (l.drop j).foldl pdDiv a = q) (fun _ i => l.length - (intOf i).toNat)
        case atStart => exact ⟨0, d, by omega, rfl, rfl, Hd.out⟩
        case round =>
          obtain ⟨j, a, hj, rfl, rfl, ha⟩ := hrel
          by_cases hjl : j < l.length
          · have hcj := Hc.out j hjl
            obtain ⟨x, hx⟩ : ∃ x, x = l[j] := ⟨_, rfl⟩
            rw [← hx] at hcj
            have hx0 : ¬ x = 0 := by rw [hx]; exact Hne.out _ (List.getElem_mem hjl)
            have Ha := Lib.hid (show (l.drop (j + 1)).foldl pdDiv (pdDiv a x) = q by rw [← ha, List.drop_eq_getElem_cons hjl, ← hx]; rfl)
            clear hx ha
            go_wp2_with fail
            go_round
            case rel => exact ⟨j + 1, _, by omega, by go_num, rfl, Ha.out⟩
            case measure => simp [intOf]; omega
          · obtain rfl : a = q := by rw [← ha, List.drop_eq_nil_of_le (by omega)]; rfl
            clear ha
            by_cases hq : a = 1
            · have bq := beqT hq
              have Hz := Lib.hid (show pdL d = l by rw [pdL_rest (by rw [← Hq.out]; exact hq), ← Ho.out])
              clear hq
              go_wp2_with fail
              go_ret
              exact ⟨_, rfl, by rw [Hz.out]; exact Hown.out, HB.out⟩
            · have bq := beqF hq
              have Hz := Lib.hid (show pdL d = [a] ++ l by rw [pdL_more (by rw [← Hq.out]; exact hq), ← Ho.out, ← Hq.out]; rfl)
              clear hq
              have hm0 : Ints (wr.alloc (.cells #[.int .i64 a] 3)) w.heap.size (.slice (some ⟨wr.heap.size, 0, none⟩) 1 1) [a] := Ints.made wr [a] #[.int .i64 a] rfl hs (by simp)
              have hB2 : Below w.heap.size w (wr.alloc (.cells #[.int .i64 a] 3)) := HB.out.alloc hs _
              go_wp2_with (at_builtin; refine app_ints w.heap.size [a] l (.slice (some ⟨wr.heap.size, 0, none⟩) 1 1) ⟨g', 0, none⟩ _ _ _ rfl rfl rfl rfl hm0 (cell_src hg4 Hc.out) (by simp; omega) (by go_size) ?_)
              intro v3 w3 hown3 hgrow3
              have hB3 : Below w.heap.size w w3 := below_grown hB2 hm0 hgrow3 (by go_size)
              clear hgrow3
              go_wp2_with fail
              go_ret
              exact ⟨_, rfl, by rw [Hz.out]; exact hown3, hB3⟩
theorem spec_PrimeDiscriminants (d : Int) (w : World) :
    Calls Try.prog 38 #[.int .i64 d] w fun e w' => ∃ v, e = .returned (.tuple #[v, .bool (pdB d)]) ∧ Ints w' w.heap.size v (pdA d) ∧ Below w.heap.size w w' := by
  by_cases hd : discB d = true
  · have h0 := disc_ne hd
    have h1 := (discB_iff.1 hd).1
    by_cases hf : (fnd d).2 = 1
    · have hb : pdB d = true := by unfold pdB; rw [hd, hf]; rfl
      have HL := Lib.hid (pdA_yes hb)
      have Hb := Lib.hid hb
      have bf := bneF hf
      clear hb hf
      have H := Lib.hid hd
      clear hd
      go_enter Try.func38, Try.ntmps38
      go_wp2_with fail
      refine (spec_diIs d true _ H.out).mono ?_
      rintro e w' ⟨rfl, rfl⟩
      go_wp2_with fail
      refine (spec_diSplit d _ h0 h1).mono ?_
      rintro e w' ⟨rfl, rfl⟩
      go_wp2_with fail
      refine (spec_diPrimes d _ h0 h1).mono ?_
      rintro e w2 ⟨v, rfl, hown, hb2⟩
      go_wp2_with fail
      go_ret2
      exact ⟨_, by rw [Hb.out]; rfl, by rw [HL.out]; exact hown, hb2⟩
    · have hb : pdB d = false := by unfold pdB; rw [hd]; simpa using hf
      have HL := Lib.hid (pdA_no hb)
      have Hb := Lib.hid hb
      have bf := bneT hf
      clear hb hf
      have H := Lib.hid hd
      clear hd
      go_enter Try.func38, Try.ntmps38
      go_wp2_with fail
      refine (spec_diIs d true _ H.out).mono ?_
      rintro e w' ⟨rfl, rfl⟩
      go_wp2_with fail
      refine (spec_diSplit d _ h0 h1).mono ?_
      rintro e w' ⟨rfl, rfl⟩
      go_wp2_with fail
      go_ret2
      exact ⟨_, by rw [Hb.out]; rfl, by rw [HL.out]; exact Ints.nil _ _, by go_grown⟩
  · have h' : discB d = false := by simpa using hd
    have hb : pdB d = false := by unfold pdB; rw [h']; rfl
    have HL := Lib.hid (pdA_no hb)
    have Hb := Lib.hid hb
    have H := Lib.hid h'
    clear hb h' hd
    go_enter Try.func38, Try.ntmps38
    go_wp2_with fail
    refine (spec_diIs d false _ H.out).mono ?_
    rintro e w' ⟨rfl, rfl⟩
    go_wp2_with fail
    go_ret2
    exact ⟨_, by rw [Hb.out]; rfl, by rw [HL.out]; exact Ints.nil _ _, by go_grown⟩
theorem facGo_len1 : ∀ (k : Nat) (p n : Int), (n - p + 1).toNat ≤ k → 2 ≤ p → 1 ≤ n → ((facGo p n).length : Int) + 1 ≤ n := by
  intro k
  induction k with
  | zero =>
    intro p n hk hp hn
    rw [facGo_end (by have h1 := Int.mul_le_mul_of_nonneg_right hp (show 0 ≤ p by omega); omega)]
    split <;> simp <;> omega
  | succ k ih =>
    intro p n hk hp hn
    by_cases h : p * p ≤ n
    · have h1 := Int.mul_le_mul_of_nonneg_right hp (show 0 ≤ p by omega)
      obtain ⟨a, b, _, _⟩ := stripN_bd hp hn
      have h2 := ih (p + 1) (stripN p n) (by omega) (by omega) a
      have h3 := strip_len p hp n.toNat n (Nat.le_refl _) hn
      rw [facGo_step hp h, List.length_append]
      omega
    · rw [facGo_end (by omega)]
      split <;> simp <;> omega
theorem prs_len1 {n : Int} (hn : 1 ≤ n) : ((prs n).length : Int) + 1 ≤ n := by
  have h1 := facGo_len1 _ 2 n (Nat.le_refl _) (by omega) hn
  have h2 := fold_len (facs n) []
  have h3 : (prs n).length ≤ (facs n).length := by unfold prs; simpa using h2
  unfold facs at h3
  omega
theorem pdA_len (d : Int) : (pdA d).length ≤ 1000000 := by
  by_cases h : pdB d = true
  · have hd : discB d = true := by unfold pdB at h; rw [Bool.and_eq_true] at h; exact h.1
    have h0 := disc_ne hd
    have h1 := pdL_len h0 (prs_len1 (by omega))
    have h2 := (discB_iff.1 hd).1
    rw [pdA_yes h]; omega
  · rw [pdA_no (by simpa using h)]; simp
theorem walkPrimeDiscriminants (d : Int) (w : World) (wd : (Lit.int .i64 d).wf = true) :
    Calls Try.prog 11 #[.int .i64 d] w fun e w' => e = .returned (.bool true) ∧ Below w.heap.size w w' := by
  have hlen : (pdA d).length ≤ 1000000 := pdA_len d
  obtain ⟨L, hL⟩ : ∃ L : List Int, L = pdA d := ⟨_, rfl⟩
  obtain ⟨b, hb⟩ : ∃ b : Bool, b = pdB d := ⟨_, rfl⟩
  rw [← hL] at hlen
  have HL := Lib.hid hL
  have Hb := Lib.hid hb
  clear hL hb
  go_enter Try.func11, Try.ntmps11
  go_wp2_with fail
  refine (spec_PrimeDiscriminants d _).mono ?_
  rintro e w1 ⟨v0, rfl, h0, hB1⟩
  rw [← HL.out] at h0
  rw [← Hb.out]
  have hs1 := hB1.size
  go_wp2_with fail
  refine (impl_PrimeDiscriminants d _).mono ?_
  rintro e w2 ⟨v1, rfl, h1, hb2⟩
  rw [← HL.out] at h1
  rw [← Hb.out]
  have hB2 : Below w.heap.size w w2 := Below.after hB1 hb2
  have hs2 := hB2.size
  have hsep : v0.ownBlock = none ∨ v0.ownBlock ≠ v1.ownBlock := sep_of h0 h1
  have h0' := h0.below hb2
  clear h0 hb2 hB1
  have H0 := Lib.hid h0'
  have H1 := Lib.hid h1
  have Hsep := Lib.hid hsep
  clear h0' h1 hsep
  go_wp2_with fail
  refine (laws_eqIntS L v1 v0 w1.heap.size w.heap.size _ hlen H1.out H0.out).mono ?_
  rintro e w' ⟨rfl, n1, rfl⟩
  go_wp2_with fail
  refine (laws_markIntS L v1 w1.heap.size _ hlen (H1.out.drewN n1)).mono ?_
  rintro e w3 ⟨rfl, h3, hg3⟩
  have hB3 : Below w.heap.size w w3 := below_grown (below_drewN hB2 n1) ((H1.out.drewN n1).mono hs1) hg3 hs2
  have hs3 := hB3.size
  have H03 := Lib.hid (((H0.out.drewN n1)).kept hg3 Hsep.out)
  have H3 := Lib.hid h3
  clear h3 hg3
  go_wp2_with fail
  refine (laws_heldIntS L.length v1 w1.heap.size _ hlen H3.out).mono ?_
  rintro e w' ⟨rfl, rfl⟩
  go_wp2_with fail
  refine (impl_PrimeDiscriminants d _).mono ?_
  rintro e w4 ⟨v2, rfl, h4, hb4⟩
  rw [← HL.out] at h4
  rw [← Hb.out]
  have hB4 : Below w.heap.size w w4 := Below.after hB3 hb4
  have H04 := Lib.hid (H03.out.below hb4)
  have H34 := Lib.hid (H3.out.below hb4)
  have H4 := Lib.hid h4
  clear h4 hb4
  go_wp2_with fail
  refine (laws_eqIntS L v2 v0 _ w.heap.size _ hlen H4.out H04.out).mono ?_
  rintro e w' ⟨rfl, n2, rfl⟩
  go_wp2_with fail
  refine (laws_heldIntS L.length v1 w1.heap.size _ hlen (H34.out.drewN n2)).mono ?_
  rintro e w' ⟨rfl, rfl⟩
  go_wp2_with fail
  go_ret
  exact ⟨rfl, below_drewN hB4 n2⟩
end Go.Proofs.Ytafcbaganjcnlaa
