/- Contracts and walks: the least prime of a kind. -/
import Derived.Test.YtafcbaganjcnlaaK
namespace Go.Proofs.Ytafcbaganjcnlaa
set_option linter.unusedVariables false
open Go.ChangeShapes Go.WideShapes Go.ChangeAt Go.RowKit

noncomputable def lkGo (d k p : Int) : Int × Bool := if p ≤ 997 then (if primeB p = true ∧ kindV d p = k then (p, true) else lkGo d k (p + 1)) else (0, false)
termination_by (998 - p).toNat
decreasing_by omega
theorem lk_hit {d k p : Int} (h : p ≤ 997) (h1 : primeB p = true) (h2 : kindV d p = k) : lkGo d k p = (p, true) := by rw [lkGo, if_pos h, if_pos ⟨h1, h2⟩]
theorem lk_np {d k p : Int} (h : p ≤ 997) (h1 : primeB p = false) : lkGo d k p = lkGo d k (p + 1) := by rw [lkGo, if_pos h, if_neg (by simp [h1])]
theorem lk_nk {d k p : Int} (h : p ≤ 997) (h2 : ¬ kindV d p = k) : lkGo d k p = lkGo d k (p + 1) := by rw [lkGo, if_pos h, if_neg (by simp [h2])]
theorem lk_end {d k p : Int} (h : ¬ p ≤ 997) : lkGo d k p = (0, false) := by rw [lkGo, if_neg h]
noncomputable def lkV (d k : Int) : Int × Bool := if discB d = true ∧ 1 ≤ k ∧ k ≤ 4 then lkGo d k 2 else (0, false)
theorem lkV_yes {d k : Int} (h : discB d = true) (h1 : 1 ≤ k ∧ k ≤ 4) : lkV d k = lkGo d k 2 := by unfold lkV; rw [if_pos ⟨h, h1⟩]
theorem lkV_nd {d k : Int} (h : discB d = false) : lkV d k = (0, false) := by unfold lkV; rw [if_neg (by simp [h])]
theorem lkV_nk {d k : Int} (h1 : ¬ (1 ≤ k ∧ k ≤ 4)) : lkV d k = (0, false) := by unfold lkV; rw [if_neg (fun h => h1 h.2)]
theorem fst_of {a x : Int} {b y : Bool} (h : (a, b) = (x, y)) : a = x := congrArg Prod.fst h
theorem snd_of {a x : Int} {b y : Bool} (h : (a, b) = (x, y)) : b = y := congrArg Prod.snd h
theorem rpair {a x : Int} {b y : Bool} (h : (a, b) = (x, y)) : Ending.returned (.tuple #[.int .i64 a, .bool b]) = Ending.returned (.tuple #[.int .i64 x, .bool y]) := by rw [fst_of h, snd_of h]
theorem impl_LeastOfKind (d k x : Int) (b : Bool) (w : World) (hv : lkV d k = (x, b)) :
    Calls Try.prog 43 #[.int .i64 d, .int .i64 k] w fun e w' => e = .returned (.tuple #[.int .i64 x, .bool b]) ∧ Below w.heap.size w w' := by
  by_cases hd : discB d = true
  · by_cases hk : 1 ≤ k ∧ k ≤ 4
    · have Hv := Lib.hid ((lkV_yes hd hk).symm.trans hv)
      have Hk := Lib.hid (show (decide (1 ≤ k) && decide (k ≤ 4)) = true by simpa using hk)
      obtain ⟨k1, k2⟩ := hk
      clear hv
      have H := Lib.hid hd
      clear hd
      go_enter Try.func43, Try.ntmps43
      go_wp2_with fail
      refine (impl_isDiscriminant d true _ H.out).mono ?_
      rintro e w1 ⟨rfl, hb1⟩
      have hB1 : Below w.heap.size w w1 := Below.after (by go_grown) hb1
      obtain ⟨hc1, hf1⟩ := bcell hb1
      have hy1 := hb1.size
      try simp at hy1
      first | (with_reducible have hx1 := Nat.lt_of_succ_le hy1) | skip
      first | (with_reducible have hv1 := Nat.lt_of_succ_lt hx1) | skip
      first | (with_reducible have hu1 := Nat.lt_of_succ_lt hv1) | skip
      first | (have hz1 : w.heap.size < w1.heap.size := by omega) | (have hz1 := hB1.size)
      clear hb1
      
      go_wp2_with fail
      go_loopw [6] (fun pv wr => ∃ p : Int, pv = .int .i64 p ∧ 2 ≤ p ∧ p ≤ 998 ∧ lkGo d k p = (x, b) ∧ Below w.heap.size w wr) (fun pv _ => (998 - intOf pv).toNat)
      case atStart => exact ⟨2, rfl, by omega, by omega, Hv.out, by go_grown⟩
      case round =>
        obtain ⟨p, rfl, hp2, hp, hk, hB⟩ := hrel
        have hs := hB.size
        by_cases hle : p ≤ 997
        · by_cases h1 : primeB p = true
          · have H1 := Lib.hid h1
            by_cases h2 : kindV d p = k
            · have H2 := Lib.hid h2
              have Hr := Lib.hid ((lk_hit hle h1 h2).symm.trans hk)
              clear h1 h2 hk
              go_wp2_with fail
              refine (impl_isPrime p true _ (by omega) H1.out).mono ?_
              rintro e w' ⟨rfl, rfl⟩
              go_wp2_with fail
              refine (impl_kindOfPrime d p k _ H.out ⟨hp2, by omega⟩ H2.out).mono ?_
              rintro e w1 ⟨rfl, hb1⟩
              have hB1 : Below w.heap.size w w1 := Below.after hB hb1
              go_wp2_with fail
              go_ret2
              exact ⟨rpair Hr.out, hB1⟩
            · obtain ⟨y, hy⟩ : ∃ y, kindV d p = y := ⟨_, rfl⟩
              have bk : (y == k) = false := beqF (by rw [← hy]; exact h2)
              have Hy := Lib.hid hy
              have Hr := Lib.hid ((lk_nk hle h2).symm.trans hk)
              clear h1 h2 hk hy
              go_wp2_with fail
              refine (impl_isPrime p true _ (by omega) H1.out).mono ?_
              rintro e w' ⟨rfl, rfl⟩
              go_wp2_with fail
              refine (impl_kindOfPrime d p y _ H.out ⟨hp2, by omega⟩ Hy.out).mono ?_
              rintro e w1 ⟨rfl, hb1⟩
              have hB1 : Below w.heap.size w w1 := Below.after hB hb1
              have hs1 := hB1.size
              go_wp2_with fail
              go_roundw
              case rel => exact ⟨p + 1, by go_num, by omega, by omega, Hr.out, hB1⟩
              case measure => simp [intOf]; omega
          · have h1' : primeB p = false := by simpa using h1
            have H1 := Lib.hid h1'
            have Hr := Lib.hid ((lk_np hle h1').symm.trans hk)
            clear h1 h1' hk
            go_wp2_with fail
            refine (impl_isPrime p false _ (by omega) H1.out).mono ?_
            rintro e w' ⟨rfl, rfl⟩
            go_wp2_with fail
            go_roundw
            case rel => exact ⟨p + 1, by go_num, by omega, by omega, Hr.out, hB⟩
            case measure => simp [intOf]; omega
        · have Hr := Lib.hid ((lk_end hle).symm.trans hk)
          clear hk
          go_wp2_with fail
          go_ret2
          exact ⟨rpair Hr.out, hB⟩
    · have Hv := Lib.hid ((lkV_nk hk).symm.trans hv)
      have Hk := Lib.hid (show (decide (1 ≤ k) && decide (k ≤ 4)) = false by rw [← Bool.not_eq_true]; simpa using hk)
      clear hv
      have H := Lib.hid hd
      clear hd
      by_cases hlo : k < 1
      · go_enter Try.func43, Try.ntmps43
        go_wp2_with fail
        refine (impl_isDiscriminant d true _ H.out).mono ?_
        rintro e w1 ⟨rfl, hb1⟩
        have hB1 : Below w.heap.size w w1 := Below.after (by go_grown) hb1
        obtain ⟨hc1, hf1⟩ := bcell hb1
        have hy1 := hb1.size
        try simp at hy1
        first | (with_reducible have hx1 := Nat.lt_of_succ_le hy1) | skip
        first | (with_reducible have hv1 := Nat.lt_of_succ_lt hx1) | skip
        first | (with_reducible have hu1 := Nat.lt_of_succ_lt hv1) | skip
        first | (have hz1 : w.heap.size < w1.heap.size := by omega) | (have hz1 := hB1.size)
        clear hb1
        
        go_wp2_with fail
        go_ret2
        exact ⟨rpair Hv.out, by go_grown⟩
      · have hlo : 4 < k := by omega
        clear hk
        go_enter Try.func43, Try.ntmps43
        go_wp2_with fail
        refine (impl_isDiscriminant d true _ H.out).mono ?_
        rintro e w1 ⟨rfl, hb1⟩
        have hB1 : Below w.heap.size w w1 := Below.after (by go_grown) hb1
        obtain ⟨hc1, hf1⟩ := bcell hb1
        have hy1 := hb1.size
        try simp at hy1
        first | (with_reducible have hx1 := Nat.lt_of_succ_le hy1) | skip
        first | (with_reducible have hv1 := Nat.lt_of_succ_lt hx1) | skip
        first | (with_reducible have hu1 := Nat.lt_of_succ_lt hv1) | skip
        first | (have hz1 : w.heap.size < w1.heap.size := by omega) | (have hz1 := hB1.size)
        clear hb1
        
        go_wp2_with fail
        go_ret2
        exact ⟨rpair Hv.out, by go_grown⟩
  · have hd' : discB d = false := by simpa using hd
    have Hv := Lib.hid ((lkV_nd hd').symm.trans hv)
    have H := Lib.hid hd'
    clear hv hd hd'
    go_enter Try.func43, Try.ntmps43
    go_wp2_with fail
    refine (impl_isDiscriminant d false _ H.out).mono ?_
    rintro e w1 ⟨rfl, hb1⟩
    have hB1 : Below w.heap.size w w1 := Below.after (by go_grown) hb1
    obtain ⟨hc1, hf1⟩ := bcell hb1
    have hy1 := hb1.size
    try simp at hy1
    first | (with_reducible have hx1 := Nat.lt_of_succ_le hy1) | skip
    first | (with_reducible have hv1 := Nat.lt_of_succ_lt hx1) | skip
    first | (with_reducible have hu1 := Nat.lt_of_succ_lt hv1) | skip
    first | (have hz1 : w.heap.size < w1.heap.size := by omega) | (have hz1 := hB1.size)
    clear hb1
    go_wp2_with fail
    go_ret2
    exact ⟨rpair Hv.out, by go_grown⟩
theorem spec_LeastOfKind (d k x : Int) (b : Bool) (w : World) (hv : lkV d k = (x, b)) :
    Calls Try.prog 42 #[.int .i64 d, .int .i64 k] w fun e w' => e = .returned (.tuple #[.int .i64 x, .bool b]) ∧ Below w.heap.size w w' := by
  by_cases hd : discB d = true
  · by_cases hk : 1 ≤ k ∧ k ≤ 4
    · have Hv := Lib.hid ((lkV_yes hd hk).symm.trans hv)
      have Hk := Lib.hid (show (decide (1 ≤ k) && decide (k ≤ 4)) = true by simpa using hk)
      obtain ⟨k1, k2⟩ := hk
      clear hv
      have H := Lib.hid hd
      clear hd
      go_enter Try.func42, Try.ntmps42
      go_wp2_with fail
      refine (spec_diIs d true _ H.out).mono ?_
      rintro e w' ⟨rfl, rfl⟩
      go_wp2_with fail
      refine (spec_l1In k 1 4 true _ Hk.out).mono ?_
      rintro e w' ⟨rfl, rfl⟩
      go_wp2_with fail
      go_loopw [6] (fun pv wr => ∃ p : Int, pv = .int .i64 p ∧ 2 ≤ p ∧ p ≤ 998 ∧ lkGo d k p = (x, b) ∧ Below w.heap.size w wr) (fun pv _ => (998 - intOf pv).toNat)
      case atStart => exact ⟨2, rfl, by omega, by omega, Hv.out, by go_grown⟩
      case round =>
        obtain ⟨p, rfl, hp2, hp, hk, hB⟩ := hrel
        have hs := hB.size
        by_cases hle : p ≤ 997
        · by_cases h1 : primeB p = true
          · have H1 := Lib.hid h1
            by_cases h2 : kindV d p = k
            · have H2 := Lib.hid h2
              have Hr := Lib.hid ((lk_hit hle h1 h2).symm.trans hk)
              clear h1 h2 hk
              go_wp2_with fail
              refine (spec_nuPrime p true _ (by omega) H1.out).mono ?_
              rintro e w' ⟨rfl, rfl⟩
              go_wp2_with fail
              refine (spec_diKind d p k _ H.out ⟨hp2, by omega⟩ H2.out).mono ?_
              rintro e w1 ⟨rfl, hb1⟩
              have hB1 : Below w.heap.size w w1 := Below.after hB hb1
              go_wp2_with fail
              go_ret2
              exact ⟨rpair Hr.out, hB1⟩
            · obtain ⟨y, hy⟩ : ∃ y, kindV d p = y := ⟨_, rfl⟩
              have bk : (y == k) = false := beqF (by rw [← hy]; exact h2)
              have Hy := Lib.hid hy
              have Hr := Lib.hid ((lk_nk hle h2).symm.trans hk)
              clear h1 h2 hk hy
              go_wp2_with fail
              refine (spec_nuPrime p true _ (by omega) H1.out).mono ?_
              rintro e w' ⟨rfl, rfl⟩
              go_wp2_with fail
              refine (spec_diKind d p y _ H.out ⟨hp2, by omega⟩ Hy.out).mono ?_
              rintro e w1 ⟨rfl, hb1⟩
              have hB1 : Below w.heap.size w w1 := Below.after hB hb1
              have hs1 := hB1.size
              go_wp2_with fail
              go_roundw
              case rel => exact ⟨p + 1, by go_num, by omega, by omega, Hr.out, hB1⟩
              case measure => simp [intOf]; omega
          · have h1' : primeB p = false := by simpa using h1
            have H1 := Lib.hid h1'
            have Hr := Lib.hid ((lk_np hle h1').symm.trans hk)
            clear h1 h1' hk
            go_wp2_with fail
            refine (spec_nuPrime p false _ (by omega) H1.out).mono ?_
            rintro e w' ⟨rfl, rfl⟩
            go_wp2_with fail
            go_roundw
            case rel => exact ⟨p + 1, by go_num, by omega, by omega, Hr.out, hB⟩
            case measure => simp [intOf]; omega
        · have Hr := Lib.hid ((lk_end hle).symm.trans hk)
          clear hk
          go_wp2_with fail
          go_ret2
          exact ⟨rpair Hr.out, hB⟩
    · have Hv := Lib.hid ((lkV_nk hk).symm.trans hv)
      have Hk := Lib.hid (show (decide (1 ≤ k) && decide (k ≤ 4)) = false by rw [← Bool.not_eq_true]; simpa using hk)
      clear hv
      have H := Lib.hid hd
      clear hd
      by_cases hlo : k < 1
      · go_enter Try.func42, Try.ntmps42
        go_wp2_with fail
        refine (spec_diIs d true _ H.out).mono ?_
        rintro e w' ⟨rfl, rfl⟩
        go_wp2_with fail
        refine (spec_l1In k 1 4 false _ Hk.out).mono ?_
        rintro e w' ⟨rfl, rfl⟩
        go_wp2_with fail
        go_ret2
        exact ⟨rpair Hv.out, by go_grown⟩
      · have hlo : 4 < k := by omega
        clear hk
        go_enter Try.func42, Try.ntmps42
        go_wp2_with fail
        refine (spec_diIs d true _ H.out).mono ?_
        rintro e w' ⟨rfl, rfl⟩
        go_wp2_with fail
        refine (spec_l1In k 1 4 false _ Hk.out).mono ?_
        rintro e w' ⟨rfl, rfl⟩
        go_wp2_with fail
        go_ret2
        exact ⟨rpair Hv.out, by go_grown⟩
  · have hd' : discB d = false := by simpa using hd
    have Hv := Lib.hid ((lkV_nd hd').symm.trans hv)
    have H := Lib.hid hd'
    clear hv hd hd'
    go_enter Try.func42, Try.ntmps42
    go_wp2_with fail
    refine (spec_diIs d false _ H.out).mono ?_
    rintro e w' ⟨rfl, rfl⟩
    go_wp2_with fail
    go_ret2
    exact ⟨rpair Hv.out, by go_grown⟩
theorem walkLeastOfKind (d k : Int) (w : World) (wd : (Lit.int .i64 d).wf = true) (wk : (Lit.int .i64 k).wf = true) :
    Calls Try.prog 13 #[.int .i64 d, .int .i64 k] w fun e w' => e = .returned (.bool true) ∧ Below w.heap.size w w' := by
  obtain ⟨⟨x, b⟩, hv⟩ : ∃ v, lkV d k = v := ⟨_, rfl⟩
  have Hv := Lib.hid hv
  clear hv
  cases b with
  | true =>
    go_enter Try.func13, Try.ntmps13
    go_wp2_with fail
    refine (spec_LeastOfKind d k x true _ Hv.out).mono ?_
    rintro e w1 ⟨rfl, hb1⟩
    have hB1 : Below w.heap.size w w1 := Below.after (by go_grown) hb1
    obtain ⟨hc1, hf1⟩ := bcell hb1
    have hy1 := hb1.size
    try simp at hy1
    first | (with_reducible have hx1 := Nat.lt_of_succ_le hy1) | skip
    first | (with_reducible have hv1 := Nat.lt_of_succ_lt hx1) | skip
    first | (with_reducible have hu1 := Nat.lt_of_succ_lt hv1) | skip
    first | (have hz1 : w.heap.size < w1.heap.size := by omega) | (have hz1 := hB1.size)
    clear hb1
    go_wp2_with fail
    refine (impl_LeastOfKind d k x true _ Hv.out).mono ?_
    rintro e w2 ⟨rfl, hb2⟩
    have hB2 : Below w.heap.size w w2 := Below.after (by go_grown) hb2
    obtain ⟨hc2, hf2⟩ := bcell hb2
    have hy2 := hb2.size
    try simp at hy2
    first | (with_reducible have hx2 := Nat.lt_of_succ_le hy2) | skip
    first | (with_reducible have hv2 := Nat.lt_of_succ_lt hx2) | skip
    first | (with_reducible have hu2 := Nat.lt_of_succ_lt hv2) | skip
    first | (have hz2 : w.heap.size < w2.heap.size := by omega) | (have hz2 := hB2.size)
    first | (have hq2 : w1.heap.size ≤ w2.heap.size := by omega) | skip
    first | (have hx1_2 := Nat.lt_of_lt_of_le hx1 hq2) | skip
    first | (have hv1_2 := Nat.lt_of_lt_of_le hv1 hq2) | skip
    first | (have hu1_2 := Nat.lt_of_lt_of_le hu1 hq2) | skip
    clear hb2
    go_wp2_with fail
    go_ret
    exact ⟨rfl, by go_grown⟩
  | false =>
    go_enter Try.func13, Try.ntmps13
    go_wp2_with fail
    refine (spec_LeastOfKind d k x false _ Hv.out).mono ?_
    rintro e w1 ⟨rfl, hb1⟩
    have hB1 : Below w.heap.size w w1 := Below.after (by go_grown) hb1
    obtain ⟨hc1, hf1⟩ := bcell hb1
    have hy1 := hb1.size
    try simp at hy1
    first | (with_reducible have hx1 := Nat.lt_of_succ_le hy1) | skip
    first | (with_reducible have hv1 := Nat.lt_of_succ_lt hx1) | skip
    first | (with_reducible have hu1 := Nat.lt_of_succ_lt hv1) | skip
    first | (have hz1 : w.heap.size < w1.heap.size := by omega) | (have hz1 := hB1.size)
    clear hb1
    go_wp2_with fail
    refine (impl_LeastOfKind d k x false _ Hv.out).mono ?_
    rintro e w2 ⟨rfl, hb2⟩
    have hB2 : Below w.heap.size w w2 := Below.after (by go_grown) hb2
    obtain ⟨hc2, hf2⟩ := bcell hb2
    have hy2 := hb2.size
    try simp at hy2
    first | (with_reducible have hx2 := Nat.lt_of_succ_le hy2) | skip
    first | (with_reducible have hv2 := Nat.lt_of_succ_lt hx2) | skip
    first | (with_reducible have hu2 := Nat.lt_of_succ_lt hv2) | skip
    first | (have hz2 : w.heap.size < w2.heap.size := by omega) | (have hz2 := hB2.size)
    first | (have hq2 : w1.heap.size ≤ w2.heap.size := by omega) | skip
    first | (have hx1_2 := Nat.lt_of_lt_of_le hx1 hq2) | skip
    first | (have hv1_2 := Nat.lt_of_lt_of_le hv1 hq2) | skip
    first | (have hu1_2 := Nat.lt_of_lt_of_le hu1 hq2) | skip
    clear hb2
    go_wp2_with fail
    go_ret
    exact ⟨rfl, by go_grown⟩
end Go.Proofs.Ytafcbaganjcnlaa
