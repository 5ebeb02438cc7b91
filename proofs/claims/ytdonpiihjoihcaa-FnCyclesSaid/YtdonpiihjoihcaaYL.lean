/- The law FnCycles, with the contracts of its comparisons and of its drawn discriminant. -/
import Derived.Test.YtdonpiihjoihcaaYM
import Derived.Test.YtdonpiihjoihcaaCI
import Derived.Test.YtdonpiihjoihcaaDR
import Derived.Test.YtdonpiihjoihcaaYX
import Derived.Test.YtdonpiihjoihcaaYP
namespace Go.Proofs.Ytdonpiihjoihcaa
set_option linter.unusedVariables false
open Go.ChangeShapes Go.WideShapes Go.ChangeAt Go.RowKit

theorem laws_qHas (l : List Fm) (u : Value) (a b c : Int) (B : Nat) (v : Bool) (w : World) (hl : l.length ≤ 1000000) (hu : Fms w B u l) (hv : decide ((⟨a, b, c⟩ : Fm) ∈ l) = v) :
    Calls Try.prog 31 #[u, .agg #[.int .i64 a, .int .i64 b, .int .i64 c]] w fun e w' => e = .returned (.bool v) ∧ Below w.heap.size w w' := by
  obtain ⟨p, cp, rfl, _, hr⟩ := hu.view
  have Hr := Lib.hid hr
  have Hv := Lib.hid hv
  clear hr hu hv
  go_enter Try.func31, Try.ntmps31
  go_wp2_with fail
  go_loopw [9] (fun i wr => (∃ k : Nat, i = .int .i64 k ∧ k ≤ l.length ∧ decide ((⟨a, b, c⟩ : Fm) ∈ l.drop k) = v) ∧ Below w.heap.size w wr ∧ Holds wr w.heap.size (cF ⟨a, b, c⟩) 28) (fun i _ => l.length - (intOf i).toNat)
  case atStart => exact ⟨⟨0, rfl, by omega, by rw [List.drop_zero]; exact Hv.out⟩, by go_grown, Holds.new _ _ _⟩
  case round =>
    obtain ⟨⟨k, rfl, hk, hd⟩, hB, h1⟩ := hrel
    have Hd := Lib.hid hd
    have H1 := Lib.hid h1
    have hz := h1.lt
    clear hd
    by_cases hlt : k < l.length
    · obtain ⟨g, rfl, _, hg1, hc0, hc1, hc2, _⟩ := Hr.out k hlt
      rcases hx : l[k] with ⟨xa, xb, xc⟩
      rw [hx] at hc0 hc1 hc2
      have Hx := Lib.hid hx
      clear hx
      have d0 : wr.cell? ⟨g, k * 3, none⟩ = some (.int .i64 xa) := (hB.cell (p := ⟨g, k * 3, none⟩) hg1).trans hc0
      have d1 : wr.cell? ⟨g, k * 3 + 1, none⟩ = some (.int .i64 xb) := (hB.cell (p := ⟨g, k * 3 + 1, none⟩) hg1).trans hc1
      have d2 : wr.cell? ⟨g, k * 3 + 2, none⟩ = some (.int .i64 xc) := (hB.cell (p := ⟨g, k * 3 + 2, none⟩) hg1).trans hc2
      have y0 : wr.cell? ⟨w.heap.size, 0, none⟩ = some (.int .i64 a) := Holds.cell h1 rfl
      have y1 : wr.cell? ⟨w.heap.size, 1, none⟩ = some (.int .i64 b) := Holds.cell h1 rfl
      have y2 : wr.cell? ⟨w.heap.size, 2, none⟩ = some (.int .i64 c) := Holds.cell h1 rfl
      have yf0 : wr.frozen? ⟨w.heap.size, 0, none⟩ = false := Holds.free h1
      have yf1 : wr.frozen? ⟨w.heap.size, 1, none⟩ = false := Holds.free h1
      have yf2 : wr.frozen? ⟨w.heap.size, 2, none⟩ = false := Holds.free h1
      clear hc0 hc1 hc2 h1
      by_cases he : (⟨xa, xb, xc⟩ : Fm) = ⟨a, b, c⟩
      · obtain ⟨e1, e2, e3⟩ := fm_eq he
        obtain rfl : v = true := by rw [← Hd.out]; exact mem_drop_here hlt Hx.out he
        clear he
        go_wp2_with fail
        go_ret
        exact ⟨rfl, by go_grown⟩
      · have Hd' := Lib.hid ((mem_drop_step hlt Hx.out he).symm.trans Hd.out)
        rcases fm_ne he with e1 | ⟨e1, e2⟩ | ⟨e1, e2, e3⟩
        all_goals
          clear he
          go_wp2_with fail
          go_roundw
          case rel => exact ⟨⟨k + 1, by go_num, by omega, Hd'.out⟩, by go_grown, H1.out.alloc _⟩
          case measure => simp [intOf]; omega
    · obtain rfl : k = l.length := by omega
      obtain rfl : v = false := by rw [← Hd.out]; simp
      clear h1
      go_wp2_with fail
      go_ret
      exact ⟨rfl, hB⟩
theorem laws_qForms (l : List Fm) (u v : Value) (B B' : Nat) (w : World) (hl : l.length ≤ 1000000) (hu : Fms w B u l) (hv : Fms w B' v l) :
    Calls Try.prog 76 #[u, v] w fun e w' => e = .returned (.bool true) ∧ Below w.heap.size w w' := by
  obtain ⟨p, c, rfl, _, hr⟩ := hu.view
  obtain ⟨p', c', rfl, _, hr'⟩ := hv.view
  have Hr := Lib.hid hr
  have Hr' := Lib.hid hr'
  clear hr hr' hu hv
  go_enter Try.func76, Try.ntmps76
  go_wp2_with fail
  go_loopw [13] (fun i wr => (∃ k : Nat, i = .int .i64 k ∧ k ≤ l.length) ∧ Below w.heap.size w wr) (fun i _ => l.length - (intOf i).toNat)
  case atStart => exact ⟨⟨0, rfl, by omega⟩, Below.refl _ _⟩
  case round =>
    obtain ⟨⟨k, rfl, hk⟩, hB⟩ := hrel
    by_cases hlt : k < l.length
    · obtain ⟨g, rfl, _, hg1, hc0, hc1, hc2, _⟩ := Hr.out k hlt
      obtain ⟨g', rfl, _, hg1', hc0', hc1', hc2', _⟩ := Hr'.out k hlt
      rcases hx : l[k] with ⟨xa, xb, xc⟩
      rw [hx] at hc0 hc1 hc2 hc0' hc1' hc2'
      have q0 : ∀ x : Aft wr, x.w.cell? ⟨g, k * 3, none⟩ = some (.int .i64 xa) := fun x => x.cell (by have := hB.size; omega) ((hB.cell (p := ⟨g, k * 3, none⟩) hg1).trans hc0)
      have q1 : ∀ x : Aft wr, x.w.cell? ⟨g, k * 3 + 1, none⟩ = some (.int .i64 xb) := fun x => x.cell (by have := hB.size; omega) ((hB.cell (p := ⟨g, k * 3 + 1, none⟩) hg1).trans hc1)
      have q2 : ∀ x : Aft wr, x.w.cell? ⟨g, k * 3 + 2, none⟩ = some (.int .i64 xc) := fun x => x.cell (by have := hB.size; omega) ((hB.cell (p := ⟨g, k * 3 + 2, none⟩) hg1).trans hc2)
      have q0' : ∀ x : Aft wr, x.w.cell? ⟨g', k * 3, none⟩ = some (.int .i64 xa) := fun x => x.cell (by have := hB.size; omega) ((hB.cell (p := ⟨g', k * 3, none⟩) hg1').trans hc0')
      have q1' : ∀ x : Aft wr, x.w.cell? ⟨g', k * 3 + 1, none⟩ = some (.int .i64 xb) := fun x => x.cell (by have := hB.size; omega) ((hB.cell (p := ⟨g', k * 3 + 1, none⟩) hg1').trans hc1')
      have q2' : ∀ x : Aft wr, x.w.cell? ⟨g', k * 3 + 2, none⟩ = some (.int .i64 xc) := fun x => x.cell (by have := hB.size; omega) ((hB.cell (p := ⟨g', k * 3 + 2, none⟩) hg1').trans hc2')
      clear hc0 hc1 hc2 hc0' hc1' hc2' hx hg1 hg1'
      go_wp2_with fail
      refine region_aft (by kernel_rfl) (by kernel_rfl) ?_
      repeat go_big_quiet_step (fail)
      refine wpQuiet_nil ?_
      intro w1 hb1
      have hB1 : Below w.heap.size w w1 := Below.after hB hb1
      clear hb1 hB q0 q1 q2 q0' q1' q2'
      go_wp2_with fail
      go_roundw
      case rel => exact ⟨⟨k + 1, by go_num, by omega⟩, hB1⟩
      case measure => simp [intOf]; omega
    · go_wp2_with fail
      go_ret
      exact ⟨rfl, hB⟩
theorem laws_qGroups (L : List (List Fm)) (u v : Value) (B N B' N' : Nat) (w : World) (hL : SmallL L) (hu : Outs w B N u L) (hv : Outs w B' N' v L) :
    Calls Try.prog 26 #[u, v] w fun e w' => e = .returned (.bool true) ∧ Below w.heap.size w w' := by
  obtain ⟨p, c, rfl, _, hr⟩ := hu.view
  obtain ⟨p', c', rfl, _, hr'⟩ := hv.view
  have hl := hL.1
  have HL := Lib.hid hL
  have Hr := Lib.hid hr
  have Hr' := Lib.hid hr'
  clear hr hr' hu hv hL
  go_enter Try.func26, Try.ntmps26
  go_wp2_with fail
  go_loopw [13] (fun i wr => (∃ k : Nat, i = .int .i64 k ∧ k ≤ L.length) ∧ Below w.heap.size w wr) (fun i _ => L.length - (intOf i).toNat)
  case atStart => exact ⟨⟨0, rfl, by omega⟩, Below.refl _ _⟩
  case round =>
    obtain ⟨⟨k, rfl, hk⟩, hB⟩ := hrel
    by_cases hlt : k < L.length
    · obtain ⟨g, x, rfl, _, hg1, hc0, _, hx⟩ := Hr.out k hlt
      obtain ⟨g', x', rfl, _, hg1', hc0', _, hx'⟩ := Hr'.out k hlt
      have hlk := HL.out.2 L[k] (List.getElem_mem _)
      have q0 : ∀ y : Aft wr, y.w.cell? ⟨g, k, none⟩ = some x := fun y => y.cell (by have := hB.size; omega) ((hB.cell (p := ⟨g, k, none⟩) hg1).trans hc0)
      have q0' : ∀ y : Aft wr, y.w.cell? ⟨g', k, none⟩ = some x' := fun y => y.cell (by have := hB.size; omega) ((hB.cell (p := ⟨g', k, none⟩) hg1').trans hc0')
      have HX := Lib.hid (fun y : Aft wr => (hx.below hB).below y.below)
      have HX' := Lib.hid (fun y : Aft wr => (hx'.below hB).below y.below)
      clear hc0 hc0' hx hx' hg1 hg1'
      go_wp2_with fail
      refine region_aft (by kernel_rfl) (by kernel_rfl) ?_
      repeat go_big_quiet_step ((go_at_call 76; exact callsAft (laws_qForms L[k] _ _ _ _ _ (by omega) (HX.out _) (HX'.out _))))
      refine wpQuiet_nil ?_
      intro w1 hb1
      have hB1 : Below w.heap.size w w1 := Below.after hB hb1
      clear hb1 hB q0 q0'
      go_wp2_with fail
      go_roundw
      case rel => exact ⟨⟨k + 1, by go_num, by omega⟩, hB1⟩
      case measure => simp [intOf]; omega
    · go_wp2_with fail
      go_ret
      exact ⟨rfl, hB⟩
theorem cur_positive (c N m : Nat) (w : World) (hm : m ≤ 1000000) (hN : N ≤ w.heap.size) (h : CurW w c N m) :
    Calls Try.prog 114 #[.pointer (some ⟨c, 0, none⟩)] w fun e w' => ∃ v : Int, e = .returned (.int .i64 v) ∧ I64 v ∧ CurW w' c N (m + 10) ∧ w.grownBy w' (some c) := by
  have H := Lib.hid h
  have HG0 := Lib.hid (grow_drewN w 0 (some c))
  clear h
  go_enter Try.func114, Try.ntmps114
  go_wp2_with fail
  refine (cur_pick 10 c N m _ (by omega) (by omega) hN H.out).mono ?_
  rintro e w1 ⟨x1, rfl, a1, b1, hc, hg⟩
  have hz1 := hg.size
  have HC1 := Lib.hid hc
  have HG1 := Lib.hid (cg_trans HG0.out hg)
  clear hc hg
  by_cases e0 : x1 = 0
  · have f0 := beqT e0
    clear e0
    go_wp2_with fail
    refine (cur_lit [4, 9, 1000, 1001, 0, -3, 5, 997, 1004, 996, 2, 1099511627776] _ rfl (by simp) (by simp) c N (m + 2) _ (by omega) (by omega) HC1.out).mono ?_
    rintro e w2 ⟨v, rfl, hv, hc, hg⟩
    have hb : I64 v := by unfold I64; simp at hv; omega
    have HC := Lib.hid hc
    have HG := Lib.hid (cg_trans HG1.out hg)
    clear hc hg hv
    go_wp2_with fail
    go_ret
    exact ⟨v, rfl, hb, HC.out.up (by omega), HG.out⟩
  · have f0 := beqF e0
    by_cases e3 : x1 = 1 ∨ x1 = 2
    · have f3 : (x1 == 1) = true ∨ ((x1 == 1) = false ∧ (x1 == 2) = true) := by
        rcases e3 with e | e
        · exact .inl (beqT e)
        · exact .inr ⟨beqF (by omega), beqT e⟩
      clear e0 e3
      rcases f3 with f3 | ⟨f3, f4⟩
      all_goals
        go_wp2_with fail
        refine (cur_lit [5, 8, 12, 13, 60, 136, 221, 229, 257, 316, 401, 520, 780, 840, 924] _ rfl (by simp) (by simp) c N (m + 2) _ (by omega) (by omega) HC1.out).mono ?_
        rintro e w2 ⟨v, rfl, hv, hc, hg⟩
        have hb : I64 v := by unfold I64; simp at hv; omega
        have HC := Lib.hid hc
        have HG := Lib.hid (cg_trans HG1.out hg)
        clear hc hg hv
        go_wp2_with fail
        go_ret
        exact ⟨v, rfl, hb, HC.out.up (by omega), HG.out⟩
    · have f3 := beqF (show ¬ x1 = 1 by omega)
      have f4 := beqF (show ¬ x1 = 2 by omega)
      clear e0 e3
      go_wp2_with fail
      refine (cur_pick 240 c N (m + 2) _ (by omega) (by omega) (by omega) HC1.out).mono ?_
      rintro e w2 ⟨x2, rfl, a2, b2, hc, hg⟩
      have hz2 := hg.size
      have HC2 := Lib.hid hc
      have HG2 := Lib.hid (cg_trans HG1.out hg)
      clear hc hg
      have hb2 : x2 ≤ 239 := by omega
      go_wp2_with fail
      refine (cur_one 2 c N (m + 2 + 2) _ (by omega) (by omega) (by omega) HC2.out).mono ?_
      rintro e w3 ⟨b, rfl, hc, hg⟩
      have HC3 := Lib.hid hc
      have HG3 := Lib.hid (cg_trans HG2.out hg)
      clear hc hg
      cases b with
      | true =>
        go_wp2_with fail
        go_ret
        exact ⟨_, rfl, ⟨by omega, by omega⟩, HC3.out.up (by omega), HG3.out⟩
      | false =>
        go_wp2_with fail
        go_ret
        exact ⟨_, rfl, ⟨by omega, by omega⟩, HC3.out.up (by omega), HG3.out⟩
theorem draw_IF (sv : Value) (w : World) (h : BytesAt w w.heap.size sv) :
    Calls Try.prog 71 #[sv] w fun e w' => ∃ d : Int, e = .returned (.int .i64 d) ∧ I64 d ∧ Below w.heap.size w w' := by
  have H := Lib.hid (cur_new h)
  have HG0 := Lib.hid (grow_alloc w (.cells #[sv, .int .i64 0, .int .u64 0] 110) (some w.heap.size))
  have hz0 : w.heap.size ≤ (w.alloc (.cells #[sv, .int .i64 0, .int .u64 0] 110)).heap.size := by simp
  obtain ⟨p, len, cap, rfl, hlen, hbt⟩ := h
  clear hbt
  go_enter Try.func71, Try.ntmps71
  go_wp2_with fail
  refine (cur_positive w.heap.size w.heap.size 0 _ (by omega) (by simp) H.out).mono ?_
  rintro e w1 ⟨d, rfl, hd, hc, hg⟩
  have hz1 : w.heap.size ≤ w1.heap.size := Nat.le_trans hz0 hg.size
  have HC1 := Lib.hid hc
  have HG1 := Lib.hid (cg_trans HG0.out hg)
  clear hc hg
  go_wp2_with fail
  go_ret
  exact ⟨d, rfl, hd, below_of_cur HG1.out⟩
theorem draw_Cyc (sv : Value) (w : World) (h : BytesAt w w.heap.size sv) :
    Calls Try.prog 23 #[sv] w fun e w' => ∃ d : Int, e = .returned (.int .i64 d) ∧ I64 d ∧ Below w.heap.size w w' := by
  have H := Lib.hid h
  obtain ⟨p, len, cap, rfl, hlen, hbt⟩ := h
  clear hbt
  go_enter Try.func23, Try.ntmps23
  go_wp2_with fail
  refine (draw_IF _ _ H.out).mono ?_
  rintro e w1 ⟨d, rfl, hd, hB⟩
  go_wp2_with fail
  go_ret
  exact ⟨d, rfl, hd, hB⟩
end Go.Proofs.Ytdonpiihjoihcaa
namespace Go.Proofs.Ytdonpiihjoihcaa
set_option linter.unusedVariables false
open Go.ChangeShapes Go.WideShapes Go.ChangeAt Go.RowKit

theorem isRow_lenY {k : IntKind} {W : World} {a : Option Addr} {len cap : Nat} {zs : List Int} (h : IsRow k W a len cap zs) : len ≤ maxLen := by
  rcases h with ⟨_, rfl, _⟩ | ⟨x, _, h1, h2, _⟩
  · exact Nat.zero_le _
  · omega
/-- how many forms the first k cycles hold -/
def cntL (L : List (List Fm)) (k : Nat) : Nat := (L.take k).flatten.length
theorem cntL_succ {L : List (List Fm)} {k : Nat} (hk : k < L.length) : cntL L (k + 1) = cntL L k + L[k].length := by
  unfold cntL
  rw [List.take_add_one, List.flatten_append, List.length_append]
  simp [hk]
theorem cntL_le (L : List (List Fm)) (k : Nat) : cntL L k ≤ L.flatten.length := by
  unfold cntL
  conv => rhs; rw [← List.take_append_drop k L, List.flatten_append, List.length_append]
  omega
/-- what the walk meets at the form j of the cycle k -/
structure AtF (d : Int) (L : List (List Fm)) (k j : Nat) (f : Fm) (jn : Nat) (g : Fm) : Prop where
  ind : indefB f.a f.b f.c = true
  mem : f ∈ allF d
  nxt : nx f = g
  num : ((j : Int) + 1) % ((L.getD k []).length : Int) = (jn : Int)
  lt : jn < (L.getD k []).length
  at' : (L.getD k [])[jn]? = some g
theorem atF {d : Int} (hd : posD d = true) {k j : Nat} {f : Fm} (hk : k < (cysD d).length) (hj : j < (cysD d)[k].length) (hf : (cysD d)[k][j] = f) : ∃ jn g, AtF d (cysD d) k j f jn g := by
  obtain ⟨f0, h0, h1, e⟩ := cys_mem hd (List.getElem_mem hk)
  have eg : (cysD d).getD k [] = (cysD d)[k] := by simp [List.getD_eq_getElem?_getD, hk]
  have hfm : f ∈ cyc f0 := by rw [← e, ← hf]; exact List.getElem_mem _
  have hcy := (cyc_mem h1 hfm).1
  have hjn : (j + 1) % (cysD d)[k].length < (cysD d)[k].length := Nat.mod_lt _ (by omega)
  refine ⟨(j + 1) % (cysD d)[k].length, (cysD d)[k][(j + 1) % (cysD d)[k].length], hcy.1.1, cyc_all hd h0 hfm, ?_, ?_, ?_, ?_⟩
  · subst hf
    have key : ∀ (m : List Fm) (hm : m = cyc f0) (hj : j < m.length), nx m[j] = m[(j + 1) % m.length]'(Nat.mod_lt _ (by omega)) := by
      intro m hm hj
      subst hm
      exact cyc_next h1 hj
    exact key _ e hj
  · rw [eg, Int.natCast_emod]; rfl
  · rw [eg]; exact hjn
  · rw [eg, List.getElem?_eq_getElem hjn]
set_option maxRecDepth 100000 in
set_option maxHeartbeats 4000000 in
theorem walkCycles (a0 : Option Addr) (len0 cap0 : Nat) (z0 : List Int) (a1 : Option Addr) (len1 cap1 : Nat) (z1 : List Int) (w : World) (w0 : IsRow .u8 w a0 len0 cap0 z0) (w1 : IsRow .u8 w a1 len1 cap1 z1) :
    Calls Try.prog 5 #[.slice a0 len0 cap0, .slice a1 len1 cap1] w fun e w' => e = .returned (.bool true) ∧ Below w.heap.size w w' := by
  have l0 := isRow_lenY w0
  have l1 := isRow_lenY w1
  cases hv : (decide (1048576 < (len0 : Int)) || decide (1048576 - (len0 : Int) < (len1 : Int))) with
  | true =>
    have Hv := Lib.hid hv
    clear hv w0 w1
    go_enter Try.func5, Try.ntmps5
    go_wp2_with fail
    refine (laws_big _ _ _ _ _ _ true _ l0 l1 Hv.out).mono ?_
    rintro e w' ⟨rfl, rfl⟩
    go_wp2_with fail
    go_ret
    exact ⟨rfl, by go_grown⟩
  | false =>
    have h2 : len0 ≤ 1048576 ∧ len1 ≤ 1048576 := by simp at hv; omega
    have HA := Lib.hid (bytes_of w0 h2.1)
    have Hv := Lib.hid hv
    clear hv w0 w1 h2 z0 z1
    go_enter Try.func5, Try.ntmps5
    go_wp2_with fail
    refine (laws_big _ _ _ _ _ _ false _ l0 l1 Hv.out).mono ?_
    rintro e w' ⟨rfl, rfl⟩
    go_wp2_with fail
    refine (draw_Cyc _ _ HA.out).mono ?_
    rintro e wa ⟨d, rfl, ⟨d1, d2⟩, hBa⟩
    clear HA
    cases hd : posD d with
    | false =>
      have H := Lib.hid (show CysOut d [] false from .inr ⟨hd, rfl, rfl⟩)
      clear hd
      go_wp2_with fail
      refine (impl_CyclesOf d [] false _ H.out).mono ?_
      rintro e wb ⟨u, rfl, hu, hbb⟩
      have hBb : Below w.heap.size w wb := Below.after hBa hbb
      have HU := Lib.hid hu
      clear hbb hBa hu
      go_wp2_with fail
      refine (spec_CyclesOf d [] false _ H.out).mono ?_
      rintro e wc ⟨v, rfl, hv, hbc⟩
      have hBc : Below w.heap.size w wc := Below.after hBb hbc
      have HU2 := Lib.hid (HU.out.below hbc)
      have HV := Lib.hid hv
      clear hbc hBb hv HU
      go_wp2_with fail
      refine (laws_qGroups [] u v _ _ _ _ _ (by simp [SmallL]) HU2.out HV.out).mono ?_
      rintro e wd ⟨rfl, hbd⟩
      have hBd : Below w.heap.size w wd := Below.after hBc hbd
      clear hbd hBc HU2 HV
      go_wp2_with fail
      go_ret
      exact ⟨rfl, hBd⟩
    | true =>
      have HD := Lib.hid hd
      have H := Lib.hid (show CysOut d (cysD d) true from .inl ⟨hd, rfl, rfl⟩)
      have HI := Lib.hid (show IndOut d (allF d) true from .inl ⟨hd, rfl, rfl⟩)
      have HS := Lib.hid (cysD_small hd)
      have hsm : (cysD d).length ≤ 1953 := by have h1 := (cysI_all hd).len; have h2 := allF_len2 hd; omega
      have hcount := cys_count hd
      have hal := allF_len2 hd
      have HAt := Lib.hid (fun k j f hk hj hf => atF (k := k) (j := j) (f := f) hd hk hj hf)
      have hwide := fun w => impl_Wide_yes d w hd
      obtain ⟨n, v, hun⟩ := unOut_ex d
      have hnv : v = false ∨ (v = true ∧ ((n = -1 ∧ wideN (cysD d) (cysD d).length = (cysD d).length) ∨ (n ≠ -1 ∧ 2 * wideN (cysD d) (cysD d).length = (cysD d).length))) := by
        cases v with
        | false => exact .inl rfl
        | true => exact .inr ⟨rfl, unit_wide hd hun⟩
      have hwl := wideN_le (cysD d) (cysD d).length
      have HUn := Lib.hid hun
      obtain ⟨L, hL⟩ : ∃ L, cysD d = L := ⟨_, rfl⟩
      rw [hL] at H HS hsm hcount hwide hnv hwl
      have HAt' : Hid (∀ k j f (hk : k < L.length) (hj : j < L[k].length), L[k][j] = f → ∃ jn g, AtF d L k j f jn g) := by
        subst hL; exact HAt
      obtain ⟨F, hF⟩ : ∃ F, allF d = F := ⟨_, rfl⟩
      have HFe := Lib.hid hF
      rw [hF] at HI hcount hal
      obtain ⟨wn, hwn⟩ : ∃ wn, wideN L L.length = wn := ⟨_, rfl⟩
      rw [hwn] at hwide hnv hwl
      have HW := Lib.hid hwide
      have HC := Lib.hid hcount
      have HN := Lib.hid hnv
      clear hd hun hL hF HAt hwide hwn hcount hnv
      go_wp2_with fail
      refine (impl_CyclesOf d L true _ H.out).mono ?_
      rintro e wb ⟨u, rfl, hu, hbb⟩
      have hBb : Below w.heap.size w wb := Below.after hBa hbb
      have HU := Lib.hid hu
      clear hbb hBa hu
      go_wp2_with fail
      refine (spec_CyclesOf d L true _ H.out).mono ?_
      rintro e wc ⟨v', rfl, hv, hbc⟩
      have hBc : Below w.heap.size w wc := Below.after hBb hbc
      have HU2 := Lib.hid (HU.out.below hbc)
      have HV := Lib.hid hv
      clear hbc hBb hv HU
      go_wp2_with fail
      refine (laws_qGroups L u v' _ _ _ _ _ HS.out HU2.out HV.out).mono ?_
      rintro e wd ⟨rfl, hbd⟩
      have hBd : Below w.heap.size w wd := Below.after hBc hbd
      have HU3 := Lib.hid (HU2.out.below hbd)
      clear hbd hBc HU2 HV
      go_wp2_with fail
      refine (impl_IndefiniteForms d F true _ HI.out).mono ?_
      rintro e we ⟨fu, rfl, hfu, hbe⟩
      have hBe : Below w.heap.size w we := Below.after hBd hbe
      have HU4 := Lib.hid (HU3.out.below hbe)
      have HF := Lib.hid hfu
      clear hbe hBd hfu HU3
      go_wp2_with fail
      refine (impl_Narrow d L true _ H.out).mono ?_
      rintro e wf ⟨rfl, hbf⟩
      have hBf : Below w.heap.size w wf := Below.after hBe hbf
      have HU5 := Lib.hid (HU4.out.below hbf)
      have HF2 := Lib.hid (HF.out.below hbf)
      clear hbf hBe HU4 HF
      go_wp2_with fail
      refine (HW.out _).mono ?_
      rintro e wg ⟨rfl, hbg⟩
      have hBg : Below w.heap.size w wg := Below.after hBf hbg
      have hU6 := HU5.out.below hbg
      have hF3 := HF2.out.below hbg
      obtain ⟨p, c, rfl, _, _⟩ := hU6.view
      obtain ⟨pf, cf, rfl, _, _⟩ := hF3.view
      have HU6 := Lib.hid hU6
      have HF3 := Lib.hid hF3
      clear hbg hBf HU5 HF2 hU6 hF3 HW
      go_wp2_with fail
      go_loopw [16, 87] (fun ct i wr => ∃ (k cn : Nat), ct = .int .i64 cn ∧ i = .int .i64 k ∧ k ≤ L.length ∧ cn = cntL L k ∧ Outs wr wa.heap.size wb.heap.size (.slice p L.length c) L ∧ Fms wr wd.heap.size (.slice pf F.length cf) F ∧ Below w.heap.size w wr) (fun _ i _ => L.length - (intOf i).toNat)
      case atStart => exact ⟨0, 0, rfl, rfl, by omega, rfl, HU6.out, HF3.out, hBg⟩
      case round =>
        obtain ⟨k, cn, rfl, rfl, hk, hcn, hO, hFo, hB⟩ := hrel
        clear HU6 HF3 hBg
        have hs := hB.size
        have hcl := cntL_le L k
        rw [← hcn, HC.out] at hcl
        have Hcn := Lib.hid hcn
        clear hcn
        obtain ⟨wA, rfl⟩ : ∃ wA, wA = wr := ⟨_, rfl⟩
        by_cases hlt : k < L.length
        · obtain ⟨g, x, rfl, _, hg1, hc, _, hx⟩ := hO.read k hlt
          obtain ⟨q, cq, rfl, _, _⟩ := hx.view
          have hlk := HS.out.2 L[k] (List.getElem_mem _)
          have hst := cntL_succ hlt
          rw [← Hcn.out] at hst
          have Hst := Lib.hid hst
          have HO := Lib.hid hO
          have HX := Lib.hid hx
          have HFo := Lib.hid hFo
          clear hO hx hFo hst
          go_wp2_with fail
          go_loopw [97] (fun j wr' => ∃ j' : Nat, j = .int .i64 j' ∧ j' ≤ L[k].length ∧ Outs wr' wa.heap.size wb.heap.size (.slice (some ⟨g, 0, none⟩) L.length c) L ∧ Fms wr' wa.heap.size (.slice q L[k].length cq) L[k] ∧ Fms wr' wd.heap.size (.slice pf F.length cf) F ∧ Below w.heap.size w wr') (fun j _ => L[k].length - (intOf j).toNat)
          case atStart => exact ⟨0, rfl, by omega, HO.out, HX.out, HFo.out, hB⟩
          case round =>
            obtain ⟨j, rfl, hj, hO2, hX2, hF2, hB2⟩ := hrel
            clear HO HX HFo hB hc
            have hs2 := hB2.size
            obtain ⟨wB, rfl⟩ : ∃ wB, wB = wr := ⟨_, rfl⟩
            by_cases hlt2 : j < L[k].length
            · obtain ⟨g2, rfl, _, hg3, c0, c1, c2, _⟩ := hX2.read j hlt2
              rcases hf : L[k][j] with ⟨fa, fb, fc⟩
              rw [hf] at c0 c1 c2
              obtain ⟨jn, ⟨ga, gb, gc⟩, hat⟩ := HAt'.out k j _ hlt hlt2 hf
              have eg : L.getD k [] = L[k] := by simp [List.getD_eq_getElem?_getD, hlt]
              obtain ⟨hind, hmem, hnx, hnum, hjn, hget⟩ := hat
              rw [eg] at hnum hjn hget
              have hget2 : L[k][jn] = ⟨ga, gb, gc⟩ := by
                rw [List.getElem?_eq_getElem hjn] at hget
                injection hget
              obtain ⟨rfl, rfl, rfl⟩ : fc = ga ∧ nB fa fb fc = gb ∧ nC fa fb fc = gc := by
                unfold nx at hnx
                simp only [Fm.mk.injEq] at hnx
                exact hnx
              have HNF := Lib.hid (fun w => impl_NextForm_yes fa fb fc w hind)
              have hnum2 : ((j : Int) + 1).tmod (L[k].length : Int) = (jn : Int) := by rw [Int.tmod_eq_emod_of_nonneg (by omega)]; exact hnum
              obtain ⟨nb, hnb⟩ : ∃ nb, nB fa fb fc = nb := ⟨_, rfl⟩
              obtain ⟨nc, hnc⟩ : ∃ nc, nC fa fb fc = nc := ⟨_, rfl⟩
              obtain ⟨ns, hns⟩ : ∃ ns, nS fa fb fc = ns := ⟨_, rfl⟩
              have hNF := HNF.out
              rw [hnb, hnc, hns] at hNF
              rw [hnb, hnc] at hget2
              have HNF2 := Lib.hid hNF
              have Hget := Lib.hid hget2
              have Hmem := Lib.hid (show decide ((⟨fa, fb, fc⟩ : Fm) ∈ F) = true by rw [← HFe.out]; exact decide_eq_true hmem)
              have hz20 : Holds (wB.alloc (.cells (cF ⟨fa, fb, fc⟩) 28)) wB.heap.size (cF ⟨fa, fb, fc⟩) 28 := Holds.new _ _ _
              have hB2' : Below w.heap.size w (wB.alloc (.cells (cF ⟨fa, fb, fc⟩) 28)) := hB2.alloc hs2 _
              have HO3 := Lib.hid (hO2.alloc (.cells (cF ⟨fa, fb, fc⟩) 28))
              have HX3 := Lib.hid (hX2.alloc (.cells (cF ⟨fa, fb, fc⟩) 28))
              have HF3 := Lib.hid (hF2.alloc (.cells (cF ⟨fa, fb, fc⟩) 28))
              clear hget hget2 hmem hnx hind hnb hnc hns hNF HNF hf hO2 hX2 hF2 eg
              go_wp2_with fail
              refine (HNF2.out _).mono ?_
              rintro e w2 ⟨rfl, hb2⟩
              have hz2 : wB.heap.size < w2.heap.size := by have := hb2.size; simp at this; omega
              have hB3 : Below w.heap.size w w2 := Below.after hB2' hb2
              have HO4 := Lib.hid (HO3.out.below hb2)
              have HX4 := Lib.hid (HX3.out.below hb2)
              have HF4 := Lib.hid (HF3.out.below hb2)
              have H20 := Lib.hid (Holds.below hz20 hb2)
              have hs3 := hB3.size
              clear hb2 hB2' hz20 HO3 HX3 HF3 hB2 HNF2 c0 c1 c2
              go_wp2_with fail
              refine region_named (fun W hW => ?_)
              have hBW : Below w.heap.size w W := by rw [hW]; exact (hB3.alloc hs3 _).alloc (by simp; omega) _
              have a0 : Holds W wB.heap.size (cF ⟨fa, fb, fc⟩) 28 := by rw [hW]; exact (H20.out.alloc _).alloc _
              have a1 : Holds W w2.heap.size (cF ⟨fc, nb, nc⟩) 28 := by rw [hW]; repeat (first | (refine Holds.new' _ _ _ ?_; simp; done) | refine Holds.alloc ?_ _ | refine Holds.far ?_ (by first | omega | (simp; done) | (simp; omega)))
              have hXW : Fms W wa.heap.size (.slice (some ⟨g2, 0, none⟩) L[k].length cq) L[k] := by rw [hW]; exact (HX4.out.alloc _).alloc _
              have hFW : Fms W wd.heap.size (.slice pf F.length cf) F := by rw [hW]; exact (HF4.out.alloc _).alloc _
              have hOW : Outs W wa.heap.size wb.heap.size (.slice (some ⟨g, 0, none⟩) L.length c) L := by rw [hW]; exact (HO4.out.alloc _).alloc _
              have hsW := hBW.size
              clear hW HX4 HF4 HO4 H20 hB3 hs3
              obtain ⟨g4, e4, _, hg4, e0, e1, e2, _⟩ := hXW.read jn hjn
              injection e4 with e4
              injection e4 with e4
              subst e4
              rw [Hget.out] at e0 e1 e2
              have y0 : ∀ x' : Aft W, x'.w.cell? ⟨wB.heap.size, 0, none⟩ = some (.int .i64 fa) := fun x' => x'.cell (Holds.lt a0) (Holds.cell a0 rfl)
              have y1 : ∀ x' : Aft W, x'.w.cell? ⟨wB.heap.size, 1, none⟩ = some (.int .i64 fb) := fun x' => x'.cell (Holds.lt a0) (Holds.cell a0 rfl)
              have y2 : ∀ x' : Aft W, x'.w.cell? ⟨wB.heap.size, 2, none⟩ = some (.int .i64 fc) := fun x' => x'.cell (Holds.lt a0) (Holds.cell a0 rfl)
              have x0 : ∀ x' : Aft W, x'.w.cell? ⟨w2.heap.size, 0, none⟩ = some (.int .i64 fc) := fun x' => x'.cell (Holds.lt a1) (Holds.cell a1 rfl)
              have x1 : ∀ x' : Aft W, x'.w.cell? ⟨w2.heap.size, 1, none⟩ = some (.int .i64 nb) := fun x' => x'.cell (Holds.lt a1) (Holds.cell a1 rfl)
              have x2 : ∀ x' : Aft W, x'.w.cell? ⟨w2.heap.size, 2, none⟩ = some (.int .i64 nc) := fun x' => x'.cell (Holds.lt a1) (Holds.cell a1 rfl)
              have q0 : ∀ z : Aft W, z.w.cell? ⟨g2, jn * 3, none⟩ = some (.int .i64 fc) := fun z => z.cell hg4 e0
              have q1 : ∀ z : Aft W, z.w.cell? ⟨g2, jn * 3 + 1, none⟩ = some (.int .i64 nb) := fun z => z.cell hg4 e1
              have q2 : ∀ z : Aft W, z.w.cell? ⟨g2, jn * 3 + 2, none⟩ = some (.int .i64 nc) := fun z => z.cell hg4 e2
              have HFx := Lib.hid (fun z : Aft W => hFW.below z.below)
              have HXW := Lib.hid hXW
              have HFW := Lib.hid hFW
              have HOW := Lib.hid hOW
              have hln : ¬ (L[k].length : Int) = 0 := by omega
              clear a0 a1 e0 e1 e2 hXW hFW hOW hg4
              refine region_aft (by kernel_rfl) (by kernel_rfl) ?_
              repeat go_big_quiet_step ((go_at_call 31; exact callsAft (laws_qHas F _ _ _ _ _ true _ (by omega) (HFx.out _) (by with_reducible exact Hmem.out))))
              refine wpQuiet_nil ?_
              intro w3 hb3
              have hB4 : Below w.heap.size w w3 := Below.after hBW hb3
              have HO5 := Lib.hid (HOW.out.below hb3)
              have HX5 := Lib.hid (HXW.out.below hb3)
              have HF5 := Lib.hid (HFW.out.below hb3)
              clear hb3 HOW HXW HFW HFx q0 q1 q2 y0 y1 y2 x0 x1 x2 hBW hsW
              go_wp2_with fail
              go_roundw
              case rel => exact ⟨j + 1, by go_num, by omega, HO5.out, HX5.out, HF5.out, hB4⟩
              case measure => simp [intOf]; omega
            · obtain rfl : j = L[k].length := by omega
              have HO2 := Lib.hid hO2
              have HF2 := Lib.hid hF2
              clear hO2 hF2 hX2
              go_wp2_with fail
              go_roundw
              case rel => exact ⟨k + 1, cn + L[k].length, by go_num, by go_num, by omega, by rw [Hst.out], HO2.out, HF2.out, hB2⟩
              case measure => simp [intOf]; omega
        · obtain rfl : k = L.length := by omega
          have hfin : cn = F.length := by
            rw [Hcn.out, ← HC.out]
            unfold cntL
            rw [List.take_length]
          subst hfin
          clear hO hFo Hcn hcl
          go_wp2_with fail
          refine (impl_UnitNorm d n v _ HUn.out).mono ?_
          rintro e wh ⟨rfl, hbh⟩
          have hBh : Below w.heap.size w wh := Below.after hB hbh
          clear hbh hB
          go_wp2_with fail
          refine (spec_UnitNorm d n v _ HUn.out).mono ?_
          rintro e wi ⟨rfl, hbi⟩
          have hBi : Below w.heap.size w wi := Below.after hBh hbi
          clear hbi hBh
          rcases HN.out with rfl | ⟨rfl, ⟨rfl, hw⟩ | ⟨hn, hw⟩⟩
          · go_wp2_with fail
            go_ret
            exact ⟨rfl, hBi⟩
          · subst hw
            go_wp2_with fail
            go_ret
            exact ⟨rfl, hBi⟩
          · have hn2 : (n == -1) = false := by simpa using hn
            have hw2 : (2 * (wn : Int) == (L.length : Int)) = true := by simp; omega
            go_wp2_with fail
            go_ret
            exact ⟨rfl, hBi⟩
end Go.Proofs.Ytdonpiihjoihcaa
