/- Contracts: a point looked for in a list, a point put into its place. -/
import Derived.Test.YtiblpagbloflhaaPS
namespace Go.Proofs.Ytiblpagbloflhaa
set_option linter.unusedVariables false
open Go.ChangeShapes Go.WideShapes Go.ChangeAt Go.RowKit

theorem pt_eq {x y a b : Int} (h : (⟨x, y⟩ : Pt) = ⟨a, b⟩) : (x == a) = true ∧ (y == b) = true := by
  simp only [Pt.mk.injEq] at h
  simp [h.1, h.2]
theorem pt_ne {x y a b : Int} (h : (⟨x, y⟩ : Pt) ≠ ⟨a, b⟩) : (x == a) = false ∨ ((x == a) = true ∧ (y == b) = false) := by
  by_cases h1 : x = a
  · right
    refine ⟨by simp [h1], ?_⟩
    simp only [beq_eq_false_iff_ne, ne_eq]
    exact fun h2 => h (by rw [h1, h2])
  · left; simpa using h1
theorem ptmem_here {l : List Pt} {k : Nat} {x f : Pt} (hlt : k < l.length) (hx : l[k] = x) (he : x = f) : decide (f ∈ l.drop k) = true := by
  rw [List.drop_eq_getElem_cons hlt, hx, he]; simp
theorem ptmem_step {l : List Pt} {k : Nat} {x f : Pt} (hlt : k < l.length) (hx : l[k] = x) (he : x ≠ f) : decide (f ∈ l.drop k) = decide (f ∈ l.drop (k + 1)) := by
  rw [List.drop_eq_getElem_cons hlt, hx]
  have : f ≠ x := fun e => he e.symm
  simp [this]
theorem spec_vaHas (l : List Pt) (u : Value) (a b : Int) (B : Nat) (v : Bool) (w : World) (hl : l.length ≤ 1000000) (hu : Pts w B u l) (hv : decide ((⟨a, b⟩ : Pt) ∈ l) = v) :
    Calls Try.prog 147 #[u, .agg #[.int .i64 a, .int .i64 b]] w fun e w' => e = .returned (.bool v) ∧ Below w.heap.size w w' := by
  obtain ⟨p, cp, rfl, _, hr⟩ := hu.view
  have Hr := Lib.hid hr
  have Hv := Lib.hid hv
  clear hr hu hv
  go_enter Try.func147, Try.ntmps147
  go_wp2_with fail
  go_loopw [9] (fun i wr => (∃ k : Nat, i = .int .i64 k ∧ k ≤ l.length ∧ decide ((⟨a, b⟩ : Pt) ∈ l.drop k) = v) ∧ Below w.heap.size w wr ∧ Holds wr w.heap.size (cP ⟨a, b⟩) 80) (fun i _ => l.length - (intOf i).toNat)
  case atStart => exact ⟨⟨0, rfl, by omega, by rw [List.drop_zero]; exact Hv.out⟩, by go_grown, Holds.new _ _ _⟩
  case round =>
    obtain ⟨⟨k, rfl, hk, hd⟩, hB, h1⟩ := hrel
    have Hd := Lib.hid hd
    have H1 := Lib.hid h1
    have hz := h1.lt
    clear hd
    by_cases hlt : k < l.length
    · obtain ⟨g, rfl, _, hg1, hc0, hc1, _⟩ := Hr.out k hlt
      rcases hx : l[k] with ⟨xa, xb⟩
      rw [hx] at hc0 hc1
      have Hx := Lib.hid hx
      clear hx
      have d0 : wr.cell? ⟨g, k * 2, none⟩ = some (.int .i64 xa) := (hB.cell (p := ⟨g, k * 2, none⟩) hg1).trans hc0
      have d1 : wr.cell? ⟨g, k * 2 + 1, none⟩ = some (.int .i64 xb) := (hB.cell (p := ⟨g, k * 2 + 1, none⟩) hg1).trans hc1
      have y0 : wr.cell? ⟨w.heap.size, 0, none⟩ = some (.int .i64 a) := Holds.cell h1 rfl
      have y1 : wr.cell? ⟨w.heap.size, 1, none⟩ = some (.int .i64 b) := Holds.cell h1 rfl
      have yf0 : wr.frozen? ⟨w.heap.size, 0, none⟩ = false := Holds.free h1
      have yf1 : wr.frozen? ⟨w.heap.size, 1, none⟩ = false := Holds.free h1
      clear hc0 hc1 h1
      by_cases he : (⟨xa, xb⟩ : Pt) = ⟨a, b⟩
      · obtain ⟨e1, e2⟩ := pt_eq he
        obtain rfl : v = true := by rw [← Hd.out]; exact ptmem_here hlt Hx.out he
        clear he
        go_wp2_with fail
        go_ret
        exact ⟨rfl, by go_grown⟩
      · have Hd' := Lib.hid ((ptmem_step hlt Hx.out he).symm.trans Hd.out)
        rcases pt_ne he with e1 | ⟨e1, e2⟩
        all_goals
          clear he
          go_wp2_with fail
          go_roundw
          case rel => exact ⟨⟨k + 1, by go_num, by omega, Hd'.out⟩, by go_grown, H1.out.alloc _⟩
          case measure => simp [intOf]; omega
    · obtain rfl : k = l.length := by omega
      obtain rfl : v = false := by rw [← Hd.out]; simp
      clear h1
      go_wp2_with fail
      go_ret
      exact ⟨rfl, hB⟩
theorem Pts.parts {w : World} {B : Nat} {v : Value} {l : List Pt} (h : Pts w B v l) :
    (v = .slice none 0 0 ∧ l = []) ∨ ∃ (g cap : Nat), v = .slice (some ⟨g, 0, none⟩) l.length cap ∧ l.length ≤ cap ∧ cap ≤ maxLen ∧ B ≤ g ∧ g < w.heap.size ∧ ∀ j u, (cellsP l)[j]? = some u → w.cell? ⟨g, j, none⟩ = some u := by
  have hall := h
  obtain ⟨h1, h2⟩ := h
  rcases h2 with ⟨rfl, hn⟩ | ⟨g, cap, cur, rfl, hb, hh, h3, h4, h5, h6⟩
  · exact .inl ⟨rfl, List.eq_nil_of_length_eq_zero hn⟩
  · refine .inr ⟨g, cap, rfl, h3, h4, hb, (Array.getElem?_eq_some_iff.1 hh).1, fun j u hj => ?_⟩
    have := World.ownsRow.cells hall (g := g) rfl j u hj
    have hadd : (⟨g, 0, none⟩ : Addr).add j = ⟨g, j, none⟩ := by unfold Addr.add; split <;> simp_all
    rwa [hadd] at this
theorem cellsP_take (l : List Pt) (n : Nat) (j : Nat) (u : Value) (h : (cellsP (l.take n))[j]? = some u) : (cellsP l)[j]? = some u := by
  have e : cellsP l = cellsP (l.take n) ++ cellsP (l.drop n) := by rw [← cellsP_app, List.take_append_drop]
  rw [e, List.getElem?_append_left (List.getElem?_eq_some_iff.1 h).1]
  exact h
theorem cellsP_drop (l : List Pt) (n : Nat) (hn : n ≤ l.length) (j : Nat) (u : Value) (h : (cellsP (l.drop n))[j]? = some u) : (cellsP l)[n * 2 + j]? = some u := by
  have e : cellsP l = cellsP (l.take n) ++ cellsP (l.drop n) := by rw [← cellsP_app, List.take_append_drop]
  have hl : (cellsP (l.take n)).length = n * 2 := by rw [cellsP_len, List.length_take, Nat.min_eq_left hn]
  rw [e, List.getElem?_append_right (by omega), hl, Nat.add_sub_cancel_left]
  exact h
/-- how many stand before a point -/
def posP (p : Pt) : List Pt → Nat
  | [] => 0
  | q :: l => if q.x < p.x ∨ (q.x = p.x ∧ q.y < p.y) then posP p l + 1 else 0
theorem posP_le (p : Pt) : ∀ l : List Pt, posP p l ≤ l.length
  | [] => Nat.le_refl _
  | q :: l => by
    unfold posP
    split
    · have := posP_le p l; simp; omega
    · omega
theorem putP_pos (p : Pt) : ∀ l : List Pt, putP l p = l.take (posP p l) ++ [p] ++ l.drop (posP p l)
  | [] => rfl
  | q :: l => by
    unfold putP posP
    split
    · rw [putP_pos p l]; simp
    · simp
theorem posP_lt (p : Pt) : ∀ (l : List Pt) (k : Nat) (h : k < l.length), k < posP p l → l[k].x < p.x ∨ (l[k].x = p.x ∧ l[k].y < p.y)
  | [], k, h, _ => by simp at h
  | q :: l, 0, h, hk => by
    unfold posP at hk
    split at hk
    · rename_i hc; exact hc
    · omega
  | q :: l, k + 1, h, hk => by
    unfold posP at hk
    split at hk
    · exact posP_lt p l k (by simpa using h) (by omega)
    · omega
theorem posP_at (p : Pt) : ∀ (l : List Pt) (h : posP p l < l.length), ¬ (l[posP p l].x < p.x ∨ (l[posP p l].x = p.x ∧ l[posP p l].y < p.y))
  | [], h => by simp at h
  | q :: l, h => by
    by_cases hc : q.x < p.x ∨ (q.x = p.x ∧ q.y < p.y)
    · have e : posP p (q :: l) = posP p l + 1 := by show (if _ then _ else _) = _; rw [if_pos hc]
      have := posP_at p l (by rw [e] at h; simpa using h)
      simp only [e, List.getElem_cons_succ]
      exact this
    · have e : posP p (q :: l) = 0 := by show (if _ then _ else _) = _; rw [if_neg hc]
      simp only [e, List.getElem_cons_zero]
      exact hc
set_option maxHeartbeats 1000000 in
set_option maxRecDepth 100000 in
theorem spec_vaPut (l : List Pt) (u : Value) (a b : Int) (B : Nat) (w : World) (hl : l.length ≤ 900000) (hne : l = [] → u = .slice none 0 0) (hu : Pts w B u l) :
    Calls Try.prog 148 #[u, .agg #[.int .i64 a, .int .i64 b]] w fun e w' => ∃ v, e = .returned v ∧ Pts w' w.heap.size v (putP l ⟨a, b⟩) ∧ Below w.heap.size w w' := by
  have hput := putP_pos ⟨a, b⟩ l
  have hple := posP_le ⟨a, b⟩ l
  have hplt := posP_lt ⟨a, b⟩ l
  have hpat := posP_at ⟨a, b⟩ l
  obtain ⟨n, hn⟩ : ∃ n, posP ⟨a, b⟩ l = n := ⟨_, rfl⟩
  rw [hn] at hput hple hplt
  have hpat' : ∀ (h : n < l.length), ¬ (l[n].x < a ∨ (l[n].x = a ∧ l[n].y < b)) := by subst hn; exact hpat
  have Hput := Lib.hid hput
  have Hplt := Lib.hid hplt
  have Hpat := Lib.hid hpat'
  have Hu := Lib.hid hu
  clear hput hplt hpat hpat' hn
  rcases hu.parts with ⟨rfl, rfl⟩ | ⟨g, cap, rfl, hcap, hcm, hg1, hg2, hcell⟩
  · obtain rfl : n = 0 := by simpa using hple
    clear hu hne
    go_enter Try.func148, Try.ntmps148
    go_wp2_with fail
    go_loopw [5] (fun i wr => i = .int .i64 0 ∧ Below w.heap.size w wr ∧ Holds wr w.heap.size (cP ⟨a, b⟩) 80) (fun _ _ => 0)
    case atStart => exact ⟨rfl, by go_grown, Holds.new _ _ _⟩
    case round =>
      obtain ⟨rfl, hB, h1⟩ := hrel
      have hz := h1.lt
      go_wp2_with fail
      refine region_aft (by kernel_rfl) (by kernel_rfl) ?_
      repeat go_big_quiet_step (fail)
      refine wpQuiet_nil ?_
      intro w2 hb2
      have hB2 : Below w.heap.size w w2 := Below.after hB hb2
      have h2 := h1.below hb2
      have hz2 := h2.lt
      have hm0 : Pts (w2.alloc (.cells #[] 80)) w.heap.size (.slice (some ⟨w2.heap.size, 0, none⟩) 0 0) [] := Pts.empty w2 rfl (by omega)
      have hBm : Below w.heap.size w (w2.alloc (.cells #[] 80)) := hB2.alloc (by omega) _
      have h3 := h2.alloc (.cells #[] 80)
      clear hb2 hB h1
      have z0 : w2.cell? ⟨w.heap.size, 0, none⟩ = some (.int .i64 a) := Holds.cell h2 rfl
      have z1 : w2.cell? ⟨w.heap.size, 1, none⟩ = some (.int .i64 b) := Holds.cell h2 rfl
      have zf0 : w2.frozen? ⟨w.heap.size, 0, none⟩ = false := Holds.free h2
      have zf1 : w2.frozen? ⟨w.heap.size, 1, none⟩ = false := Holds.free h2
      have hown4 := (hm0).alloc (.cells (cP ⟨a, b⟩) 80)
      have Hown4 := Lib.hid hown4
      have Hn4 : Hid (Holds (((w2).alloc (.cells #[] 80)).alloc (.cells (cP ⟨a, b⟩) 80)) ((w2).heap.size + 1) (cP ⟨a, b⟩) 80) := Lib.hid (Holds.new' _ _ _ (by simp))
      have hB4 : Below w.heap.size w (((w2).alloc (.cells #[] 80)).alloc (.cells (cP ⟨a, b⟩) 80)) := (hBm).alloc (by simp; omega) _
      clear hown4
      go_wp2_with (at_builtin; refine app_pt w.heap.size ([]) ⟨a, b⟩ _ ((w2).heap.size + 1) _ _ rfl rfl rfl rfl Hown4.out Hn4.out (by simp; try omega) (by simp; omega) ?_)
      intro v5 w5 hown5 hgrow5
      have hB5 : Below w.heap.size w w5 := below_grownP hB4 Hown4.out hgrow5 (by simp; omega)
      have hz5 := hgrow5.size
      go_wp2_with (at_builtin; refine app_noneP w.heap.size _ v5 _ _ rfl rfl rfl rfl hown5 ?_)
      go_wp2_with fail
      go_ret
      exact ⟨_, rfl, hown5, hB5⟩
  · unfold maxLen at hcm
    have Hcell := Lib.hid hcell
    have hwl : ∀ j u, (cellsP l)[j]? = some u → w.cell? ⟨g, j, none⟩ = some u := hcell
    have hnil : ¬ l = [] := fun e => by have := hne e; simp at this
    have hl0 : 0 < l.length := by cases l with | nil => exact absurd rfl hnil | cons _ _ => simp
    have hcap0 : ¬ cap = 0 := by omega
    clear hcell hu hwl hne
    go_enter Try.func148, Try.ntmps148
    go_wp2_with fail
    go_loopw [5] (fun i wr => (∃ k : Nat, i = .int .i64 k ∧ k ≤ n) ∧ Below w.heap.size w wr ∧ Holds wr w.heap.size (cP ⟨a, b⟩) 80) (fun i _ => n - (intOf i).toNat)
    case atStart => exact ⟨⟨0, rfl, by omega⟩, by go_grown, Holds.new _ _ _⟩
    case round =>
      obtain ⟨⟨k, rfl, hk⟩, hB, h1⟩ := hrel
      have hz := h1.lt
      have hgr : g < wr.heap.size := by have := hB.size; omega
      have y0 : ∀ x' : Aft wr, x'.w.cell? ⟨w.heap.size, 0, none⟩ = some (.int .i64 a) := fun x' => x'.cell (Holds.lt h1) (Holds.cell h1 rfl)
      have y1 : ∀ x' : Aft wr, x'.w.cell? ⟨w.heap.size, 1, none⟩ = some (.int .i64 b) := fun x' => x'.cell (Holds.lt h1) (Holds.cell h1 rfl)
      by_cases hkn : k < n
      · have hkl : k < l.length := by omega
        have hlt := Hplt.out k hkl hkn
        obtain ⟨c1, c2⟩ := cellsP_get l k l[k] (by simp [hkl])
        have q0 := (hB.cell (p := ⟨g, k * 2, none⟩) hg2).trans (Hcell.out _ _ c1)
        have q1 := (hB.cell (p := ⟨g, k * 2 + 1, none⟩) hg2).trans (Hcell.out _ _ c2)
        obtain ⟨xa, hxa⟩ : ∃ xa, l[k].x = xa := ⟨_, rfl⟩
        obtain ⟨xb, hxb⟩ : ∃ xb, l[k].y = xb := ⟨_, rfl⟩
        rw [hxa] at q0 hlt
        rw [hxb] at q1 hlt
        have z0 : ∀ x' : Aft wr, x'.w.cell? ⟨g, k * 2, none⟩ = some (.int .i64 xa) := fun x' => x'.cell hgr q0
        have z1 : ∀ x' : Aft wr, x'.w.cell? ⟨g, k * 2 + 1, none⟩ = some (.int .i64 xb) := fun x' => x'.cell hgr q1
        have hlt' : (xa < a) ∨ ((xa == a) = true ∧ decide (xa < a) = false ∧ xb < b) := by
          rcases hlt with h | ⟨h, h'⟩
          · exact .inl h
          · exact .inr ⟨by simp [h], by simp [h], h'⟩
        have H1 := Lib.hid h1
        clear q0 q1 c1 c2 hxa hxb hlt h1
        rcases hlt' with e1 | ⟨e1, e2, e3⟩
        all_goals
          go_wp2_with fail
          refine region_aft (by kernel_rfl) (by kernel_rfl) ?_
          repeat go_big_quiet_step (fail)
          refine wpQuiet_nil ?_
          intro w2 hb2
          have hB2 : Below w.heap.size w w2 := Below.after hB hb2
          have H2 := Lib.hid (H1.out.below hb2)
          clear y0 y1 z0 z1 hb2 hB H1
          go_wp2_with fail
          go_roundw
          case rel => exact ⟨⟨k + 1, by go_num, by omega⟩, hB2, H2.out⟩
          case measure => simp [intOf]; omega
      · obtain rfl : k = n := by omega
        by_cases hkl : k < l.length
        · have hlt := Hpat.out hkl
          obtain ⟨c1, c2⟩ := cellsP_get l k l[k] (by simp [hkl])
          have q0 := (hB.cell (p := ⟨g, k * 2, none⟩) hg2).trans (Hcell.out _ _ c1)
          have q1 := (hB.cell (p := ⟨g, k * 2 + 1, none⟩) hg2).trans (Hcell.out _ _ c2)
          obtain ⟨xa, hxa⟩ : ∃ xa, l[k].x = xa := ⟨_, rfl⟩
          obtain ⟨xb, hxb⟩ : ∃ xb, l[k].y = xb := ⟨_, rfl⟩
          rw [hxa] at q0 hlt
          rw [hxb] at q1 hlt
          have z0 : ∀ x' : Aft wr, x'.w.cell? ⟨g, k * 2, none⟩ = some (.int .i64 xa) := fun x' => x'.cell hgr q0
          have z1 : ∀ x' : Aft wr, x'.w.cell? ⟨g, k * 2 + 1, none⟩ = some (.int .i64 xb) := fun x' => x'.cell hgr q1
          have hlt' : (decide (xa < a) = false ∧ (xa == a) = false) ∨ ((xa == a) = true ∧ decide (xa < a) = false ∧ decide (xb < b) = false) := by
            by_cases h : xa = a
            · exact .inr ⟨by simp [h], by simp [h], by simp; omega⟩
            · exact .inl ⟨by simp; omega, by simp [h]⟩
          clear q0 q1 c1 c2 hxa hxb hlt
          have hkc : ¬ k = cap := by omega
          have hkc' : ¬ cap = k := by omega
          rcases hlt' with ⟨e1, e2⟩ | ⟨e1, e2, e3⟩
          all_goals
            go_wp2_with fail
            refine region_aft (by kernel_rfl) (by kernel_rfl) ?_
            repeat go_big_quiet_step (fail)
            refine wpQuiet_nil ?_
            intro w2 hb2
            clear y0 y1 z0 z1
            have hB2 : Below w.heap.size w w2 := Below.after hB hb2
            have h2 := h1.below hb2
            have hz2 := h2.lt
            have hm0 : Pts (w2.alloc (.cells #[] 80)) w.heap.size (.slice (some ⟨w2.heap.size, 0, none⟩) 0 0) [] := Pts.empty w2 rfl (by omega)
            have hBm : Below w.heap.size w (w2.alloc (.cells #[] 80)) := hB2.alloc (by omega) _
            have h3 := h2.alloc (.cells #[] 80)
            clear hb2 hB h1
            have z0 : w2.cell? ⟨w.heap.size, 0, none⟩ = some (.int .i64 a) := Holds.cell h2 rfl
            have z1 : w2.cell? ⟨w.heap.size, 1, none⟩ = some (.int .i64 b) := Holds.cell h2 rfl
            have zf0 : w2.frozen? ⟨w.heap.size, 0, none⟩ = false := Holds.free h2
            have zf1 : w2.frozen? ⟨w.heap.size, 1, none⟩ = false := Holds.free h2
            have hcw : ∀ j u, (cellsP (l.take (k)))[j]? = some u → (w2.alloc (.cells #[] 80)).cell? ((⟨g, 0, none⟩ : Addr).add j) = some u := fun j u hj => by
              have hadd : (⟨g, 0, none⟩ : Addr).add j = ⟨g, j, none⟩ := by unfold Addr.add; split <;> simp_all
              rw [hadd, World.cell?_alloc_past _ _ _ (by have := hB2.size; omega)]
              exact (hB2.cell (p := ⟨g, j, none⟩) hg2).trans (Hcell.out _ _ (cellsP_take l (k) j u hj))
            have htk : (l.take (k)).length = k := by rw [List.length_take]; omega
            have Hm0 := Lib.hid hm0
            have Hcw := Lib.hid hcw
            have Htk := Lib.hid htk
            clear hm0 hcw htk
            go_wp2_with (at_builtin; refine app_pts w.heap.size [] (l.take (k)) (.slice (some ⟨w2.heap.size, 0, none⟩) 0 0) ⟨g, 0, none⟩ _ _ _ rfl rfl rfl (by rw [Htk.out]; rfl) Hm0.out Hcw.out (by rw [Htk.out]; simp; omega) (by simp; omega) ?_)
            intro v3 w3 hown3 hgrow3
            have hB3 : Below w.heap.size w w3 := below_grownP hBm Hm0.out hgrow3 (by simp; omega)
            have h3' : Holds w3 w.heap.size (cP ⟨a, b⟩) 80 := (hgrow3.block _ h3.lt (by simp [Value.ownBlock]; omega)).trans h3
            have hown3' : Pts w3 w.heap.size v3 (l.take (k)) := by simpa using hown3
            have Hown4 := Lib.hid (hown3'.alloc (.cells (cP ⟨a, b⟩) 80))
            have Hn4 : Hid (Holds (w3.alloc (.cells (cP ⟨a, b⟩) 80)) w3.heap.size (cP ⟨a, b⟩) 80) := Lib.hid (Holds.new _ _ _)
            have hB4 : Below w.heap.size w (w3.alloc (.cells (cP ⟨a, b⟩) 80)) := hB3.alloc hB3.size _
            have hz3 := hB3.size
            clear z0 z1 zf0 zf1
            have z0 : w3.cell? ⟨w.heap.size, 0, none⟩ = some (.int .i64 a) := Holds.cell h3' rfl
            have z1 : w3.cell? ⟨w.heap.size, 1, none⟩ = some (.int .i64 b) := Holds.cell h3' rfl
            have zf0 : w3.frozen? ⟨w.heap.size, 0, none⟩ = false := Holds.free h3'
            have zf1 : w3.frozen? ⟨w.heap.size, 1, none⟩ = false := Holds.free h3'
            have hl4 : (l.take (k)).length ≤ 1000000 := by rw [Htk.out]; omega
            clear hown3 hown3' hgrow3 Hm0 Hcw hBm h3 h2
            go_wp2_with (at_builtin; refine app_pt w.heap.size (l.take (k)) ⟨a, b⟩ v3 _ _ _ rfl rfl rfl rfl Hown4.out Hn4.out hl4 (by simp; omega) ?_)
            intro v5 w5 hown5 hgrow5
            have hB5 : Below w.heap.size w w5 := below_grownP hB4 Hown4.out hgrow5 (by simp; omega)
            have hz5 := hB5.size
            have Hown5 := Lib.hid hown5
            clear hown5 hgrow5 hB4 Hown4 Hn4 hB3
            clear z0 z1 zf0 zf1
            have hcd : ∀ j u, (cellsP (l.drop (k)))[j]? = some u → w5.cell? ((⟨g, k * 2, none⟩ : Addr).add j) = some u := fun j u hj => by
              have hadd : (⟨g, k * 2, none⟩ : Addr).add j = ⟨g, k * 2 + j, none⟩ := by unfold Addr.add; split <;> simp_all
              rw [hadd]
              exact (hB5.cell (p := ⟨g, k * 2 + j, none⟩) hg2).trans (Hcell.out _ _ (cellsP_drop l (k) (by omega) j u hj))
            have Hcd := Lib.hid hcd
            clear hcd
            have Hld : Hid ((l.drop (k)).length = l.length - k) := Lib.hid (List.length_drop ..)
            go_wp2_with (at_builtin; refine app_pts w.heap.size (l.take (k) ++ [⟨a, b⟩]) (l.drop (k)) v5 ⟨g, k * 2, none⟩ _ _ _ rfl rfl rfl (by rw [Hld.out]; rfl) Hown5.out Hcd.out (by rw [Hld.out, List.length_append, Htk.out]; simp; omega) (by omega) ?_)
            intro v6 w6 hown6 hgrow6
            have hB6 : Below w.heap.size w w6 := below_grownP hB5 Hown5.out hgrow6 (by omega)
            have Hown6 := Lib.hid hown6
            clear hown6 hgrow6
            go_wp2_with fail
            go_ret
            exact ⟨v6, rfl, by rw [Hput.out]; simpa using Hown6.out, hB6⟩
        · obtain rfl : k = l.length := by omega
          by_cases hcl : cap = l.length
          all_goals
            go_wp2_with fail
            refine region_aft (by kernel_rfl) (by kernel_rfl) ?_
            repeat go_big_quiet_step (fail)
            refine wpQuiet_nil ?_
            intro w2 hb2
            clear y0 y1
            have hB2 : Below w.heap.size w w2 := Below.after hB hb2
            have h2 := h1.below hb2
            have hz2 := h2.lt
            have hm0 : Pts (w2.alloc (.cells #[] 80)) w.heap.size (.slice (some ⟨w2.heap.size, 0, none⟩) 0 0) [] := Pts.empty w2 rfl (by omega)
            have hBm : Below w.heap.size w (w2.alloc (.cells #[] 80)) := hB2.alloc (by omega) _
            have h3 := h2.alloc (.cells #[] 80)
            clear hb2 hB h1
            have z0 : w2.cell? ⟨w.heap.size, 0, none⟩ = some (.int .i64 a) := Holds.cell h2 rfl
            have z1 : w2.cell? ⟨w.heap.size, 1, none⟩ = some (.int .i64 b) := Holds.cell h2 rfl
            have zf0 : w2.frozen? ⟨w.heap.size, 0, none⟩ = false := Holds.free h2
            have zf1 : w2.frozen? ⟨w.heap.size, 1, none⟩ = false := Holds.free h2
            have hcw : ∀ j u, (cellsP (l.take (l.length)))[j]? = some u → (w2.alloc (.cells #[] 80)).cell? ((⟨g, 0, none⟩ : Addr).add j) = some u := fun j u hj => by
              have hadd : (⟨g, 0, none⟩ : Addr).add j = ⟨g, j, none⟩ := by unfold Addr.add; split <;> simp_all
              rw [hadd, World.cell?_alloc_past _ _ _ (by have := hB2.size; omega)]
              exact (hB2.cell (p := ⟨g, j, none⟩) hg2).trans (Hcell.out _ _ (cellsP_take l (l.length) j u hj))
            have htk : (l.take (l.length)).length = l.length := by rw [List.length_take]; omega
            have Hm0 := Lib.hid hm0
            have Hcw := Lib.hid hcw
            have Htk := Lib.hid htk
            clear hm0 hcw htk
            go_wp2_with (at_builtin; refine app_pts w.heap.size [] (l.take (l.length)) (.slice (some ⟨w2.heap.size, 0, none⟩) 0 0) ⟨g, 0, none⟩ _ _ _ rfl rfl rfl (by rw [Htk.out]; rfl) Hm0.out Hcw.out (by rw [Htk.out]; simp; omega) (by simp; omega) ?_)
            intro v3 w3 hown3 hgrow3
            have hB3 : Below w.heap.size w w3 := below_grownP hBm Hm0.out hgrow3 (by simp; omega)
            have h3' : Holds w3 w.heap.size (cP ⟨a, b⟩) 80 := (hgrow3.block _ h3.lt (by simp [Value.ownBlock]; omega)).trans h3
            have hown3' : Pts w3 w.heap.size v3 (l.take (l.length)) := by simpa using hown3
            have Hown4 := Lib.hid (hown3'.alloc (.cells (cP ⟨a, b⟩) 80))
            have Hn4 : Hid (Holds (w3.alloc (.cells (cP ⟨a, b⟩) 80)) w3.heap.size (cP ⟨a, b⟩) 80) := Lib.hid (Holds.new _ _ _)
            have hB4 : Below w.heap.size w (w3.alloc (.cells (cP ⟨a, b⟩) 80)) := hB3.alloc hB3.size _
            have hz3 := hB3.size
            clear z0 z1 zf0 zf1
            have z0 : w3.cell? ⟨w.heap.size, 0, none⟩ = some (.int .i64 a) := Holds.cell h3' rfl
            have z1 : w3.cell? ⟨w.heap.size, 1, none⟩ = some (.int .i64 b) := Holds.cell h3' rfl
            have zf0 : w3.frozen? ⟨w.heap.size, 0, none⟩ = false := Holds.free h3'
            have zf1 : w3.frozen? ⟨w.heap.size, 1, none⟩ = false := Holds.free h3'
            have hl4 : (l.take (l.length)).length ≤ 1000000 := by rw [Htk.out]; omega
            clear hown3 hown3' hgrow3 Hm0 Hcw hBm h3 h2
            go_wp2_with (at_builtin; refine app_pt w.heap.size (l.take (l.length)) ⟨a, b⟩ v3 _ _ _ rfl rfl rfl rfl Hown4.out Hn4.out hl4 (by simp; omega) ?_)
            intro v5 w5 hown5 hgrow5
            have hB5 : Below w.heap.size w w5 := below_grownP hB4 Hown4.out hgrow5 (by simp; omega)
            have hz5 := hB5.size
            have Hown5 := Lib.hid hown5
            clear hown5 hgrow5 hB4 Hown4 Hn4 hB3
            clear z0 z1 zf0 zf1
            go_wp2_with (at_builtin; refine app_pts w.heap.size (l ++ [⟨a, b⟩]) [] v5 _ _ _ _ rfl rfl rfl rfl Hown5.out (fun j u hj => by simp [cellsP] at hj) (by simp; omega) (by omega) ?_)
            intro v6 w6 hown6 hgrow6
            have hB6 : Below w.heap.size w w6 := below_grownP hB5 Hown5.out hgrow6 (by omega)
            have Hown6 := Lib.hid hown6
            clear hown6 hgrow6
            go_wp2_with fail
            go_ret
            exact ⟨v6, rfl, by rw [Hput.out, List.drop_length]; simpa using Hown6.out, hB6⟩
end Go.Proofs.Ytiblpagbloflhaa
