/- Contracts and the walk of the law: points of an indefinite form. -/
import Derived.Test.YtdonpiihjoihcaaPS
import Derived.Test.YtdonpiihjoihcaaRD
import Derived.Test.YtdonpiihjoihcaaAU
import Derived.Test.YtdonpiihjoihcaaCL
namespace Go.Proofs.Ytdonpiihjoihcaa
set_option linter.unusedVariables false
open Go.ChangeShapes Go.WideShapes Go.ChangeAt Go.RowKit

/-- what comes of the roots that are left, the points so far at hand -/
inductive IPR (a b c n : Int) : List Int → List Pt → List Pt → Bool → Prop
  | done {l : List Pt} : IPR a b c n [] l l true
  | bad {y : Int} {r : Bool} {t : List Int} {l : List Pt} : SameOut a b c n y ((y * y - disc a b c).tdiv (4 * n)) r false → IPR a b c n (y :: t) l [] false
  | skip {y : Int} {t : List Int} {l m : List Pt} {v : Bool} : SameOut a b c n y ((y * y - disc a b c).tdiv (4 * n)) false true → IPR a b c n t l m v → IPR a b c n (y :: t) l m v
  | none {y p q r s : Int} {t : List Int} {l : List Pt} : SameOut a b c n y ((y * y - disc a b c).tdiv (4 * n)) true true → CMOut a b c n y ((y * y - disc a b c).tdiv (4 * n)) p q r s false → IPR a b c n (y :: t) l [] false
  | more {y p q r s : Int} {t : List Int} {l m : List Pt} {v : Bool} : SameOut a b c n y ((y * y - disc a b c).tdiv (4 * n)) true true → CMOut a b c n y ((y * y - disc a b c).tdiv (4 * n)) p q r s true → IPR a b c n t (l ++ [⟨p, r⟩]) m v → IPR a b c n (y :: t) l m v
theorem ipr_ex (a b c n : Int) : ∀ (t : List Int) (l : List Pt), ∃ m v, IPR a b c n t l m v
  | [], l => ⟨l, true, .done⟩
  | y :: t, l => by
    obtain ⟨r, v, h⟩ := sameOut_ex a b c n y ((y * y - disc a b c).tdiv (4 * n))
    cases v with
    | false => exact ⟨[], false, .bad h⟩
    | true =>
      cases r with
      | false =>
        obtain ⟨m, v, hm⟩ := ipr_ex a b c n t l
        exact ⟨m, v, .skip h hm⟩
      | true =>
        obtain ⟨p, q, r, s, v', hc⟩ := cmOut_ex a b c n y ((y * y - disc a b c).tdiv (4 * n))
        cases v' with
        | false => exact ⟨[], false, .none h hc⟩
        | true =>
          obtain ⟨m, v, hm⟩ := ipr_ex a b c n t (l ++ [⟨p, r⟩])
          exact ⟨m, v, .more h hc hm⟩
theorem ipr_len {a b c n : Int} {t : List Int} {l m : List Pt} {v : Bool} (h : IPR a b c n t l m v) : m.length ≤ l.length + t.length := by
  induction h with
  | done => simp
  | bad h => simp
  | skip h _ ih => simp at ih ⊢; omega
  | none h h' => simp
  | more h h' _ ih => simp at ih ⊢; omega
theorem ipr_cases {a b c n y : Int} {t : List Int} {l m : List Pt} {v : Bool} (h : IPR a b c n (y :: t) l m v) :
    (∃ r, SameOut a b c n y ((y * y - disc a b c).tdiv (4 * n)) r false ∧ m = [] ∧ v = false) ∨ (SameOut a b c n y ((y * y - disc a b c).tdiv (4 * n)) false true ∧ IPR a b c n t l m v) ∨
    (SameOut a b c n y ((y * y - disc a b c).tdiv (4 * n)) true true ∧ ∃ p q r s, CMOut a b c n y ((y * y - disc a b c).tdiv (4 * n)) p q r s false ∧ m = [] ∧ v = false) ∨
    (SameOut a b c n y ((y * y - disc a b c).tdiv (4 * n)) true true ∧ ∃ p q r s, CMOut a b c n y ((y * y - disc a b c).tdiv (4 * n)) p q r s true ∧ IPR a b c n t (l ++ [⟨p, r⟩]) m v) := by
  cases h with
  | bad h => exact .inl ⟨_, h, rfl, rfl⟩
  | skip h h' => exact .inr (.inl ⟨h, h'⟩)
  | none h h' => exact .inr (.inr (.inl ⟨h, _, _, _, _, h', rfl, rfl⟩))
  | more h h' h'' => exact .inr (.inr (.inr ⟨h, _, _, _, _, h', h''⟩))
theorem ipr_nil {a b c n : Int} {l m : List Pt} {v : Bool} (h : IPR a b c n [] l m v) : m = l ∧ v = true := by
  cases h with
  | done => exact ⟨rfl, rfl⟩
/-- what IndefinitePoints hands back -/
def IPOk (a b c n : Int) : Prop := primB a b c = true ∧ n ≠ 0 ∧ -200 ≤ n ∧ n ≤ 200
def ipL (a b c n : Int) : List Int := rdL (disc a b c) (n.natAbs : Int) (2 * (n.natAbs : Int)).toNat
def IPOut (a b c n : Int) (m : List Pt) (v : Bool) : Prop := (IPOk a b c n ∧ IPR a b c n (ipL a b c n) [] m v) ∨ (¬ IPOk a b c n ∧ m = [] ∧ v = false)
theorem ipOut_ex (a b c n : Int) : ∃ m v, IPOut a b c n m v ∧ m.length ≤ 1000000 := by
  by_cases h : IPOk a b c n
  · obtain ⟨m, v, hm⟩ := ipr_ex a b c n (ipL a b c n) []
    refine ⟨m, v, .inl ⟨h, hm⟩, ?_⟩
    have h1 := ipr_len hm
    have h2 := rdL_len (disc a b c) (n.natAbs : Int) (2 * (n.natAbs : Int)).toNat
    obtain ⟨_, _, h3, h4⟩ := h
    unfold ipL at h1
    simp at h1
    omega
  · exact ⟨[], false, .inr ⟨h, rfl, rfl⟩, by simp⟩
/-- at the head of the loop -/
def IPAt (w : World) (f : Fm) (n : Int) (roots : List Int) (rv : Value) (m : List Pt) (v : Bool) (s7 si : Value) (wr : World) : Prop :=
  ∃ (k : Nat) (l : List Pt), si = .int .i64 k ∧ k ≤ roots.length ∧ l.length ≤ k ∧ IPR f.a f.b f.c n (roots.drop k) l m v ∧ Pts wr (w.heap.size + 1) s7 l ∧ Ints wr (w.heap.size + 1) rv roots ∧ (rv.ownBlock = none ∨ rv.ownBlock ≠ s7.ownBlock) ∧
    Below w.heap.size w wr ∧ Holds wr w.heap.size (cF f) 28
theorem Pts.ne {w : World} {B b : Nat} {v : Value} {l : List Pt} (h : Pts w B v l) (hb : b < B) : some b ≠ v.ownBlock := fun e => by
  have := (h.lt b e.symm).1; omega
/-- the roots stay as they are while a point is added -/
theorem Ints.besideP {w w' : World} {B : Nat} {u v v' : Value} {l : List Int} (h : Ints w B u l) (hne : u.ownBlock = none ∨ u.ownBlock ≠ v.ownBlock) (hg : w.grownBy w' v.ownBlock) (hv : v'.ownBlock = v.ownBlock ∨ v'.ownBlock = some w.heap.size) :
    Ints w' B u l ∧ (u.ownBlock = none ∨ u.ownBlock ≠ v'.ownBlock) := Ints.beside h hne hg hv
theorem ip_bd {a b c n y : Int} (hd1 : 5 ≤ disc a b c) (hd2 : disc a b c ≤ 1000) (hn : n ≠ 0) (hn1 : -200 ≤ n) (hn2 : n ≤ 200) (hy1 : 0 ≤ y) (hy2 : y < 400) :
    (0 ≤ y * y ∧ y * y ≤ 160000) ∧ -200000 ≤ (y * y - disc a b c).tdiv (4 * n) ∧ (y * y - disc a b c).tdiv (4 * n) ≤ 200000 := by
  have h1 : 0 ≤ y * y := Int.mul_nonneg hy1 hy1
  have h2 : y * y ≤ 400 * 400 := Int.mul_le_mul (by omega) (by omega) hy1 (by omega)
  have h3 := Int.natAbs_tdiv_le_natAbs (y * y - disc a b c) (4 * n)
  omega
set_option maxHeartbeats 2000000 in
set_option maxRecDepth 100000 in
theorem spec_IndefinitePoints_yes (a b c n : Int) (m : List Pt) (v : Bool) (w : World) (hok : IPOk a b c n) (h : IPR a b c n (ipL a b c n) [] m v) :
    Calls Try.prog 17 #[.agg #[.int .i64 a, .int .i64 b, .int .i64 c], .int .i64 n] w fun e w' => ∃ u, e = .returned (.tuple #[u, .bool v]) ∧ Pts w' w.heap.size u m ∧ Below w.heap.size w w' := by
  obtain ⟨hp, hn0, hn1, hn2⟩ := hok
  have hi := (primB_iff.1 hp).1
  obtain ⟨⟨ha1, ha2⟩, ⟨hb1, hb2⟩, ⟨hc1, hc2⟩, ⟨hd1, hd2⟩, _⟩ := indef_bds hi
  have Hl := Lib.hid (show (decide (-200 ≤ n) && decide (n ≤ 200)) = true by simp; omega)
  have hn0' : (n == 0) = false := by simpa using hn0
  have h4n : ¬ 4 * n = 0 := by omega
  have hna : (n.natAbs : Int) ≤ 200 := by omega
  have hna1 : 1 ≤ (n.natAbs : Int) := by omega
  have Hp := Lib.hid hp
  clear hp
  have Hi := Lib.hid hi
  clear hi
  have Hr := Lib.hid h
  clear h
  go_enter Try.func17, Try.ntmps17
  go_wp2_with fail
  refine (spec_unForm a b c true _ Hp.out).mono ?_
  rintro e w0 ⟨rfl, hb0⟩
  have hB0 : Below w.heap.size w w0 := Below.after (by go_grown) hb0
  have a0 : Holds w0 w.heap.size (cF ⟨a, b, c⟩) 28 := Holds.below (by repeat (first | (refine Holds.new' _ _ _ ?_; simp; done) | refine Holds.alloc ?_ _ | refine Holds.far ?_ (by first | omega | (simp; done) | (simp; omega)))) hb0
  clear hb0
  have y0 : w0.cell? ⟨w.heap.size, 0, none⟩ = some (.int .i64 a) := Holds.cell a0 rfl
  have y1 : w0.cell? ⟨w.heap.size, 1, none⟩ = some (.int .i64 b) := Holds.cell a0 rfl
  have y2 : w0.cell? ⟨w.heap.size, 2, none⟩ = some (.int .i64 c) := Holds.cell a0 rfl
  have yf0 : w0.frozen? ⟨w.heap.size, 0, none⟩ = false := Holds.free a0
  have yf1 : w0.frozen? ⟨w.heap.size, 1, none⟩ = false := Holds.free a0
  have yf2 : w0.frozen? ⟨w.heap.size, 2, none⟩ = false := Holds.free a0
  go_wp2_with fail
  refine (spec_l1In n (-200) 200 true _ Hl.out).mono ?_
  rintro e w' ⟨rfl, rfl⟩
  go_wp2_with fail
  refine (spec_foDisc a b c _ (indefB_good Hi.out)).mono ?_
  rintro e w1 ⟨rfl, hb1'⟩
  have hB1 : Below w.heap.size w w1 := Below.after hB0 hb1'
  have a1 := a0.below hb1'
  have hz1 := a1.lt
  clear y0 y1 y2 yf0 yf1 yf2
  clear hb1' a0 hB0
  go_wp2_with fail
  refine (spec_l1Abs n _ (by omega) (by omega)).mono ?_
  rintro e w' ⟨rfl, rfl⟩
  go_wp2_with fail
  refine (spec_roDisc (disc a b c) (n.natAbs : Int) _ (by omega) (by omega) (by omega) (by omega)).mono ?_
  rintro e w2 ⟨rv, rfl, hints0, hb2'⟩
  have Ha := Lib.hid (a1.below hb2')
  clear a1
  have hB2 : Below w.heap.size w w2 := Below.after (by go_grown) hb2'
  have HB2 := Lib.hid hB2
  have hints : Ints w2 (w.heap.size + 1) rv (ipL a b c n) := Ints.mono hints0 (by first | omega | (simp; omega))
  obtain ⟨rp, rc, rfl, hrl, -⟩ := hints.view
  have hll := rdL_len (disc a b c) (n.natAbs : Int) (2 * (n.natAbs : Int)).toNat
  have hlen : (ipL a b c n).length ≤ 400 := by unfold ipL; omega
  have hmem : ∀ y ∈ ipL a b c n, 0 ≤ y ∧ y < 400 := fun y hy => by
    have := rdL_mem hy
    omega
  obtain ⟨roots, hroots⟩ : ∃ roots, ipL a b c n = roots := ⟨_, rfl⟩
  rw [hroots] at hints hrl hlen hmem Hr ⊢
  try rw [hroots] at hsep0
  have Hints := Lib.hid hints
  have Hmem := Lib.hid hmem
  clear hints hints0 hmem hroots hb2' hll hB2 hB1
  go_wp2_with fail
  have Hpt : Hid (Pts w2 (w.heap.size + 1) (.slice none 0 0) []) := Lib.hid (Pts.nil _ _)
  have Hsep : Hid ((Value.slice rp roots.length rc).ownBlock = none ∨ (Value.slice rp roots.length rc).ownBlock ≠ (Value.slice none 0 0).ownBlock) := Lib.hid (by cases rp with | none => exact .inl rfl | some p => right; simp [Value.ownBlock])
  go_loopw [7, 34] (fun s7 si wr => IPAt w ⟨a, b, c⟩ n roots (.slice rp roots.length rc) m v s7 si wr) (fun _ si _ => roots.length - (intOf si).toNat)
  case atStart => exact ⟨0, [], rfl, by omega, by simp, by simpa using Hr.out, Hpt.out, Hints.out, Hsep.out, HB2.out, Ha.out⟩
  case round =>
    clear Hpt Hsep Ha HB2
    obtain ⟨k, l, rfl, hk, hlk, hr, hpt, hin, hsep, hB, h0⟩ := hrel
    have hz0 := h0.lt
    by_cases hlt : k < roots.length
    · obtain ⟨g, rfl, hg1, hg2, hcell, _⟩ := hin.read k hlt
      have hy := Hmem.out roots[k] (List.getElem_mem hlt)
      rw [List.drop_eq_getElem_cons hlt] at hr
      obtain ⟨y, hye⟩ : ∃ y, roots[k] = y := ⟨_, rfl⟩
      rw [hye] at hcell hy hr
      obtain ⟨hy1, hy2⟩ := hy
      obtain ⟨⟨q1, q2⟩, q3, q4⟩ := ip_bd (a := a) (b := b) (c := c) (n := n) hd1 hd2 hn0 hn1 hn2 hy1 hy2
      have hrc := ipr_cases hr
      obtain ⟨q, hq⟩ : ∃ q, (y * y - disc a b c).tdiv (4 * n) = q := ⟨_, rfl⟩
      have hstep : wr.cell? ⟨g, k, none⟩ = some (.int .i64 y) := hcell
      have Hrc := Lib.hid hrc
      have Hpt := Lib.hid hpt
      have Hin := Lib.hid hin
      have Hsep := Lib.hid hsep
      clear hr hrc hpt hin hsep hcell hye
      have y0 : wr.cell? ⟨w.heap.size, 0, none⟩ = some (.int .i64 a) := Holds.cell h0 rfl
      have y1 : wr.cell? ⟨w.heap.size, 1, none⟩ = some (.int .i64 b) := Holds.cell h0 rfl
      have y2 : wr.cell? ⟨w.heap.size, 2, none⟩ = some (.int .i64 c) := Holds.cell h0 rfl
      have yf0 : wr.frozen? ⟨w.heap.size, 0, none⟩ = false := Holds.free h0
      have yf1 : wr.frozen? ⟨w.heap.size, 1, none⟩ = false := Holds.free h0
      have yf2 : wr.frozen? ⟨w.heap.size, 2, none⟩ = false := Holds.free h0
      go_wp2_with fail
      rw [hq] at Hrc q3 q4
      clear hq
      have hmv : ∀ (r s : Bool), SameOut a b c n y q r s → True := fun _ _ _ => trivial
      clear hmv
      rcases Hrc.out with ⟨rr, hs, rfl, rfl⟩ | ⟨hs, hr⟩ | ⟨hs, mp, mq, mr, ms, hcm, rfl, rfl⟩ | ⟨hs, mp, mq, mr, ms, hcm, hr⟩
      · have Hs := Lib.hid hs
        clear hs Hrc
        refine (spec_SameCycle a b c n y q rr false _ Hs.out).mono ?_
        rintro e w3 ⟨rfl, hb3⟩
        have hB3 : Below w.heap.size w w3 := Below.after (by go_grown) hb3
        have hz3 := hB3.size
        clear hb3
        go_wp2_with fail
        go_ret2
        exact ⟨_, rfl, Pts.nil _ _, by go_grown⟩
      · have Hs := Lib.hid hs
        have Hr' := Lib.hid hr
        clear hs hr Hrc
        refine (spec_SameCycle a b c n y q false true _ Hs.out).mono ?_
        rintro e w3 ⟨rfl, hb3⟩
        have hB3 : Below w.heap.size w w3 := Below.after (by go_grown) hb3
        have g0 := Holds.below (Holds.alloc h0 _) hb3
        have gp := Lib.hid ((Hpt.out.alloc (.cells #[.int .i64 n, .int .i64 y, .int .i64 q] 28)).below hb3)
        have gi := Lib.hid ((Hin.out.alloc (.cells #[.int .i64 n, .int .i64 y, .int .i64 q] 28)).below hb3)
        have G0 := Lib.hid g0
        clear y0 y1 y2 yf0 yf1 yf2
        clear hb3 h0 g0 hB Hpt Hin
        go_wp2_with fail
        go_roundw
        case rel => exact ⟨k + 1, l, by go_num, by omega, by omega, Hr'.out, gp.out, gi.out, Hsep.out, hB3, G0.out⟩
        case measure => simp [intOf]; omega
      all_goals
        have Hs := Lib.hid hs
        have Hcm := Lib.hid hcm
        clear hs hcm Hrc
        refine (spec_SameCycle a b c n y q true true _ Hs.out).mono ?_
        rintro e w3 ⟨rfl, hb3⟩
        have hB3 : Below w.heap.size w w3 := Below.after (by go_grown) hb3
        have g0 := Holds.below (Holds.alloc h0 _) hb3
        have gG : Holds w3 wr.heap.size (cF ⟨n, y, q⟩) 28 := Holds.below (Holds.new _ _ _) hb3
        have gp := Lib.hid ((Hpt.out.alloc (.cells #[.int .i64 n, .int .i64 y, .int .i64 q] 28)).below hb3)
        have gi := Lib.hid ((Hin.out.alloc (.cells #[.int .i64 n, .int .i64 y, .int .i64 q] 28)).below hb3)
        clear y0 y1 y2 yf0 yf1 yf2
        clear hb3 h0 hB Hpt Hin
        have x0 : w3.cell? ⟨w.heap.size, 0, none⟩ = some (.int .i64 a) := Holds.cell g0 rfl
        have x1 : w3.cell? ⟨w.heap.size, 1, none⟩ = some (.int .i64 b) := Holds.cell g0 rfl
        have x2 : w3.cell? ⟨w.heap.size, 2, none⟩ = some (.int .i64 c) := Holds.cell g0 rfl
        have xf0 : w3.frozen? ⟨w.heap.size, 0, none⟩ = false := Holds.free g0
        have xf1 : w3.frozen? ⟨w.heap.size, 1, none⟩ = false := Holds.free g0
        have xf2 : w3.frozen? ⟨w.heap.size, 2, none⟩ = false := Holds.free g0
        have z0 : w3.cell? ⟨wr.heap.size, 0, none⟩ = some (.int .i64 n) := Holds.cell gG rfl
        have z1 : w3.cell? ⟨wr.heap.size, 1, none⟩ = some (.int .i64 y) := Holds.cell gG rfl
        have z2 : w3.cell? ⟨wr.heap.size, 2, none⟩ = some (.int .i64 q) := Holds.cell gG rfl
        have zf0 : w3.frozen? ⟨wr.heap.size, 0, none⟩ = false := Holds.free gG
        have zf1 : w3.frozen? ⟨wr.heap.size, 1, none⟩ = false := Holds.free gG
        have zf2 : w3.frozen? ⟨wr.heap.size, 2, none⟩ = false := Holds.free gG
        have hz3 := g0.lt
        have hz3' := gG.lt
        clear gG
        go_wp2_with fail
      · refine (spec_CycleMatrix a b c n y q mp mq mr ms false _ Hcm.out).mono ?_
        rintro e w4 ⟨rfl, hb4⟩
        have hB4 : Below w.heap.size w w4 := Below.after (by go_grown) hb4
        have hz4 := hB4.size
        clear hb4
        clear x0 x1 x2 xf0 xf1 xf2
        clear z0 z1 z2 zf0 zf1 zf2
        go_wp2_with fail
        go_ret2
        exact ⟨_, rfl, Pts.nil _ _, by go_grown⟩
      · have Hr' := Lib.hid hr
        clear hr
        refine (spec_CycleMatrix a b c n y q mp mq mr ms true _ Hcm.out).mono ?_
        rintro e w4 ⟨rfl, hb4⟩
        have hB4 : Below w.heap.size w w4 := Below.after (by go_grown) hb4
        have hz4 := hB4.size
        have hp4 := (gp.out.below hb4).alloc (.cells #[.int .i64 mp, .int .i64 mq, .int .i64 mr, .int .i64 ms] 30)
        have hi4 := (gi.out.below hb4).alloc (.cells #[.int .i64 mp, .int .i64 mq, .int .i64 mr, .int .i64 ms] 30)
        have h04 := (g0.below hb4).alloc (.cells #[.int .i64 mp, .int .i64 mq, .int .i64 mr, .int .i64 ms] 30)
        have Hp5 := Lib.hid (hp4.alloc (.cells (cP ⟨mp, mr⟩) 81))
        have Hi5 := Lib.hid (hi4.alloc (.cells (cP ⟨mp, mr⟩) 81))
        have H05 := Lib.hid (h04.alloc (.cells (cP ⟨mp, mr⟩) 81))
        have Hnew : Hid (Holds ((w4.alloc (.cells #[.int .i64 mp, .int .i64 mq, .int .i64 mr, .int .i64 ms] 30)).alloc (.cells (cP ⟨mp, mr⟩) 81)) (w4.heap.size + 1) (cP ⟨mp, mr⟩) 81) := Lib.hid (Holds.new' _ _ _ (by simp))
        have hB5 : Below w.heap.size w ((w4.alloc (.cells #[.int .i64 mp, .int .i64 mq, .int .i64 mr, .int .i64 ms] 30)).alloc (.cells (cP ⟨mp, mr⟩) 81)) := (hB4.alloc hz4 _).alloc (by simp; omega) _
        have HB5 := Lib.hid hB5
        clear hp4 hi4 h04 hb4 gp gi g0 hB5
        clear x0 x1 x2 xf0 xf1 xf2
        clear z0 z1 z2 zf0 zf1 zf2
        have hl6 : l.length ≤ 1000000 := by omega
        go_wp2_with (at_builtin; refine app_ptB (w.heap.size + 1) l ⟨mp, mr⟩ u7 (w4.heap.size + 1) _ _ rfl rfl rfl rfl Hp5.out Hnew.out hl6 (by simp; omega) ?_)
        intro v6 w6 hown6 hgrow6 hblk6
        have hB6 : Below w.heap.size w w6 := below_grownP HB5.out (Hp5.out.mono (by omega)) hgrow6 (by simp; omega)
        have h06 : Holds w6 w.heap.size (cF ⟨a, b, c⟩) 28 := (hgrow6.block _ H05.out.lt (Hp5.out.ne (by omega))).trans H05.out
        obtain ⟨hi6, hs6⟩ := Ints.besideP (v' := v6) Hi5.out Hsep.out hgrow6 (by simpa using hblk6)
        have K := Lib.hid (And.intro hown6 (And.intro hi6 (And.intro hs6 (And.intro hB6 h06))))
        clear hown6 hgrow6 hblk6 hB6 h06 hi6 hs6 Hp5 Hi5 H05 Hnew HB5 hB4 hB3
        go_wp2_with fail
        go_roundw
        case rel => exact ⟨k + 1, l ++ [⟨mp, mr⟩], by go_num, by omega, by simp; omega, Hr'.out, K.out.1, K.out.2.1, K.out.2.2.1, K.out.2.2.2.1, K.out.2.2.2.2⟩
        case measure => simp [intOf]; omega
    · obtain rfl : k = roots.length := by omega
      rw [List.drop_length] at hr
      obtain ⟨rfl, rfl⟩ := ipr_nil hr
      have Hpt := Lib.hid (hpt.mono (B' := w.heap.size) (by omega))
      clear hr hpt hin hsep
      go_wp2_with fail
      go_ret2
      exact ⟨_, rfl, Hpt.out, hB⟩
set_option maxHeartbeats 2000000 in
set_option maxRecDepth 100000 in
theorem impl_IndefinitePoints_yes (a b c n : Int) (m : List Pt) (v : Bool) (w : World) (hok : IPOk a b c n) (h : IPR a b c n (ipL a b c n) [] m v) :
    Calls Try.prog 18 #[.agg #[.int .i64 a, .int .i64 b, .int .i64 c], .int .i64 n] w fun e w' => ∃ u, e = .returned (.tuple #[u, .bool v]) ∧ Pts w' w.heap.size u m ∧ Below w.heap.size w w' := by
  obtain ⟨hp, hn0, hn1, hn2⟩ := hok
  have hi := (primB_iff.1 hp).1
  obtain ⟨⟨ha1, ha2⟩, ⟨hb1, hb2⟩, ⟨hc1, hc2⟩, ⟨hd1, hd2⟩, _⟩ := indef_bds hi
  have Hl := Lib.hid (show (decide (-200 ≤ n) && decide (n ≤ 200)) = true by simp; omega)
  have hn0' : (n == 0) = false := by simpa using hn0
  have h4n : ¬ 4 * n = 0 := by omega
  have hna : (n.natAbs : Int) ≤ 200 := by omega
  have hna1 : 1 ≤ (n.natAbs : Int) := by omega
  have Hp := Lib.hid hp
  clear hp
  have Hi := Lib.hid hi
  clear hi
  have Hr := Lib.hid h
  clear h
  go_enter Try.func18, Try.ntmps18
  go_wp2_with fail
  refine (impl_isPrimitiveIndefinite a b c true _ Hp.out).mono ?_
  rintro e w0 ⟨rfl, hb0⟩
  have hB0 : Below w.heap.size w w0 := Below.after (by go_grown) hb0
  have a0 : Holds w0 w.heap.size (cF ⟨a, b, c⟩) 28 := Holds.below (by repeat (first | (refine Holds.new' _ _ _ ?_; simp; done) | refine Holds.alloc ?_ _ | refine Holds.far ?_ (by first | omega | (simp; done) | (simp; omega)))) hb0
  clear hb0
  have y0 : w0.cell? ⟨w.heap.size, 0, none⟩ = some (.int .i64 a) := Holds.cell a0 rfl
  have y1 : w0.cell? ⟨w.heap.size, 1, none⟩ = some (.int .i64 b) := Holds.cell a0 rfl
  have y2 : w0.cell? ⟨w.heap.size, 2, none⟩ = some (.int .i64 c) := Holds.cell a0 rfl
  have yf0 : w0.frozen? ⟨w.heap.size, 0, none⟩ = false := Holds.free a0
  have yf1 : w0.frozen? ⟨w.heap.size, 1, none⟩ = false := Holds.free a0
  have yf2 : w0.frozen? ⟨w.heap.size, 2, none⟩ = false := Holds.free a0
  go_wp2_with fail
  refine (impl_abs n _ (by omega) (by omega)).mono ?_
  rintro e w' ⟨rfl, rfl⟩
  go_wp2_with fail
  refine (impl_disc a b c _ (indefB_good Hi.out)).mono ?_
  rintro e w1 ⟨rfl, hb1'⟩
  have hB1 : Below w.heap.size w w1 := Below.after hB0 hb1'
  have a1 := a0.below hb1'
  have hz1 := a1.lt
  clear y0 y1 y2 yf0 yf1 yf2
  clear hb1' a0 hB0
  go_wp2_with fail
  refine (impl_abs n _ (by omega) (by omega)).mono ?_
  rintro e w' ⟨rfl, rfl⟩
  go_wp2_with fail
  refine (impl_rootsOfDiscriminant (disc a b c) (n.natAbs : Int) _ (by omega) (by omega) (by omega) (by omega)).mono ?_
  rintro e w2 ⟨rv, rfl, hints0, hb2'⟩
  have Ha := Lib.hid ((a1.alloc (.cells #[] 81)).below hb2')
  have hpt0 : Pts w2 (w.heap.size + 1) (.slice (some ⟨w1.heap.size, 0, none⟩) 0 0) [] := (Pts.empty w1 rfl (by omega)).below hb2'
  have hsep0 : rv.ownBlock = none ∨ rv.ownBlock ≠ some w1.heap.size := by
    cases hv : rv.ownBlock with
    | none => exact .inl rfl
    | some j =>
      right
      have := (hints0.lt j hv).1
      intro e
      simp at e this
      omega
  clear a1
  have hB2 : Below w.heap.size w w2 := Below.after (by go_grown) hb2'
  have HB2 := Lib.hid hB2
  have hints : Ints w2 (w.heap.size + 1) rv (ipL a b c n) := Ints.mono hints0 (by first | omega | (simp; omega))
  obtain ⟨rp, rc, rfl, hrl, -⟩ := hints.view
  have hll := rdL_len (disc a b c) (n.natAbs : Int) (2 * (n.natAbs : Int)).toNat
  have hlen : (ipL a b c n).length ≤ 400 := by unfold ipL; omega
  have hmem : ∀ y ∈ ipL a b c n, 0 ≤ y ∧ y < 400 := fun y hy => by
    have := rdL_mem hy
    omega
  obtain ⟨roots, hroots⟩ : ∃ roots, ipL a b c n = roots := ⟨_, rfl⟩
  rw [hroots] at hints hrl hlen hmem Hr ⊢
  try rw [hroots] at hsep0
  have Hints := Lib.hid hints
  have Hmem := Lib.hid hmem
  clear hints hints0 hmem hroots hb2' hll hB2 hB1
  go_wp2_with fail
  have Hpt := Lib.hid hpt0
  have Hsep : Hid ((Value.slice rp roots.length rc).ownBlock = none ∨ (Value.slice rp roots.length rc).ownBlock ≠ (Value.slice (some ⟨w1.heap.size, 0, none⟩) 0 0).ownBlock) := Lib.hid hsep0
  clear hpt0 hsep0
  go_loopw [7, 35] (fun s7 si wr => IPAt w ⟨a, b, c⟩ n roots (.slice rp roots.length rc) m v s7 si wr) (fun _ si _ => roots.length - (intOf si).toNat)
  case atStart => exact ⟨0, [], rfl, by omega, by simp, by simpa using Hr.out, Hpt.out, Hints.out, Hsep.out, HB2.out, Ha.out⟩
  case round =>
    clear Hpt Hsep Ha HB2
    obtain ⟨k, l, rfl, hk, hlk, hr, hpt, hin, hsep, hB, h0⟩ := hrel
    have hz0 := h0.lt
    by_cases hlt : k < roots.length
    · obtain ⟨g, rfl, hg1, hg2, hcell, _⟩ := hin.read k hlt
      have hy := Hmem.out roots[k] (List.getElem_mem hlt)
      rw [List.drop_eq_getElem_cons hlt] at hr
      obtain ⟨y, hye⟩ : ∃ y, roots[k] = y := ⟨_, rfl⟩
      rw [hye] at hcell hy hr
      obtain ⟨hy1, hy2⟩ := hy
      obtain ⟨⟨q1, q2⟩, q3, q4⟩ := ip_bd (a := a) (b := b) (c := c) (n := n) hd1 hd2 hn0 hn1 hn2 hy1 hy2
      have hrc := ipr_cases hr
      obtain ⟨q, hq⟩ : ∃ q, (y * y - disc a b c).tdiv (4 * n) = q := ⟨_, rfl⟩
      have hstep : wr.cell? ⟨g, k, none⟩ = some (.int .i64 y) := hcell
      have Hrc := Lib.hid hrc
      have Hpt := Lib.hid hpt
      have Hin := Lib.hid hin
      have Hsep := Lib.hid hsep
      clear hr hrc hpt hin hsep hcell hye
      have y0 : wr.cell? ⟨w.heap.size, 0, none⟩ = some (.int .i64 a) := Holds.cell h0 rfl
      have y1 : wr.cell? ⟨w.heap.size, 1, none⟩ = some (.int .i64 b) := Holds.cell h0 rfl
      have y2 : wr.cell? ⟨w.heap.size, 2, none⟩ = some (.int .i64 c) := Holds.cell h0 rfl
      have yf0 : wr.frozen? ⟨w.heap.size, 0, none⟩ = false := Holds.free h0
      have yf1 : wr.frozen? ⟨w.heap.size, 1, none⟩ = false := Holds.free h0
      have yf2 : wr.frozen? ⟨w.heap.size, 2, none⟩ = false := Holds.free h0
      go_wp2_with fail
      rw [hq] at Hrc q3 q4
      clear hq
      have hmv : ∀ (r s : Bool), SameOut a b c n y q r s → True := fun _ _ _ => trivial
      clear hmv
      rcases Hrc.out with ⟨rr, hs, rfl, rfl⟩ | ⟨hs, hr⟩ | ⟨hs, mp, mq, mr, ms, hcm, rfl, rfl⟩ | ⟨hs, mp, mq, mr, ms, hcm, hr⟩
      · have Hs := Lib.hid hs
        clear hs Hrc
        refine (impl_SameCycle a b c n y q rr false _ Hs.out).mono ?_
        rintro e w3 ⟨rfl, hb3⟩
        have hB3 : Below w.heap.size w w3 := Below.after (by go_grown) hb3
        have hz3 := hB3.size
        clear hb3
        go_wp2_with fail
        go_ret2
        exact ⟨_, rfl, Pts.empty _ (by simp) (by go_size), by go_grown⟩
      · have Hs := Lib.hid hs
        have Hr' := Lib.hid hr
        clear hs hr Hrc
        refine (impl_SameCycle a b c n y q false true _ Hs.out).mono ?_
        rintro e w3 ⟨rfl, hb3⟩
        have hB3 : Below w.heap.size w w3 := Below.after (by go_grown) hb3
        have g0 := Holds.below (Holds.alloc h0 _) hb3
        have gp := Lib.hid ((Hpt.out.alloc (.cells #[.int .i64 n, .int .i64 y, .int .i64 q] 28)).below hb3)
        have gi := Lib.hid ((Hin.out.alloc (.cells #[.int .i64 n, .int .i64 y, .int .i64 q] 28)).below hb3)
        have G0 := Lib.hid g0
        clear y0 y1 y2 yf0 yf1 yf2
        clear hb3 h0 g0 hB Hpt Hin
        go_wp2_with fail
        go_roundw
        case rel => exact ⟨k + 1, l, by go_num, by omega, by omega, Hr'.out, gp.out, gi.out, Hsep.out, hB3, G0.out⟩
        case measure => simp [intOf]; omega
      all_goals
        have Hs := Lib.hid hs
        have Hcm := Lib.hid hcm
        clear hs hcm Hrc
        refine (impl_SameCycle a b c n y q true true _ Hs.out).mono ?_
        rintro e w3 ⟨rfl, hb3⟩
        have hB3 : Below w.heap.size w w3 := Below.after (by go_grown) hb3
        have g0 := Holds.below (Holds.alloc h0 _) hb3
        have gG : Holds w3 wr.heap.size (cF ⟨n, y, q⟩) 28 := Holds.below (Holds.new _ _ _) hb3
        have gp := Lib.hid ((Hpt.out.alloc (.cells #[.int .i64 n, .int .i64 y, .int .i64 q] 28)).below hb3)
        have gi := Lib.hid ((Hin.out.alloc (.cells #[.int .i64 n, .int .i64 y, .int .i64 q] 28)).below hb3)
        clear y0 y1 y2 yf0 yf1 yf2
        clear hb3 h0 hB Hpt Hin
        have x0 : w3.cell? ⟨w.heap.size, 0, none⟩ = some (.int .i64 a) := Holds.cell g0 rfl
        have x1 : w3.cell? ⟨w.heap.size, 1, none⟩ = some (.int .i64 b) := Holds.cell g0 rfl
        have x2 : w3.cell? ⟨w.heap.size, 2, none⟩ = some (.int .i64 c) := Holds.cell g0 rfl
        have xf0 : w3.frozen? ⟨w.heap.size, 0, none⟩ = false := Holds.free g0
        have xf1 : w3.frozen? ⟨w.heap.size, 1, none⟩ = false := Holds.free g0
        have xf2 : w3.frozen? ⟨w.heap.size, 2, none⟩ = false := Holds.free g0
        have z0 : w3.cell? ⟨wr.heap.size, 0, none⟩ = some (.int .i64 n) := Holds.cell gG rfl
        have z1 : w3.cell? ⟨wr.heap.size, 1, none⟩ = some (.int .i64 y) := Holds.cell gG rfl
        have z2 : w3.cell? ⟨wr.heap.size, 2, none⟩ = some (.int .i64 q) := Holds.cell gG rfl
        have zf0 : w3.frozen? ⟨wr.heap.size, 0, none⟩ = false := Holds.free gG
        have zf1 : w3.frozen? ⟨wr.heap.size, 1, none⟩ = false := Holds.free gG
        have zf2 : w3.frozen? ⟨wr.heap.size, 2, none⟩ = false := Holds.free gG
        have hz3 := g0.lt
        have hz3' := gG.lt
        clear gG
        go_wp2_with fail
      · refine (impl_CycleMatrix a b c n y q mp mq mr ms false _ Hcm.out).mono ?_
        rintro e w4 ⟨rfl, hb4⟩
        have hB4 : Below w.heap.size w w4 := Below.after (by go_grown) hb4
        have hz4 := hB4.size
        clear hb4
        clear x0 x1 x2 xf0 xf1 xf2
        clear z0 z1 z2 zf0 zf1 zf2
        go_wp2_with fail
        go_ret2
        exact ⟨_, rfl, Pts.empty _ (by simp) (by go_size), by go_grown⟩
      · have Hr' := Lib.hid hr
        clear hr
        refine (impl_CycleMatrix a b c n y q mp mq mr ms true _ Hcm.out).mono ?_
        rintro e w4 ⟨rfl, hb4⟩
        have hB4 : Below w.heap.size w w4 := Below.after (by go_grown) hb4
        have hz4 := hB4.size
        have hp4 := (gp.out.below hb4).alloc (.cells #[.int .i64 mp, .int .i64 mq, .int .i64 mr, .int .i64 ms] 30)
        have hi4 := (gi.out.below hb4).alloc (.cells #[.int .i64 mp, .int .i64 mq, .int .i64 mr, .int .i64 ms] 30)
        have h04 := (g0.below hb4).alloc (.cells #[.int .i64 mp, .int .i64 mq, .int .i64 mr, .int .i64 ms] 30)
        have Hp5 := Lib.hid (hp4.alloc (.cells (cP ⟨mp, mr⟩) 81))
        have Hi5 := Lib.hid (hi4.alloc (.cells (cP ⟨mp, mr⟩) 81))
        have H05 := Lib.hid (h04.alloc (.cells (cP ⟨mp, mr⟩) 81))
        have Hnew : Hid (Holds ((w4.alloc (.cells #[.int .i64 mp, .int .i64 mq, .int .i64 mr, .int .i64 ms] 30)).alloc (.cells (cP ⟨mp, mr⟩) 81)) (w4.heap.size + 1) (cP ⟨mp, mr⟩) 81) := Lib.hid (Holds.new' _ _ _ (by simp))
        have hB5 : Below w.heap.size w ((w4.alloc (.cells #[.int .i64 mp, .int .i64 mq, .int .i64 mr, .int .i64 ms] 30)).alloc (.cells (cP ⟨mp, mr⟩) 81)) := (hB4.alloc hz4 _).alloc (by simp; omega) _
        have HB5 := Lib.hid hB5
        clear hp4 hi4 h04 hb4 gp gi g0 hB5
        clear x0 x1 x2 xf0 xf1 xf2
        clear z0 z1 z2 zf0 zf1 zf2
        have hl6 : l.length ≤ 1000000 := by omega
        go_wp2_with (at_builtin; refine app_ptB (w.heap.size + 1) l ⟨mp, mr⟩ u7 (w4.heap.size + 1) _ _ rfl rfl rfl rfl Hp5.out Hnew.out hl6 (by simp; omega) ?_)
        intro v6 w6 hown6 hgrow6 hblk6
        have hB6 : Below w.heap.size w w6 := below_grownP HB5.out (Hp5.out.mono (by omega)) hgrow6 (by simp; omega)
        have h06 : Holds w6 w.heap.size (cF ⟨a, b, c⟩) 28 := (hgrow6.block _ H05.out.lt (Hp5.out.ne (by omega))).trans H05.out
        obtain ⟨hi6, hs6⟩ := Ints.besideP (v' := v6) Hi5.out Hsep.out hgrow6 (by simpa using hblk6)
        have K := Lib.hid (And.intro hown6 (And.intro hi6 (And.intro hs6 (And.intro hB6 h06))))
        clear hown6 hgrow6 hblk6 hB6 h06 hi6 hs6 Hp5 Hi5 H05 Hnew HB5 hB4 hB3
        go_wp2_with fail
        go_roundw
        case rel => exact ⟨k + 1, l ++ [⟨mp, mr⟩], by go_num, by omega, by simp; omega, Hr'.out, K.out.1, K.out.2.1, K.out.2.2.1, K.out.2.2.2.1, K.out.2.2.2.2⟩
        case measure => simp [intOf]; omega
    · obtain rfl : k = roots.length := by omega
      rw [List.drop_length] at hr
      obtain ⟨rfl, rfl⟩ := ipr_nil hr
      have Hpt := Lib.hid (hpt.mono (B' := w.heap.size) (by omega))
      clear hr hpt hin hsep
      go_wp2_with fail
      go_ret2
      exact ⟨_, rfl, Hpt.out, hB⟩
theorem spec_IndefinitePoints_no (a b c n : Int) (w : World) (h : ¬ IPOk a b c n) :
    Calls Try.prog 17 #[.agg #[.int .i64 a, .int .i64 b, .int .i64 c], .int .i64 n] w fun e w' => ∃ u, e = .returned (.tuple #[u, .bool false]) ∧ Pts w' w.heap.size u [] ∧ Below w.heap.size w w' := by
  cases hp : primB a b c with
  | false =>
    have Hp := Lib.hid hp
    clear hp
    clear h
    go_enter Try.func17, Try.ntmps17
    go_wp2_with fail
    refine (spec_unForm a b c false _ Hp.out).mono ?_
    rintro e w1 ⟨rfl, hb1⟩
    have hB1 : Below w.heap.size w w1 := Below.after (by go_grown) hb1
    obtain ⟨hc1, hf1⟩ := bcell hb1
    have hy1 := hb1.size
    try simp at hy1
    first | (with_reducible have hx1 := Nat.lt_of_succ_le hy1) | skip
    first | (with_reducible have hv1 := Nat.lt_of_succ_lt hx1) | skip
    first | (with_reducible have hu1 := Nat.lt_of_succ_lt hv1) | skip
    first | (have hz1 : w.heap.size < w1.heap.size := by omega) | (have hz1 := hB1.size)
    clear hb1
    go_wp2_with fail
    go_ret2
    exact ⟨_, rfl, Pts.nil _ _, by go_grown⟩
  | true =>
    by_cases hn : n = 0
    · subst hn
      have Hp := Lib.hid hp
      clear hp
      clear h
      go_enter Try.func17, Try.ntmps17
      go_wp2_with fail
      refine (spec_unForm a b c true _ Hp.out).mono ?_
      rintro e w1 ⟨rfl, hb1⟩
      have hB1 : Below w.heap.size w w1 := Below.after (by go_grown) hb1
      obtain ⟨hc1, hf1⟩ := bcell hb1
      have hy1 := hb1.size
      try simp at hy1
      first | (with_reducible have hx1 := Nat.lt_of_succ_le hy1) | skip
      first | (with_reducible have hv1 := Nat.lt_of_succ_lt hx1) | skip
      first | (with_reducible have hu1 := Nat.lt_of_succ_lt hv1) | skip
      first | (have hz1 : w.heap.size < w1.heap.size := by omega) | (have hz1 := hB1.size)
      clear hb1
      go_wp2_with fail
      go_ret2
      exact ⟨_, rfl, Pts.nil _ _, by go_grown⟩
    · have Hl := Lib.hid (show (decide (-200 ≤ n) && decide (n ≤ 200)) = false by simp; intro h1; exact Int.not_le.1 fun h2 => h ⟨hp, hn, h1, h2⟩)
      have hn0 : (n == 0) = false := by simpa using hn
      have Hp := Lib.hid hp
      clear hp
      clear h
      go_enter Try.func17, Try.ntmps17
      go_wp2_with fail
      refine (spec_unForm a b c true _ Hp.out).mono ?_
      rintro e w1 ⟨rfl, hb1⟩
      have hB1 : Below w.heap.size w w1 := Below.after (by go_grown) hb1
      obtain ⟨hc1, hf1⟩ := bcell hb1
      have hy1 := hb1.size
      try simp at hy1
      first | (with_reducible have hx1 := Nat.lt_of_succ_le hy1) | skip
      first | (with_reducible have hv1 := Nat.lt_of_succ_lt hx1) | skip
      first | (with_reducible have hu1 := Nat.lt_of_succ_lt hv1) | skip
      first | (have hz1 : w.heap.size < w1.heap.size := by omega) | (have hz1 := hB1.size)
      clear hb1
      go_wp2_with fail
      refine (spec_l1In n (-200) 200 false _ Hl.out).mono ?_
      rintro e w' ⟨rfl, rfl⟩
      go_wp2_with fail
      go_ret2
      exact ⟨_, rfl, Pts.nil _ _, by go_grown⟩
theorem spec_IndefinitePoints (a b c n : Int) (m : List Pt) (v : Bool) (w : World) (h : IPOut a b c n m v) :
    Calls Try.prog 17 #[.agg #[.int .i64 a, .int .i64 b, .int .i64 c], .int .i64 n] w fun e w' => ∃ u, e = .returned (.tuple #[u, .bool v]) ∧ Pts w' w.heap.size u m ∧ Below w.heap.size w w' := by
  rcases h with ⟨h1, h2⟩ | ⟨h1, rfl, rfl⟩
  · exact spec_IndefinitePoints_yes a b c n m v w h1 h2
  · exact spec_IndefinitePoints_no a b c n w h1
theorem impl_abs_min (w : World) :
    Calls Try.prog 65 #[.int .i64 (-9223372036854775808)] w fun e w' => e = .returned (.int .i64 9223372036854775807) ∧ w = w' := by
  go_enter Try.func65, Try.ntmps65
  go_wp2
  all_goals (try go_ret)
  all_goals exact ⟨rfl, rfl⟩
theorem impl_IndefinitePoints_no (a b c n : Int) (w : World) (h : ¬ IPOk a b c n) (hw1 : -9223372036854775808 ≤ n) (hw2 : n ≤ 9223372036854775807) :
    Calls Try.prog 18 #[.agg #[.int .i64 a, .int .i64 b, .int .i64 c], .int .i64 n] w fun e w' => ∃ u, e = .returned (.tuple #[u, .bool false]) ∧ Pts w' w.heap.size u [] ∧ Below w.heap.size w w' := by
  cases hp : primB a b c with
  | false =>
    have Hp := Lib.hid hp
    clear hp
    clear h
    go_enter Try.func18, Try.ntmps18
    go_wp2_with fail
    refine (impl_isPrimitiveIndefinite a b c false _ Hp.out).mono ?_
    rintro e w1 ⟨rfl, hb1⟩
    have hB1 : Below w.heap.size w w1 := Below.after (by go_grown) hb1
    obtain ⟨hc1, hf1⟩ := bcell hb1
    have hy1 := hb1.size
    try simp at hy1
    first | (with_reducible have hx1 := Nat.lt_of_succ_le hy1) | skip
    first | (with_reducible have hv1 := Nat.lt_of_succ_lt hx1) | skip
    first | (with_reducible have hu1 := Nat.lt_of_succ_lt hv1) | skip
    first | (have hz1 : w.heap.size < w1.heap.size := by omega) | (have hz1 := hB1.size)
    clear hb1
    go_wp2_with fail
    go_ret2
    exact ⟨_, rfl, Pts.empty _ (by simp) (by go_size), by go_grown⟩
  | true =>
    by_cases hn : n = 0
    · subst hn
      have Hp := Lib.hid hp
      clear hp
      clear h
      go_enter Try.func18, Try.ntmps18
      go_wp2_with fail
      refine (impl_isPrimitiveIndefinite a b c true _ Hp.out).mono ?_
      rintro e w1 ⟨rfl, hb1⟩
      have hB1 : Below w.heap.size w w1 := Below.after (by go_grown) hb1
      obtain ⟨hc1, hf1⟩ := bcell hb1
      have hy1 := hb1.size
      try simp at hy1
      first | (with_reducible have hx1 := Nat.lt_of_succ_le hy1) | skip
      first | (with_reducible have hv1 := Nat.lt_of_succ_lt hx1) | skip
      first | (with_reducible have hu1 := Nat.lt_of_succ_lt hv1) | skip
      first | (have hz1 : w.heap.size < w1.heap.size := by omega) | (have hz1 := hB1.size)
      clear hb1
      go_wp2_with fail
      go_ret2
      exact ⟨_, rfl, Pts.empty _ (by simp) (by go_size), by go_grown⟩
    · by_cases hm : n = -9223372036854775808
      · subst hm
        have Hp := Lib.hid hp
        clear hp
        clear h
        go_enter Try.func18, Try.ntmps18
        go_wp2_with fail
        refine (impl_isPrimitiveIndefinite a b c true _ Hp.out).mono ?_
        rintro e w1 ⟨rfl, hb1⟩
        have hB1 : Below w.heap.size w w1 := Below.after (by go_grown) hb1
        obtain ⟨hc1, hf1⟩ := bcell hb1
        have hy1 := hb1.size
        try simp at hy1
        first | (with_reducible have hx1 := Nat.lt_of_succ_le hy1) | skip
        first | (with_reducible have hv1 := Nat.lt_of_succ_lt hx1) | skip
        first | (with_reducible have hu1 := Nat.lt_of_succ_lt hv1) | skip
        first | (have hz1 : w.heap.size < w1.heap.size := by omega) | (have hz1 := hB1.size)
        clear hb1
        go_wp2_with fail
        refine (impl_abs_min _).mono ?_
        rintro e w' ⟨rfl, rfl⟩
        go_wp2_with fail
        go_ret2
        exact ⟨_, rfl, Pts.empty _ (by simp) (by go_size), by go_grown⟩
      · have hbig : 200 < (n.natAbs : Int) := by
          refine Int.not_le.1 fun hc => h ⟨hp, hn, by omega, by omega⟩
        have hn0 : (n == 0) = false := by simpa using hn
        have Hp := Lib.hid hp
        clear hp
        clear h
        go_enter Try.func18, Try.ntmps18
        go_wp2_with fail
        refine (impl_isPrimitiveIndefinite a b c true _ Hp.out).mono ?_
        rintro e w1 ⟨rfl, hb1⟩
        have hB1 : Below w.heap.size w w1 := Below.after (by go_grown) hb1
        obtain ⟨hc1, hf1⟩ := bcell hb1
        have hy1 := hb1.size
        try simp at hy1
        first | (with_reducible have hx1 := Nat.lt_of_succ_le hy1) | skip
        first | (with_reducible have hv1 := Nat.lt_of_succ_lt hx1) | skip
        first | (with_reducible have hu1 := Nat.lt_of_succ_lt hv1) | skip
        first | (have hz1 : w.heap.size < w1.heap.size := by omega) | (have hz1 := hB1.size)
        clear hb1
        go_wp2_with fail
        refine (impl_abs n _ (by omega) (by omega)).mono ?_
        rintro e w' ⟨rfl, rfl⟩
        go_wp2_with fail
        go_ret2
        exact ⟨_, rfl, Pts.empty _ (by simp) (by go_size), by go_grown⟩
theorem impl_IndefinitePoints (a b c n : Int) (m : List Pt) (v : Bool) (w : World) (hw1 : -9223372036854775808 ≤ n) (hw2 : n ≤ 9223372036854775807) (h : IPOut a b c n m v) :
    Calls Try.prog 18 #[.agg #[.int .i64 a, .int .i64 b, .int .i64 c], .int .i64 n] w fun e w' => ∃ u, e = .returned (.tuple #[u, .bool v]) ∧ Pts w' w.heap.size u m ∧ Below w.heap.size w w' := by
  rcases h with ⟨h1, h2⟩ | ⟨h1, rfl, rfl⟩
  · exact impl_IndefinitePoints_yes a b c n m v w h1 h2
  · exact impl_IndefinitePoints_no a b c n w h1 hw1 hw2
set_option maxHeartbeats 1000000 in
theorem walkIP (a b c n : Int) (l : List Pt) (v : Bool) (w : World) (hlen : l.length ≤ 1000000) (hw1 : -9223372036854775808 ≤ n) (hw2 : n ≤ 9223372036854775807) (h : IPOut a b c n l v) :
    Calls Try.prog 4 #[.agg #[.int .i64 a, .int .i64 b, .int .i64 c], .int .i64 n] w fun e w' => e = .returned (.bool true) ∧ Below w.heap.size w w' := by
  have H := Lib.hid h
  clear h
  go_enter Try.func4, Try.ntmps4
  go_wp2_with fail
  refine (laws_toForm a b c _).mono ?_
  rintro e w1 ⟨rfl, hb1⟩
  have hB1 : Below w.heap.size w w1 := Below.after (by go_grown) hb1
  have a1 : Holds w1 w.heap.size (cF ⟨a, b, c⟩) 23 := Holds.below (by repeat (first | (refine Holds.new' _ _ _ ?_; simp; done) | refine Holds.alloc ?_ _ | refine Holds.far ?_ (by first | omega | (simp; done) | (simp; omega)))) hb1
  clear hb1
  go_wp2_with fail
  refine (spec_IndefinitePoints a b c n l v _ H.out).mono ?_
  rintro e w2 ⟨v0, rfl, h0, hb2⟩
  have hB2 : Below w.heap.size w w2 := Below.after hB1 hb2
  have a2 := Holds.below a1 hb2
  have H0 := Lib.hid h0
  clear h0 hb2 a1 hB1
  have hz2 := a2.lt
  have y0 : w2.cell? ⟨w.heap.size, 0, none⟩ = some (.int .i64 a) := Holds.cell a2 rfl
  have y1 : w2.cell? ⟨w.heap.size, 1, none⟩ = some (.int .i64 b) := Holds.cell a2 rfl
  have y2 : w2.cell? ⟨w.heap.size, 2, none⟩ = some (.int .i64 c) := Holds.cell a2 rfl
  have yf0 : w2.frozen? ⟨w.heap.size, 0, none⟩ = false := Holds.free a2
  have yf1 : w2.frozen? ⟨w.heap.size, 1, none⟩ = false := Holds.free a2
  have yf2 : w2.frozen? ⟨w.heap.size, 2, none⟩ = false := Holds.free a2
  go_wp2_with fail
  refine (laws_toForm a b c _).mono ?_
  rintro e w3 ⟨rfl, hb3⟩
  have hB3 : Below w.heap.size w w3 := Below.after hB2 hb3
  have a3 := Holds.below a2 hb3
  have H03 := Lib.hid (H0.out.below hb3)
  clear y0 y1 y2 yf0 yf1 yf2
  clear a2 hb3 hB2 H0
  go_wp2_with fail
  refine (impl_IndefinitePoints a b c n l v _ hw1 hw2 H.out).mono ?_
  rintro e w4 ⟨v1, rfl, h1, hb4⟩
  have hB4 : Below w.heap.size w w4 := Below.after hB3 hb4
  have hz4 := hB4.size
  have hz3 := a3.lt
  have hz34 := hb4.size
  have hsep := sep_ofP H03.out h1
  have h0' := H03.out.below hb4
  have a4 := Holds.below a3 hb4
  clear hb4 hB3 H03 a3
  have Hsep := Lib.hid hsep
  have H0 := Lib.hid h0'
  have H1 := Lib.hid h1
  clear hsep h0' h1
  go_wp2_with fail
  refine (laws_eqPointS l v1 v0 w3.heap.size w1.heap.size _ hlen H1.out H0.out).mono ?_
  rintro e w5 ⟨rfl, hb5⟩
  have hB5 : Below w.heap.size w w5 := Below.after hB4 hb5
  have hz5 := hB5.size
  have H05 := Lib.hid (H0.out.below hb5)
  have H15 := Lib.hid (H1.out.below hb5)
  have a5 := Holds.below a4 hb5
  have hz35 : w3.heap.size ≤ w5.heap.size := by have := hb5.size; omega
  clear hb5 H0 H1 hB4 a4
  go_wp2_with fail
  refine (laws_markPointS l v1 w3.heap.size _ hlen H15.out).mono ?_
  rintro e w6 ⟨rfl, h6, hg6⟩
  have hB6 : Below w.heap.size w w6 := below_grownP hB5 (H15.out.mono (by omega)) hg6 (by omega)
  have hz6 := hg6.size
  have H06 := Lib.hid (H05.out.kept hg6 Hsep.out)
  have H6 := Lib.hid h6
  have a6 : Holds w6 w.heap.size (cF ⟨a, b, c⟩) 23 := (hg6.block _ a5.lt (H15.out.ne (by omega))).trans a5
  clear h6 hg6 H05 H15 hB5 Hsep a5
  go_wp2_with fail
  refine (laws_heldPointS l.length v1 w3.heap.size _ hlen H6.out).mono ?_
  rintro e w' ⟨rfl, rfl⟩
  have y0 : w6.cell? ⟨w.heap.size, 0, none⟩ = some (.int .i64 a) := Holds.cell a6 rfl
  have y1 : w6.cell? ⟨w.heap.size, 1, none⟩ = some (.int .i64 b) := Holds.cell a6 rfl
  have y2 : w6.cell? ⟨w.heap.size, 2, none⟩ = some (.int .i64 c) := Holds.cell a6 rfl
  have yf0 : w6.frozen? ⟨w.heap.size, 0, none⟩ = false := Holds.free a6
  have yf1 : w6.frozen? ⟨w.heap.size, 1, none⟩ = false := Holds.free a6
  have yf2 : w6.frozen? ⟨w.heap.size, 2, none⟩ = false := Holds.free a6
  go_wp2_with fail
  refine (laws_toForm a b c _).mono ?_
  rintro e w7 ⟨rfl, hb7⟩
  have hB7 : Below w.heap.size w w7 := Below.after hB6 hb7
  have H07 := Lib.hid (H06.out.below hb7)
  have H17 := Lib.hid (H6.out.below hb7)
  clear y0 y1 y2 yf0 yf1 yf2
  clear a6 hb7 hB6 H06 H6
  go_wp2_with fail
  refine (impl_IndefinitePoints a b c n l v _ hw1 hw2 H.out).mono ?_
  rintro e w8 ⟨v2, rfl, h8, hb8⟩
  have hB8 : Below w.heap.size w w8 := Below.after hB7 hb8
  have H08 := Lib.hid (H07.out.below hb8)
  have H18 := Lib.hid (H17.out.below hb8)
  have H28 := Lib.hid h8
  clear hb8 hB7 h8 H07 H17
  go_wp2_with fail
  refine (laws_eqPointS l v2 v0 _ w1.heap.size _ hlen H28.out H08.out).mono ?_
  rintro e w9 ⟨rfl, hb9⟩
  have hB9 : Below w.heap.size w w9 := Below.after hB8 hb9
  have H19 := Lib.hid (H18.out.below hb9)
  clear hb9 hB8 H08 H28 H18
  go_wp2_with fail
  refine (laws_heldPointS l.length v1 w3.heap.size _ hlen H19.out).mono ?_
  rintro e w' ⟨rfl, rfl⟩
  go_wp2_with fail
  go_ret
  exact ⟨rfl, hB9⟩
theorem walkIndefinitePoints (a b c n : Int) (w : World) (wa : (Lit.int .i64 a).wf = true) (wb : (Lit.int .i64 b).wf = true) (wc : (Lit.int .i64 c).wf = true) (wn : (Lit.int .i64 n).wf = true) :
    Calls Try.prog 4 #[.agg #[.int .i64 a, .int .i64 b, .int .i64 c], .int .i64 n] w fun e w' => e = .returned (.bool true) ∧ Below w.heap.size w w' := by
  obtain ⟨m, v, h, hlen⟩ := ipOut_ex a b c n
  have hw : -9223372036854775808 ≤ n ∧ n ≤ 9223372036854775807 := by
    simp [Lit.wf] at wn
    have e1 : IntKind.min .i64 = -9223372036854775808 := by decide
    have e2 : IntKind.max .i64 = 9223372036854775807 := by decide
    omega
  exact walkIP a b c n m v w hlen hw.1 hw.2 h
end Go.Proofs.Ytdonpiihjoihcaa
