/- Contracts: the drawn arguments of NormFromRoot. -/
import Derived.Test.YtiblpagbloflhaaDN
import Derived.Deep.RegionWith
namespace Go.Proofs.Ytiblpagbloflhaa
set_option linter.unusedVariables false
open Go.ChangeShapes Go.WideShapes Go.ChangeAt Go.RowKit

theorem grow_len {w w' : World} {r : Option Nat} (h : w.grownBy w' r) : w.heap.size ≤ w'.heap.size := h.size
theorem grow_drew (w : World) (r : Option Nat) : w.grownBy w.drew r := ⟨rfl, rfl, rfl, Nat.le_refl _, fun _ _ _ => rfl⟩
theorem q_small {n k : Int} (h1 : 0 ≤ n) (h2 : n ≤ 29) (h3 : 0 ≤ k) (h4 : k ≤ 299) : (-1000000 ≤ -(1 + n) ∧ -(1 + n) ≤ 1000000) ∧ 1 ≤ 1 + k ∧ 1 + k ≤ 10000 := by omega
set_option maxRecDepth 100000 in
set_option maxHeartbeats 1000000 in
theorem draw_Norm (sv : Value) (w : World) (h : BytesAt w w.heap.size sv) :
    Calls Try.prog 54 #[sv] w fun e w' => ∃ x y z : Int, e = .returned (.tuple #[.int .i64 x, .int .i64 y, .int .i64 z]) ∧ I64 x ∧ I64 y ∧ I64 z ∧ Below w.heap.size w w' := by
  have H := Lib.hid (cur_new h)
  have HG0 := Lib.hid (grow_alloc w (.cells #[sv, .int .i64 0, .int .u64 0] 93) (some w.heap.size))
  have hz0 : w.heap.size ≤ (w.alloc (.cells #[sv, .int .i64 0, .int .u64 0] 93)).heap.size := by simp
  obtain ⟨p, len, cap, rfl, hlen, hbt⟩ := h
  clear hbt
  go_enter Try.func54, Try.ntmps54
  go_wp2_with fail
  refine (cur_pick 30 w.heap.size w.heap.size 0 _ (by omega) (by omega) (by simp) H.out).mono ?_
  rintro e w1 ⟨x, rfl, x0, x1, hc, hg⟩
  have hz1 : w.heap.size ≤ w1.heap.size := Nat.le_trans hz0 hg.size
  have HC1 := Lib.hid hc
  have HG1 := Lib.hid (cg_trans HG0.out hg)
  clear hc hg
  go_wp2_with fail
  refine (cur_pick 200 w.heap.size w.heap.size (0 + 2) _ (by omega) (by omega) (by omega) HC1.out).mono ?_
  rintro e w2 ⟨y, rfl, y0, y1, hc, hg⟩
  have hz2 : w.heap.size ≤ w2.heap.size := Nat.le_trans hz1 hg.size
  have HC2 := Lib.hid hc
  have HG2 := Lib.hid (cg_trans HG1.out hg)
  clear hc hg
  go_wp2_with fail
  refine (cur_pick 60 w.heap.size w.heap.size (0 + 2 + 2) _ (by omega) (by omega) (by omega) HC2.out).mono ?_
  rintro e w3 ⟨z, rfl, z0, z1, hc, hg⟩
  have hz3 : w.heap.size ≤ w3.heap.size := Nat.le_trans hz2 hg.size
  have HC3 := Lib.hid hc
  have HG3 := Lib.hid (cg_trans HG2.out hg)
  clear hc hg
  have x2 : x ≤ 29 := by omega
  have y2 : y ≤ 199 := by omega
  have z2 : z ≤ 59 := by omega
  clear x1 y1 z1
  have a0 := sqn y
  have a1 : y * y ≤ 199 * 199 := Int.mul_le_mul y2 y2 y0 (by omega)
  have b0 : 0 ≤ (1 + x) * z := Int.mul_nonneg (by omega) z0
  have b1 : (1 + x) * z ≤ 30 * 59 := Int.mul_le_mul (by omega) z2 z0 (by omega)
  have c0 : 0 ≤ (1 + x) * z * z := Int.mul_nonneg b0 z0
  have c1 : (1 + x) * z * z ≤ 30 * 59 * 59 := Int.mul_le_mul b1 z2 z0 (by omega)
  by_cases hm : 0 < y * y + (1 + x) * z * z
  · by_cases hg : Int.gcd z (y * y + (1 + x) * z * z) = 1
    · obtain ⟨v, hv⟩ := inv_total (show 1 ≤ y * y + (1 + x) * z * z by omega) hg
      have v0 := hv.1
      have v1 := hv.2.1
      have d0 : 0 ≤ y * v := Int.mul_nonneg y0 v0
      have d1 : y * v ≤ 199 * 1000000 := Int.mul_le_mul y2 (by omega) v0 (by omega)
      have r0 := Int.emod_nonneg (y * v) (show y * y + (1 + x) * z * z ≠ 0 by omega)
      have r1 := Int.emod_lt_of_pos (y * v) hm
      have Hg := Lib.hid hg
      have Hv := Lib.hid hv
      clear hg hv
      go_wp2_with fail
      refine (spec_nuGcd_r z (y * y + (1 + x) * z * z) 1 _ ⟨by omega, by omega⟩ ⟨by omega, by omega⟩ (by rw [Hg.out]; rfl)).mono ?_
      rintro e w4 ⟨rfl, hb4⟩
      have hz4 : w.heap.size ≤ w4.heap.size := Nat.le_trans hz3 hb4.size
      have HC4 := Lib.hid (HC3.out.below hz3 hb4)
      have HG4 := Lib.hid (cg_trans HG3.out (grow_below hb4))
      clear hb4
      go_wp2_with fail
      refine (cur_one 8 w.heap.size w.heap.size (0 + 2 + 2 + 2) _ (by omega) (by omega) (by omega) HC4.out).mono ?_
      rintro e w5 ⟨b, rfl, hc, hg⟩
      have hz5 : w.heap.size ≤ w5.heap.size := Nat.le_trans hz4 hg.size
      have HC5 := Lib.hid hc
      have HG5 := Lib.hid (cg_trans HG4.out hg)
      clear hc hg
      cases b with
      | true =>
        have Hw0 : True := trivial
        clear Hw0
        go_wp2_with fail
        refine (cur_pick 300 w.heap.size w.heap.size (0 + 2 + 2 + 2 + 2) _ (by omega) (by omega) (by omega) HC5.out).mono ?_
        rintro e wa ⟨p, rfl, p0, p1, hc, hg⟩
        have hza : w.heap.size ≤ wa.heap.size := Nat.le_trans hz5 hg.size
        have hca := hc.lt
        have HCa := Lib.hid hc
        have HGa := Lib.hid (cg_trans HG5.out hg)
        clear hc hg
        go_wp2_with fail
        refine (spec_roAll (-(1 + x)) (1 + p) _ (by omega) (by omega) (by omega) (by omega)).mono ?_
        rintro e wb ⟨v, rfl, hown, hB⟩
        have hzb : w.heap.size ≤ wb.heap.size := Nat.le_trans hza hB.size
        have HCb := Lib.hid (HCa.out.below hza hB)
        have HGb := Lib.hid (cg_trans HGa.out (grow_below hB))
        have hlen := qL_len (-(1 + x)) (1 + p) (1 + p).toNat
        have hmem : ∀ z ∈ qL (-(1 + x)) (1 + p) (1 + p).toNat, 0 ≤ z ∧ z ≤ 300 := fun z hz => by
          obtain ⟨h1, h2, _⟩ := qL_mem.1 hz
          omega
        have hne : v.ownBlock ≠ some w.heap.size := fun e => by
          have := (hown.lt _ e).1
          omega
        obtain ⟨L, hL⟩ : ∃ L, qL (-(1 + x)) (1 + p) (1 + p).toNat = L := ⟨_, rfl⟩
        rw [hL] at hown hlen hmem
        clear hL hB HCa HGa
        obtain ⟨pp, cap, rfl, _, _⟩ := hown.view
        have Hown := Lib.hid hown
        have Hmem := Lib.hid hmem
        clear hown hmem
        have hlen2 : (L.length : Int) ≤ 300 := by omega
        by_cases hl0 : 0 < L.length
        · go_wp2_with fail
          have HCd := Lib.hid HCb.out.drew
          have hzd : w.heap.size ≤ wb.drew.heap.size := hzb
          have HGe := Lib.hid (cg_trans HGb.out (grow_drew wb _))
          have hownD : Ints wb.drew wa.heap.size (.slice pp L.length cap) L := Hown.out
          have HownD := Lib.hid hownD
          clear hownD Hown HCb HGb
          go_region_with (first
            | (go_at_call 116; refine (cur_pick 300 w.heap.size w.heap.size (0 + 2 + 2 + 2 + 2 + 2) _ (by omega) (by omega) hzd HCd.out).mono ?_; rintro e wc ⟨q, rfl, q0, q1, hc, hg⟩; have hzc : w.heap.size ≤ wc.heap.size := Nat.le_trans hzd hg.size; have Hown2 := Lib.hid (HownD.out.kept hg (.inr hne)); have HCc := Lib.hid hc; have HGc := Lib.hid (cg_trans HGe.out hg); clear hc hg HownD HCd HGe)
            | (go_at_call 116; refine (cur_pick L.length w.heap.size w.heap.size (0 + 2 + 2 + 2 + 2 + 2 + 2) _ (by omega) (by omega) hzc HCc.out).mono ?_; rintro e we ⟨s, rfl, s0, s1, hc, hg⟩; obtain ⟨j, rfl⟩ : ∃ j : Nat, s = j := ⟨s.toNat, by omega⟩; have hj : j < L.length := (by omega); obtain ⟨g, rfl, _, hgz, hcell, _⟩ := (Hown2.out.kept hg (.inr hne)).read j hj; obtain ⟨l1, l2⟩ := Hmem.out L[j] (List.getElem_mem hj); have HGd := Lib.hid (cg_trans HGc.out hg); clear hc hg))
          all_goals
            go_wp2_with fail
            have hwq : IntKind.i64.wrap (1 + q) = 1 + q := IntWalk.i64_in _ (by omega)
            refine bodyPost_ret (v := .tuple #[.int .i64 (1 + x), .int .i64 (1 + q), .int .i64 L[j]]) (by simp [results, Try.results54, go_sem, *] <;> rfl) rfl ⟨_, _, _, rfl, ⟨by omega, by omega⟩, ⟨by omega, by omega⟩, ⟨by omega, by omega⟩, below_of_cur HGd.out⟩
        · have hl1 : L.length = 0 := by omega
          clear Hown Hmem hne hlen hlen2
          go_wp2_with fail
          refine (cur_natural w.heap.size w.heap.size (0 + 2 + 2 + 2 + 2 + 2) _ (by omega) hzb HCb.out).mono ?_
          rintro e wc ⟨q, rfl, hq, hc, hg⟩
          have hzc : w.heap.size ≤ wc.heap.size := Nat.le_trans hzb hg.size
          have HCc := Lib.hid hc
          have HGc := Lib.hid (cg_trans HGb.out hg)
          clear hc hg
          go_wp2_with fail
          refine (cur_small w.heap.size w.heap.size (0 + 2 + 2 + 2 + 2 + 2 + 10) _ (by omega) hzc HCc.out).mono ?_
          rintro e we ⟨s, rfl, hs, hc, hg⟩
          have HGd := Lib.hid (cg_trans HGc.out hg)
          clear hc hg
          go_wp2_with fail
          refine bodyPost_ret (v := .tuple #[.int .i64 q, .int .i64 (y * y + (1 + x) * z * z), .int .i64 s]) (by simp [results, Try.results54, go_sem, *] <;> rfl) rfl ⟨_, _, _, rfl, hq, ⟨by omega, by omega⟩, hs, below_of_cur HGd.out⟩
      | false =>
        go_wp2_with fail
        refine (spec_nuInverse z (y * y + (1 + x) * z * z) v _ (by omega) (by omega) Hv.out Hg.out).mono ?_
        rintro e w' ⟨rfl, rfl⟩
        go_wp2_with fail
        refine (spec_nuMod (y * v) (y * y + (1 + x) * z * z) _ (by omega) (by omega)).mono ?_
        rintro e w' ⟨rfl, rfl⟩
        go_wp2_with fail
        refine (cur_one 3 w.heap.size w.heap.size (0 + 2 + 2 + 2 + 2) _ (by omega) (by omega) (by omega) HC5.out).mono ?_
        rintro e w6 ⟨b, rfl, hc, hg⟩
        have hz6 : w.heap.size ≤ w6.heap.size := Nat.le_trans hz5 hg.size
        have HC6 := Lib.hid hc
        have HG6 := Lib.hid (cg_trans HG5.out hg)
        clear hc hg
        cases b with
        | true =>
          go_wp2_with fail
          refine bodyPost_ret (v := .tuple #[.int .i64 (1 + x), .int .i64 (y * y + (1 + x) * z * z), .int .i64 (y * y + (1 + x) * z * z - y * v % (y * y + (1 + x) * z * z))]) (by simp [results, Try.results54, go_sem, *] <;> rfl) rfl ⟨_, _, _, rfl, ⟨by omega, by omega⟩, ⟨by omega, by omega⟩, ⟨by omega, by omega⟩, below_of_cur HG6.out⟩
        | false =>
          go_wp2_with fail
          refine bodyPost_ret (v := .tuple #[.int .i64 (1 + x), .int .i64 (y * y + (1 + x) * z * z), .int .i64 (y * v % (y * y + (1 + x) * z * z))]) (by simp [results, Try.results54, go_sem, *] <;> rfl) rfl ⟨_, _, _, rfl, ⟨by omega, by omega⟩, ⟨by omega, by omega⟩, ⟨by omega, by omega⟩, below_of_cur HG6.out⟩
    · obtain ⟨gg, hgg⟩ : ∃ gg : Int, (Int.gcd z (y * y + (1 + x) * z * z) : Int) = gg := ⟨_, rfl⟩
      have hg1 : ¬ gg = 1 := by omega
      have Hgg := Lib.hid hgg
      clear hg hgg
      go_wp2_with fail
      refine (spec_nuGcd_r z (y * y + (1 + x) * z * z) gg _ ⟨by omega, by omega⟩ ⟨by omega, by omega⟩ Hgg.out).mono ?_
      rintro e w4 ⟨rfl, hb4⟩
      have hz4 : w.heap.size ≤ w4.heap.size := Nat.le_trans hz3 hb4.size
      have HC4 := Lib.hid (HC3.out.below hz3 hb4)
      have HG4 := Lib.hid (cg_trans HG3.out (grow_below hb4))
      clear hb4
      have Hw0 : True := trivial
      clear Hw0
      go_wp2_with fail
      refine (cur_pick 300 w.heap.size w.heap.size (0 + 2 + 2 + 2) _ (by omega) (by omega) (by omega) HC4.out).mono ?_
      rintro e wa ⟨p, rfl, p0, p1, hc, hg⟩
      have hza : w.heap.size ≤ wa.heap.size := Nat.le_trans hz4 hg.size
      have hca := hc.lt
      have HCa := Lib.hid hc
      have HGa := Lib.hid (cg_trans HG4.out hg)
      clear hc hg
      go_wp2_with fail
      refine (spec_roAll (-(1 + x)) (1 + p) _ (by omega) (by omega) (by omega) (by omega)).mono ?_
      rintro e wb ⟨v, rfl, hown, hB⟩
      have hzb : w.heap.size ≤ wb.heap.size := Nat.le_trans hza hB.size
      have HCb := Lib.hid (HCa.out.below hza hB)
      have HGb := Lib.hid (cg_trans HGa.out (grow_below hB))
      have hlen := qL_len (-(1 + x)) (1 + p) (1 + p).toNat
      have hmem : ∀ z ∈ qL (-(1 + x)) (1 + p) (1 + p).toNat, 0 ≤ z ∧ z ≤ 300 := fun z hz => by
        obtain ⟨h1, h2, _⟩ := qL_mem.1 hz
        omega
      have hne : v.ownBlock ≠ some w.heap.size := fun e => by
        have := (hown.lt _ e).1
        omega
      obtain ⟨L, hL⟩ : ∃ L, qL (-(1 + x)) (1 + p) (1 + p).toNat = L := ⟨_, rfl⟩
      rw [hL] at hown hlen hmem
      clear hL hB HCa HGa
      obtain ⟨pp, cap, rfl, _, _⟩ := hown.view
      have Hown := Lib.hid hown
      have Hmem := Lib.hid hmem
      clear hown hmem
      have hlen2 : (L.length : Int) ≤ 300 := by omega
      by_cases hl0 : 0 < L.length
      · go_wp2_with fail
        have HCd := Lib.hid HCb.out.drew
        have hzd : w.heap.size ≤ wb.drew.heap.size := hzb
        have HGe := Lib.hid (cg_trans HGb.out (grow_drew wb _))
        have hownD : Ints wb.drew wa.heap.size (.slice pp L.length cap) L := Hown.out
        have HownD := Lib.hid hownD
        clear hownD Hown HCb HGb
        go_region_with (first
          | (go_at_call 116; refine (cur_pick 300 w.heap.size w.heap.size (0 + 2 + 2 + 2 + 2) _ (by omega) (by omega) hzd HCd.out).mono ?_; rintro e wc ⟨q, rfl, q0, q1, hc, hg⟩; have hzc : w.heap.size ≤ wc.heap.size := Nat.le_trans hzd hg.size; have Hown2 := Lib.hid (HownD.out.kept hg (.inr hne)); have HCc := Lib.hid hc; have HGc := Lib.hid (cg_trans HGe.out hg); clear hc hg HownD HCd HGe)
          | (go_at_call 116; refine (cur_pick L.length w.heap.size w.heap.size (0 + 2 + 2 + 2 + 2 + 2) _ (by omega) (by omega) hzc HCc.out).mono ?_; rintro e we ⟨s, rfl, s0, s1, hc, hg⟩; obtain ⟨j, rfl⟩ : ∃ j : Nat, s = j := ⟨s.toNat, by omega⟩; have hj : j < L.length := (by omega); obtain ⟨g, rfl, _, hgz, hcell, _⟩ := (Hown2.out.kept hg (.inr hne)).read j hj; obtain ⟨l1, l2⟩ := Hmem.out L[j] (List.getElem_mem hj); have HGd := Lib.hid (cg_trans HGc.out hg); clear hc hg))
        all_goals
          go_wp2_with fail
          have hwq : IntKind.i64.wrap (1 + q) = 1 + q := IntWalk.i64_in _ (by omega)
          refine bodyPost_ret (v := .tuple #[.int .i64 (1 + x), .int .i64 (1 + q), .int .i64 L[j]]) (by simp [results, Try.results54, go_sem, *] <;> rfl) rfl ⟨_, _, _, rfl, ⟨by omega, by omega⟩, ⟨by omega, by omega⟩, ⟨by omega, by omega⟩, below_of_cur HGd.out⟩
      · have hl1 : L.length = 0 := by omega
        clear Hown Hmem hne hlen hlen2
        go_wp2_with fail
        refine (cur_natural w.heap.size w.heap.size (0 + 2 + 2 + 2 + 2) _ (by omega) hzb HCb.out).mono ?_
        rintro e wc ⟨q, rfl, hq, hc, hg⟩
        have hzc : w.heap.size ≤ wc.heap.size := Nat.le_trans hzb hg.size
        have HCc := Lib.hid hc
        have HGc := Lib.hid (cg_trans HGb.out hg)
        clear hc hg
        go_wp2_with fail
        refine (cur_small w.heap.size w.heap.size (0 + 2 + 2 + 2 + 2 + 10) _ (by omega) hzc HCc.out).mono ?_
        rintro e we ⟨s, rfl, hs, hc, hg⟩
        have HGd := Lib.hid (cg_trans HGc.out hg)
        clear hc hg
        go_wp2_with fail
        refine bodyPost_ret (v := .tuple #[.int .i64 q, .int .i64 (y * y + (1 + x) * z * z), .int .i64 s]) (by simp [results, Try.results54, go_sem, *] <;> rfl) rfl ⟨_, _, _, rfl, hq, ⟨by omega, by omega⟩, hs, below_of_cur HGd.out⟩
  · have Hw0 : True := trivial
    clear Hw0
    go_wp2_with fail
    refine (cur_pick 300 w.heap.size w.heap.size (0 + 2 + 2 + 2) _ (by omega) (by omega) (by omega) HC3.out).mono ?_
    rintro e wa ⟨p, rfl, p0, p1, hc, hg⟩
    have hza : w.heap.size ≤ wa.heap.size := Nat.le_trans hz3 hg.size
    have hca := hc.lt
    have HCa := Lib.hid hc
    have HGa := Lib.hid (cg_trans HG3.out hg)
    clear hc hg
    go_wp2_with fail
    refine (spec_roAll (-(1 + x)) (1 + p) _ (by omega) (by omega) (by omega) (by omega)).mono ?_
    rintro e wb ⟨v, rfl, hown, hB⟩
    have hzb : w.heap.size ≤ wb.heap.size := Nat.le_trans hza hB.size
    have HCb := Lib.hid (HCa.out.below hza hB)
    have HGb := Lib.hid (cg_trans HGa.out (grow_below hB))
    have hlen := qL_len (-(1 + x)) (1 + p) (1 + p).toNat
    have hmem : ∀ z ∈ qL (-(1 + x)) (1 + p) (1 + p).toNat, 0 ≤ z ∧ z ≤ 300 := fun z hz => by
      obtain ⟨h1, h2, _⟩ := qL_mem.1 hz
      omega
    have hne : v.ownBlock ≠ some w.heap.size := fun e => by
      have := (hown.lt _ e).1
      omega
    obtain ⟨L, hL⟩ : ∃ L, qL (-(1 + x)) (1 + p) (1 + p).toNat = L := ⟨_, rfl⟩
    rw [hL] at hown hlen hmem
    clear hL hB HCa HGa
    obtain ⟨pp, cap, rfl, _, _⟩ := hown.view
    have Hown := Lib.hid hown
    have Hmem := Lib.hid hmem
    clear hown hmem
    have hlen2 : (L.length : Int) ≤ 300 := by omega
    by_cases hl0 : 0 < L.length
    · go_wp2_with fail
      have HCd := Lib.hid HCb.out.drew
      have hzd : w.heap.size ≤ wb.drew.heap.size := hzb
      have HGe := Lib.hid (cg_trans HGb.out (grow_drew wb _))
      have hownD : Ints wb.drew wa.heap.size (.slice pp L.length cap) L := Hown.out
      have HownD := Lib.hid hownD
      clear hownD Hown HCb HGb
      go_region_with (first
        | (go_at_call 116; refine (cur_pick 300 w.heap.size w.heap.size (0 + 2 + 2 + 2 + 2) _ (by omega) (by omega) hzd HCd.out).mono ?_; rintro e wc ⟨q, rfl, q0, q1, hc, hg⟩; have hzc : w.heap.size ≤ wc.heap.size := Nat.le_trans hzd hg.size; have Hown2 := Lib.hid (HownD.out.kept hg (.inr hne)); have HCc := Lib.hid hc; have HGc := Lib.hid (cg_trans HGe.out hg); clear hc hg HownD HCd HGe)
        | (go_at_call 116; refine (cur_pick L.length w.heap.size w.heap.size (0 + 2 + 2 + 2 + 2 + 2) _ (by omega) (by omega) hzc HCc.out).mono ?_; rintro e we ⟨s, rfl, s0, s1, hc, hg⟩; obtain ⟨j, rfl⟩ : ∃ j : Nat, s = j := ⟨s.toNat, by omega⟩; have hj : j < L.length := (by omega); obtain ⟨g, rfl, _, hgz, hcell, _⟩ := (Hown2.out.kept hg (.inr hne)).read j hj; obtain ⟨l1, l2⟩ := Hmem.out L[j] (List.getElem_mem hj); have HGd := Lib.hid (cg_trans HGc.out hg); clear hc hg))
      all_goals
        go_wp2_with fail
        have hwq : IntKind.i64.wrap (1 + q) = 1 + q := IntWalk.i64_in _ (by omega)
        refine bodyPost_ret (v := .tuple #[.int .i64 (1 + x), .int .i64 (1 + q), .int .i64 L[j]]) (by simp [results, Try.results54, go_sem, *] <;> rfl) rfl ⟨_, _, _, rfl, ⟨by omega, by omega⟩, ⟨by omega, by omega⟩, ⟨by omega, by omega⟩, below_of_cur HGd.out⟩
    · have hl1 : L.length = 0 := by omega
      clear Hown Hmem hne hlen hlen2
      go_wp2_with fail
      refine (cur_natural w.heap.size w.heap.size (0 + 2 + 2 + 2 + 2) _ (by omega) hzb HCb.out).mono ?_
      rintro e wc ⟨q, rfl, hq, hc, hg⟩
      have hzc : w.heap.size ≤ wc.heap.size := Nat.le_trans hzb hg.size
      have HCc := Lib.hid hc
      have HGc := Lib.hid (cg_trans HGb.out hg)
      clear hc hg
      go_wp2_with fail
      refine (cur_small w.heap.size w.heap.size (0 + 2 + 2 + 2 + 2 + 10) _ (by omega) hzc HCc.out).mono ?_
      rintro e we ⟨s, rfl, hs, hc, hg⟩
      have HGd := Lib.hid (cg_trans HGc.out hg)
      clear hc hg
      go_wp2_with fail
      refine bodyPost_ret (v := .tuple #[.int .i64 q, .int .i64 (y * y + (1 + x) * z * z), .int .i64 s]) (by simp [results, Try.results54, go_sem, *] <;> rfl) rfl ⟨_, _, _, rfl, hq, ⟨by omega, by omega⟩, hs, below_of_cur HGd.out⟩
end Go.Proofs.Ytiblpagbloflhaa
