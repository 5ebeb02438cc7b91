/- Contracts: the assigned characters of a negative discriminant. -/
import Derived.Test.YtafcbaganjcnlaaKS
import Derived.Test.YtafcbaganjcnlaaT
namespace Go.Proofs.Ytafcbaganjcnlaa
set_option linter.unusedVariables false
open Go.ChangeShapes Go.WideShapes Go.ChangeAt Go.RowKit

/-- what the residue of -d/4 by 8 adds -/
def tl8 (r : Int) : List Kt :=
  if r = 1 ∨ r = 5 ∨ r = 4 then [⟨2, 0⟩] else if r = 2 then [⟨4, 0⟩] else if r = 6 then [⟨3, 0⟩] else if r = 0 then [⟨2, 0⟩, ⟨3, 0⟩] else []
def asgP : List Int → List Kt
  | [] => []
  | p :: t => if 2 < p then ⟨1, p⟩ :: asgP t else asgP t
theorem asgP_app : ∀ (l : List Int) (p : Int), asgP (l ++ [p]) = if 2 < p then asgP l ++ [⟨1, p⟩] else asgP l
  | [], p => by simp [asgP]
  | q :: l, p => by
    have := asgP_app l p
    simp only [List.cons_append, asgP]
    rw [this]
    split <;> split <;> simp
theorem asgP_len : ∀ l : List Int, (asgP l).length ≤ l.length
  | [] => by simp [asgP]
  | p :: t => by have := asgP_len t; unfold asgP; split <;> simp <;> omega
theorem asgP_take {l : List Int} {k : Nat} (h : k < l.length) : asgP (l.take (k + 1)) = if 2 < l[k] then asgP (l.take k) ++ [⟨1, l[k]⟩] else asgP (l.take k) := by
  rw [List.take_succ_eq_append_getElem h, asgP_app]
/-- the list for d = -D -/
def asgL (D : Int) : List Kt := asgP (prs D) ++ (if D % 2 = 0 then tl8 (D / 4 % 8) else [])
theorem tl8_len (r : Int) : (tl8 r).length ≤ 2 := by
  unfold tl8
  split
  · simp
  · split
    · simp
    · split
      · simp
      · split <;> simp
theorem asgL_len {D : Int} (h : 1 ≤ D) : ((asgL D).length : Int) ≤ D + 2 := by
  have h1 := asgP_len (prs D)
  have h2 := prs_len h
  have h3 := tl8_len (D / 4 % 8)
  unfold asgL
  split <;> simp <;> omega
theorem Ints.besideK {w w' : World} {B : Nat} {u v v' : Value} {l : List Int} (h : Ints w B u l) (hne : u.ownBlock = none ∨ u.ownBlock ≠ v.ownBlock) (hg : w.grownBy w' v.ownBlock) (hv : v'.ownBlock = v.ownBlock ∨ v'.ownBlock = some w.heap.size) :
    Ints w' B u l ∧ (u.ownBlock = none ∨ u.ownBlock ≠ v'.ownBlock) := Ints.beside h hne hg hv
theorem hcK {w : World} {b : Nat} {f : Kt} : Holds (w.alloc (.cells (cK f) 43)) w.heap.size (cK f) 43 := Holds.new _ _ _
theorem res8 (N : Int) : N % 8 = 0 ∨ N % 8 = 1 ∨ N % 8 = 2 ∨ N % 8 = 3 ∨ N % 8 = 4 ∨ N % 8 = 5 ∨ N % 8 = 6 ∨ N % 8 = 7 := by omega
set_option maxRecDepth 100000 in
theorem spec_chAll (D : Int) (w : World) (h1 : 3 ≤ D) (h2 : D ≤ 2000) :
    Calls Try.prog 57 #[.int .i64 (-D)] w fun e w' => ∃ v, e = .returned v ∧ Kts w' w.heap.size v (asgL D) ∧ Below w.heap.size w w' := by
  have hps0 := prs_len (n := D) (by omega)
  go_enter Try.func57, Try.ntmps57
  go_wp2_with fail
  refine (spec_nuPrimes D _ (by omega) (by omega)).mono ?_
  rintro e w1 ⟨v0, rfl, hf, hb1⟩
  have hB1 : Below w.heap.size w w1 := Below.after (by go_grown) hb1
  have hs1 := hB1.size
  obtain ⟨p0, cap, rfl, hml, _⟩ := hf.view
  obtain ⟨ps, hps⟩ : ∃ ps, prs D = ps := ⟨_, rfl⟩
  have Hps := Lib.hid hps
  rw [hps] at hps0 hf hml ⊢
  have Hf1 := Lib.hid (hf.mono (B' := w.heap.size) (by simp))
  have Hown1 := Lib.hid (Kts.nil w1 w.heap.size)
  have Hsep1 := Lib.hid (show (Value.slice p0 ps.length cap).ownBlock = none ∨ (Value.slice p0 ps.length cap).ownBlock ≠ (Value.slice none 0 0).ownBlock by
    cases hq : (Value.slice p0 ps.length cap).ownBlock with
    | none => exact .inl rfl
    | some k => right; simp [Value.ownBlock])
  clear hf hb1 hps
  go_wp2_with fail
  go_loopw [3, 11] (fun v i wr => ∃ (k : Nat) (l : List Kt), k ≤ ps.length ∧ i = .int .i64 k ∧ l = asgP (ps.take k) ∧ l.length ≤ k ∧ Kts wr w.heap.size v l ∧ Ints wr w.heap.size (.slice p0 ps.length cap) ps ∧
      ((Value.slice p0 ps.length cap).ownBlock = none ∨ (Value.slice p0 ps.length cap).ownBlock ≠ v.ownBlock) ∧ Below w.heap.size w wr) (fun _ i _ => ps.length - (intOf i).toNat)
  case atStart => exact ⟨0, [], by omega, rfl, rfl, by simp, Hown1.out, Hf1.out, Hsep1.out, hB1⟩
  case round =>
    clear Hown1 Hf1 Hsep1 hB1
    obtain ⟨k, l, hk, rfl, hl, hlk, hown, hf, hsep, hB⟩ := hrel
    have Hl := Lib.hid hl
    clear hl
    have hs := hB.size
    by_cases hlt : k < ps.length
    · obtain ⟨g, rfl, _, hg2, hcell, _⟩ := hf.read k hlt
      obtain ⟨x, hx⟩ : ∃ x, ps[k] = x := ⟨_, rfl⟩
      rw [hx] at hcell
      have Hx := Lib.hid hx
      have Hf := Lib.hid hf
      have Hsep := Lib.hid hsep
      clear hf hsep hx
      by_cases hx2 : 2 < x
      · have Hnx : Hid (asgP (ps.take (k + 1)) = l ++ [⟨1, x⟩]) := Lib.hid (by rw [asgP_take hlt, Hx.out, if_pos hx2, Hl.out])
        have Hown2 := Lib.hid (hown.alloc (.cells (cK ⟨1, x⟩) 43))
        have Hnew : Hid (Holds (wr.alloc (.cells (cK ⟨1, x⟩) 43)) wr.heap.size (cK ⟨1, x⟩) 43) := Lib.hid (Holds.new _ _ _)
        have HB := Lib.hid (hB.alloc hs (.cells (cK ⟨1, x⟩) 43))
        have Hf2 := Lib.hid (Hf.out.alloc (.cells (cK ⟨1, x⟩) 43))
        have hlh : l.length ≤ 1000000 := by omega
        clear hown hB Hf
        go_wp2_with (at_builtin; refine app_ktB w.heap.size l ⟨1, x⟩ u3 wr.heap.size _ _ rfl rfl rfl rfl Hown2.out Hnew.out hlh (by simp; omega) ?_)
        intro v' w2 hown' hgrow hblk
        have hB' : Below w.heap.size w w2 := below_grownK HB.out Hown2.out hgrow (by simp; omega)
        have hbs := Ints.besideK (v' := v') Hf2.out Hsep.out hgrow (by simpa using hblk)
        have K := Lib.hid (And.intro hown' (And.intro hbs hB'))
        clear hgrow hblk hbs hown' hB' Hown2 Hnew HB Hf2
        go_wp2_with fail
        go_roundw
        case rel => exact ⟨k + 1, l ++ [⟨1, x⟩], by omega, by go_num, Hnx.out.symm, by simp; omega, K.out.1, K.out.2.1.1, K.out.2.1.2, K.out.2.2⟩
        case measure => simp [intOf]; omega
      · have hx2' : x ≤ 2 := by omega
        have Hnx : Hid (asgP (ps.take (k + 1)) = l) := Lib.hid (by rw [asgP_take hlt, Hx.out, if_neg hx2, Hl.out])
        have K := Lib.hid (And.intro hown hB)
        clear hown hB hx2
        go_wp2_with fail
        go_roundw
        case rel => exact ⟨k + 1, l, by omega, by go_num, Hnx.out.symm, by omega, K.out.1, Hf.out, Hsep.out, K.out.2⟩
        case measure => simp [intOf]; omega
    · obtain rfl : k = ps.length := by omega
      have Hlp : Hid (l = asgP ps) := Lib.hid (by rw [Hl.out, List.take_length])
      clear Hl hf hsep
      have hlh : l.length ≤ 2000 := by omega
      have K := Lib.hid (And.intro hown hB)
      clear hown hB
      by_cases he : D % 2 = 0
      · have He : Hid (asgL D = l ++ tl8 (D / 4 % 8)) := Lib.hid (by unfold asgL; rw [if_pos he, Hps.out, Hlp.out])
        clear Hlp
        have be : (D % 2 != 0) = false := by simp [he]
        have hN : 0 ≤ D / 4 ∧ D / 4 ≤ 500 := by omega
        obtain ⟨N, hNe⟩ : ∃ N, D / 4 = N := ⟨_, rfl⟩
        rw [hNe] at He hN
        obtain ⟨hN1, hN2⟩ := hN
        have hqd : D.tdiv 4 = N := by rw [Int.tdiv_eq_ediv_of_nonneg (by omega)]; exact hNe
        have hm2 : D.tmod 2 = 0 := by rw [Int.tmod_eq_emod_of_nonneg (by omega)]; exact he
        have hm8 : N.tmod 8 = N % 8 := Int.tmod_eq_emod_of_nonneg (by omega)
        have hm4 : N.tmod 4 = N % 4 := Int.tmod_eq_emod_of_nonneg (by omega)
        have H8 := Lib.hid (res8 N)
        clear he be hNe
        rcases H8.out with h8 | h8 | h8 | h8 | h8 | h8 | h8 | h8
        all_goals
          rw [h8] at He hm8
        · have h4 : N % 4 = 0 := by omega
          rw [h4] at hm4
          clear h4
          have Hown2 := Lib.hid (K.out.1.alloc (.cells #[.int .i64 2, .int .i64 0, .int .i64 3, .int .i64 0] 43))
          have Hnew : Hid (∀ j u, (cellsK [⟨2, 0⟩, ⟨3, 0⟩])[j]? = some u → (wr.alloc (.cells #[.int .i64 2, .int .i64 0, .int .i64 3, .int .i64 0] 43)).cell? ((⟨wr.heap.size, 0, none⟩ : Addr).add j) = some u) := Lib.hid (fun j u hj => by
            have hadd : (⟨wr.heap.size, 0, none⟩ : Addr).add j = ⟨wr.heap.size, j, none⟩ := by unfold Addr.add; split <;> simp_all
            rw [hadd]
            exact (Holds.new wr #[.int .i64 2, .int .i64 0, .int .i64 3, .int .i64 0] 43).cell (by rw [← hj]; simp [cellsK, kCells]))
          have HB := Lib.hid (K.out.2.alloc hs (.cells #[.int .i64 2, .int .i64 0, .int .i64 3, .int .i64 0] 43))
          have hlh' : l.length + 2 ≤ 10000000 := by omega
          clear K
          go_wp2_with (at_builtin; refine app_kts w.heap.size l [⟨2, 0⟩, ⟨3, 0⟩] u3 ⟨wr.heap.size, 0, none⟩ _ _ _ rfl rfl rfl rfl Hown2.out Hnew.out hlh' (by simp; omega) ?_)
          intro v' w2 hown' hgrow
          have hB' : Below w.heap.size w w2 := below_grownK HB.out Hown2.out hgrow (by simp; omega)
          have Kn := Lib.hid (And.intro hown' hB')
          clear hown' hgrow hB' HB Hnew Hown2
          go_wp2_with fail
          go_ret
          exact ⟨_, rfl, by rw [He.out]; exact Kn.out.1, Kn.out.2⟩
        · have h4 : N % 4 = 1 := by omega
          rw [h4] at hm4
          clear h4
          have Hown2 := Lib.hid (K.out.1.alloc (.cells (cK ⟨2, 0⟩) 43))
          have Hnew : Hid (Holds (wr.alloc (.cells (cK ⟨2, 0⟩) 43)) wr.heap.size (cK ⟨2, 0⟩) 43) := Lib.hid (Holds.new _ _ _)
          have HB := Lib.hid (K.out.2.alloc hs (.cells (cK ⟨2, 0⟩) 43))
          have hlh' : l.length ≤ 1000000 := by omega
          clear K
          go_wp2_with (at_builtin; refine app_kt w.heap.size l ⟨2, 0⟩ u3 wr.heap.size _ _ rfl rfl rfl rfl Hown2.out Hnew.out hlh' (by simp; omega) ?_)
          intro v' w2 hown' hgrow
          have hB' : Below w.heap.size w w2 := below_grownK HB.out Hown2.out hgrow (by simp; omega)
          have Kn := Lib.hid (And.intro hown' hB')
          clear hown' hgrow hB' HB Hnew Hown2
          go_wp2_with fail
          go_ret
          exact ⟨_, rfl, by rw [He.out]; exact Kn.out.1, Kn.out.2⟩
        · have h4 : N % 4 = 2 := by omega
          rw [h4] at hm4
          clear h4
          have Hown2 := Lib.hid (K.out.1.alloc (.cells (cK ⟨4, 0⟩) 43))
          have Hnew : Hid (Holds (wr.alloc (.cells (cK ⟨4, 0⟩) 43)) wr.heap.size (cK ⟨4, 0⟩) 43) := Lib.hid (Holds.new _ _ _)
          have HB := Lib.hid (K.out.2.alloc hs (.cells (cK ⟨4, 0⟩) 43))
          have hlh' : l.length ≤ 1000000 := by omega
          clear K
          go_wp2_with (at_builtin; refine app_kt w.heap.size l ⟨4, 0⟩ u3 wr.heap.size _ _ rfl rfl rfl rfl Hown2.out Hnew.out hlh' (by simp; omega) ?_)
          intro v' w2 hown' hgrow
          have hB' : Below w.heap.size w w2 := below_grownK HB.out Hown2.out hgrow (by simp; omega)
          have Kn := Lib.hid (And.intro hown' hB')
          clear hown' hgrow hB' HB Hnew Hown2
          go_wp2_with fail
          go_ret
          exact ⟨_, rfl, by rw [He.out]; exact Kn.out.1, Kn.out.2⟩
        · have h4 : N % 4 = 3 := by omega
          rw [h4] at hm4
          clear h4
          go_wp2_with fail
          go_ret
          exact ⟨_, rfl, by rw [He.out]; simpa [tl8] using K.out.1, K.out.2⟩
        · have h4 : N % 4 = 0 := by omega
          rw [h4] at hm4
          clear h4
          have Hown2 := Lib.hid (K.out.1.alloc (.cells (cK ⟨2, 0⟩) 43))
          have Hnew : Hid (Holds (wr.alloc (.cells (cK ⟨2, 0⟩) 43)) wr.heap.size (cK ⟨2, 0⟩) 43) := Lib.hid (Holds.new _ _ _)
          have HB := Lib.hid (K.out.2.alloc hs (.cells (cK ⟨2, 0⟩) 43))
          have hlh' : l.length ≤ 1000000 := by omega
          clear K
          go_wp2_with (at_builtin; refine app_kt w.heap.size l ⟨2, 0⟩ u3 wr.heap.size _ _ rfl rfl rfl rfl Hown2.out Hnew.out hlh' (by simp; omega) ?_)
          intro v' w2 hown' hgrow
          have hB' : Below w.heap.size w w2 := below_grownK HB.out Hown2.out hgrow (by simp; omega)
          have Kn := Lib.hid (And.intro hown' hB')
          clear hown' hgrow hB' HB Hnew Hown2
          go_wp2_with fail
          go_ret
          exact ⟨_, rfl, by rw [He.out]; exact Kn.out.1, Kn.out.2⟩
        · have h4 : N % 4 = 1 := by omega
          rw [h4] at hm4
          clear h4
          have Hown2 := Lib.hid (K.out.1.alloc (.cells (cK ⟨2, 0⟩) 43))
          have Hnew : Hid (Holds (wr.alloc (.cells (cK ⟨2, 0⟩) 43)) wr.heap.size (cK ⟨2, 0⟩) 43) := Lib.hid (Holds.new _ _ _)
          have HB := Lib.hid (K.out.2.alloc hs (.cells (cK ⟨2, 0⟩) 43))
          have hlh' : l.length ≤ 1000000 := by omega
          clear K
          go_wp2_with (at_builtin; refine app_kt w.heap.size l ⟨2, 0⟩ u3 wr.heap.size _ _ rfl rfl rfl rfl Hown2.out Hnew.out hlh' (by simp; omega) ?_)
          intro v' w2 hown' hgrow
          have hB' : Below w.heap.size w w2 := below_grownK HB.out Hown2.out hgrow (by simp; omega)
          have Kn := Lib.hid (And.intro hown' hB')
          clear hown' hgrow hB' HB Hnew Hown2
          go_wp2_with fail
          go_ret
          exact ⟨_, rfl, by rw [He.out]; exact Kn.out.1, Kn.out.2⟩
        · have h4 : N % 4 = 2 := by omega
          rw [h4] at hm4
          clear h4
          have Hown2 := Lib.hid (K.out.1.alloc (.cells (cK ⟨3, 0⟩) 43))
          have Hnew : Hid (Holds (wr.alloc (.cells (cK ⟨3, 0⟩) 43)) wr.heap.size (cK ⟨3, 0⟩) 43) := Lib.hid (Holds.new _ _ _)
          have HB := Lib.hid (K.out.2.alloc hs (.cells (cK ⟨3, 0⟩) 43))
          have hlh' : l.length ≤ 1000000 := by omega
          clear K
          go_wp2_with (at_builtin; refine app_kt w.heap.size l ⟨3, 0⟩ u3 wr.heap.size _ _ rfl rfl rfl rfl Hown2.out Hnew.out hlh' (by simp; omega) ?_)
          intro v' w2 hown' hgrow
          have hB' : Below w.heap.size w w2 := below_grownK HB.out Hown2.out hgrow (by simp; omega)
          have Kn := Lib.hid (And.intro hown' hB')
          clear hown' hgrow hB' HB Hnew Hown2
          go_wp2_with fail
          go_ret
          exact ⟨_, rfl, by rw [He.out]; exact Kn.out.1, Kn.out.2⟩
        · have h4 : N % 4 = 3 := by omega
          rw [h4] at hm4
          clear h4
          go_wp2_with fail
          go_ret
          exact ⟨_, rfl, by rw [He.out]; simpa [tl8] using K.out.1, K.out.2⟩
      · have He : Hid (asgL D = l) := Lib.hid (by unfold asgL; rw [if_neg he, Hps.out, Hlp.out]; simp)
        have be : (D % 2 != 0) = true := by simpa using he
        clear Hlp
        go_wp2_with fail
        go_ret
        exact ⟨_, rfl, by rw [He.out]; exact K.out.1, K.out.2⟩
set_option maxHeartbeats 2000000 in
set_option maxRecDepth 100000 in
theorem impl_assigned (D : Int) (w : World) (h1 : 3 ≤ D) (h2 : D ≤ 2000) :
    Calls Try.prog 59 #[.int .i64 (-D)] w fun e w' => ∃ v, e = .returned v ∧ Kts w' w.heap.size v (asgL D) ∧ Below w.heap.size w w' := by
  have hps0 := prs_len (n := D) (by omega)
  go_enter Try.func59, Try.ntmps59
  go_wp2_with fail
  refine (impl_primesOf D _ (by omega) (by omega)).mono ?_
  rintro e w1 ⟨v0, rfl, hf, hb1⟩
  have hB1 : Below w.heap.size w w1 := Below.after (by go_grown) hb1
  have hs1 := hB1.size
  have hown1 : Kts w1 w.heap.size (.slice (some ⟨w.heap.size, 0, none⟩) 0 0) [] := (Kts.empty w rfl (Nat.le_refl _)).below hb1
  have hsep1 : v0.ownBlock = none ∨ v0.ownBlock ≠ Value.ownBlock (.slice (some ⟨w.heap.size, 0, none⟩) 0 0) := by
    cases hv : v0.ownBlock with
    | none => exact .inl rfl
    | some k =>
      right
      have := (hf.lt k hv).1
      simp at this
      intro e
      simp [Value.ownBlock] at e
      omega
  obtain ⟨p0, cap, rfl, hml, _⟩ := hf.view
  obtain ⟨ps, hps⟩ : ∃ ps, prs D = ps := ⟨_, rfl⟩
  have Hps := Lib.hid hps
  rw [hps] at hps0 hf hml hsep1 ⊢
  have Hf1 := Lib.hid (hf.mono (B' := w.heap.size) (by simp))
  have Hown1 := Lib.hid hown1
  have Hsep1 := Lib.hid hsep1
  clear hf hb1 hps hown1 hsep1
  go_wp2_with fail
  go_loopw [3, 15] (fun v i wr => ∃ (k : Nat) (l : List Kt), k ≤ ps.length ∧ i = .int .i64 k ∧ l = asgP (ps.take k) ∧ l.length ≤ k ∧ Kts wr w.heap.size v l ∧ Ints wr w.heap.size (.slice p0 ps.length cap) ps ∧
      ((Value.slice p0 ps.length cap).ownBlock = none ∨ (Value.slice p0 ps.length cap).ownBlock ≠ v.ownBlock) ∧ Below w.heap.size w wr) (fun _ i _ => ps.length - (intOf i).toNat)
  case atStart => exact ⟨0, [], by omega, rfl, rfl, by simp, Hown1.out, Hf1.out, Hsep1.out, hB1⟩
  case round =>
    clear Hown1 Hf1 Hsep1 hB1
    obtain ⟨k, l, hk, rfl, hl, hlk, hown, hf, hsep, hB⟩ := hrel
    have Hl := Lib.hid hl
    clear hl
    have hs := hB.size
    by_cases hlt : k < ps.length
    · obtain ⟨g, rfl, _, hg2, hcell, _⟩ := hf.read k hlt
      obtain ⟨x, hx⟩ : ∃ x, ps[k] = x := ⟨_, rfl⟩
      rw [hx] at hcell
      have Hx := Lib.hid hx
      have Hf := Lib.hid hf
      have Hsep := Lib.hid hsep
      clear hf hsep hx
      by_cases hx2 : 2 < x
      · have Hnx : Hid (asgP (ps.take (k + 1)) = l ++ [⟨1, x⟩]) := Lib.hid (by rw [asgP_take hlt, Hx.out, if_pos hx2, Hl.out])
        have Hown2 := Lib.hid (hown.alloc (.cells (cK ⟨1, x⟩) 43))
        have Hnew : Hid (Holds (wr.alloc (.cells (cK ⟨1, x⟩) 43)) wr.heap.size (cK ⟨1, x⟩) 43) := Lib.hid (Holds.new _ _ _)
        have HB := Lib.hid (hB.alloc hs (.cells (cK ⟨1, x⟩) 43))
        have Hf2 := Lib.hid (Hf.out.alloc (.cells (cK ⟨1, x⟩) 43))
        have hlh : l.length ≤ 1000000 := by omega
        clear hown hB Hf
        go_wp2_with (at_builtin; refine app_ktB w.heap.size l ⟨1, x⟩ u3 wr.heap.size _ _ rfl rfl rfl rfl Hown2.out Hnew.out hlh (by simp; omega) ?_)
        intro v' w2 hown' hgrow hblk
        have hB' : Below w.heap.size w w2 := below_grownK HB.out Hown2.out hgrow (by simp; omega)
        have hbs := Ints.besideK (v' := v') Hf2.out Hsep.out hgrow (by simpa using hblk)
        have K := Lib.hid (And.intro hown' (And.intro hbs hB'))
        clear hgrow hblk hbs hown' hB' Hown2 Hnew HB Hf2
        go_wp2_with fail
        go_roundw
        case rel => exact ⟨k + 1, l ++ [⟨1, x⟩], by omega, by go_num, Hnx.out.symm, by simp; omega, K.out.1, K.out.2.1.1, K.out.2.1.2, K.out.2.2⟩
        case measure => simp [intOf]; omega
      · have hx2' : x ≤ 2 := by omega
        have Hnx : Hid (asgP (ps.take (k + 1)) = l) := Lib.hid (by rw [asgP_take hlt, Hx.out, if_neg hx2, Hl.out])
        have K := Lib.hid (And.intro hown hB)
        clear hown hB hx2
        go_wp2_with fail
        go_roundw
        case rel => exact ⟨k + 1, l, by omega, by go_num, Hnx.out.symm, by omega, K.out.1, Hf.out, Hsep.out, K.out.2⟩
        case measure => simp [intOf]; omega
    · obtain rfl : k = ps.length := by omega
      have Hlp : Hid (l = asgP ps) := Lib.hid (by rw [Hl.out, List.take_length])
      clear Hl hf hsep
      have hlh : l.length ≤ 2000 := by omega
      have K := Lib.hid (And.intro hown hB)
      clear hown hB
      by_cases he : D % 2 = 0
      · have He : Hid (asgL D = l ++ tl8 (D / 4 % 8)) := Lib.hid (by unfold asgL; rw [if_pos he, Hps.out, Hlp.out])
        clear Hlp
        have hN : 0 ≤ D / 4 ∧ D / 4 ≤ 500 := by omega
        obtain ⟨N, hNe⟩ : ∃ N, D / 4 = N := ⟨_, rfl⟩
        rw [hNe] at He hN
        obtain ⟨hN1, hN2⟩ := hN
        have hqd : D.tdiv 4 = N := by rw [Int.tdiv_eq_ediv_of_nonneg (by omega)]; exact hNe
        have hm2 : D.tmod 2 = 0 := by rw [Int.tmod_eq_emod_of_nonneg (by omega)]; exact he
        have hm8 : N.tmod 8 = N % 8 := Int.tmod_eq_emod_of_nonneg (by omega)
        have H8 := Lib.hid (res8 N)
        clear he hNe
        have hb3 := ((K.out.2.alloc hs (.cells #[.int .i64 2, .int .i64 0] 43)).alloc (by simp; omega) (.cells #[.int .i64 3, .int .i64 0] 43)).alloc (by simp; omega) (.cells #[.int .i64 4, .int .i64 0] 43)
        have ho3 := ((K.out.1.alloc (.cells #[.int .i64 2, .int .i64 0] 43)).alloc (.cells #[.int .i64 3, .int .i64 0] 43)).alloc (.cells #[.int .i64 4, .int .i64 0] 43)
        have K3 := Lib.hid (And.intro ho3 hb3)
        have hs3 : w.heap.size ≤ wr.heap.size + 1 + 1 + 1 := by omega
        clear hb3 ho3 K
        rcases H8.out with h8 | h8 | h8 | h8 | h8 | h8 | h8 | h8
        all_goals
          rw [h8] at He hm8
        · have Hown2 := Lib.hid (K3.out.1.alloc (.cells #[.int .i64 2, .int .i64 0, .int .i64 3, .int .i64 0] 43))
          have Hnew : Hid (∀ j u, (cellsK [⟨2, 0⟩, ⟨3, 0⟩])[j]? = some u → ((((wr.alloc (.cells #[.int .i64 2, .int .i64 0] 43)).alloc (.cells #[.int .i64 3, .int .i64 0] 43)).alloc (.cells #[.int .i64 4, .int .i64 0] 43)).alloc (.cells #[.int .i64 2, .int .i64 0, .int .i64 3, .int .i64 0] 43)).cell? ((⟨wr.heap.size + 1 + 1 + 1, 0, none⟩ : Addr).add j) = some u) := Lib.hid (fun j u hj => by
            have hadd : (⟨wr.heap.size + 1 + 1 + 1, 0, none⟩ : Addr).add j = ⟨wr.heap.size + 1 + 1 + 1, j, none⟩ := by unfold Addr.add; split <;> simp_all
            rw [hadd]
            exact (Holds.new' (b := wr.heap.size + 1 + 1 + 1) (((wr.alloc (.cells #[.int .i64 2, .int .i64 0] 43)).alloc (.cells #[.int .i64 3, .int .i64 0] 43)).alloc (.cells #[.int .i64 4, .int .i64 0] 43)) #[.int .i64 2, .int .i64 0, .int .i64 3, .int .i64 0] 43 (by simp)).cell (by rw [← hj]; simp [cellsK, kCells]))
          have HB := Lib.hid (K3.out.2.alloc (by simp; omega) (.cells #[.int .i64 2, .int .i64 0, .int .i64 3, .int .i64 0] 43))
          have hlh' : l.length + 2 ≤ 10000000 := by omega
          clear K3
          go_wp2_with (at_builtin; refine app_kts w.heap.size l [⟨2, 0⟩, ⟨3, 0⟩] u3 ⟨wr.heap.size + 1 + 1 + 1, 0, none⟩ _ _ _ rfl rfl rfl rfl Hown2.out Hnew.out hlh' (by simp; omega) ?_)
          intro v' w2 hown' hgrow
          have hB' : Below w.heap.size w w2 := below_grownK HB.out Hown2.out hgrow (by simp; omega)
          have Kn := Lib.hid (And.intro hown' hB')
          clear hown' hgrow hB' HB Hnew Hown2
          go_wp2_with fail
          go_ret
          exact ⟨_, rfl, by rw [He.out]; exact Kn.out.1, Kn.out.2⟩
        · have Hown2 := Lib.hid (K3.out.1.alloc (.cells (cK ⟨2, 0⟩) 43))
          have Hnew : Hid (Holds ((((wr.alloc (.cells #[.int .i64 2, .int .i64 0] 43)).alloc (.cells #[.int .i64 3, .int .i64 0] 43)).alloc (.cells #[.int .i64 4, .int .i64 0] 43)).alloc (.cells (cK ⟨2, 0⟩) 43)) (wr.heap.size + 1 + 1 + 1) (cK ⟨2, 0⟩) 43) := Lib.hid (Holds.new' _ _ _ (by simp))
          have HB := Lib.hid (K3.out.2.alloc (by simp; omega) (.cells (cK ⟨2, 0⟩) 43))
          have hlh' : l.length ≤ 1000000 := by omega
          clear K3
          go_wp2_with (at_builtin; refine app_kt w.heap.size l ⟨2, 0⟩ u3 (wr.heap.size + 1 + 1 + 1) _ _ rfl rfl rfl rfl Hown2.out Hnew.out hlh' (by simp; omega) ?_)
          intro v' w2 hown' hgrow
          have hB' : Below w.heap.size w w2 := below_grownK HB.out Hown2.out hgrow (by simp; omega)
          have Kn := Lib.hid (And.intro hown' hB')
          clear hown' hgrow hB' HB Hnew Hown2
          go_wp2_with fail
          go_ret
          exact ⟨_, rfl, by rw [He.out]; exact Kn.out.1, Kn.out.2⟩
        · have Hown2 := Lib.hid (K3.out.1.alloc (.cells (cK ⟨4, 0⟩) 43))
          have Hnew : Hid (Holds ((((wr.alloc (.cells #[.int .i64 2, .int .i64 0] 43)).alloc (.cells #[.int .i64 3, .int .i64 0] 43)).alloc (.cells #[.int .i64 4, .int .i64 0] 43)).alloc (.cells (cK ⟨4, 0⟩) 43)) (wr.heap.size + 1 + 1 + 1) (cK ⟨4, 0⟩) 43) := Lib.hid (Holds.new' _ _ _ (by simp))
          have HB := Lib.hid (K3.out.2.alloc (by simp; omega) (.cells (cK ⟨4, 0⟩) 43))
          have hlh' : l.length ≤ 1000000 := by omega
          clear K3
          go_wp2_with (at_builtin; refine app_kt w.heap.size l ⟨4, 0⟩ u3 (wr.heap.size + 1 + 1 + 1) _ _ rfl rfl rfl rfl Hown2.out Hnew.out hlh' (by simp; omega) ?_)
          intro v' w2 hown' hgrow
          have hB' : Below w.heap.size w w2 := below_grownK HB.out Hown2.out hgrow (by simp; omega)
          have Kn := Lib.hid (And.intro hown' hB')
          clear hown' hgrow hB' HB Hnew Hown2
          go_wp2_with fail
          go_ret
          exact ⟨_, rfl, by rw [He.out]; exact Kn.out.1, Kn.out.2⟩
        · go_wp2_with fail
          go_ret
          exact ⟨_, rfl, by rw [He.out]; simpa [tl8] using K3.out.1, K3.out.2⟩
        · have Hown2 := Lib.hid (K3.out.1.alloc (.cells (cK ⟨2, 0⟩) 43))
          have Hnew : Hid (Holds ((((wr.alloc (.cells #[.int .i64 2, .int .i64 0] 43)).alloc (.cells #[.int .i64 3, .int .i64 0] 43)).alloc (.cells #[.int .i64 4, .int .i64 0] 43)).alloc (.cells (cK ⟨2, 0⟩) 43)) (wr.heap.size + 1 + 1 + 1) (cK ⟨2, 0⟩) 43) := Lib.hid (Holds.new' _ _ _ (by simp))
          have HB := Lib.hid (K3.out.2.alloc (by simp; omega) (.cells (cK ⟨2, 0⟩) 43))
          have hlh' : l.length ≤ 1000000 := by omega
          clear K3
          go_wp2_with (at_builtin; refine app_kt w.heap.size l ⟨2, 0⟩ u3 (wr.heap.size + 1 + 1 + 1) _ _ rfl rfl rfl rfl Hown2.out Hnew.out hlh' (by simp; omega) ?_)
          intro v' w2 hown' hgrow
          have hB' : Below w.heap.size w w2 := below_grownK HB.out Hown2.out hgrow (by simp; omega)
          have Kn := Lib.hid (And.intro hown' hB')
          clear hown' hgrow hB' HB Hnew Hown2
          go_wp2_with fail
          go_ret
          exact ⟨_, rfl, by rw [He.out]; exact Kn.out.1, Kn.out.2⟩
        · have Hown2 := Lib.hid (K3.out.1.alloc (.cells (cK ⟨2, 0⟩) 43))
          have Hnew : Hid (Holds ((((wr.alloc (.cells #[.int .i64 2, .int .i64 0] 43)).alloc (.cells #[.int .i64 3, .int .i64 0] 43)).alloc (.cells #[.int .i64 4, .int .i64 0] 43)).alloc (.cells (cK ⟨2, 0⟩) 43)) (wr.heap.size + 1 + 1 + 1) (cK ⟨2, 0⟩) 43) := Lib.hid (Holds.new' _ _ _ (by simp))
          have HB := Lib.hid (K3.out.2.alloc (by simp; omega) (.cells (cK ⟨2, 0⟩) 43))
          have hlh' : l.length ≤ 1000000 := by omega
          clear K3
          go_wp2_with (at_builtin; refine app_kt w.heap.size l ⟨2, 0⟩ u3 (wr.heap.size + 1 + 1 + 1) _ _ rfl rfl rfl rfl Hown2.out Hnew.out hlh' (by simp; omega) ?_)
          intro v' w2 hown' hgrow
          have hB' : Below w.heap.size w w2 := below_grownK HB.out Hown2.out hgrow (by simp; omega)
          have Kn := Lib.hid (And.intro hown' hB')
          clear hown' hgrow hB' HB Hnew Hown2
          go_wp2_with fail
          go_ret
          exact ⟨_, rfl, by rw [He.out]; exact Kn.out.1, Kn.out.2⟩
        · have Hown2 := Lib.hid (K3.out.1.alloc (.cells (cK ⟨3, 0⟩) 43))
          have Hnew : Hid (Holds ((((wr.alloc (.cells #[.int .i64 2, .int .i64 0] 43)).alloc (.cells #[.int .i64 3, .int .i64 0] 43)).alloc (.cells #[.int .i64 4, .int .i64 0] 43)).alloc (.cells (cK ⟨3, 0⟩) 43)) (wr.heap.size + 1 + 1 + 1) (cK ⟨3, 0⟩) 43) := Lib.hid (Holds.new' _ _ _ (by simp))
          have HB := Lib.hid (K3.out.2.alloc (by simp; omega) (.cells (cK ⟨3, 0⟩) 43))
          have hlh' : l.length ≤ 1000000 := by omega
          clear K3
          go_wp2_with (at_builtin; refine app_kt w.heap.size l ⟨3, 0⟩ u3 (wr.heap.size + 1 + 1 + 1) _ _ rfl rfl rfl rfl Hown2.out Hnew.out hlh' (by simp; omega) ?_)
          intro v' w2 hown' hgrow
          have hB' : Below w.heap.size w w2 := below_grownK HB.out Hown2.out hgrow (by simp; omega)
          have Kn := Lib.hid (And.intro hown' hB')
          clear hown' hgrow hB' HB Hnew Hown2
          go_wp2_with fail
          go_ret
          exact ⟨_, rfl, by rw [He.out]; exact Kn.out.1, Kn.out.2⟩
        · go_wp2_with fail
          go_ret
          exact ⟨_, rfl, by rw [He.out]; simpa [tl8] using K3.out.1, K3.out.2⟩
      · have He : Hid (asgL D = l) := Lib.hid (by unfold asgL; rw [if_neg he, Hps.out, Hlp.out]; simp)
        have be : (D % 2 != 0) = true := by simpa using he
        clear Hlp
        go_wp2_with fail
        go_ret
        exact ⟨_, rfl, by rw [He.out]; exact K.out.1, K.out.2⟩
end Go.Proofs.Ytafcbaganjcnlaa
