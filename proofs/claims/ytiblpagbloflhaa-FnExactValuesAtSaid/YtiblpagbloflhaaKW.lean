/- Contracts and the walk of the law: values of the assigned characters. -/
import Derived.Test.YtiblpagbloflhaaKA
import Derived.Test.YtiblpagbloflhaaKV
import Derived.Test.YtiblpagbloflhaaV
import Derived.Test.YtiblpagbloflhaaD
namespace Go.Proofs.Ytiblpagbloflhaa
set_option linter.unusedVariables false
open Go.ChangeShapes Go.WideShapes Go.ChangeAt Go.RowKit

theorem facGo_dvd : ∀ (k : Nat) (p n : Int), (n - p + 1).toNat ≤ k → 2 ≤ p → 1 ≤ n → ∀ x, x ∈ facGo p n → n % x = 0 := by
  intro k
  induction k with
  | zero =>
    intro p n hk hp hn x hx
    have h1 := Int.mul_le_mul_of_nonneg_right hp (show 0 ≤ p by omega)
    rw [facGo_end (by omega)] at hx
    split at hx
    · simp at hx; subst hx; simp
    · simp at hx
  | succ k ih =>
    intro p n hk hp hn x hx
    have h1 := Int.mul_le_mul_of_nonneg_right hp (show 0 ≤ p by omega)
    by_cases h : p * p ≤ n
    · obtain ⟨a, b, c, d⟩ := stripN_bd hp hn
      rw [facGo_step hp h, List.mem_append] at hx
      rcases hx with hx | hx
      · have he := stripL_all p n.toNat n (Nat.le_refl _) x hx
        subst he
        by_cases hm : n % x = 0
        · exact hm
        · rw [stripL_no hm] at hx; simp at hx
      · exact d x (ih (p + 1) (stripN p n) (by omega) (by omega) a x hx)
    · rw [facGo_end (by omega)] at hx
      split at hx
      · simp at hx; subst hx; simp
      · simp at hx
theorem prs_odd {n x : Int} (hn : 1 ≤ n) (h : x ∈ prs n) (h2 : 2 < x) : x % 2 = 1 := by
  have hx := mem_prs hn h
  unfold facs at hx
  by_cases h4 : (2 : Int) * 2 ≤ n
  · obtain ⟨a, b, c, d⟩ := stripN_bd (p := 2) (by omega) hn
    rw [facGo_step (by omega) h4, List.mem_append] at hx
    rcases hx with hx | hx
    · have he := stripL_all 2 n.toNat n (Nat.le_refl _) x hx
      omega
    · have hd := facGo_dvd _ 3 (stripN 2 n) (Nat.le_refl _) (by omega) a x hx
      have hd' := Int.dvd_of_emod_eq_zero hd
      by_cases hx2 : x % 2 = 0
      · have := Int.emod_eq_zero_of_dvd (Int.dvd_trans (Int.dvd_of_emod_eq_zero hx2) hd')
        omega
      · omega
  · rw [facGo_end (by omega)] at hx
    split at hx
    · simp at hx; omega
    · simp at hx
theorem facGo_leY : ∀ (k : Nat) (p n : Int), (n - p + 1).toNat ≤ k → 2 ≤ p → 1 ≤ n → ∀ x, x ∈ facGo p n → x ≤ n := by
  intro k p n hk hp hn x hx
  have := Int.dvd_of_emod_eq_zero (facGo_dvd k p n hk hp hn x hx)
  exact Int.le_of_dvd (by omega) this
theorem asgP_mem : ∀ {l : List Int} {f : Kt}, f ∈ asgP l → f.x = 1 ∧ f.y ∈ l ∧ 2 < f.y
  | [], f, h => by simp [asgP] at h
  | p :: t, f, h => by
    unfold asgP at h
    split at h
    · simp at h
      rcases h with rfl | h
      · exact ⟨rfl, by simp, by assumption⟩
      · obtain ⟨a, b, c⟩ := asgP_mem h
        exact ⟨a, by simp [b], c⟩
    · obtain ⟨a, b, c⟩ := asgP_mem h
      exact ⟨a, by simp [b], c⟩
theorem tl8_ok {r : Int} {f : Kt} (h : f ∈ tl8 r) : (f.x = 2 ∨ f.x = 3 ∨ f.x = 4) ∧ f.y = 0 := by
  unfold tl8 at h
  split at h
  · simp at h; subst h; simp
  · split at h
    · simp at h; subst h; simp
    · split at h
      · simp at h; subst h; simp
      · split at h
        · simp at h; rcases h with rfl | rfl <;> simp
        · simp at h
theorem asgL_ok {D : Int} (h1 : 3 ≤ D) (h2 : D ≤ 2000) {f : Kt} (h : f ∈ asgL D) : ChOk f.x f.y := by
  unfold asgL at h
  rw [List.mem_append] at h
  rcases h with h | h
  · obtain ⟨a, b, c⟩ := asgP_mem h
    have h3 := prs_odd (by omega) b c
    have h4 := facGo_leY _ 2 D (Nat.le_refl _) (by omega) (by omega) _ (mem_prs (by omega) b)
    exact .inl ⟨a, by omega, by omega, h3⟩
  · split at h
    · exact .inr (tl8_ok h)
    · simp at h
theorem Kts.beside {w w' : World} {B : Nat} {u v v' : Value} {l : List Kt} (h : Kts w B u l) (hne : u.ownBlock = none ∨ u.ownBlock ≠ v.ownBlock) (hg : w.grownBy w' v.ownBlock) (hv : v'.ownBlock = v.ownBlock ∨ v'.ownBlock = some w.heap.size) :
    Kts w' B u l ∧ (u.ownBlock = none ∨ u.ownBlock ≠ v'.ownBlock) := by
  refine ⟨h.kept hg hne, ?_⟩
  cases hu : u.ownBlock with
  | none => exact .inl rfl
  | some k =>
    right
    have h1 := (h.lt k hu).2
    rcases hv with hv | hv
    · rw [hv, ← hu]
      rcases hne with hn | hn
      · rw [hu] at hn; cases hn
      · exact hn
    · rw [hv]
      intro e
      injection e with e
      omega
def kV (n : Int) (f : Kt) : Int := chV f.x f.y n
def valL (D n : Int) : List Int := (asgL D).map (kV n)
theorem valL_len {D : Int} (n : Int) (h : 1 ≤ D) : ((valL D n).length : Int) ≤ D + 2 := by
  unfold valL; rw [List.length_map]; exact asgL_len h
set_option maxHeartbeats 1000000 in
theorem spec_chList (D n : Int) (w : World) (h1 : 3 ≤ D) (h2 : D ≤ 2000) (n1 : -1000000 ≤ n) (n2 : n ≤ 1000000) :
    Calls Try.prog 101 #[.int .i64 (-D), .int .i64 n] w fun e w' => ∃ v, e = .returned v ∧ Ints w' w.heap.size v (valL D n) ∧ Below w.heap.size w w' := by
  have hps0 := asgL_len (D := D) (by omega)
  have Hok0 := Lib.hid (fun f hf => asgL_ok (D := D) (f := f) h1 h2 hf)
  go_enter Try.func101, Try.ntmps101
  go_wp2_with fail
  refine (spec_chAll D _ h1 h2).mono ?_
  rintro e w1 ⟨v0, rfl, hf, hb1⟩
  have hB1 : Below w.heap.size w w1 := Below.after (by go_grown) hb1
  have hs1 := hB1.size
  obtain ⟨p0, cap, rfl, hml, _⟩ := hf.view
  obtain ⟨ks, hks⟩ : ∃ ks, asgL D = ks := ⟨_, rfl⟩
  have Hke := Lib.hid hks
  have Hks : Hid (∀ f ∈ ks, ChOk f.x f.y) := Lib.hid (by rw [← hks]; exact Hok0.out)
  rw [hks] at hps0 hf hml ⊢
  have Hf1 := Lib.hid (hf.mono (B' := w.heap.size) (by simp))
  have Hown1 := Lib.hid (Ints.nil w1 w.heap.size)
  have Hsep1 := Lib.hid (show (Value.slice p0 ks.length cap).ownBlock = none ∨ (Value.slice p0 ks.length cap).ownBlock ≠ (Value.slice none 0 0).ownBlock by
    cases hq : (Value.slice p0 ks.length cap).ownBlock with
    | none => exact .inl rfl
    | some k => right; simp [Value.ownBlock])
  clear hf hb1 hks Hok0
  go_wp2_with fail
  go_loopw [5, 11] (fun v i wr => ∃ (k : Nat) (l : List Int), k ≤ ks.length ∧ i = .int .i64 k ∧ l = (ks.take k).map (kV n) ∧ l.length ≤ k ∧ Ints wr w.heap.size v l ∧ Kts wr w.heap.size (.slice p0 ks.length cap) ks ∧
      ((Value.slice p0 ks.length cap).ownBlock = none ∨ (Value.slice p0 ks.length cap).ownBlock ≠ v.ownBlock) ∧ Below w.heap.size w wr) (fun _ i _ => ks.length - (intOf i).toNat)
  case atStart => exact ⟨0, [], by omega, rfl, rfl, by simp, Hown1.out, Hf1.out, Hsep1.out, hB1⟩
  case round =>
    clear Hown1 Hf1 Hsep1 hB1
    obtain ⟨k, l, hk, rfl, hl, hlk, hown, hf, hsep, hB⟩ := hrel
    have Hl := Lib.hid hl
    clear hl
    have hs := hB.size
    by_cases hlt : k < ks.length
    · obtain ⟨g, rfl, _, hg2, hc0, hc1, hfz⟩ := hf.read k hlt
      obtain ⟨⟨x, y⟩, hx⟩ : ∃ x, ks[k] = x := ⟨_, rfl⟩
      rw [hx] at hc0 hc1
      have Hnx : Hid ((ks.take (k + 1)).map (kV n) = l ++ [chV x y n]) := Lib.hid (by rw [List.take_succ_eq_append_getElem hlt, List.map_append, ← Hl.out, hx]; rfl)
      have Hok : Hid (ChOk x y) := Lib.hid (by have := Hks.out _ (List.getElem_mem hlt); rw [hx] at this; exact this)
      have K := Lib.hid (And.intro hown (And.intro hf (And.intro hsep hB)))
      clear hown hf hsep hB hx Hl hfz
      go_wp2_with fail
      refine (spec_chAt x y n _ _ Hok.out ⟨by omega, by omega⟩ rfl).mono ?_
      rintro e w2 ⟨rfl, hb2⟩
      obtain ⟨hown, hf, hsep, hB⟩ := K.out
      obtain ⟨z, hz⟩ : ∃ z, chV x y n = z := ⟨_, rfl⟩
      rw [hz] at Hnx ⊢
      have hB2 : Below w.heap.size w w2 := Below.after (hB.alloc hs _) hb2
      have hz2 := hb2.size
      simp at hz2
      have hown2 := ((hown.alloc (.cells (cK ⟨x, y⟩) 113)).below hb2).alloc (.cells #[.int .i64 z] 3)
      have hf2 := ((hf.alloc (.cells (cK ⟨x, y⟩) 113)).below hb2).alloc (.cells #[.int .i64 z] 3)
      have HB := Lib.hid (hB2.alloc (by omega) (.cells #[.int .i64 z] 3))
      have Hown2 := Lib.hid hown2
      have Hf2 := Lib.hid hf2
      have Hsep := Lib.hid hsep
      have hlh : l.length ≤ 1000000 := by omega
      have hs2 : w.heap.size ≤ w2.heap.size := by omega
      clear hown hf hsep hB hB2 hown2 hf2 K hb2 hz hc0 hc1
      go_wp2_with (at_builtin; refine app_int w.heap.size l z _ _ _ _ rfl rfl rfl rfl Hown2.out (World.cell?_alloc_at _ _ _ _ rfl) (by omega) (by simp; omega) ?_)
      intro v' w3 hown' hgrow hblk
      have hB' : Below w.heap.size w w3 := below_grown HB.out Hown2.out hgrow (by simp; omega)
      have hbs := Kts.beside (v' := v') Hf2.out Hsep.out hgrow (by simpa using hblk)
      have K := Lib.hid (And.intro hown' (And.intro hbs hB'))
      clear hgrow hblk hbs hown' hB' Hown2 HB Hf2
      go_wp2_with fail
      go_roundw
      case rel => exact ⟨k + 1, l ++ [z], by omega, by go_num, Hnx.out.symm, by simp; omega, K.out.1, K.out.2.1.1, K.out.2.1.2, K.out.2.2⟩
      case measure => simp [intOf]; omega
    · obtain rfl : k = ks.length := by omega
      have Hlp : Hid (l = valL D n) := Lib.hid (by rw [Hl.out, List.take_length, ← Hke.out]; rfl)
      go_wp2_with fail
      go_ret
      exact ⟨_, rfl, by rw [← Hlp.out]; exact hown, hB⟩
set_option maxHeartbeats 1000000 in
theorem impl_valuesAt (D n : Int) (w : World) (h1 : 3 ≤ D) (h2 : D ≤ 2000) (n1 : -1000000 ≤ n) (n2 : n ≤ 1000000) :
    Calls Try.prog 103 #[.int .i64 (-D), .int .i64 n] w fun e w' => ∃ v, e = .returned v ∧ Ints w' w.heap.size v (valL D n) ∧ Below w.heap.size w w' := by
  have hps0 := asgL_len (D := D) (by omega)
  have Hok0 := Lib.hid (fun f hf => asgL_ok (D := D) (f := f) h1 h2 hf)
  go_enter Try.func103, Try.ntmps103
  go_wp2_with fail
  refine (impl_assigned D _ h1 h2).mono ?_
  rintro e w1 ⟨v0, rfl, hf, hb1⟩
  have hB1 : Below w.heap.size w w1 := Below.after (by go_grown) hb1
  have hs1 := hB1.size
  have hown1 : Ints w1 w.heap.size (.slice (some ⟨w.heap.size, 0, none⟩) 0 0) [] := (Ints.made w [] #[] rfl (Nat.le_refl _) (by simp)).below hb1
  have hsep1 : v0.ownBlock = none ∨ v0.ownBlock ≠ Value.ownBlock (.slice (some ⟨w.heap.size, 0, none⟩) 0 0) := by
    cases hv : v0.ownBlock with
    | none => exact .inl rfl
    | some k =>
      right
      have := (hf.lt k hv).1
      simp at this
      intro e
      simp [Value.ownBlock] at e
      omega
  obtain ⟨p0, cap, rfl, hml, _⟩ := hf.view
  obtain ⟨ks, hks⟩ : ∃ ks, asgL D = ks := ⟨_, rfl⟩
  have Hke := Lib.hid hks
  have Hks : Hid (∀ f ∈ ks, ChOk f.x f.y) := Lib.hid (by rw [← hks]; exact Hok0.out)
  rw [hks] at hps0 hf hml hsep1 ⊢
  have Hf1 := Lib.hid (hf.mono (B' := w.heap.size) (by simp))
  have Hown1 := Lib.hid hown1
  have Hsep1 := Lib.hid hsep1
  clear hf hb1 hks Hok0 hown1 hsep1
  go_wp2_with fail
  go_loopw [5, 12] (fun v i wr => ∃ (k : Nat) (l : List Int), k ≤ ks.length ∧ i = .int .i64 k ∧ l = (ks.take k).map (kV n) ∧ l.length ≤ k ∧ Ints wr w.heap.size v l ∧ Kts wr w.heap.size (.slice p0 ks.length cap) ks ∧
      ((Value.slice p0 ks.length cap).ownBlock = none ∨ (Value.slice p0 ks.length cap).ownBlock ≠ v.ownBlock) ∧ Below w.heap.size w wr) (fun _ i _ => ks.length - (intOf i).toNat)
  case atStart => exact ⟨0, [], by omega, rfl, rfl, by simp, Hown1.out, Hf1.out, Hsep1.out, hB1⟩
  case round =>
    clear Hown1 Hf1 Hsep1 hB1
    obtain ⟨k, l, hk, rfl, hl, hlk, hown, hf, hsep, hB⟩ := hrel
    have Hl := Lib.hid hl
    clear hl
    have hs := hB.size
    by_cases hlt : k < ks.length
    · obtain ⟨g, rfl, _, hg2, hc0, hc1, hfz⟩ := hf.read k hlt
      obtain ⟨⟨x, y⟩, hx⟩ : ∃ x, ks[k] = x := ⟨_, rfl⟩
      rw [hx] at hc0 hc1
      have Hnx : Hid ((ks.take (k + 1)).map (kV n) = l ++ [chV x y n]) := Lib.hid (by rw [List.take_succ_eq_append_getElem hlt, List.map_append, ← Hl.out, hx]; rfl)
      have Hok : Hid (ChOk x y) := Lib.hid (by have := Hks.out _ (List.getElem_mem hlt); rw [hx] at this; exact this)
      have K := Lib.hid (And.intro hown (And.intro hf (And.intro hsep hB)))
      clear hown hf hsep hB hx Hl hfz
      go_wp2_with fail
      refine (impl_value x y n _ _ Hok.out ⟨by omega, by omega⟩ rfl).mono ?_
      rintro e w2 ⟨rfl, hb2⟩
      obtain ⟨hown, hf, hsep, hB⟩ := K.out
      obtain ⟨z, hz⟩ : ∃ z, chV x y n = z := ⟨_, rfl⟩
      rw [hz] at Hnx ⊢
      have hB2 : Below w.heap.size w w2 := Below.after (hB.alloc hs _) hb2
      have hz2 := hb2.size
      simp at hz2
      have hown2 := ((hown.alloc (.cells (cK ⟨x, y⟩) 113)).below hb2).alloc (.cells #[.int .i64 z] 3)
      have hf2 := ((hf.alloc (.cells (cK ⟨x, y⟩) 113)).below hb2).alloc (.cells #[.int .i64 z] 3)
      have HB := Lib.hid (hB2.alloc (by omega) (.cells #[.int .i64 z] 3))
      have Hown2 := Lib.hid hown2
      have Hf2 := Lib.hid hf2
      have Hsep := Lib.hid hsep
      have hlh : l.length ≤ 1000000 := by omega
      have hs2 : w.heap.size ≤ w2.heap.size := by omega
      clear hown hf hsep hB hB2 hown2 hf2 K hb2 hz hc0 hc1
      go_wp2_with (at_builtin; refine app_int w.heap.size l z _ _ _ _ rfl rfl rfl rfl Hown2.out (World.cell?_alloc_at _ _ _ _ rfl) (by omega) (by simp; omega) ?_)
      intro v' w3 hown' hgrow hblk
      have hB' : Below w.heap.size w w3 := below_grown HB.out Hown2.out hgrow (by simp; omega)
      have hbs := Kts.beside (v' := v') Hf2.out Hsep.out hgrow (by simpa using hblk)
      have K := Lib.hid (And.intro hown' (And.intro hbs hB'))
      clear hgrow hblk hbs hown' hB' Hown2 HB Hf2
      go_wp2_with fail
      go_roundw
      case rel => exact ⟨k + 1, l ++ [z], by omega, by go_num, Hnx.out.symm, by simp; omega, K.out.1, K.out.2.1.1, K.out.2.1.2, K.out.2.2⟩
      case measure => simp [intOf]; omega
    · obtain rfl : k = ks.length := by omega
      have Hlp : Hid (l = valL D n) := Lib.hid (by rw [Hl.out, List.take_length, ← Hke.out]; rfl)
      go_wp2_with fail
      go_ret
      exact ⟨_, rfl, by rw [← Hlp.out]; exact hown, hB⟩
end Go.Proofs.Ytiblpagbloflhaa
