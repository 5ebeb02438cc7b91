/- Lists of lists of forms in memory: the outer row holds slices, each of which owns its forms; one more; reading it; two compared, one marked, one whose marks are held. -/
import Derived.Test.YtdonpiihjoihcaaFS
namespace Go.Proofs.Ytdonpiihjoihcaa
set_option linter.unusedVariables false
open Go.ChangeShapes Go.WideShapes Go.ChangeAt Go.RowKit

theorem infoOu : (Try.prog.info? 46).map (fun i => (i.zero, i.size, i.bytes)) = some (some (.slice none 0 0), 1, 24) := by kernel_rfl
/-- the slice value v holds in its own row (from block B on) the slices vs, whose blocks (below N, apart from each other and from the row's) hold the lists L -/
structure OuAt (w : World) (B N : Nat) (v : Value) (vs : List Value) (L : List (List Fm)) : Prop where
  len : vs.length = L.length
  row : w.ownsRow B 46 1 v L.length vs
  own : ∀ (i : Nat) (u : Value) (l : List Fm), vs[i]? = some u → L[i]? = some l → Fms w B u l ∧ ∃ k, u.ownBlock = some k ∧ k < N ∧ v.ownBlock ≠ some k
  vN : ∀ k : Nat, v.ownBlock = some k → k < N
  apart : ∀ (i j : Nat) (u u' : Value), vs[i]? = some u → vs[j]? = some u' → u.ownBlock = u'.ownBlock → i = j
def Outs (w : World) (B N : Nat) (v : Value) (L : List (List Fm)) : Prop := ∃ vs, OuAt w B N v vs L
theorem OuAt.up {w : World} {B N N' : Nat} {v : Value} {vs : List Value} {L : List (List Fm)} (h : OuAt w B N v vs L) (hN : N ≤ N') : OuAt w B N' v vs L :=
  ⟨h.len, h.row, fun i u l h1 h2 => by obtain ⟨a, k, b, c, d⟩ := h.own i u l h1 h2; exact ⟨a, k, b, by omega, d⟩, fun k hk => by have := h.vN k hk; omega, h.apart⟩
theorem Outs.up {w : World} {B N N' : Nat} {v : Value} {L : List (List Fm)} (h : Outs w B N v L) (hN : N ≤ N') : Outs w B N' v L := by
  obtain ⟨vs, h⟩ := h; exact ⟨vs, h.up hN⟩
theorem Outs.nil (w : World) (B N : Nat) : Outs w B N (.slice none 0 0) [] :=
  ⟨[], rfl, World.ownsRow_nil _ _ _ _, (fun i u l h => by simp at h), (fun k hk => by cases hk), (fun i j u u' h => by simp at h)⟩
theorem Outs.empty (w : World) {B N b : Nat} (hb : b = w.heap.size) (hB : B ≤ w.heap.size) (hN : w.heap.size < N) : Outs (w.alloc (.cells #[] 46)) B N (.slice (some ⟨b, 0, none⟩) 0 0) [] := by
  subst hb
  refine ⟨[], rfl, ?_, fun i u l h => by simp at h, fun k hk => ?_, fun i j u u' h => by simp at h⟩
  · have := World.ownsRow_lit (e := 46) (size := 1) w #[] 0 hB (by unfold maxLen; omega) (by simp)
    simpa using this
  · have : w.heap.size = k := by simpa [Value.ownBlock] using hk
    omega
theorem OuAt.kept {w w' : World} {B N : Nat} {v : Value} {vs : List Value} {L : List (List Fm)} {row : Option Nat} (h : OuAt w B N v vs L) (hg : w.grownBy w' row) (hv : v.ownBlock = none ∨ v.ownBlock ≠ row) (hi : ∀ (i : Nat) (u : Value), vs[i]? = some u → u.ownBlock ≠ row) : OuAt w' B N v vs L :=
  ⟨h.len, World.ownsRow.kept h.row hg hv, fun i u l h1 h2 => by obtain ⟨a, b⟩ := h.own i u l h1 h2; exact ⟨a.kept hg (.inr (hi i u h1)), b⟩, h.vN, h.apart⟩
theorem OuAt.inB {w : World} {B N : Nat} {v : Value} {vs : List Value} {L : List (List Fm)} (h : OuAt w B N v vs L) {i : Nat} {u : Value} (hu : vs[i]? = some u) : ∃ l k, L[i]? = some l ∧ Fms w B u l ∧ u.ownBlock = some k ∧ B ≤ k ∧ k < N ∧ k < w.heap.size ∧ v.ownBlock ≠ some k := by
  have hl : i < L.length := by rw [← h.len]; exact (List.getElem?_eq_some_iff.1 hu).1
  obtain ⟨a, k, b, c, d⟩ := h.own i u L[i] hu (by simp [hl])
  have := a.lt k b
  exact ⟨L[i], k, by simp [hl], a, b, this.1, c, this.2, d⟩
theorem Outs.far {w w' : World} {B N b : Nat} {v : Value} {L : List (List Fm)} (h : Outs w B N v L) (hg : w.grownBy w' (some b)) (hb : b < B ∨ N ≤ b) : Outs w' B N v L := by
  obtain ⟨vs, h⟩ := h
  refine ⟨vs, h.kept hg ?_ fun i u hu e => ?_⟩
  · right
    intro e
    have h1 := (World.ownsRow.lt h.row b e).1
    have h2 := h.vN b e
    omega
  · obtain ⟨l, k, _, _, h1, h2, h3, _⟩ := h.inB hu
    rw [h1] at e
    injection e with e
    omega
theorem Outs.below {w w' : World} {B N : Nat} {v : Value} {L : List (List Fm)} (h : Outs w B N v L) (hb : Below w.heap.size w w') : Outs w' B N v L := by
  obtain ⟨vs, h⟩ := h
  refine ⟨vs, h.kept (grownBy_of_below' hb) ?_ fun i u hu e => ?_⟩
  · cases hv : v.ownBlock <;> simp
  · obtain ⟨l, k, _, _, h1, _⟩ := h.inB hu
    rw [h1] at e
    cases e
theorem Outs.alloc {w : World} {B N : Nat} {v : Value} {L : List (List Fm)} (h : Outs w B N v L) (o : Obj) : Outs (w.alloc o) B N v L :=
  h.below (Below.alloc (Below.refl _ _) (Nat.le_refl _) o)
theorem Outs.drewN {w : World} {B N : Nat} {v : Value} {L : List (List Fm)} (h : Outs w B N v L) (n : Nat) : Outs (w.drewN n) B N v L := by
  obtain ⟨vs, h⟩ := h
  exact ⟨vs, h.len, h.row, fun i u l h1 h2 => by obtain ⟨a, b⟩ := h.own i u l h1 h2; exact ⟨a.drewN n, b⟩, h.vN, h.apart⟩
theorem Outs.lt {w : World} {B N : Nat} {v : Value} {L : List (List Fm)} (h : Outs w B N v L) : ∀ k, v.ownBlock = some k → B ≤ k ∧ k < w.heap.size ∧ k < N := by
  obtain ⟨vs, h⟩ := h
  intro k hk
  have h1 := World.ownsRow.lt h.row k hk
  exact ⟨h1.1, h1.2, h.vN k hk⟩
theorem Outs.monoB {w : World} {B B' N : Nat} {v : Value} {L : List (List Fm)} (h : Outs w B N v L) (hB : B' ≤ B) : Outs w B' N v L := by
  obtain ⟨vs, h⟩ := h
  refine ⟨vs, h.len, ?_, fun i u l h1 h2 => by obtain ⟨a, b⟩ := h.own i u l h1 h2; exact ⟨a.mono hB, b⟩, h.vN, h.apart⟩
  obtain ⟨h1, h2⟩ := h.row
  refine ⟨h1, ?_⟩
  rcases h2 with h2 | ⟨g, cap, cur, hv, hb, r⟩
  · exact .inl h2
  · exact .inr ⟨g, cap, cur, hv, by omega, r⟩
/-- how a list of lists is read -/
theorem Outs.view {w : World} {B N : Nat} {v : Value} {L : List (List Fm)} (h : Outs w B N v L) :
    ∃ (p : Option Addr) (cap : Nat), v = .slice p L.length cap ∧ L.length ≤ maxLen ∧ ∀ i (hi : i < L.length), ∃ g u, p = some ⟨g, 0, none⟩ ∧ B ≤ g ∧ g < w.heap.size ∧ w.cell? ⟨g, i, none⟩ = some u ∧ w.frozen? ⟨g, i, none⟩ = false ∧ Fms w B u L[i] := by
  obtain ⟨vs, h⟩ := h
  have hall := h.row
  obtain ⟨h1, h2⟩ := h.row
  rcases h2 with ⟨rfl, hn⟩ | ⟨g, cap, cur, rfl, hb, hh, h3, h4, h5, h6⟩
  · exact ⟨none, 0, by rw [hn], by unfold maxLen; omega, fun i hi => by omega⟩
  · refine ⟨some ⟨g, 0, none⟩, cap, rfl, by omega, fun i hi => ?_⟩
    have hi' : i < vs.length := by rw [h.len]; exact hi
    have hu : vs[i]? = some vs[i] := by simp [hi']
    obtain ⟨a, _⟩ := h.own i vs[i] L[i] hu (by simp [hi])
    refine ⟨g, vs[i], rfl, hb, (Array.getElem?_eq_some_iff.1 hh).1, ?_, World.ownsRow.frozenAt hall i, a⟩
    have := World.ownsRow.cells hall (g := g) rfl i _ hu
    have hadd : (⟨g, 0, none⟩ : Addr).add i = ⟨g, i, none⟩ := by unfold Addr.add; split <;> simp_all
    rwa [hadd] at this
theorem Outs.read {w : World} {B N n cap : Nat} {p : Option Addr} {L : List (List Fm)} (h : Outs w B N (.slice p n cap) L) :
    ∀ i (hi : i < L.length), ∃ g u, p = some ⟨g, 0, none⟩ ∧ B ≤ g ∧ g < w.heap.size ∧ w.cell? ⟨g, i, none⟩ = some u ∧ w.frozen? ⟨g, i, none⟩ = false ∧ Fms w B u L[i] := by
  obtain ⟨p', cap', he, _, hr⟩ := h.view
  injection he with e1 e2 e3
  subst e1
  exact hr
theorem below_grownO {B N : Nat} {a w w' : World} {v : Value} {L : List (List Fm)} (hB : Below B a w) (h : Outs w B N v L) (hg : w.grownBy w' v.ownBlock) (hs : B ≤ w.heap.size) : Below B a w' :=
  hB.grown hg hs fun k hk => (h.lt k hk).1
/-- where the row lies after one more -/
theorem app_blockO (w : World) {B n : Nat} {vs : List Value} {u v v' : Value} {w' : World} {blk : Nat} {ty : TypeId} (hown : w.ownsRow B 46 1 v n vs) (hc : Holds w blk #[u] 46) (h1 : u.oneCell' = true) (hl : n ≤ 1000000)
    (hr : (Builtin.append_ #[42, 42] ty #[v, .slice (some ⟨blk, 0, none⟩) 1 1]).run Try.prog w = .ok v' w') : v'.ownBlock = v.ownBlock ∨ v'.ownBlock = some w.heap.size := by
  obtain ⟨i0, hi, hz0, hz1, hz2⟩ := info_parts infoOu
  have hnews : ∀ j u', [u][j]? = some u' → w.cell? ((⟨blk, 0, none⟩ : Addr).add j) = some u' := fun j u' hj => by
    have hadd : (⟨blk, 0, none⟩ : Addr).add j = ⟨blk, j, none⟩ := by unfold Addr.add; split <;> simp_all
    rw [hadd]
    exact hc.cell (by rw [← hj]; simp)
  have hone : ∀ u' ∈ [u], u'.oneCell' = true := fun u' hu => by simp at hu; subst hu; exact h1
  have hown0 := hown
  obtain ⟨hlen, hcase⟩ := hown
  rcases hcase with ⟨rfl, hn⟩ | ⟨g, cap, cur, rfl, hbg, hg, hnc, hcm, hcs, htake⟩
  · have hr2 := run_append_nil (P := Try.prog) w 42 ty 46 i0 (.slice none 0 0) Try.underlying42 hi hz0 ⟨blk, 0, none⟩ 1 1 [u] (by simp [hz1]) hnews (by omega) (by omega) (by omega)
    rw [hr] at hr2
    injection hr2 with e1 e2
    right; rw [e1]; rfl
  · by_cases hroom : n + 1 ≤ cap
    · have hr2 := run_append_room (P := Try.prog) w 42 ty 46 i0 Try.underlying42 hi g n cap cur hg ⟨blk, 0, none⟩ 1 1 [u] (by simp [hz1]) hnews hone hroom (by simp [hz1, hcs]; omega)
      rw [hr] at hr2
      injection hr2 with e1 e2
      left; rw [e1]; rfl
    · have hr2 := run_append_grow (P := Try.prog) w 42 ty 46 i0 (.slice none 0 0) Try.underlying42 hi hz0 ⟨g, 0, none⟩ n cap _ (by rw [hz1]; exact hlen) (World.ownsRow.cells hown0 (g := g) rfl) ⟨blk, 0, none⟩ 1 1 [u] (by simp [hz1]) hnews (by omega) (by omega) (growslice_fits (by omega) (by rw [hz2]; omega))
      rw [hr] at hr2
      injection hr2 with e1 e2
      right; rw [e1]; rfl
/-- one list more -/
theorem app_ou {ops : Array Oper} {rest : List Oper} {o : Oper} {a : Act} {Q : Exit → Act → World → Prop} {w : World} (B N : Nat) (L : List (List Fm)) (l : List Fm) (u v : Value) (blk : Nat) (s y : Operand)
    (hgd : o.guard = none) (ho : o.op = .call { callee := .builtin .append, args := #[s, y], argTypes := #[42, 42] }) (hs : a.eval s = v) (hx : a.eval y = .slice (some ⟨blk, 0, none⟩) 1 1)
    (hown : Outs w B N v L) (hc : Holds w blk #[u] 46) (hu : Fms w B u l) (hne : l ≠ []) (hN : ∀ k, u.ownBlock = some k → N ≤ k) (hl : L.length ≤ 1000000) (hb : B ≤ w.heap.size) (hNw : N ≤ w.heap.size)
    (h : ∀ v' w', Outs w' B w'.heap.size v' (L ++ [l]) → w.grownBy w' v.ownBlock → (v'.ownBlock = v.ownBlock ∨ v'.ownBlock = some w.heap.size) → wpList Try.prog ops Q rest (a.put o.dst v') w') : wpList Try.prog ops Q (o :: rest) a w := by
  refine wpList_plain hgd fun K hK => ?_
  obtain ⟨i0, hi, hz0, hz1, hz2⟩ := info_parts infoOu
  obtain ⟨ku, hku, hone⟩ : ∃ k, u.ownBlock = some k ∧ u.oneCell' = true := by
    obtain ⟨_, h2⟩ := hu
    rcases h2 with ⟨_, h2⟩ | ⟨g, cap, cur, rfl, _⟩
    · exact absurd (List.length_eq_zero_iff.1 h2) hne
    · exact ⟨g, rfl, rfl⟩
  have hkN := hN ku hku
  have hkw := (hu.lt ku hku).2
  obtain ⟨vs, ho'⟩ := hown
  obtain ⟨v', w', hr, h2, h3, _⟩ := run_append_own (P := Try.prog) w B 42 o.type 46 i0 (.slice none 0 0) 1 24 Try.underlying42 hi hz0 hz1 hz2 rfl (by decide) v L.length _ ho'.row ⟨blk, 0, none⟩ 1 1 [u] rfl
    (fun j u' hj => by
      have hadd : (⟨blk, 0, none⟩ : Addr).add j = ⟨blk, j, none⟩ := by unfold Addr.add; split <;> simp_all
      rw [hadd]
      exact hc.cell (by rw [← hj]; simp)) (fun u' hu' => by simp at hu'; subst hu'; exact hone) (by unfold maxLen; omega) (by omega) hb
  have h4 := app_blockO w ho'.row hc hone hl hr
  have hvne : ∀ (i : Nat) (x : Value), vs[i]? = some x → x.ownBlock ≠ v.ownBlock := fun i x hx e => by
    obtain ⟨_, k, _, _, e1, _, _, _, e2⟩ := ho'.inB hx
    rw [e1] at e
    exact e2 e.symm
  have huv : u.ownBlock ≠ v.ownBlock := fun e => by
    rw [hku] at e
    have := ho'.vN ku e.symm
    omega
  have hout : Outs w' B w'.heap.size v' (L ++ [l]) := by
    refine ⟨vs ++ [u], by simp [ho'.len], by simpa using h2, fun i x m hx hm => ?_, fun k hk => (World.ownsRow.lt h2 k hk).2, fun i j x x' hx hx' e => ?_⟩
    · rcases Nat.lt_or_ge i vs.length with hlt | hge
      · rw [List.getElem?_append_left hlt] at hx
        rw [List.getElem?_append_left (by rw [← ho'.len]; exact hlt)] at hm
        obtain ⟨a1, k, a2, a3, a4⟩ := ho'.own i x m hx hm
        have a5 := (a1.lt k a2).2
        refine ⟨a1.kept h3 (.inr (hvne i x hx)), k, a2, Nat.lt_of_lt_of_le a5 h3.size, ?_⟩
        rcases h4 with h4 | h4 <;> rw [h4]
        · exact a4
        · intro e; injection e with e; omega
      · rw [List.getElem?_append_right hge] at hx
        rw [List.getElem?_append_right (by rw [← ho'.len]; exact hge)] at hm
        have hi0 : i - vs.length = 0 := by
          have := (List.getElem?_eq_some_iff.1 hx).1
          simp at this; omega
        rw [hi0] at hx
        rw [← ho'.len, hi0] at hm
        simp at hx hm
        subst hx; subst hm
        refine ⟨hu.kept h3 (.inr huv), ku, hku, Nat.lt_of_lt_of_le hkw h3.size, ?_⟩
        rcases h4 with h4 | h4 <;> rw [h4]
        · intro e; rw [← hku] at e; exact huv e.symm
        · intro e; injection e with e; omega
    · have key : ∀ (i : Nat) (x : Value), (vs ++ [u])[i]? = some x → (i < vs.length ∧ vs[i]? = some x) ∨ (i = vs.length ∧ x = u) := fun i x hx => by
        rcases Nat.lt_or_ge i vs.length with hlt | hge
        · exact .inl ⟨hlt, by rwa [List.getElem?_append_left hlt] at hx⟩
        · right
          rw [List.getElem?_append_right hge] at hx
          have hi0 : i - vs.length = 0 := by
            have := (List.getElem?_eq_some_iff.1 hx).1
            simp at this; omega
          rw [hi0] at hx
          simp at hx
          exact ⟨by omega, hx.symm⟩
      have hold : ∀ (i : Nat) (x : Value), vs[i]? = some x → x.ownBlock ≠ u.ownBlock := fun i x hx e => by
        obtain ⟨_, k, _, _, e1, _, e2, _⟩ := ho'.inB hx
        rw [e1, hku] at e
        injection e with e
        omega
      rcases key i x hx with ⟨i1, i2⟩ | ⟨i1, rfl⟩ <;> rcases key j x' hx' with ⟨j1, j2⟩ | ⟨j1, j2⟩
      · exact ho'.apart i j x x' i2 j2 e
      · subst j2; exact absurd e (hold i x i2)
      · exact absurd e.symm (hold j x' j2)
      · omega
  unfold Oper.wp execOp
  simp only [ho, resolve, invoke, builtin, Sem.run_bind, Sem.run_pure, Result.andThen_ok, List.map_toArray, List.map_cons, List.map_nil, hs, hx, hr]
  exact hK _ _ (h v' w' hout h3 h4)
end Go.Proofs.Ytdonpiihjoihcaa
