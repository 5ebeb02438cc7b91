/- Lists of lists of forms: two compared, one marked, one whose marks are held. -/
import Derived.Test.YtdonpiihjoihcaaOU
namespace Go.Proofs.Ytdonpiihjoihcaa
set_option linter.unusedVariables false
open Go.ChangeShapes Go.WideShapes Go.ChangeAt Go.RowKit

/-! marks from any number on -/
def marksZ (z : Int) (n : Nat) : List Fm := (List.range n).map fun (i : Nat) => ⟨z + 3 * (i : Int), z + 3 * (i : Int) + 1, z + 3 * (i : Int) + 2⟩
theorem marksZ_len (z : Int) (n : Nat) : (marksZ z n).length = n := by simp [marksZ]
theorem marksZ_get (z : Int) (n k : Nat) (h : k < (marksZ z n).length) : (marksZ z n)[k] = ⟨z + 3 * (k : Int), z + 3 * (k : Int) + 1, z + 3 * (k : Int) + 2⟩ := by simp [marksZ]
def markAtZ (z : Int) (l : List Fm) (k : Nat) : List Fm := marksZ z k ++ l.drop k
theorem markAtZ_len (z : Int) (l : List Fm) (k : Nat) (h : k ≤ l.length) : (markAtZ z l k).length = l.length := by simp [markAtZ, marksZ_len]; omega
theorem markAtZ_next (z : Int) (l : List Fm) (k : Nat) (h : k < l.length) : (markAtZ z l k).set k ⟨z + 3 * (k : Int), z + 3 * (k : Int) + 1, z + 3 * (k : Int) + 2⟩ = markAtZ z l (k + 1) := by
  unfold markAtZ
  rw [List.set_append_right _ _ (by rw [marksZ_len]; exact Nat.le_refl _), marksZ_len, Nat.sub_self, List.drop_eq_getElem_cons h, List.set_cons_zero]
  simp [marksZ, List.range_succ]
theorem laws_markFormS_z (z : Int) (l : List Fm) (u : Value) (B : Nat) (w : World) (hl : l.length ≤ 1000000) (hz1 : 1 ≤ z) (hz2 : z ≤ 1000000000) (hu : Fms w B u l) :
    Calls Try.prog 42 #[u, .int .i64 z] w fun e w' => e = .returned (.int .i64 (z + 3 * (l.length : Int))) ∧ Fms w' B u (marksZ z l.length) ∧ w.grownBy w' u.ownBlock := by
  obtain ⟨p, c, rfl, _, hr⟩ := hu.view
  clear hr
  go_enter Try.func42, Try.ntmps42
  go_wp2_with fail
  go_loopw [1, 5] (fun m i wr => ∃ (k : Nat) (mz : Int), i = .int .i64 k ∧ m = .int .i64 mz ∧ mz = z + 3 * (k : Int) ∧ k ≤ l.length ∧ Fms wr B (.slice p l.length c) (markAtZ z l k) ∧ w.grownBy wr (Value.slice p l.length c).ownBlock) (fun _ i _ => l.length - (intOf i).toNat)
  case atStart => exact ⟨0, z, rfl, rfl, by omega, by omega, by simpa [markAtZ, marksZ] using hu, ⟨rfl, rfl, rfl, Nat.le_refl _, fun _ _ _ => rfl⟩⟩
  case round =>
    clear hu
    obtain ⟨k, mz, rfl, rfl, hmz, hk, hown, hg⟩ := hrel
    have hlen := markAtZ_len z l k hk
    have Hlen := Lib.hid hlen
    have Hmz := Lib.hid hmz
    have hm1 : 1 ≤ mz := by omega
    have hm2 : mz ≤ 1003000000 := by omega
    clear hlen hmz
    by_cases hlt : k < l.length
    · obtain ⟨g, rfl, _, hg2, hc0, hc1, hc2, hfz⟩ := hown.read k (by rw [Hlen.out]; exact hlt)
      have hst : Fms (((wr.setCell ⟨g, k * 3, none⟩ (.int .i64 mz)).setCell ⟨g, k * 3 + 1, none⟩ (.int .i64 (mz + 1))).setCell ⟨g, k * 3 + 2, none⟩ (.int .i64 (mz + 1 + 1))) B (.slice (some ⟨g, 0, none⟩) l.length c) (markAtZ z l (k + 1)) ∧
          wr.grownBy (((wr.setCell ⟨g, k * 3, none⟩ (.int .i64 mz)).setCell ⟨g, k * 3 + 1, none⟩ (.int .i64 (mz + 1))).setCell ⟨g, k * 3 + 2, none⟩ (.int .i64 (mz + 1 + 1))) (some g) := by
        have ho : wr.ownsRow B 28 3 (.slice (some ⟨g, 0, none⟩) l.length c) l.length (cellsL (markAtZ z l k)) := by
          have := hown
          unfold Fms at this
          rwa [Hlen.out] at this
        obtain ⟨s1, s2⟩ := World.ownsRow.stored ho (k * 3) (.int .i64 mz)
        obtain ⟨s3, s4⟩ := World.ownsRow.stored s1 (k * 3 + 1) (.int .i64 (mz + 1))
        obtain ⟨s5, s6⟩ := World.ownsRow.stored s3 (k * 3 + 2) (.int .i64 (mz + 1 + 1))
        refine ⟨?_, grow_transF (grow_transF s2 s4) s6⟩
        unfold Fms
        rw [markAtZ_len z l (k + 1) (by omega), ← markAtZ_next z l k hlt, cellsL_set _ _ _ (by rw [Hlen.out]; exact hlt), ← Hmz.out]
        have e2 : mz + 2 = mz + 1 + 1 := by omega
        show wr.setCell _ _ |>.setCell _ _ |>.setCell _ _ |>.ownsRow _ _ _ _ _ (List.set (List.set (List.set _ _ (.int .i64 mz)) _ (.int .i64 (mz + 1))) _ (.int .i64 (mz + 2)))
        rw [e2]
        exact s5
      have z0 := hfz (k * 3)
      have z1 := hfz (k * 3 + 1)
      have z2 := hfz (k * 3 + 2)
      have Hst := Lib.hid hst
      have Hg := Lib.hid hg
      clear hst hg hown hfz
      go_wp2_with fail
      go_roundw
      case rel => exact ⟨k + 1, mz + 1 + 1 + 1, by go_num, by go_num, by have := Hmz.out; omega, by omega, Hst.out.1, grow_transF Hg.out Hst.out.2⟩
      case measure => simp [intOf]; omega
    · go_wp2_with fail
      go_ret
      obtain rfl : k = l.length := by omega
      exact ⟨rint Hmz.out, by simpa [markAtZ] using hown, hg⟩
theorem laws_heldFormS_z (z : Int) (n : Nat) (u : Value) (B : Nat) (w : World) (hl : n ≤ 1000000) (hz1 : 1 ≤ z) (hz2 : z ≤ 1000000000) (hu : Fms w B u (marksZ z n)) :
    Calls Try.prog 43 #[u, .int .i64 z] w fun e w' => e = .returned (.int .i64 (z + 3 * (n : Int))) ∧ w = w' := by
  obtain ⟨p, c, rfl, _, hr⟩ := hu.view
  have hr2 : ∀ k, k < n → ∃ g, p = some ⟨g, 0, none⟩ ∧ w.cell? ⟨g, k * 3, none⟩ = some (.int .i64 (z + 3 * (k : Int))) ∧ w.cell? ⟨g, k * 3 + 1, none⟩ = some (.int .i64 (z + 3 * (k : Int) + 1)) ∧ w.cell? ⟨g, k * 3 + 2, none⟩ = some (.int .i64 (z + 3 * (k : Int) + 2)) := fun k hk => by
    obtain ⟨g, h1, _, _, h2, h3, h4, _⟩ := hr k (by rw [marksZ_len]; exact hk)
    rw [marksZ_get] at h2 h3 h4
    exact ⟨g, h1, h2, h3, h4⟩
  rw [marksZ_len]
  have Hr := Lib.hid hr2
  clear hr hr2 hu
  go_enter Try.func43, Try.ntmps43
  go_wp2_with fail
  go_loop [1, 5] (fun m i => ∃ (k : Nat) (mz : Int), i = .int .i64 k ∧ m = .int .i64 mz ∧ mz = z + 3 * (k : Int) ∧ k ≤ n) (fun _ i => n - (intOf i).toNat)
  case atStart => exact ⟨0, z, rfl, rfl, by omega, by omega⟩
  case round =>
    obtain ⟨k, mz, rfl, rfl, hmz, hk⟩ := hrel
    have hm1 : 1 ≤ mz := by omega
    have hm2 : mz ≤ 1003000000 := by omega
    by_cases hlt : k < n
    · obtain ⟨g, rfl, hc0, hc1, hc2⟩ := Hr.out k hlt
      rw [← hmz] at hc0 hc1 hc2
      have Hmz := Lib.hid hmz
      have e1 : mz + 1 + 1 = mz + 2 := by omega
      clear hmz
      go_wp2_with fail
      go_round
      case rel => exact ⟨k + 1, mz + 2 + 1, by go_num, by go_num, by have := Hmz.out; omega, by omega⟩
      case measure => simp [intOf]; omega
    · have Hmz := Lib.hid hmz
      clear hmz
      go_wp2_with fail
      go_ret
      obtain rfl : k = n := by omega
      exact ⟨rint Hmz.out, rfl⟩
theorem Below.upto {B B' : Nat} {w w' : World} (h : Below B w w') (hB : B' ≤ B) : Below B' w w' := h.mono hB
/-- a row of lists stays while only blocks from N on change -/
theorem Outs.belowN {w w' : World} {B N : Nat} {v : Value} {L : List (List Fm)} (h : Outs w B N v L) (hb : Below N w w') : Outs w' B N v L := by
  obtain ⟨vs, h⟩ := h
  have keep : ∀ k, k < N → w'.heap[k]? = w.heap[k]? := fun k hk => hb.block k hk
  have row : ∀ {e : TypeId} {n sz : Nat} {u : Value} {xs : List Value}, w.ownsRow B e sz u n xs → (∀ k, u.ownBlock = some k → k < N) → w'.ownsRow B e sz u n xs := fun {e n sz u xs} ho hk => by
    obtain ⟨h1, h2⟩ := ho
    refine ⟨h1, ?_⟩
    rcases h2 with h2 | ⟨g, cap, cur, hv, hg, hh, r⟩
    · exact .inl h2
    · refine .inr ⟨g, cap, cur, hv, hg, ?_, r⟩
      rw [keep g (hk g (by rw [hv]; rfl))]
      exact hh
  refine ⟨vs, h.len, row h.row h.vN, fun i u l h1 h2 => ?_, h.vN, h.apart⟩
  obtain ⟨a, k, b, c, d⟩ := h.own i u l h1 h2
  exact ⟨row a (fun k' hk' => by rw [b] at hk'; injection hk' with hk'; omega), k, b, c, d⟩
/-- one inner list gets other forms -/
theorem Outs.turn {w : World} {B N : Nat} {v : Value} {L : List (List Fm)} (h : Outs w B N v L) {i : Nat} (hi : i < L.length) :
    ∃ (g : Nat) (u : Value) (cap : Nat), v = .slice (some ⟨g, 0, none⟩) L.length cap ∧ g < w.heap.size ∧ w.cell? ⟨g, i, none⟩ = some u ∧ Fms w B u L[i] ∧ (∃ k, u.ownBlock = some k ∧ B ≤ k) ∧
      ∀ (w' : World) (m : List Fm), w.grownBy w' u.ownBlock → Fms w' B u m → Outs w' B N v (L.set i m) := by
  obtain ⟨vs, h⟩ := h
  have hi' : i < vs.length := by rw [h.len]; exact hi
  have hu : vs[i]? = some vs[i] := by simp [hi']
  obtain ⟨a, k, b, c, d⟩ := h.own i vs[i] L[i] hu (by simp [hi])
  have hall := h.row
  obtain ⟨h1, h2⟩ := h.row
  rcases h2 with ⟨_, hn⟩ | ⟨g, cap, cur, rfl, hb, hh, h3, h4, h5, h6⟩
  · omega
  · have hcell := World.ownsRow.cells hall (g := g) rfl i _ hu
    have hadd : (⟨g, 0, none⟩ : Addr).add i = ⟨g, i, none⟩ := by unfold Addr.add; split <;> simp_all
    rw [hadd] at hcell
    refine ⟨g, vs[i], cap, rfl, (Array.getElem?_eq_some_iff.1 hh).1, hcell, a, ⟨k, b, (a.lt k b).1⟩, fun w' m hg hm => ⟨vs, by simp [h.len], ?_, fun j u l hj hl => ?_, h.vN, h.apart⟩⟩
    · rw [List.length_set]
      exact World.ownsRow.kept hall hg (.inr (by rw [b]; exact d))
    · by_cases hij : i = j
      · subst hij
        rw [List.getElem?_set_self hi] at hl
        injection hl with hl
        rw [hu] at hj
        injection hj with hj
        subst hl; subst hj
        exact ⟨hm, k, b, c, d⟩
      · rw [List.getElem?_set_ne hij] at hl
        obtain ⟨a', k', b', c', d'⟩ := h.own j u l hj hl
        refine ⟨a'.kept hg (.inr fun e => hij (h.apart i j _ _ hu hj e.symm)), k', b', c', d'⟩
/-- the number at which the marks of list i begin -/
def offL (L : List (List Fm)) (i : Nat) : Int := 1 + 3 * (((L.take i).flatten.length : Nat) : Int)
theorem offL_succ {L : List (List Fm)} {i : Nat} (hi : i < L.length) : offL L (i + 1) = offL L i + 3 * ((L[i].length : Nat) : Int) := by
  unfold offL
  rw [List.take_add_one, List.flatten_append, List.length_append]
  simp [hi]
  omega
def markL (L : List (List Fm)) (i : Nat) : List (List Fm) := (List.range L.length).map fun j => if j < i then marksZ (offL L j) (L.getD j []).length else L.getD j []
theorem markL_len (L : List (List Fm)) (i : Nat) : (markL L i).length = L.length := by simp [markL]
theorem markL_get {L : List (List Fm)} {i j : Nat} (hj : j < (markL L i).length) : (markL L i)[j] = if j < i then marksZ (offL L j) (L.getD j []).length else L.getD j [] := by simp [markL]
theorem markL_zero (L : List (List Fm)) : markL L 0 = L := by
  refine List.ext_getElem (markL_len L 0) fun j h1 h2 => ?_
  rw [markL_get, if_neg (by omega)]
  simp [List.getD_eq_getElem?_getD, h2]
theorem markL_next {L : List (List Fm)} {i : Nat} (hi : i < L.length) : (markL L i).set i (marksZ (offL L i) L[i].length) = markL L (i + 1) := by
  refine List.ext_getElem (by simp [markL_len]) fun j h1 h2 => ?_
  rw [markL_get, List.getElem_set]
  rw [List.length_set, markL_len] at h1
  by_cases hij : i = j
  · subst hij
    rw [if_pos rfl, if_pos (by omega)]
    simp [List.getD_eq_getElem?_getD, hi]
  · rw [if_neg hij, markL_get]
    by_cases hlt : j < i
    · rw [if_pos hlt, if_pos (by omega)]
    · rw [if_neg hlt, if_neg (by omega)]
theorem markL_here {L : List (List Fm)} {i : Nat} (hi : i < L.length) : (markL L i)[i]'(by rw [markL_len]; exact hi) = L[i] := by
  rw [markL_get, if_neg (by omega)]
  simp [List.getD_eq_getElem?_getD, hi]
/-- how long all lists together may be -/
def SmallL (L : List (List Fm)) : Prop := L.length ≤ 100000 ∧ ∀ m ∈ L, m.length ≤ 2048
theorem flat_le {L : List (List Fm)} (h : ∀ m ∈ L, m.length ≤ 2048) : L.flatten.length ≤ 2048 * L.length := by
  induction L with
  | nil => simp
  | cons m L ih =>
    have h1 := h m (by simp)
    have h2 := ih fun x hx => h x (by simp [hx])
    simp only [List.flatten_cons, List.length_append, List.length_cons]
    omega
theorem offL_bd {L : List (List Fm)} (h : SmallL L) {i : Nat} (hi : i ≤ L.length) : 1 ≤ offL L i ∧ offL L i ≤ 614400001 := by
  have h1 := flat_le (L := L.take i) fun m hm => h.2 m (List.mem_of_mem_take hm)
  have h2 : (L.take i).length ≤ 100000 := by rw [List.length_take]; have := h.1; omega
  unfold offL
  omega
end Go.Proofs.Ytdonpiihjoihcaa
