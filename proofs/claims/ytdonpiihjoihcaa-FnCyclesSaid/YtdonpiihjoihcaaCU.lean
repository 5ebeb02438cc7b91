/- Contracts: the cursor over the drawn bytes and its choices. -/
import Derived.Test.YtdonpiihjoihcaaS
import Derived.Test.YtdonpiihjoihcaaBK
import Derived.WalkArith
import Derived.Laws.BitsAllLaws
namespace Go.Proofs.Ytdonpiihjoihcaa
set_option linter.unusedVariables false
open Go.ChangeShapes Go.WideShapes Go.ChangeAt Go.RowKit

/-- a row of bytes below block N -/
def BytesAt (w : World) (N : Nat) (sv : Value) : Prop := ∃ (p : Option Addr) (len cap : Nat), sv = .slice p len cap ∧ len ≤ 1048576 ∧ ∀ i, i < len → ∃ (b o : Nat) (z : Int), p = some ⟨b, o, none⟩ ∧ b < N ∧ w.cell? ⟨b, o + i, none⟩ = some (.int .u8 z) ∧ 0 ≤ z ∧ z ≤ 255
/-- a cursor in block c: some bytes below block N, a place of at most m -/
def CurW (w : World) (c N m : Nat) : Prop := ∃ (sv : Value) (a : Nat) (s : Int), Holds w c #[sv, .int .i64 (a : Int), .int .u64 s] 110 ∧ N ≤ c ∧ a ≤ m ∧ 0 ≤ s ∧ s < 18446744073709551616 ∧ BytesAt w N sv
theorem BytesAt.keep {w w' : World} {N c : Nat} {sv : Value} (h : BytesAt w N sv) (hN : N ≤ w.heap.size) (hc : N ≤ c) (hg : w.grownBy w' (some c)) : BytesAt w' N sv := by
  obtain ⟨p, len, cap, rfl, hl, h⟩ := h
  refine ⟨p, len, cap, rfl, hl, fun i hi => ?_⟩
  obtain ⟨b, o, z, hp, hb, hz, h1, h2⟩ := h i hi
  refine ⟨b, o, z, hp, hb, ?_, h1, h2⟩
  rw [World.cell?_of_block (hg.block b (by omega) (fun e => by injection e with e; omega))]
  exact hz
theorem grow_none {w w' : World} {c : Option Nat} (h : w.grownBy w' none) : w.grownBy w' c := ⟨h.os, h.tape, h.output, h.size, fun k hk _ => h.block k hk (by simp)⟩
theorem grow_below {w w' : World} {c : Option Nat} (h : Below w.heap.size w w') : w.grownBy w' c := ⟨h.os, h.tape, h.output, h.size, fun k hk _ => h.block k hk⟩
theorem cg_trans {a b c : World} {row : Option Nat} (h : a.grownBy b row) (k : b.grownBy c row) : a.grownBy c row :=
  ⟨k.os.trans h.os, k.tape.trans h.tape, k.output.trans h.output, Nat.le_trans h.size k.size, fun i hi hne => (k.block i (Nat.lt_of_lt_of_le hi h.size) hne).trans (h.block i hi hne)⟩
theorem below_cur {B c : Nat} {a w w' : World} (hB : Below B a w) (hg : w.grownBy w' (some c)) (hs : B ≤ w.heap.size) (hb : B ≤ c) : Below B a w' :=
  hB.grown hg hs fun k hk => by injection hk with hk; omega
theorem grow_set (w : World) (b j : Nat) (v : Value) : w.grownBy (w.setCell ⟨b, j, none⟩ v) (some b) := by
  refine ⟨rfl, rfl, rfl, by simp [World.setCell], fun k hk hne => ?_⟩
  unfold World.setCell
  simp only [Array.getElem?_modify]
  rw [if_neg (fun e => hne (by rw [e]))]
theorem grow_drewN (w : World) (n : Nat) (r : Option Nat) : w.grownBy (w.drewN n) r := ⟨rfl, rfl, rfl, Nat.le_refl _, fun _ _ _ => rfl⟩
theorem Holds.setE {w : World} {b j : Nat} {cs cs' : Array Value} {ty : TypeId} {v : Value} (h : Holds w b cs ty) (e : cs.setIfInBounds j v = cs') : Holds (w.setCell ⟨b, j, none⟩ v) b cs' ty := e ▸ h.set
/-- the cursor after a step -/
theorem cur_after {w : World} {c N m n1 n2 : Nat} {sv : Value} {a : Nat} {s s' : Int} (hh : Holds w c #[sv, .int .i64 (a : Int), .int .u64 s] 110) (hc : N ≤ c) (hN : N ≤ w.heap.size) (ha : a ≤ m) (h1 : 0 ≤ s') (h2 : s' < 18446744073709551616) (hb : BytesAt w N sv) :
    CurW ((((w.drewN n1).setCell ⟨c, 1, none⟩ (.int .i64 ((a : Int) + 1))).setCell ⟨c, 2, none⟩ (.int .u64 s')).drewN n2) c N (m + 1) ∧ w.grownBy ((((w.drewN n1).setCell ⟨c, 1, none⟩ (.int .i64 ((a : Int) + 1))).setCell ⟨c, 2, none⟩ (.int .u64 s')).drewN n2) (some c) := by
  have hg : w.grownBy ((((w.drewN n1).setCell ⟨c, 1, none⟩ (.int .i64 ((a : Int) + 1))).setCell ⟨c, 2, none⟩ (.int .u64 s')).drewN n2) (some c) := cg_trans (cg_trans (cg_trans (grow_drewN w n1 _) (grow_set _ c 1 _)) (grow_set _ c 2 _)) (grow_drewN _ n2 _)
  refine ⟨⟨sv, a + 1, s', ?_, hc, by omega, h1, h2, hb.keep hN hc hg⟩, hg⟩
  exact (((hh.drewN n1).setE (j := 1) (v := .int .i64 ((a : Int) + 1)) (cs' := #[sv, .int .i64 ((a : Int) + 1), .int .u64 s]) rfl).setE (j := 2) (v := .int .u64 s') (cs' := #[sv, .int .i64 ((a : Int) + 1), .int .u64 s']) rfl).drewN n2
theorem u64_wrap_bd (n : Int) : 0 ≤ IntKind.u64.wrap n ∧ IntKind.u64.wrap n < 18446744073709551616 := by
  rw [IntKind.wrap_u64]; omega
theorem and_bd {x : Int} (h0 : 0 ≤ x) (h1 : x < 18446744073709551616) : 0 ≤ wrap64 (bits .and .u64 x 255) ∧ wrap64 (bits .and .u64 x 255) ≤ 255 := by
  rw [u64_and x 255 h0 h1 (by omega) (by omega)]
  have : x.toNat &&& (255 : Int).toNat ≤ 255 := Nat.and_le_right
  unfold wrap64
  omega
theorem cur_next (c N m : Nat) (w : World) (hm : m ≤ 1000000000) (hN : N ≤ w.heap.size) (h : CurW w c N m) :
    Calls Try.prog 139 #[.pointer (some ⟨c, 0, none⟩)] w fun e w' => ∃ v : Int, e = .returned (.int .i64 v) ∧ 0 ≤ v ∧ v ≤ 255 ∧ CurW w' c N (m + 1) ∧ w.grownBy w' (some c) := by
  obtain ⟨sv, a, s, hh, hc, a2, s1, s2, p, len, cap, rfl, hl, hb⟩ := h
  have c0 : w.cell? ⟨c, 0, none⟩ = some (.slice p len cap) := hh.cell rfl
  have c1 : w.cell? ⟨c, 1, none⟩ = some (.int .i64 (a : Int)) := hh.cell rfl
  have c2 : w.cell? ⟨c, 2, none⟩ = some (.int .u64 s) := hh.cell rfl
  have f0 := hh.free (j := 0)
  have f1 := hh.free (j := 1)
  have f2 := hh.free (j := 2)
  have Hh := Lib.hid hh
  have Hb := Lib.hid hb
  clear hh hb
  go_enter Try.func139, Try.ntmps139
  by_cases hlt : a < len
  · obtain ⟨b, o, z, rfl, hb1, hz, z1, z2⟩ := Hb.out a hlt
    have bl : decide ((a : Int) < (len : Int)) = true := by simpa using hlt
    have bl2 : decide ((a : Int) + 1 ≤ (len : Int)) = true := by simp; omega
    have hbc : ¬ b = c := by omega
    go_wp2_with fail
    go_quiet (fail)
    go_wp2_with fail
    go_quiet (fail)
    go_wp2_with fail
    go_quiet (fail)
    go_wp2_with fail
    go_ret
    exact ⟨z, rfl, z1, z2, cur_after Hh.out hc hN a2 (u64_wrap_bd _).1 (u64_wrap_bd _).2 ⟨_, len, cap, rfl, hl, Hb.out⟩⟩
  · have bl : decide ((a : Int) < (len : Int)) = false := by simpa using hlt
    have bl2 : decide ((a : Int) + 1 ≤ (len : Int)) = false := by simp; omega
    have hge : ¬ (a : Int) < (len : Int) := by omega
    go_wp2_with fail
    go_quiet (fail)
    go_wp2_with fail
    go_quiet (fail)
    go_wp2_with fail
    go_ret
    have hx := u64_wrap_bd (IntKind.u64.wrap (IntKind.u64.wrap (s * 6364136223846793005)) + 1442695040888963407)
    obtain ⟨b1, b2⟩ := and_bd (x := IntKind.u64.wrap (IntKind.u64.wrap (IntKind.u64.wrap (s * 6364136223846793005)) + 1442695040888963407) / 1099511627776) (by omega) (by omega)
    exact ⟨_, rfl, b1, b2, cur_after Hh.out hc hN a2 (u64_wrap_bd _).1 (u64_wrap_bd _).2 ⟨_, len, cap, rfl, hl, Hb.out⟩⟩
/-! choices -/
theorem cur_pick (n : Int) (c N m : Nat) (w : World) (hn : n ≤ 100000) (hm : m ≤ 100000000) (hN : N ≤ w.heap.size) (h : CurW w c N m) :
    Calls Try.prog 134 #[.pointer (some ⟨c, 0, none⟩), .int .i64 n] w fun e w' => ∃ v : Int, e = .returned (.int .i64 v) ∧ 0 ≤ v ∧ (v < n ∨ v = 0) ∧ CurW w' c N (m + 2) ∧ w.grownBy w' (some c) := by
  by_cases h1 : n ≤ 1
  · have H := Lib.hid h
    clear h
    go_enter Try.func134, Try.ntmps134
    go_wp2_with fail
    go_ret
    obtain ⟨sv, a, s, k1, k2, k3, k4⟩ := H.out
    exact ⟨0, rfl, by omega, .inr rfl, ⟨sv, a, s, k1, k2, by omega, k4⟩, ⟨rfl, rfl, rfl, Nat.le_refl _, fun _ _ _ => rfl⟩⟩
  · have H := Lib.hid h
    clear h
    go_enter Try.func134, Try.ntmps134
    go_wp2_with fail
    refine (cur_next c N m _ (by omega) hN H.out).mono ?_
    rintro e w1 ⟨x, rfl, x0, x1, hc1, hg1⟩
    have HC := Lib.hid hc1
    have HG := Lib.hid hg1
    have hz := hg1.size
    clear hc1 hg1
    have hne : ¬ n = 0 := by omega
    by_cases h2 : 200 < n
    · go_wp2_with fail
      refine (cur_next c N (m + 1) _ (by omega) (by omega) HC.out).mono ?_
      rintro e w2 ⟨y, rfl, y0, y1, hc2, hg2⟩
      have HC2 := Lib.hid hc2
      have HG2 := Lib.hid (cg_trans HG.out hg2)
      clear hc2 hg2 HC HG
      have t1 := Int.emod_nonneg (x * 256 + y) (show n ≠ 0 by omega)
      have t2 := Int.emod_lt_of_pos (x * 256 + y) (show 0 < n by omega)
      go_wp2_with fail
      go_ret
      exact ⟨_, rfl, by first | exact t1 | (rw [Int.tmod_eq_emod_of_nonneg (by omega)]; exact t1), .inl (by first | exact t2 | (rw [Int.tmod_eq_emod_of_nonneg (by omega)]; exact t2)), HC2.out, HG2.out⟩
    · have t1 := Int.emod_nonneg x (show n ≠ 0 by omega)
      have t2 := Int.emod_lt_of_pos x (show 0 < n by omega)
      go_wp2_with fail
      go_ret
      obtain ⟨sv, a, s, k1, k2, k3, k4⟩ := HC.out
      exact ⟨_, rfl, by first | exact t1 | (rw [Int.tmod_eq_emod_of_nonneg (by omega)]; exact t1), .inl (by first | exact t2 | (rw [Int.tmod_eq_emod_of_nonneg (by omega)]; exact t2)), ⟨sv, a, s, k1, k2, by omega, k4⟩, HG.out⟩
theorem cur_one (n : Int) (c N m : Nat) (w : World) (hn : n ≤ 100000) (hm : m ≤ 100000000) (hN : N ≤ w.heap.size) (h : CurW w c N m) :
    Calls Try.prog 136 #[.pointer (some ⟨c, 0, none⟩), .int .i64 n] w fun e w' => ∃ v : Bool, e = .returned (.bool v) ∧ CurW w' c N (m + 2) ∧ w.grownBy w' (some c) := by
  have H := Lib.hid h
  clear h
  go_enter Try.func136, Try.ntmps136
  go_wp2_with fail
  refine (cur_pick n c N m _ hn hm hN H.out).mono ?_
  rintro e w1 ⟨x, rfl, x0, x1, hc1, hg1⟩
  have HC := Lib.hid hc1
  have HG := Lib.hid hg1
  clear hc1 hg1 x1
  go_wp2_with fail
  go_ret
  exact ⟨_, rfl, HC.out, HG.out⟩
theorem cur_among (l : List Int) (B : Nat) (u : Value) (c N m : Nat) (w : World) (hl : l ≠ []) (hl2 : l.length ≤ 1000) (hu : Ints w B u l) (hm : m ≤ 100000000) (hN : N ≤ w.heap.size) (hne : u.ownBlock ≠ some c) (h : CurW w c N m) :
    Calls Try.prog 135 #[.pointer (some ⟨c, 0, none⟩), u] w fun e w' => ∃ v : Int, e = .returned (.int .i64 v) ∧ v ∈ l ∧ CurW w' c N (m + 2) ∧ w.grownBy w' (some c) := by
  have hlen : 0 < l.length := List.length_pos_iff.2 hl
  obtain ⟨p, cap, rfl, _, hr⟩ := hu.view
  have H := Lib.hid h
  have HU := Lib.hid hu
  clear h hr hu
  go_enter Try.func135, Try.ntmps135
  go_wp2_with fail
  refine (cur_pick l.length c N m _ (by omega) hm hN H.out).mono ?_
  rintro e w1 ⟨x, rfl, x0, x1, hc1, hg1⟩
  obtain ⟨j, rfl⟩ : ∃ j : Nat, x = j := ⟨x.toNat, by omega⟩
  have hj : j < l.length := by omega
  have HU1 := HU.out.kept hg1 (.inr hne)
  obtain ⟨g, rfl, _, hg, hcell, _⟩ := HU1.read j hj
  have hmem : l[j] ∈ l := List.getElem_mem hj
  have Hmem := Lib.hid hmem
  have HC := Lib.hid hc1
  have HG := Lib.hid hg1
  clear hc1 hg1 HU1 hmem HU
  go_wp2_with fail
  go_ret
  exact ⟨_, rfl, Hmem.out, HC.out, HG.out⟩
end Go.Proofs.Ytdonpiihjoihcaa
