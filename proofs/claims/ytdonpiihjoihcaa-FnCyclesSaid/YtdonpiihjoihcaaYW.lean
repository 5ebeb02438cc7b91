/- Contracts: the cycles of all forms of a discriminant. -/
import Derived.Test.YtdonpiihjoihcaaOU
import Derived.Test.YtdonpiihjoihcaaML
import Derived.Test.YtdonpiihjoihcaaYC
namespace Go.Proofs.Ytdonpiihjoihcaa
set_option linter.unusedVariables false
open Go.ChangeShapes Go.WideShapes Go.ChangeAt Go.RowKit

theorem allF_len2 {d : Int} (h : posD d = true) : (allF d).length ≤ 1953 := by
  obtain ⟨R, h1, h2, h3⟩ := isq31 h
  have := pre_len (d := d) (R := (isq d).toNat) (k := 2 * (isq d).toNat + 1) (by omega) (by omega)
  unfold allF; omega
theorem cysN_len {d : Int} (h : posD d = true) {k : Nat} (hk : k ≤ (allF d).length) : (cysN (allF d) k).length ≤ k := (cysI (fun f hf => (allF_cy h hf).1) k hk).len
theorem cysN_each {d : Int} (h : posD d = true) {k : Nat} (hk : k ≤ (allF d).length) {m : List Fm} (hm : m ∈ cysN (allF d) k) : m.length ≤ 2048 := by
  obtain ⟨f, hf, rfl⟩ := (cysI (fun f hf => (allF_cy h hf).1) k hk).each m hm
  exact cyc_len (allF_cy h hf).1
theorem flat_step {L : List (List Fm)} {j : Nat} (hj : j < L.length) (f : Fm) : decide (f ∈ (L.take (j + 1)).flatten) = (decide (f ∈ (L.take j).flatten) || decide (f ∈ L[j])) := by
  rw [List.take_add_one, List.flatten_append]
  simp [hj]
/-- the state of the reference's outer loop -/
def CysAt (w : World) (B : Nat) (l : List Fm) (U vl i : Value) (wr : World) : Prop :=
  ∃ k : Nat, i = .int .i64 k ∧ k ≤ l.length ∧ Outs wr B wr.heap.size vl (cysN l k) ∧ Fms wr B U l ∧ (U.ownBlock = none ∨ U.ownBlock ≠ vl.ownBlock) ∧ Below w.heap.size w wr
/-- the state of its inner loop: f in block b -/
def CyiAt (w : World) (B N b : Nat) (l : List Fm) (L : List (List Fm)) (f : Fm) (U vl kn j : Value) (wr : World) : Prop :=
  ∃ j' : Nat, j = .int .i64 j' ∧ j' ≤ L.length ∧ kn = .bool (decide (f ∈ (L.take j').flatten)) ∧ Outs wr B N vl L ∧ Fms wr B U l ∧ Holds wr b (cF f) 28 ∧ Below w.heap.size w wr
theorem own_step {w : World} {B : Nat} {U v v' : Value} {l : List Fm} (hF : Fms w B U l) (h : U.ownBlock = none ∨ U.ownBlock ≠ v.ownBlock) (hv : v'.ownBlock = v.ownBlock ∨ v'.ownBlock = some w.heap.size) : U.ownBlock = none ∨ U.ownBlock ≠ v'.ownBlock := by
  rcases hv with hv | hv <;> rw [hv]
  · exact h
  · right
    intro e
    have := (hF.lt _ e).2
    omega
set_option maxHeartbeats 1000000 in
theorem spec_cyCycles (d : Int) (w : World) (h : posD d = true) :
    Calls Try.prog 75 #[.int .i64 d] w fun e w' => ∃ v, e = .returned v ∧ Outs w' w.heap.size w'.heap.size v (cysD d) ∧ Below w.heap.size w w' := by
  have hlen := allF_len2 h
  have H := Lib.hid h
  clear h
  go_enter Try.func75, Try.ntmps75
  go_wp2_with fail
  refine (spec_cyAll d _ H.out).mono ?_
  rintro e w1 ⟨U, rfl, hU, hB1⟩
  obtain ⟨p, cp, rfl, _, hr⟩ := hU.view
  have HU := Lib.hid hU
  clear hU hr
  go_wp2_with fail
  go_loopw [3, 12] (fun vl i wr => CysAt w w.heap.size (allF d) (.slice p (allF d).length cp) vl i wr) (fun _ i _ => (allF d).length - (intOf i).toNat)
  case atStart => exact ⟨0, rfl, by omega, Outs.nil _ _ _, HU.out, (by cases hp : (Value.slice p (allF d).length cp).ownBlock <;> simp [Value.ownBlock]), hB1⟩
  case round =>
    obtain ⟨k, rfl, hk, hO, hF, hne, hB⟩ := hrel
    clear hB1 HU
    have hs := hB.size
    obtain ⟨wA, rfl⟩ : ∃ wA, wA = wr := ⟨_, rfl⟩
    by_cases hlt : k < (allF d).length
    · obtain ⟨g, rfl, hg0, hg1, hc0, hc1, hc2, hfz⟩ := hF.read k hlt
      rcases hx : (allF d)[k] with ⟨fa, fb, fc⟩
      rw [hx] at hc0 hc1 hc2
      have Hx := Lib.hid hx
      have hL := cysN_len H.out hk
      have hL2 : (cysN (allF d) k).length ≤ 1953 := by omega
      have hm : (⟨fa, fb, fc⟩ : Fm) ∈ allF d := hx ▸ List.getElem_mem hlt
      have Hcy := Lib.hid (allF_cy H.out hm).1
      have He := Lib.hid (fun m (hm : m ∈ cysN (allF d) k) => cysN_each H.out hk hm)
      obtain ⟨L, hLe⟩ : ∃ L, cysN (allF d) k = L := ⟨_, rfl⟩
      rw [hLe] at hL2 hO He
      have HLe := Lib.hid hLe
      obtain ⟨q, cq, rfl, _, hr⟩ := hO.view
      have HO := Lib.hid hO
      have HF := Lib.hid hF
      have Hne := Lib.hid hne
      clear hO hF hne hL hLe hm hr hx hfz
      go_wp2_with fail
      go_loopw [6, 18] (fun kn j wr' => CyiAt w w.heap.size wA.heap.size wA.heap.size (allF d) L ⟨fa, fb, fc⟩ (.slice (some ⟨g, 0, none⟩) (allF d).length cp) (.slice q L.length cq) kn j wr') (fun _ j _ => L.length - (intOf j).toNat)
      case atStart => exact ⟨0, rfl, by omega, by simp, HO.out.alloc _, HF.out.alloc _, Holds.new _ _ _, hB.alloc hs _⟩
      case round =>
        obtain ⟨j, rfl, hj, rfl, hO2, hF2, hh, hB2⟩ := hrel
        obtain ⟨kv, hkv⟩ : ∃ v, decide ((⟨fa, fb, fc⟩ : Fm) ∈ (L.take j).flatten) = v := ⟨_, rfl⟩
        rw [hkv]
        have hzA := hh.lt
        have hzr := hB2.size
        by_cases hlt2 : j < L.length
        · obtain ⟨g', u, rfl, _, hg1', hc', _, hu⟩ := hO2.read j hlt2
          have Hu := Lib.hid hu
          have Hkv := Lib.hid hkv
          have HO2 := Lib.hid hO2
          have HF2 := Lib.hid hF2
          have Hh := Lib.hid hh
          clear hu hkv hO2 hF2
          have y0 : wr.cell? ⟨wA.heap.size, 0, none⟩ = some (.int .i64 fa) := Holds.cell hh rfl
          have y1 : wr.cell? ⟨wA.heap.size, 1, none⟩ = some (.int .i64 fb) := Holds.cell hh rfl
          have y2 : wr.cell? ⟨wA.heap.size, 2, none⟩ = some (.int .i64 fc) := Holds.cell hh rfl
          have yf0 : wr.frozen? ⟨wA.heap.size, 0, none⟩ = false := Holds.free hh
          have yf1 : wr.frozen? ⟨wA.heap.size, 1, none⟩ = false := Holds.free hh
          have yf2 : wr.frozen? ⟨wA.heap.size, 2, none⟩ = false := Holds.free hh
          clear hh
          cases kv with
          | true =>
            go_wp2_with fail
            go_roundw
            case rel => exact ⟨j + 1, by go_num, by omega, by rw [flat_step hlt2, Hkv.out]; rfl, HO2.out, HF2.out, Hh.out, hB2⟩
            case measure => simp [intOf]; omega
          | false =>
            obtain ⟨cv, hcv⟩ : ∃ v, decide ((⟨fa, fb, fc⟩ : Fm) ∈ L[j]) = v := ⟨_, rfl⟩
            have Hcv := Lib.hid hcv
            clear hcv
            go_wp2_with fail
            refine (spec_cyHas L[j] u fa fb fc _ cv _ (by have := He.out L[j] (List.getElem_mem _); omega) Hu.out Hcv.out).mono ?_
            rintro e w2 ⟨rfl, hb2⟩
            have hB3 : Below w.heap.size w w2 := Below.after hB2 hb2
            have HO3 := Lib.hid (HO2.out.below hb2)
            have HF3 := Lib.hid (HF2.out.below hb2)
            have Hh3 := Lib.hid (Hh.out.below hb2)
            clear hb2 hB2 HO2 HF2 Hh
            clear y0 y1 y2 yf0 yf1 yf2
            go_wp2_with fail
            go_roundw
            case rel => exact ⟨j + 1, by go_num, by omega, by rw [flat_step hlt2, Hkv.out, Hcv.out]; rfl, HO3.out, HF3.out, Hh3.out, hB3⟩
            case measure => simp [intOf]; omega
        · obtain rfl : j = L.length := by omega
          rw [List.take_length] at hkv
          have Hkv := Lib.hid hkv
          have HO2 := Lib.hid hO2
          have HF2 := Lib.hid hF2
          have y0 : wr.cell? ⟨wA.heap.size, 0, none⟩ = some (.int .i64 fa) := Holds.cell hh rfl
          have y1 : wr.cell? ⟨wA.heap.size, 1, none⟩ = some (.int .i64 fb) := Holds.cell hh rfl
          have y2 : wr.cell? ⟨wA.heap.size, 2, none⟩ = some (.int .i64 fc) := Holds.cell hh rfl
          have yf0 : wr.frozen? ⟨wA.heap.size, 0, none⟩ = false := Holds.free hh
          have yf1 : wr.frozen? ⟨wA.heap.size, 1, none⟩ = false := Holds.free hh
          have yf2 : wr.frozen? ⟨wA.heap.size, 2, none⟩ = false := Holds.free hh
          clear hkv hO2 hF2 hh
          cases kv with
          | true =>
            have Hn := Lib.hid ((cysN_yes hlt Hx.out (by rw [HLe.out]; exact Hkv.out)).trans HLe.out)
            clear y0 y1 y2 yf0 yf1 yf2
            go_wp2_with fail
            go_roundw
            case rel => exact ⟨k + 1, by go_num, by omega, by rw [Hn.out]; exact HO2.out.up (by omega), HF2.out, Hne.out, hB2⟩
            case measure => simp [intOf]; omega
          | false =>
            have Hn := Lib.hid ((cysN_no hlt Hx.out (by rw [HLe.out]; exact Hkv.out)).trans (by rw [HLe.out]))
            go_wp2_with fail
            refine (spec_cyCycle fa fb fc d _ Hcy.out).mono ?_
            rintro e w2 ⟨uc, rfl, huc, hb2⟩
            obtain ⟨pu, cu, hue, _, _⟩ := huc.view
            subst hue
            have hB3 : Below w.heap.size w w2 := Below.after hB2 hb2
            have HO3 := Lib.hid (HO2.out.below hb2)
            have HF3 := Lib.hid (HF2.out.below hb2)
            have Huc := Lib.hid huc
            have hz3 := hb2.size
            have hz4 := hB3.size
            clear hb2 hB2 HO2 HF2 huc
            clear y0 y1 y2 yf0 yf1 yf2
            have hOa : Outs (w2.alloc (.cells #[(.slice pu (cyc ⟨fa, fb, fc⟩).length cu)] 46)) w.heap.size wA.heap.size (.slice q L.length cq) L := HO3.out.alloc _
            have hn : Holds (w2.alloc (.cells #[(.slice pu (cyc ⟨fa, fb, fc⟩).length cu)] 46)) w2.heap.size #[(.slice pu (cyc ⟨fa, fb, fc⟩).length cu)] 46 := Holds.new _ _ _
            have hUa : Fms (w2.alloc (.cells #[(.slice pu (cyc ⟨fa, fb, fc⟩).length cu)] 46)) w.heap.size (.slice pu (cyc ⟨fa, fb, fc⟩).length cu) (cyc ⟨fa, fb, fc⟩) := (Huc.out.alloc _).mono (by omega)
            have hBa : Below w.heap.size w (w2.alloc (.cells #[(.slice pu (cyc ⟨fa, fb, fc⟩).length cu)] 46)) := hB3.alloc hz4 _
            have hFa : Fms (w2.alloc (.cells #[(.slice pu (cyc ⟨fa, fb, fc⟩).length cu)] 46)) w.heap.size (.slice (some ⟨g, 0, none⟩) (allF d).length cp) (allF d) := HF3.out.alloc _
            have HOa := Lib.hid hOa
            have Hn2 := Lib.hid hn
            have HUa := Lib.hid hUa
            have HFa := Lib.hid hFa
            have HuN := Lib.hid (fun kk (hk : (Value.slice pu (cyc ⟨fa, fb, fc⟩).length cu).ownBlock = some kk) => Nat.le_trans (by omega : wA.heap.size ≤ wr.heap.size) (Huc.out.lt kk hk).1)
            clear hOa hn hUa hFa HO3 HF3 Huc
            go_wp2_with (at_builtin; refine app_ou w.heap.size wA.heap.size L (cyc ⟨fa, fb, fc⟩) (.slice pu (cyc ⟨fa, fb, fc⟩).length cu) (.slice q L.length cq) w2.heap.size _ _ rfl rfl rfl rfl HOa.out Hn2.out HUa.out (cyc_ne _) HuN.out (by omega) (by simp; omega) (by simp; omega) ?_)
            intro v' w3 hO4 hgrow hwhere
            have hB4 : Below w.heap.size w w3 := below_grownO hBa (HOa.out) hgrow (by simp; omega)
            have hF4 := HFa.out.kept hgrow Hne.out
            have hne4 := own_step (v' := v') HFa.out Hne.out (by simpa using hwhere)
            have HO4 := Lib.hid hO4
            have HF4 := Lib.hid hF4
            have Hne4 := Lib.hid hne4
            clear hO4 hF4 hne4 hgrow hwhere hBa HOa Hn2 HUa HFa HuN
            go_wp2_with fail
            go_roundw
            case rel => exact ⟨k + 1, by go_num, by omega, by rw [Hn.out]; exact HO4.out, HF4.out, Hne4.out, hB4⟩
            case measure => simp [intOf]; omega
    · obtain rfl : k = (allF d).length := by omega
      have HO := Lib.hid hO
      clear hO hF hne
      go_wp2_with fail
      go_ret
      exact ⟨_, rfl, HO.out, hB⟩
theorem cy_wf {d : Int} {f : Fm} (h : Cy d f) : wfF f := wfF_of (indefB_good h.1.1)
/-- the state of the program's outer loop: the map of the seen forms in block b -/
def CyvAt (w : World) (B b : Nat) (l : List Fm) (U vl i : Value) (wr : World) : Prop :=
  ∃ k n : Nat, i = .int .i64 k ∧ k ≤ l.length ∧ n ≤ 4096 * k ∧ Outs wr B wr.heap.size vl (cysN l k) ∧ Fms wr B U l ∧ (U.ownBlock = none ∨ U.ownBlock ≠ vl.ownBlock) ∧ SeenF wr b n (fun f => decide (f ∈ (cysN l k).flatten)) ∧ Below w.heap.size w wr
/-- the state of its inner loop, which marks the forms of a cycle m -/
def CymAt (w : World) (B N b n0 : Nat) (l m : List Fm) (L : List (List Fm)) (U uc vl j : Value) (wr : World) : Prop :=
  ∃ j' n : Nat, j = .int .i64 j' ∧ j' ≤ m.length ∧ n ≤ n0 + j' ∧ Outs wr B N vl L ∧ Fms wr B U l ∧ Fms wr N uc m ∧ SeenF wr b n (fun f => decide (f ∈ m.take j') || decide (f ∈ L.flatten)) ∧ Below w.heap.size w wr
theorem seen_end {w : World} {b n : Nat} {m : List Fm} {L : List (List Fm)} (h : SeenF w b n (fun f => decide (f ∈ m.take m.length) || decide (f ∈ L.flatten))) : SeenF w b n (fun f => decide (f ∈ (L ++ [m]).flatten)) :=
  h.same fun f _ => by
    rw [List.take_length, List.flatten_append, Bool.eq_iff_iff]
    simp [or_comm]
theorem seen_more {w : World} {b n j : Nat} {m : List Fm} {L : List (List Fm)} {g : Fm} (hj : j < m.length) (hg : m[j] = g) (h : SeenF w b n (fun f => decide (f = g) || (decide (f ∈ m.take j) || decide (f ∈ L.flatten)))) : SeenF w b n (fun f => decide (f ∈ m.take (j + 1)) || decide (f ∈ L.flatten)) :=
  h.same fun f _ => by
    rw [List.take_add_one, Bool.eq_iff_iff]
    simp [hj, hg]
    grind
theorem below_seen {B b : Nat} {a w w' : World} (hB : Below B a w) (hg : w.grownBy w' (some b)) (hs : B ≤ w.heap.size) (hb : B ≤ b) : Below B a w' :=
  hB.grown hg hs fun k hk => by injection hk with hk; omega
set_option maxHeartbeats 1000000 in
theorem impl_cycles (d : Int) (w : World) (h : posD d = true) :
    Calls Try.prog 73 #[.int .i64 d] w fun e w' => ∃ v, e = .returned v ∧ Outs w' w.heap.size w'.heap.size v (cysD d) ∧ Below w.heap.size w w' := by
  have hlen := allF_len2 h
  have hmk : ∀ w : World, (Instr.makeMap 111 none).run Try.prog w = .ok (.map (some w.heap.size)) (w.alloc (.map #[] 0)) := fun w => rfl
  have H := Lib.hid h
  clear h
  go_enter Try.func73, Try.ntmps73
  go_wp2_with fail
  refine (impl_cyclicForms d _ H.out).mono ?_
  rintro e w1 ⟨U, rfl, hU, hb1⟩
  have hB1 : Below w.heap.size w w1 := Below.after (by go_grown) hb1
  have hm1 : SeenF w1 w.heap.size 0 (fun _ => false) := (SeenF.alloc (SeenF.made w) _).below hb1
  have ho1 : Outs w1 (w.heap.size + 1) w1.heap.size (.slice (some ⟨w.heap.size + 1, 0, none⟩) 0 0) [] := by
    have hz := hb1.size
    exact ((Outs.empty (w.alloc (.map #[] 0)) (B := w.heap.size + 1) (N := w.heap.size + 2) (b := w.heap.size + 1) (by simp) (by simp) (by simp)).below hb1).up (by simp at hz; omega)
  obtain ⟨p, cp, rfl, _, hr⟩ := hU.view
  have hne1 : (Value.slice p (allF d).length cp).ownBlock = none ∨ (Value.slice p (allF d).length cp).ownBlock ≠ (Value.slice (some ⟨w.heap.size + 1, 0, none⟩) 0 0).ownBlock := by
    right
    intro e
    have := (hU.lt _ e).1
    simp at this
    omega
  have HU := Lib.hid (hU.mono (B' := w.heap.size + 1) (by simp))
  have Hm1 := Lib.hid hm1
  have Ho1 := Lib.hid ho1
  have Hne1 := Lib.hid hne1
  clear hU hr hm1 ho1 hne1 hb1
  go_wp2_with fail
  go_loopw [4, 15] (fun vl i wr => CyvAt w (w.heap.size + 1) w.heap.size (allF d) (.slice p (allF d).length cp) vl i wr) (fun _ i _ => (allF d).length - (intOf i).toNat)
  case atStart => exact ⟨0, 0, rfl, by omega, by omega, Ho1.out, HU.out, Hne1.out, Hm1.out.same (fun f _ => by simp [cysN]), hB1⟩
  case round =>
    obtain ⟨k, n, rfl, hk, hn, hO, hF, hne, hS, hB⟩ := hrel
    clear hB1 HU Hm1 Ho1 Hne1
    have hs := hB.size
    obtain ⟨wA, rfl⟩ : ∃ wA, wA = wr := ⟨_, rfl⟩
    by_cases hlt : k < (allF d).length
    · obtain ⟨g, rfl, hg0, hg1, hc0, hc1, hc2, hfz⟩ := hF.read k hlt
      rcases hx : (allF d)[k] with ⟨fa, fb, fc⟩
      rw [hx] at hc0 hc1 hc2
      have Hx := Lib.hid hx
      have hL := cysN_len H.out hk
      have hL2 : (cysN (allF d) k).length ≤ 1953 := by omega
      have hm : (⟨fa, fb, fc⟩ : Fm) ∈ allF d := hx ▸ List.getElem_mem hlt
      have Hcy := Lib.hid (allF_cy H.out hm).1
      obtain ⟨L, hLe⟩ : ∃ L, cysN (allF d) k = L := ⟨_, rfl⟩
      rw [hLe] at hL2 hO hS
      have HLe := Lib.hid hLe
      obtain ⟨q, cq, rfl, _, hr⟩ := hO.view
      have HO := Lib.hid hO
      have HF := Lib.hid hF
      have Hne := Lib.hid hne
      have HS := Lib.hid hS
      obtain ⟨kv, hkv⟩ : ∃ v, decide ((⟨fa, fb, fc⟩ : Fm) ∈ L.flatten) = v := ⟨_, rfl⟩
      have Hkv := Lib.hid hkv
      clear hO hF hne hL hLe hm hr hx hfz hS hkv
      cases kv with
      | true =>
        have Hn := Lib.hid ((cysN_yes hlt Hx.out (by rw [HLe.out]; exact Hkv.out)).trans HLe.out)
        go_wp2_with (at_lookup; refine look_seen ⟨fa, fb, fc⟩ w.heap.size n _ true rfl _ _ rfl rfl rfl (HS.out.alloc _) (cy_wf Hcy.out) Hkv.out ?_)
        go_wp2_with fail
        go_roundw
        case rel => exact ⟨k + 1, n, by go_num, by omega, by omega, by rw [Hn.out]; exact (HO.out.alloc _).up (by simp), HF.out.alloc _, Hne.out, by rw [Hn.out]; exact HS.out.alloc _, hB.alloc hs _⟩
        case measure => simp [intOf]; omega
      | false =>
        have Hn := Lib.hid ((cysN_no hlt Hx.out (by rw [HLe.out]; exact Hkv.out)).trans (by rw [HLe.out]))
        go_wp2_with (at_lookup; refine look_seen ⟨fa, fb, fc⟩ w.heap.size n _ false rfl _ _ rfl rfl rfl (HS.out.alloc _) (cy_wf Hcy.out) Hkv.out ?_)
        go_wp2_with fail
        refine (impl_cycle fa fb fc d _ Hcy.out).mono ?_
        rintro e w2 ⟨uc, rfl, huc, hb2⟩
        obtain ⟨pu, cu, hue, _, hru⟩ := huc.view
        subst hue
        have hmA := HS.out.lt
        have hB2 : Below w.heap.size w w2 := Below.after (by go_grown) hb2
        have HO2 := Lib.hid ((HO.out.alloc _).below hb2)
        have HF2 := Lib.hid ((HF.out.alloc _).below hb2)
        have HS2 := Lib.hid ((HS.out.alloc _).below hb2)
        have Huc := Lib.hid (huc.mono (B' := wA.heap.size) (by simp))
        have hcl := Lib.hid (cyc_len Hcy.out)
        have hz2 := hb2.size
        clear hb2 hru huc HO HF HS
        go_wp2_with fail
        go_loopw [26] (fun j wr' => CymAt w (w.heap.size + 1) wA.heap.size w.heap.size n (allF d) (cyc ⟨fa, fb, fc⟩) L (.slice (some ⟨g, 0, none⟩) (allF d).length cp) (.slice pu (cyc ⟨fa, fb, fc⟩).length cu) (.slice q L.length cq) j wr') (fun j _ => (cyc ⟨fa, fb, fc⟩).length - (intOf j).toNat)
        case atStart => exact ⟨0, n, rfl, by omega, by omega, HO2.out, HF2.out, Huc.out, HS2.out.same (fun f _ => by simp), hB2⟩
        case round =>
          obtain ⟨j, n2, rfl, hj, hn2, hO, hF, hU, hS, hB3⟩ := hrel
          clear HO2 HF2 HS2 Huc hB2
          have hz3 := hB3.size
          by_cases hlt2 : j < (cyc ⟨fa, fb, fc⟩).length
          · obtain ⟨g2, rfl, hg2, hg3, hd0, hd1, hd2, hfz2⟩ := hU.read j hlt2
            rcases hx2 : (cyc ⟨fa, fb, fc⟩)[j] with ⟨ga, gb, gc⟩
            rw [hx2] at hd0 hd1 hd2
            have hgm : (⟨ga, gb, gc⟩ : Fm) ∈ cyc ⟨fa, fb, fc⟩ := hx2 ▸ List.getElem_mem hlt2
            have Hx2 := Lib.hid hx2
            have Hgc := Lib.hid (cyc_mem Hcy.out hgm).1
            have HO := Lib.hid hO
            have HF := Lib.hid hF
            have HU := Lib.hid hU
            have HS := Lib.hid hS
            have hlim := hcl.out
            clear hO hF hU hS hx2 hgm hfz2
            go_wp2_with (at_mapUpdate; refine put_seen ⟨ga, gb, gc⟩ w.heap.size n2 _ rfl _ _ _ rfl rfl rfl rfl (HS.out.alloc _) (by omega) (cy_wf Hgc.out) ?_)
            intro w3 hS3 hgrow
            have hBa : Below w.heap.size w (wr.alloc (.cells (cF ⟨ga, gb, gc⟩) 28)) := hB3.alloc hz3 _
            have hB4 : Below w.heap.size w w3 := below_seen hBa hgrow (by simp; omega) (Nat.le_refl _)
            have hO4 := (HO.out.alloc _).far hgrow (.inl (by omega))
            have hF4 := (HF.out.alloc (.cells (cF ⟨ga, gb, gc⟩) 28)).kept hgrow (.inr (fun e => by have := (HF.out.lt _ e).1; omega))
            have hU4 := (HU.out.alloc (.cells (cF ⟨ga, gb, gc⟩) 28)).kept hgrow (.inr (fun e => by have := (HU.out.lt _ e).1; omega))
            have HS4 := Lib.hid (seen_more (L := L) hlt2 Hx2.out (hS3.same (fun f _ => by rw [Bool.eq_iff_iff]; simp)))
            have HO4 := Lib.hid hO4
            have HF4 := Lib.hid hF4
            have HU4 := Lib.hid hU4
            clear hO4 hF4 hU4 hS3 hgrow hBa HO HF HU HS hB3
            go_wp2_with fail
            go_roundw
            case rel => exact ⟨j + 1, n2 + 1, by go_num, by omega, by omega, HO4.out, HF4.out, HU4.out, HS4.out, hB4⟩
            case measure => simp [intOf]; omega
          · obtain rfl : j = (cyc ⟨fa, fb, fc⟩).length := by omega
            have HOa := Lib.hid (hO.alloc (.cells #[(.slice pu (cyc ⟨fa, fb, fc⟩).length cu)] 46))
            have Hn2 : Hid (Holds (wr.alloc (.cells #[(.slice pu (cyc ⟨fa, fb, fc⟩).length cu)] 46)) wr.heap.size #[(.slice pu (cyc ⟨fa, fb, fc⟩).length cu)] 46) := Lib.hid (Holds.new _ _ _)
            have HUa := Lib.hid ((hU.alloc (.cells #[(.slice pu (cyc ⟨fa, fb, fc⟩).length cu)] 46)).mono (B' := w.heap.size + 1) (by omega))
            have hBa : Below w.heap.size w (wr.alloc (.cells #[(.slice pu (cyc ⟨fa, fb, fc⟩).length cu)] 46)) := hB3.alloc hz3 _
            have HFa := Lib.hid (hF.alloc (.cells #[(.slice pu (cyc ⟨fa, fb, fc⟩).length cu)] 46))
            have HSa := Lib.hid ((seen_end hS).alloc (.cells #[(.slice pu (cyc ⟨fa, fb, fc⟩).length cu)] 46))
            have HuN := Lib.hid (fun kk (hk : (Value.slice pu (cyc ⟨fa, fb, fc⟩).length cu).ownBlock = some kk) => (hU.lt kk hk).1)
            have hNz := Lib.hid (show wA.heap.size ≤ wr.heap.size from by
              rcases hU.2 with ⟨_, h0⟩ | ⟨gg, _, _, _, hgg, hgh, _⟩
              · exact absurd (List.length_eq_zero_iff.1 h0) (cyc_ne _)
              · have := (Array.getElem?_eq_some_iff.1 hgh).1; omega)
            have hlim := hcl.out
            clear hO hF hU hS
            go_wp2_with (at_builtin; refine app_ou (w.heap.size + 1) wA.heap.size L (cyc ⟨fa, fb, fc⟩) (.slice pu (cyc ⟨fa, fb, fc⟩).length cu) (.slice q L.length cq) wr.heap.size _ _ rfl rfl rfl rfl HOa.out Hn2.out HUa.out (cyc_ne _) HuN.out (by omega) (by have := hNz.out; simp; omega) (by have := hNz.out; simp; omega) ?_)
            intro v' w3 hO4 hgrow hwhere
            have hB4 : Below w.heap.size w w3 := below_grownO hBa (HOa.out.monoB (B' := w.heap.size) (by omega)) hgrow (by simp; omega)
            have hF4 := HFa.out.kept hgrow Hne.out
            have hne4 := own_step (v' := v') HFa.out Hne.out (by simpa using hwhere)
            have hS4 := HSa.out.at hgrow (fun e => by have := (HOa.out.lt _ e.symm).1; omega)
            have HO4 := Lib.hid hO4
            have HF4 := Lib.hid hF4
            have Hne4 := Lib.hid hne4
            have HS4 := Lib.hid hS4
            clear hO4 hF4 hne4 hS4 hgrow hwhere hBa HOa Hn2 HUa HFa HuN HSa hB3
            go_wp2_with fail
            go_roundw
            case rel => exact ⟨k + 1, n2, by go_num, by omega, by omega, by rw [Hn.out]; exact HO4.out, HF4.out, Hne4.out, by rw [Hn.out]; exact HS4.out, hB4⟩
            case measure => simp [intOf]; omega
    · obtain rfl : k = (allF d).length := by omega
      have HO := Lib.hid hO
      clear hO hF hne hS
      go_wp2_with fail
      go_ret
      exact ⟨_, rfl, HO.out.monoB (by omega), hB⟩
end Go.Proofs.Ytdonpiihjoihcaa
