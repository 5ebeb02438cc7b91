/- Contracts and the walk of the law: the number of classes of cycles in the wide sense. -/
import Derived.Test.YtdonpiihjoihcaaYN
namespace Go.Proofs.Ytdonpiihjoihcaa
set_option linter.unusedVariables false
open Go.ChangeShapes Go.WideShapes Go.ChangeAt Go.RowKit

theorem head_zero {d : Int} {k : Nat} (h : posD d = true) (hk : k < (cysD d).length) : ∃ h0 : 0 < (cysD d)[k].length, (cysD d)[k][0] = headF (cysD d) k ∧ Cy d (headF (cysD d) k) := by
  obtain ⟨h1, h2⟩ := headF_eq (cysI_all h) hk
  have h3 : (cysD d)[k] ≠ [] := by rw [h2]; exact cyc_ne _
  refine ⟨List.length_pos_iff.2 h3, ?_, (allF_cy h h1).1⟩
  have h4 : (cysD d)[k].head? = some (headF (cysD d) k) := by rw [h2, cyc_head]
  rw [List.head?_eq_getElem?] at h4
  rw [List.getElem?_eq_getElem (List.length_pos_iff.2 h3)] at h4
  injection h4
theorem Outs.capN {w : World} {B N n cap : Nat} {p : Option Addr} {L : List (List Fm)} (h : Outs w B N (.slice p n cap) L) : L.length ≤ cap := by
  obtain ⟨vs, h⟩ := h
  obtain ⟨_, h2⟩ := h.row
  rcases h2 with ⟨_, hn⟩ | ⟨g, cap', cur, e, _, _, h3, _⟩
  · omega
  · injection e with e1 e2 e3
    omega
theorem numK_next {L : List (List Fm)} {k : Nat} (hk : k < L.length) (g : Fm) : numK L (k + 1) g = if g ∈ L[k] then (k : Int) else numK L k g := by
  show (if g ∈ L.getD k [] then (k : Int) else numK L k g) = _
  have : L.getD k [] = L[k] := by simp [List.getD_eq_getElem?_getD, hk]
  rw [this]
theorem NumF.same {w : World} {b n : Nat} {S S' : Fm → Int} (h : NumF w b n S) (e : ∀ f, wfF f → S f = S' f) : NumF w b n S' := by
  obtain ⟨D, h1, h2, h3⟩ := h
  exact ⟨D, h1, h2, fun f hf => by rw [h3 f hf, e f hf]⟩
set_option maxHeartbeats 1000000 in
theorem impl_Wide_yes (d : Int) (w : World) (h : posD d = true) :
    Calls Try.prog 29 #[.int .i64 d] w fun e w' => e = .returned (.tuple #[.int .i64 ((wideN (cysD d) (cysD d).length : Nat) : Int), .bool true]) ∧ Below w.heap.size w w' := by
  have hsm : (cysD d).length ≤ 1953 := by have h1 := (cysI_all h).len; have h2 := allF_len2 h; omega
  have Hlen := Lib.hid (cysD_small h).2
  have hmk : ∀ w : World, (Instr.makeMap 86 none).run Try.prog w = .ok (.map (some w.heap.size)) (w.alloc (.map #[] 0)) := fun w => rfl
  have Hcy := Lib.hid (fun m (hm : m ∈ cysD d) (f : Fm) (hf : f ∈ m) => show Cy d f by
    obtain ⟨f0, hf0, rfl⟩ := (cysI_all h).each m hm
    exact (cyc_mem (allF_cy h hf0).1 hf).1)
  have Hwn := Lib.hid (fun k (hk : k < (cysD d).length) => wide_num (cysI_all h).apart (turn_in h hk) hk)
  have Hhd := Lib.hid (fun k (hk : k < (cysD d).length) => head_zero h hk)
  have H := Lib.hid h
  clear h
  go_enter Try.func29, Try.ntmps29
  go_wp2_with fail
  refine (impl_isPositiveDisc d true _ H.out).mono ?_
  rintro e w' ⟨rfl, rfl⟩
  go_wp2_with fail
  refine (impl_cycles d _ H.out).mono ?_
  rintro e w1 ⟨U, rfl, hU, hb1⟩
  have hB1 : Below w.heap.size w w1 := Below.after (by go_grown) hb1
  have hN1 : NumF w1 w.heap.size 0 (fun _ => 0) := (NumF.made w).below hb1
  obtain ⟨p, cp, rfl, hml, hr⟩ := hU.view
  have hU' := hU.monoB (B' := w.heap.size + 1) (by simp)
  obtain ⟨L, hL⟩ : ∃ L, cysD d = L := ⟨_, rfl⟩
  rw [hL] at hU' hsm Hlen Hcy
  have HL := Lib.hid hL
  have HU := Lib.hid hU'
  have HN := Lib.hid hN1
  clear hU hU' hr hml hN1 hb1
  have Hwn' : Hid (∀ k (hk : k < L.length), wideB L k (turnF (headF L k)) = decide ((k : Int) ≤ numK L L.length (turnF (headF L k)))) := by
    have := HL.out; subst this; exact Hwn
  have Hhd' : Hid (∀ k (hk : k < L.length), ∃ h0 : 0 < L[k].length, L[k][0] = headF L k ∧ Cy d (headF L k)) := by
    have := HL.out; subst this; exact Hhd
  clear Hwn Hhd hL
  rw [HL.out]
  go_wp2_with fail
  go_loopw [22] (fun i wr => ∃ k n : Nat, i = .int .i64 k ∧ k ≤ L.length ∧ n ≤ 4096 * k ∧ Outs wr (w.heap.size + 1) w1.heap.size (.slice p L.length cp) L ∧ NumF wr w.heap.size n (numK L k) ∧ Below w.heap.size w wr) (fun i _ => L.length - (intOf i).toNat)
  case atStart => exact ⟨0, 0, rfl, by omega, by omega, HU.out, HN.out, hB1⟩
  case round =>
    obtain ⟨k, n, rfl, hk, hn, hO, hN, hB⟩ := hrel
    clear hB1 HU HN
    have hs := hB.size
    obtain ⟨wA, rfl⟩ : ∃ wA, wA = wr := ⟨_, rfl⟩
    by_cases hlt : k < L.length
    · obtain ⟨g, u, rfl, _, hg1, hc, _, hu⟩ := hO.read k hlt
      obtain ⟨q, cq, rfl, _, hru⟩ := hu.view
      have hlk := Hlen.out L[k] (List.getElem_mem _)
      have HO := Lib.hid hO
      have HU := Lib.hid hu
      have HN := Lib.hid hN
      clear hO hN hru hu
      go_wp2_with fail
      go_loopw [29] (fun j wr' => ∃ j' n' : Nat, j = .int .i64 j' ∧ j' ≤ L[k].length ∧ n' ≤ n + j' ∧ Outs wr' (w.heap.size + 1) w1.heap.size (.slice (some ⟨g, 0, none⟩) L.length cp) L ∧ Fms wr' (w.heap.size + 1) (.slice q L[k].length cq) L[k] ∧ NumF wr' w.heap.size n' (fun f => if f ∈ L[k].take j' then (k : Int) else numK L k f) ∧ Below w.heap.size w wr') (fun j _ => L[k].length - (intOf j).toNat)
      case atStart => exact ⟨0, n, rfl, by omega, by omega, HO.out, HU.out, HN.out.same (fun f _ => by simp), hB⟩
      case round =>
        obtain ⟨j, n2, rfl, hj, hn2, hO2, hU2, hN2, hB2⟩ := hrel
        have hs2 := hB2.size
        by_cases hlt2 : j < L[k].length
        · obtain ⟨g2, rfl, _, hg3, d0, d1, d2, hfz⟩ := hU2.read j hlt2
          rcases hx2 : L[k][j] with ⟨ga, gb, gc⟩
          rw [hx2] at d0 d1 d2
          have Hx2 := Lib.hid hx2
          have Hgc := Lib.hid (Hcy.out L[k] (List.getElem_mem _) ⟨ga, gb, gc⟩ (hx2 ▸ List.getElem_mem _))
          have HO2 := Lib.hid hO2
          have HU2 := Lib.hid hU2
          have HN2 := Lib.hid hN2
          clear hO2 hU2 hN2 hx2 hfz
          go_wp2_with (at_mapUpdate; refine put_num ⟨ga, gb, gc⟩ (k : Int) w.heap.size n2 _ rfl _ _ _ rfl rfl rfl rfl (HN2.out.alloc _) (by omega) (cy_wf Hgc.out) (WalkArith.wf_i64 (by omega)) ?_)
          intro w3 hN3 hgrow
          have hBa : Below w.heap.size w (wr.alloc (.cells (cF ⟨ga, gb, gc⟩) 28)) := hB2.alloc hs2 _
          have hB4 : Below w.heap.size w w3 := below_seen hBa hgrow (by simp; omega) (Nat.le_refl _)
          have HO4 := Lib.hid ((HO2.out.alloc _).far hgrow (.inl (by omega)))
          have HU4 := Lib.hid ((HU2.out.alloc (.cells (cF ⟨ga, gb, gc⟩) 28)).kept hgrow (.inr (fun e => by have := (HU2.out.lt _ e).1; omega)))
          have HN4 : Hid (NumF w3 w.heap.size (n2 + 1) (fun f => if f ∈ L[k].take (j + 1) then (k : Int) else numK L k f)) := Lib.hid (hN3.same fun f _ => by
            have e1 : (f ∈ L[k].take (j + 1)) ↔ (f ∈ L[k].take j ∨ f = ⟨ga, gb, gc⟩) := by
              rw [List.take_add_one]
              simp [hlt2, Hx2.out]
            by_cases c1 : f = ⟨ga, gb, gc⟩
            · rw [if_pos c1, if_pos (e1.2 (.inr c1))]
            · by_cases c2 : f ∈ L[k].take j
              · rw [if_neg c1, if_pos c2, if_pos (e1.2 (.inl c2))]
              · rw [if_neg c1, if_neg c2, if_neg (fun e => by rcases e1.1 e with e | e <;> contradiction)])
          clear hN3 hgrow hBa HO2 HU2 HN2 hB2
          go_wp2_with fail
          go_roundw
          case rel => exact ⟨j + 1, n2 + 1, by go_num, by omega, by omega, HO4.out, HU4.out, HN4.out, hB4⟩
          case measure => simp [intOf]; omega
        · obtain rfl : j = L[k].length := by omega
          have HO2 := Lib.hid hO2
          have HN2 : Hid (NumF wr w.heap.size n2 (numK L (k + 1))) := Lib.hid (hN2.same fun f _ => by rw [numK_next hlt, List.take_length])
          clear hO2 hN2 hU2
          go_wp2_with fail
          go_roundw
          case rel => exact ⟨k + 1, n2, by go_num, by omega, by omega, HO2.out, HN2.out, hB2⟩
          case measure => simp [intOf]; omega
    · obtain rfl : k = L.length := by omega
      have HO := Lib.hid hO
      have HN := Lib.hid hN
      clear hO hN
      go_wp2_with fail
      go_loopw [10, 40] (fun m i wr' => ∃ k : Nat, m = .int .i64 (wideN L k : Nat) ∧ i = .int .i64 k ∧ k ≤ L.length ∧ Outs wr' (w.heap.size + 1) w1.heap.size (.slice p L.length cp) L ∧ NumF wr' w.heap.size n (numK L L.length) ∧ Below w.heap.size w wr') (fun _ i _ => L.length - (intOf i).toNat)
      case atStart => exact ⟨0, rfl, rfl, by omega, HO.out, HN.out, hB⟩
      case round =>
        obtain ⟨k, rfl, rfl, hk', hO2, hN2, hB2⟩ := hrel
        clear HO HN hB hk
        have hs2 := hB2.size
        have hwl := wideN_le L k
        by_cases hlt : k < L.length
        · obtain ⟨g, u, rfl, _, hg1, hc, _, hu⟩ := hO2.read k hlt
          obtain ⟨q, cq, rfl, _, hru⟩ := hu.view
          obtain ⟨h0, hh1, hh2⟩ := Hhd'.out k hlt
          obtain ⟨g0, rfl, _, hg01, d0, d1, d2, hfz⟩ := hu.read 0 h0
          have hwn := Hwn'.out k hlt
          have hst : wideN L (k + 1) = wideN L k + if wideB L k (turnF (headF L k)) = true then 1 else 0 := rfl
          rcases hf : headF L k with ⟨fa, fb, fc⟩
          rw [hh1] at d0 d1 d2
          rw [hf] at d0 d1 d2 hh2 hwn hst
          obtain ⟨⟨fa1, fa2⟩, _, ⟨fc1, fc2⟩⟩ : (-1000000 ≤ fa ∧ fa ≤ 1000000) ∧ (-1000000 ≤ fb ∧ fb ≤ 1000000) ∧ (-1000000 ≤ fc ∧ fc ≤ 1000000) := good3_iff.1 (indefB_good hh2.1.1)
          have hwf : wfF ⟨-fa, fb, -fc⟩ := by
            have := cy_wf hh2
            show wfI (-fa) ∧ wfI fb ∧ wfI (-fc)
            exact ⟨WalkArith.wf_i64 (by omega), this.2.1, WalkArith.wf_i64 (by omega)⟩
          have et : turnF ⟨fa, fb, fc⟩ = ⟨-fa, fb, -fc⟩ := rfl
          rw [et] at hwn hst
          obtain ⟨v, hv⟩ : ∃ v, numK L L.length ⟨-fa, fb, -fc⟩ = v := ⟨_, rfl⟩
          rw [hv] at hwn
          have HO2 := Lib.hid hO2
          have HN2 := Lib.hid hN2
          have Hwf := Lib.hid hwf
          have Hv := Lib.hid hv
          have Hst := Lib.hid hst
          have Hwn2 := Lib.hid hwn
          clear hO2 hN2 hwf hv hst hwn hu hru hh1 hh2 hfz hf et
          by_cases hge : (k : Int) ≤ v
          · go_wp2_with (at_lookup; refine look_num ⟨-fa, fb, -fc⟩ w.heap.size n _ v rfl _ _ rfl rfl rfl (HN2.out.alloc _) Hwf.out Hv.out ?_)
            go_wp2_with fail
            go_roundw
            case rel => exact ⟨k + 1, by rw [Hst.out, Hwn2.out]; simp [hge], by go_num, by omega, HO2.out.alloc _, HN2.out.alloc _, hB2.alloc hs2 _⟩
            case measure => simp [intOf]; omega
          · go_wp2_with (at_lookup; refine look_num ⟨-fa, fb, -fc⟩ w.heap.size n _ v rfl _ _ rfl rfl rfl (HN2.out.alloc _) Hwf.out Hv.out ?_)
            go_wp2_with fail
            go_roundw
            case rel => exact ⟨k + 1, by rw [Hst.out, Hwn2.out]; simp [hge], by go_num, by omega, HO2.out.alloc _, HN2.out.alloc _, hB2.alloc hs2 _⟩
            case measure => simp [intOf]; omega
        · obtain rfl : k = L.length := by omega
          clear hO2 hN2
          go_wp2_with fail
          refine bodyPost_ret (v := .tuple #[.int .i64 ((wideN L L.length : Nat) : Int), .bool true]) (by simp [results, Try.results29, go_sem, *] <;> rfl) rfl ⟨by rw [HL.out], hB2⟩
theorem impl_Wide_no (d : Int) (w : World) (h : posD d = false) :
    Calls Try.prog 29 #[.int .i64 d] w fun e w' => e = .returned (.tuple #[.int .i64 0, .bool false]) ∧ Below w.heap.size w w' := by
  have H := Lib.hid h
  clear h
  go_enter Try.func29, Try.ntmps29
  go_wp2_with fail
  refine (impl_isPositiveDisc d false _ H.out).mono ?_
  rintro e w' ⟨rfl, rfl⟩
  go_wp2_with fail
  refine bodyPost_ret (v := .tuple #[.int .i64 0, .bool false]) (by simp [results, Try.results29, go_sem, *] <;> rfl) rfl ⟨rfl, by go_grown⟩
end Go.Proofs.Ytdonpiihjoihcaa
