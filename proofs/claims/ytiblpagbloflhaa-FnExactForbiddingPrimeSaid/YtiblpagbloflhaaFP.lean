/- Contracts and the walk of the law: the least prime that forbids a value. -/
import Derived.Test.YtiblpagbloflhaaVC
import Derived.Test.YtiblpagbloflhaaFX
import Derived.Test.YtiblpagbloflhaaT
namespace Go.Proofs.Ytiblpagbloflhaa
set_option linter.unusedVariables false
open Go.ChangeShapes Go.WideShapes Go.ChangeAt Go.RowKit

theorem spec_nuExponent (n p : Int) (w : World) (hn1 : 1 ≤ n) (hn2 : n ≤ 1000000) (hp1 : 2 ≤ p) (hp2 : p ≤ 1000000) :
    Calls Try.prog 77 #[.int .i64 n, .int .i64 p] w fun e w' => e = .returned (.int .i64 (expo p n : Nat)) ∧ w = w' := by
  have hE := expo_le hp1 n.toNat n hn1 (Nat.le_refl _)
  obtain ⟨E, hEe⟩ : ∃ E, expo p n = E := ⟨_, rfl⟩
  rw [hEe] at hE
  have HE := Lib.hid hEe
  rw [hEe]
  clear hEe
  go_enter Try.func77, Try.ntmps77
  go_wp2_with fail
  go_loop [0, 5] (fun n' k' => ∃ (m : Int) (j : Nat), n' = .int .i64 m ∧ k' = .int .i64 j ∧ 1 ≤ m ∧ m ≤ n ∧ j + expo p m = E) (fun n' _ => (intOf n').toNat)
  case atStart => exact ⟨n, 0, rfl, rfl, hn1, by omega, by rw [HE.out]; omega⟩
  case round =>
    obtain ⟨m, j, rfl, rfl, hm1, hm2, hj⟩ := hrel
    have hpz : ¬ p = 0 := by omega
    by_cases hm : m % p = 0
    · obtain ⟨s1, s2⟩ := expo_step hp1 hm1 hm
      have hnx := expo_yes hp1 hm1 hm
      have hjb : j ≤ 1000000 := by omega
      have Hj : Hid (j + 1 + expo p (m / p) = E) := Lib.hid (by omega)
      have hm' : (m % p == 0) = true := by simp [hm]
      clear hnx hj hm
      go_wp2_with fail
      go_round
      case rel => exact ⟨m / p, j + 1, rfl, by go_num, s1, by omega, Hj.out⟩
      case measure => simp [intOf]; omega
    · have hno := expo_no (p := p) hm1 hm
      have Hj : Hid (E = j) := Lib.hid (by omega)
      have hm' : (m % p == 0) = false := by simp [hm]
      clear hno hj
      go_wp2_with fail
      go_ret
      exact ⟨by rw [Hj.out]; rfl, rfl⟩
theorem impl_exponent (n p : Int) (w : World) (hn1 : 1 ≤ n) (hn2 : n ≤ 1000000) (hp1 : 2 ≤ p) (hp2 : p ≤ 1000000) :
    Calls Try.prog 82 #[.int .i64 n, .int .i64 p] w fun e w' => e = .returned (.int .i64 (expo p n : Nat)) ∧ w = w' := by
  have hE := expo_le hp1 n.toNat n hn1 (Nat.le_refl _)
  obtain ⟨E, hEe⟩ : ∃ E, expo p n = E := ⟨_, rfl⟩
  rw [hEe] at hE
  have HE := Lib.hid hEe
  rw [hEe]
  clear hEe
  go_enter Try.func82, Try.ntmps82
  go_wp2_with fail
  go_loop [0, 5] (fun n' k' => ∃ (m : Int) (j : Nat), n' = .int .i64 m ∧ k' = .int .i64 j ∧ 1 ≤ m ∧ m ≤ n ∧ j + expo p m = E) (fun n' _ => (intOf n').toNat)
  case atStart => exact ⟨n, 0, rfl, rfl, hn1, by omega, by rw [HE.out]; omega⟩
  case round =>
    obtain ⟨m, j, rfl, rfl, hm1, hm2, hj⟩ := hrel
    have hpz : ¬ p = 0 := by omega
    by_cases hm : m % p = 0
    · obtain ⟨s1, s2⟩ := expo_step hp1 hm1 hm
      have hnx := expo_yes hp1 hm1 hm
      have hjb : j ≤ 1000000 := by omega
      have Hj : Hid (j + 1 + expo p (m / p) = E) := Lib.hid (by omega)
      have hm' : (m % p == 0) = true := by simp [hm]
      clear hnx hj hm
      go_wp2_with fail
      go_round
      case rel => exact ⟨m / p, j + 1, rfl, by go_num, s1, by omega, Hj.out⟩
      case measure => simp [intOf]; omega
    · have hno := expo_no (p := p) hm1 hm
      have Hj : Hid (E = j) := Lib.hid (by omega)
      have hm' : (m % p == 0) = false := by simp [hm]
      clear hno hj
      go_wp2_with fail
      go_ret
      exact ⟨by rw [Hj.out]; rfl, rfl⟩
theorem rdL_some {d n : Int} {k K : Nat} (h : rdB d n k = true) (hk : k < K) : rdL d n K ≠ [] := by
  intro e
  have hm : (k : Int) ∈ rdL d n K := by
    unfold rdL
    exact List.mem_map.2 ⟨k, List.mem_filter.2 ⟨List.mem_range.2 hk, h⟩, rfl⟩
  rw [e] at hm
  simp at hm
theorem spec_vaHasRoot (d n : Int) (v : Bool) (w : World) (hd1 : -1000000 ≤ d) (hd2 : d ≤ 1000000) (hn1 : 1 ≤ n) (hn2 : n ≤ 10000) (hv : (rdL d n (2 * n).toNat).isEmpty = !v) :
    Calls Try.prog 78 #[.int .i64 d, .int .i64 n] w fun e w' => e = .returned (.bool v) ∧ w = w' := by
  have Hv := Lib.hid hv
  clear hv
  go_enter Try.func78, Try.ntmps78
  go_wp2_with fail
  go_loop [5] (fun i => ∃ k : Nat, i = .int .i64 k ∧ (k : Int) ≤ 2 * n ∧ rdL d n k = []) (fun i => (2 * n - intOf i).toNat)
  case atStart => exact ⟨0, rfl, by omega, rfl⟩
  case round =>
    obtain ⟨k, rfl, hk, he⟩ := hrel
    have He := Lib.hid he
    clear he
    by_cases hlt : (k : Int) < 2 * n
    · obtain ⟨⟨b1, b2⟩, b3, b4⟩ := rd_bd ⟨hd1, hd2⟩ hn1 hn2 hlt
      by_cases hr : ((k : Int) * k - d).tmod (4 * n) = 0
      · have hb : rdB d n k = true := by unfold rdB; simp [hr]
        have hne := rdL_some hb (show k < (2 * n).toNat by omega)
        obtain rfl : v = true := by
          cases v with
          | true => rfl
          | false =>
            have := Hv.out
            simp at this
            exact absurd this hne
        clear hb hne
        go_wp2_with fail
        go_ret
        exact ⟨rfl, rfl⟩
      · have hb : rdB d n k = false := by unfold rdB; simp [hr]
        have Hn : Hid (rdL d n (k + 1) = []) := Lib.hid (by rw [rdL_succ, He.out, hb]; rfl)
        clear hb
        go_wp2_with fail
        go_round
        case rel => exact ⟨k + 1, by go_num, by omega, Hn.out⟩
        case measure => simp [intOf]; omega
    · have hk' : (2 * n).toNat = k := by omega
      obtain rfl : v = false := by
        have := Hv.out
        rw [hk', He.out] at this
        simpa using this
      clear hk'
      go_wp2_with fail
      go_ret
      exact ⟨rfl, rfl⟩
/-- what ForbiddingPrime hands back -/
def FBOk (d n : Int) : Prop := negD d = true ∧ shB n = true
def FBOut (d n r : Int) (v : Bool) : Prop := (FBOk d n ∧ forbL d n (prs n) = (r, v)) ∨ (¬ FBOk d n ∧ r = 0 ∧ v = false)
theorem fbOut_ex (d n : Int) : ∃ r v, FBOut d n r v := by
  by_cases h : FBOk d n
  · exact ⟨_, _, .inl ⟨h, rfl⟩⟩
  · exact ⟨_, _, .inr ⟨h, rfl, rfl⟩⟩
theorem fb_no {d n : Int} (h : ¬ FBOk d n) : negD d = false ∨ (negD d = true ∧ shB n = false) := by
  cases h1 : negD d with
  | false => exact .inl rfl
  | true =>
    right
    refine ⟨rfl, ?_⟩
    cases h2 : shB n with
    | false => rfl
    | true => exact absurd ⟨h1, h2⟩ h
theorem forb_cases {d n p r : Int} {t : List Int} {v : Bool} (h : forbL d n (p :: t) = (r, v)) : (forbB d n p = true ∧ r = p ∧ v = true) ∨ (forbB d n p = false ∧ forbL d n t = (r, v)) := by
  unfold forbL at h
  split at h
  · rename_i hb
    simp only [Prod.mk.injEq] at h
    exact .inl ⟨hb, h.1.symm, h.2.symm⟩
  · rename_i hb
    exact .inr ⟨by simpa using hb, h⟩
theorem spec_ForbiddingPrime (d n r : Int) (v : Bool) (w : World) (h : FBOut d n r v) :
    Calls Try.prog 17 #[.int .i64 d, .int .i64 n] w fun e w' => e = .returned (.tuple #[.int .i64 r, .bool v]) ∧ Below w.heap.size w w' := by
  rcases h with ⟨⟨hd, hn⟩, hf⟩ | ⟨hno, rfl, rfl⟩
  · obtain ⟨n1, n2, n3⟩ := negD_iff.1 hd
    have hn' : 1 ≤ n ∧ n ≤ 10000 := by simpa [shB] using hn
    obtain ⟨hn1, hn2⟩ := hn'
    have hmem : ∀ p ∈ prs n, 2 ≤ p ∧ p ≤ n := fun p hp => prs_bdX hn1 hp
    have hplen := prs_len hn1
    have Hd := Lib.hid hd
    clear hd
    have Hn := Lib.hid hn
    clear hn
    have Hf := Lib.hid hf
    clear hf
    have Hmem := Lib.hid hmem
    clear hmem
    go_enter Try.func17, Try.ntmps17
    go_wp2_with fail
    refine (spec_reDisc d true _ Hd.out).mono ?_
    rintro e w' ⟨rfl, rfl⟩
    go_wp2_with fail
    refine (spec_vaShown n true _ Hn.out).mono ?_
    rintro e w' ⟨rfl, rfl⟩
    go_wp2_with fail
    refine (spec_nuPrimes n _ hn1 (by omega)).mono ?_
    rintro e w1 ⟨u, rfl, hu, hb1⟩
    have hB1 : Below w.heap.size w w1 := Below.after (by go_grown) hb1
    obtain ⟨p0, cp, rfl, hml, hr⟩ := hu.view
    obtain ⟨ps, hps⟩ : ∃ ps, prs n = ps := ⟨_, rfl⟩
    rw [hps] at Hf Hmem hr hplen hml ⊢
    have Hr := Lib.hid hr
    clear hu hr hb1 hps
    go_wp2_with fail
    go_loopw [19] (fun i wr => ∃ k : Nat, i = .int .i64 k ∧ k ≤ ps.length ∧ forbL d n (ps.drop k) = (r, v) ∧ Below w1.heap.size w1 wr) (fun i _ => ps.length - (intOf i).toNat)
    case atStart => exact ⟨0, rfl, by omega, by rw [List.drop_zero]; exact Hf.out, Below.refl _ _⟩
    case round =>
      obtain ⟨k, rfl, hk, hfo, hB⟩ := hrel
      by_cases hlt : k < ps.length
      · obtain ⟨g, rfl, _, hg1, hc, _⟩ := Hr.out k hlt
        have hp := Hmem.out ps[k] (List.getElem_mem hlt)
        rw [List.drop_eq_getElem_cons hlt] at hfo
        obtain ⟨p, hpe⟩ : ∃ p, ps[k] = p := ⟨_, rfl⟩
        rw [hpe] at hc hp hfo
        obtain ⟨hp1, hp2⟩ := hp
        have hcell := (hB.cell (p := ⟨g, k, none⟩) hg1).trans hc
        have hcs := forb_cases hfo
        have HB := Lib.hid hB
        have hE := expo_le hp1 n.toNat n hn1 (Nat.le_refl _)
        obtain ⟨E, hEe⟩ : ∃ E, expo p n = E := ⟨_, rfl⟩
        unfold forbB at hcs
        rw [hEe] at hcs hE
        have HE := Lib.hid hEe
        have Hcs := Lib.hid hcs
        clear hpe hc hfo hcs hB hEe
        go_wp2_with fail
        refine (spec_nuExponent n p _ hn1 (by omega) hp1 (by omega)).mono ?_
        rintro e w' ⟨rfl, rfl⟩
        rw [HE.out]
        by_cases ho : E % 2 = 1
        · have ho1 : ((E : Int) % 2 == 1) = true := by have : (E : Int) % 2 = 1 := by omega
                                                       simp [this]
          have ho2 : (E : Int) % 2 = 1 := by omega
          go_wp2_with fail
          cases hem : (rdL d p (2 * p).toNat).isEmpty with
          | true =>
            have Hfnd : Hid (r = p ∧ v = true) := Lib.hid (by
              rcases Hcs.out with ⟨_, h⟩ | ⟨hb, _⟩
              · exact h
              · simp [ho, hem] at hb)
            obtain ⟨rfl, rfl⟩ := Hfnd.out
            refine (spec_vaHasRoot d r false _ (by omega) (by omega) (by omega) (by omega) (by rw [hem]; rfl)).mono ?_
            rintro e w' ⟨rfl, rfl⟩
            clear hem
            go_wp2_with fail
            go_ret2
            exact ⟨rfl, Below.after hB1 HB.out⟩
          | false =>
            have Hnx : Hid (forbL d n (ps.drop (k + 1)) = (r, v)) := Lib.hid (by
              rcases Hcs.out with ⟨hb, _⟩ | ⟨_, h⟩
              · simp [hem] at hb
              · exact h)
            refine (spec_vaHasRoot d p true _ (by omega) (by omega) (by omega) (by omega) (by rw [hem]; rfl)).mono ?_
            rintro e w' ⟨rfl, rfl⟩
            clear hem
            go_wp2_with fail
            go_roundw
            case rel => exact ⟨k + 1, by go_num, by omega, Hnx.out, HB.out⟩
            case measure => simp [intOf]; omega
        · have ho1 : ((E : Int) % 2 == 1) = false := by have : (E : Int) % 2 = 0 := by omega
                                                        simp [this]
          have Hnx : Hid (forbL d n (ps.drop (k + 1)) = (r, v)) := Lib.hid (by
            rcases Hcs.out with ⟨hb, _⟩ | ⟨_, h⟩
            · simp [ho] at hb
            · exact h)
          go_wp2_with fail
          go_roundw
          case rel => exact ⟨k + 1, by go_num, by omega, Hnx.out, HB.out⟩
          case measure => simp [intOf]; omega
      · obtain rfl : k = ps.length := by omega
        rw [List.drop_length] at hfo
        have hfo' : r = 0 ∧ v = false := by
          unfold forbL at hfo
          simp only [Prod.mk.injEq] at hfo
          exact ⟨hfo.1.symm, hfo.2.symm⟩
        obtain ⟨rfl, rfl⟩ := hfo'
        clear hfo
        go_wp2_with fail
        go_ret2
        exact ⟨rfl, Below.after hB1 hB⟩
  · rcases fb_no hno with hd | ⟨hd, hn⟩
    · have Hd := Lib.hid hd
      clear hd
      clear hno
      go_enter Try.func17, Try.ntmps17
      go_wp2_with fail
      refine (spec_reDisc d false _ Hd.out).mono ?_
      rintro e w' ⟨rfl, rfl⟩
      go_wp2_with fail
      go_ret2
      exact ⟨rfl, by go_grown⟩
    · have Hd := Lib.hid hd
      clear hd
      have Hn := Lib.hid hn
      clear hn
      clear hno
      go_enter Try.func17, Try.ntmps17
      go_wp2_with fail
      refine (spec_reDisc d true _ Hd.out).mono ?_
      rintro e w' ⟨rfl, rfl⟩
      go_wp2_with fail
      refine (spec_vaShown n false _ Hn.out).mono ?_
      rintro e w' ⟨rfl, rfl⟩
      go_wp2_with fail
      go_ret2
      exact ⟨rfl, by go_grown⟩
theorem impl_ForbiddingPrime (d n r : Int) (v : Bool) (w : World) (h : FBOut d n r v) :
    Calls Try.prog 18 #[.int .i64 d, .int .i64 n] w fun e w' => e = .returned (.tuple #[.int .i64 r, .bool v]) ∧ Below w.heap.size w w' := by
  rcases h with ⟨⟨hd, hn⟩, hf⟩ | ⟨hno, rfl, rfl⟩
  · obtain ⟨n1, n2, n3⟩ := negD_iff.1 hd
    have hn' : 1 ≤ n ∧ n ≤ 10000 := by simpa [shB] using hn
    obtain ⟨hn1, hn2⟩ := hn'
    have hmem : ∀ p ∈ prs n, 2 ≤ p ∧ p ≤ n := fun p hp => prs_bdX hn1 hp
    have hplen := prs_len hn1
    have Hd := Lib.hid hd
    clear hd
    have Hn := Lib.hid hn
    clear hn
    have Hf := Lib.hid hf
    clear hf
    have Hmem := Lib.hid hmem
    clear hmem
    go_enter Try.func18, Try.ntmps18
    go_wp2_with fail
    refine (impl_isNegativeDisc d true _ Hd.out).mono ?_
    rintro e w' ⟨rfl, rfl⟩
    go_wp2_with fail
    refine (impl_isShown n true _ Hn.out).mono ?_
    rintro e w' ⟨rfl, rfl⟩
    go_wp2_with fail
    refine (impl_primesOf n _ hn1 (by omega)).mono ?_
    rintro e w1 ⟨u, rfl, hu, hb1⟩
    have hB1 : Below w.heap.size w w1 := Below.after (by go_grown) hb1
    obtain ⟨p0, cp, rfl, hml, hr⟩ := hu.view
    obtain ⟨ps, hps⟩ : ∃ ps, prs n = ps := ⟨_, rfl⟩
    rw [hps] at Hf Hmem hr hplen hml ⊢
    have Hr := Lib.hid hr
    clear hu hr hb1 hps
    go_wp2_with fail
    go_loopw [19] (fun i wr => ∃ k : Nat, i = .int .i64 k ∧ k ≤ ps.length ∧ forbL d n (ps.drop k) = (r, v) ∧ Below w1.heap.size w1 wr) (fun i _ => ps.length - (intOf i).toNat)
    case atStart => exact ⟨0, rfl, by omega, by rw [List.drop_zero]; exact Hf.out, Below.refl _ _⟩
    case round =>
      obtain ⟨k, rfl, hk, hfo, hB⟩ := hrel
      by_cases hlt : k < ps.length
      · obtain ⟨g, rfl, _, hg1, hc, _⟩ := Hr.out k hlt
        have hp := Hmem.out ps[k] (List.getElem_mem hlt)
        rw [List.drop_eq_getElem_cons hlt] at hfo
        obtain ⟨p, hpe⟩ : ∃ p, ps[k] = p := ⟨_, rfl⟩
        rw [hpe] at hc hp hfo
        obtain ⟨hp1, hp2⟩ := hp
        have hcell := (hB.cell (p := ⟨g, k, none⟩) hg1).trans hc
        have hcs := forb_cases hfo
        have HB := Lib.hid hB
        have hE := expo_le hp1 n.toNat n hn1 (Nat.le_refl _)
        obtain ⟨E, hEe⟩ : ∃ E, expo p n = E := ⟨_, rfl⟩
        unfold forbB at hcs
        rw [hEe] at hcs hE
        have HE := Lib.hid hEe
        have Hcs := Lib.hid hcs
        clear hpe hc hfo hcs hB hEe
        go_wp2_with fail
        refine (impl_exponent n p _ hn1 (by omega) hp1 (by omega)).mono ?_
        rintro e w' ⟨rfl, rfl⟩
        rw [HE.out]
        by_cases ho : E % 2 = 1
        · have ho1 : ((E : Int) % 2 == 1) = true := by have : (E : Int) % 2 = 1 := by omega
                                                       simp [this]
          have ho2 : (E : Int) % 2 = 1 := by omega
          go_wp2_with fail
          refine (impl_rootsOfDiscriminant d p _ (by omega) (by omega) (by omega) (by omega)).mono ?_
          rintro e w2 ⟨uu, rfl, hroots, hb2⟩
          have hB2 : Below w1.heap.size w1 w2 := Below.after HB.out hb2
          obtain ⟨pp, cc, rfl, hml2, -⟩ := hroots.view
          clear hroots hb2
          obtain ⟨L, hL⟩ : ∃ L, rdL d p (2 * p).toNat = L := ⟨_, rfl⟩
          rw [hL] at Hcs hml2 ⊢
          have HB2 := Lib.hid hB2
          clear hL hB2
          cases L with
          | nil =>
            have Hfnd : Hid (r = p ∧ v = true) := Lib.hid (by
              rcases Hcs.out with ⟨_, h⟩ | ⟨hb, _⟩
              · exact h
              · simp [ho] at hb)
            obtain ⟨rfl, rfl⟩ := Hfnd.out
            go_wp2_with fail
            go_ret2
            exact ⟨rfl, Below.after hB1 HB2.out⟩
          | cons q L =>
            have Hnx : Hid (forbL d n (ps.drop (k + 1)) = (r, v)) := Lib.hid (by
              rcases Hcs.out with ⟨hb, _⟩ | ⟨_, h⟩
              · simp at hb
              · exact h)
            have hq0 : (((q :: L).length : Int) == 0) = false := by simp only [List.length_cons]; simp; omega
            have hq1 : ((L.length : Int) + 1 == 0) = false := by simp; omega
            go_wp2_with fail
            go_roundw
            case rel => exact ⟨k + 1, by go_num, by omega, Hnx.out, HB2.out⟩
            case measure => simp [intOf]; omega
        · have ho1 : ((E : Int) % 2 == 1) = false := by have : (E : Int) % 2 = 0 := by omega
                                                        simp [this]
          have Hnx : Hid (forbL d n (ps.drop (k + 1)) = (r, v)) := Lib.hid (by
            rcases Hcs.out with ⟨hb, _⟩ | ⟨_, h⟩
            · simp [ho] at hb
            · exact h)
          go_wp2_with fail
          go_roundw
          case rel => exact ⟨k + 1, by go_num, by omega, Hnx.out, HB.out⟩
          case measure => simp [intOf]; omega
      · obtain rfl : k = ps.length := by omega
        rw [List.drop_length] at hfo
        have hfo' : r = 0 ∧ v = false := by
          unfold forbL at hfo
          simp only [Prod.mk.injEq] at hfo
          exact ⟨hfo.1.symm, hfo.2.symm⟩
        obtain ⟨rfl, rfl⟩ := hfo'
        clear hfo
        go_wp2_with fail
        go_ret2
        exact ⟨rfl, Below.after hB1 hB⟩
  · rcases fb_no hno with hd | ⟨hd, hn⟩
    · have Hd := Lib.hid hd
      clear hd
      clear hno
      go_enter Try.func18, Try.ntmps18
      go_wp2_with fail
      refine (impl_isNegativeDisc d false _ Hd.out).mono ?_
      rintro e w' ⟨rfl, rfl⟩
      go_wp2_with fail
      go_ret2
      exact ⟨rfl, by go_grown⟩
    · have Hd := Lib.hid hd
      clear hd
      have Hn := Lib.hid hn
      clear hn
      clear hno
      go_enter Try.func18, Try.ntmps18
      go_wp2_with fail
      refine (impl_isNegativeDisc d true _ Hd.out).mono ?_
      rintro e w' ⟨rfl, rfl⟩
      go_wp2_with fail
      refine (impl_isShown n false _ Hn.out).mono ?_
      rintro e w' ⟨rfl, rfl⟩
      go_wp2_with fail
      go_ret2
      exact ⟨rfl, by go_grown⟩
theorem walkFB (d n r : Int) (v : Bool) (w : World) (h : FBOut d n r v) :
    Calls Try.prog 4 #[.int .i64 d, .int .i64 n] w fun e w' => e = .returned (.bool true) ∧ Below w.heap.size w w' := by
  have H := Lib.hid h
  clear h
  go_enter Try.func4, Try.ntmps4
  go_wp2_with fail
  refine (spec_ForbiddingPrime d n r v _ H.out).mono ?_
  rintro e w1 ⟨rfl, hb1⟩
  have hB1 : Below w.heap.size w w1 := Below.after (by go_grown) hb1
  obtain ⟨hc1, hf1⟩ := bcell hb1
  have hy1 := hb1.size
  try simp at hy1
  first | (with_reducible have hx1 := Nat.lt_of_succ_le hy1) | skip
  first | (with_reducible have hv1 := Nat.lt_of_succ_lt hx1) | skip
  first | (with_reducible have hu1 := Nat.lt_of_succ_lt hv1) | skip
  first | (have hz1 : w.heap.size < w1.heap.size := by omega) | (have hz1 := hB1.size)
  clear hb1
  go_wp2_with fail
  refine (impl_ForbiddingPrime d n r v _ H.out).mono ?_
  rintro e w2 ⟨rfl, hb2⟩
  have hB2 : Below w.heap.size w w2 := Below.after (by go_grown) hb2
  obtain ⟨hc2, hf2⟩ := bcell hb2
  have hy2 := hb2.size
  try simp at hy2
  first | (with_reducible have hx2 := Nat.lt_of_succ_le hy2) | skip
  first | (with_reducible have hv2 := Nat.lt_of_succ_lt hx2) | skip
  first | (with_reducible have hu2 := Nat.lt_of_succ_lt hv2) | skip
  first | (have hz2 : w.heap.size < w2.heap.size := by omega) | (have hz2 := hB2.size)
  first | (have hq2 : w1.heap.size ≤ w2.heap.size := by omega) | skip
  first | (have hx1_2 := Nat.lt_of_lt_of_le hx1 hq2) | skip
  first | (have hv1_2 := Nat.lt_of_lt_of_le hv1 hq2) | skip
  first | (have hu1_2 := Nat.lt_of_lt_of_le hu1 hq2) | skip
  clear hb2
  go_wp2_with fail
  all_goals (try go_ret)
  all_goals exact ⟨rfl, by go_grown⟩
theorem walkForbiddingPrime (d n : Int) (w : World) (wd : (Lit.int .i64 d).wf = true) (wn : (Lit.int .i64 n).wf = true) :
    Calls Try.prog 4 #[.int .i64 d, .int .i64 n] w fun e w' => e = .returned (.bool true) ∧ Below w.heap.size w w' := by
  obtain ⟨r, v, h⟩ := fbOut_ex d n
  exact walkFB d n r v w h
end Go.Proofs.Ytiblpagbloflhaa
