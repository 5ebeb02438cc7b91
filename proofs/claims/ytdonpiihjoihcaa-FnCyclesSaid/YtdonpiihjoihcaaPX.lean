/- Contracts: the float root of an integer, and the least solution by trying. -/
import Derived.Test.YtdonpiihjoihcaaPP
import Derived.Test.YtdonpiihjoihcaaPM
import Derived.Test.YtdonpiihjoihcaaSR
import Derived.Test.YtdonpiihjoihcaaCG
import Derived.Laws.Cover2
import Derived.Laws.FloatArith
import Derived.Laws.Externs
namespace Go.Proofs.Ytdonpiihjoihcaa
set_option linter.unusedVariables false
open Go.ChangeShapes Go.WideShapes Go.ChangeAt Go.RowKit

/-- what the program's root gives for a positive integer -/
theorem froot {n : Int} (h0 : 0 < n) (h : n < 9007199254740992) : ∃ (r : Nat) (t : Int), Ieee.double.sqrt (floatOfInt .f64 n) = some r ∧ floatToIntVal .f64 r .i64 = some t ∧ 0 ≤ t ∧ t ≤ 536870912 ∧ ∀ s : Int, 0 < s → s * s = n → t = s := by
  obtain ⟨m, rfl⟩ : ∃ m : Nat, n = m := ⟨n.toNat, by omega⟩
  have hm0 : m ≠ 0 := by omega
  have hm : m < 2 ^ 53 := by omega
  have e : floatOfInt .f64 (m : Int) = Ieee.double.nearest false m 0 := by
    unfold floatOfInt FloatKind.nearest FloatKind.encode FloatKind.format Ieee.Format.write
    simp
    rfl
  rw [e]
  have back : ∀ (r : Nat) (t : Int), (Ieee.double.read r).toInt .zero = some t → 0 ≤ t → t ≤ 536870912 → floatToIntVal .f64 r .i64 = some t := fun r t h h1 h2 => by
    unfold floatToIntVal FloatKind.decode FloatKind.format
    simp only [h]
    rw [if_pos]
    constructor
    · show IntKind.min .i64 ≤ t
      have : IntKind.min .i64 = -9223372036854775808 := by decide
      omega
    · show t ≤ IntKind.max .i64
      have : IntKind.max .i64 = 9223372036854775807 := by decide
      omega
  by_cases hs : ∃ s : Nat, s * s = m
  · obtain ⟨s, rfl⟩ := hs
    have hs0 : s ≠ 0 := by rintro rfl; exact hm0 rfl
    obtain ⟨r, h1, h2⟩ := sqrt_int hs0 hm
    have hb : s ≤ 536870912 := by
      refine Nat.not_lt.1 fun hc => ?_
      have : 536870912 * 536870912 ≤ s * s := Nat.mul_le_mul (Nat.le_of_lt hc) (Nat.le_of_lt hc)
      omega
    refine ⟨r, s, h1, back r s h2 (by omega) (by omega), by omega, by omega, fun x hx he => ?_⟩
    obtain ⟨y, rfl⟩ : ∃ y : Nat, x = y := ⟨x.toNat, by omega⟩
    have he' : y * y = s * s := by exact_mod_cast he
    have : y = s := by
      rcases Nat.lt_trichotomy y s with c | c | c
      · have := Nat.mul_lt_mul'' c c; omega
      · exact c
      · have := Nat.mul_lt_mul'' c c; omega
    rw [this]
  · obtain ⟨r, h1, t, h2, h3⟩ := sqrt_any hm0 hm
    refine ⟨r, t, h1, back r t h3 (by omega) (by omega), by omega, by omega, fun x hx he => ?_⟩
    obtain ⟨y, rfl⟩ : ∃ y : Nat, x = y := ⟨x.toNat, by omega⟩
    exact absurd ⟨y, by exact_mod_cast he⟩ hs
/-- the least solution up to a number -/
def LsOut (d side most t u : Int) (v : Bool) : Prop :=
  (v = true ∧ 0 < t ∧ 0 < u ∧ u ≤ most ∧ t * t = d * u * u + side ∧ ∀ t' u', 0 < t' → 0 < u' → t' * t' = d * u' * u' + side → u ≤ u') ∨
  (v = false ∧ t = 0 ∧ u = 0 ∧ ∀ t' u', 0 < t' → 0 < u' → t' * t' = d * u' * u' + side → most < u')
def NoUp (d side k : Int) : Prop := ∀ t' u', 0 < t' → 0 < u' → t' * t' = d * u' * u' + side → k ≤ u'
theorem ls_bd {d k : Int} (hd1 : 5 ≤ d) (hd2 : d ≤ 1000) (hk1 : 1 ≤ k) (hk2 : k ≤ 1000000) : 5 ≤ d * k ∧ d * k ≤ 1000000000 ∧ 5 ≤ d * k * k ∧ d * k * k ≤ 1000000000000000 := by
  have a1 : 5 * 1 ≤ d * k := Int.mul_le_mul hd1 hk1 (by omega) (by omega)
  have a2 : d * k ≤ 1000 * 1000000 := Int.mul_le_mul hd2 hk2 (by omega) (by omega)
  have a3 : 5 * 1 ≤ d * k * k := Int.mul_le_mul a1 hk1 (by omega) (by omega)
  have a4 : d * k * k ≤ 1000000000 * 1000000 := Int.mul_le_mul a2 hk2 (by omega) (by omega)
  omega
/-- what comes out where a solution is found -/
theorem ls_found {d side most t u x k : Int} {v : Bool} (h : LsOut d side most t u v) (hno : NoUp d side k) (hx : 0 < x) (hk : 0 < k) (hm : k ≤ most) (he : x * x = d * k * k + side) : v = true ∧ t = x ∧ u = k := by
  rcases h with ⟨rfl, h1, h2, h3, h4, h5⟩ | ⟨rfl, rfl, rfl, h4⟩
  · have a := h5 x k hx hk he
    have b := hno t u h1 h2 h4
    have e : u = k := by omega
    subst e
    refine ⟨rfl, ?_, rfl⟩
    have e2 : t * t = x * x := by omega
    rcases Int.lt_trichotomy t x with c | c | c
    · have := Int.mul_lt_mul c (Int.le_of_lt c) h1 (Int.le_of_lt hx); omega
    · exact c
    · have := Int.mul_lt_mul c (Int.le_of_lt c) hx (Int.le_of_lt h1); omega
  · have := h4 x k hx hk he; omega
theorem ls_end {d side most t u : Int} {v : Bool} (h : LsOut d side most t u v) (hno : NoUp d side (most + 1)) : v = false ∧ t = 0 ∧ u = 0 := by
  rcases h with ⟨rfl, h1, h2, h3, h4, h5⟩ | ⟨rfl, rfl, rfl, h4⟩
  · have := hno t u h1 h2 h4; omega
  · exact ⟨rfl, rfl, rfl⟩
theorem sqrt_t {q x : Int} (hx : 0 ≤ x) (he : x * x = q) (hq : q ≤ 1000000000000004) : x ≤ 100000000 := by
  refine Int.not_lt.1 fun hc => ?_
  have := Int.mul_le_mul (Int.le_of_lt hc) (Int.le_of_lt hc) (by omega) hx
  omega
theorem sqrt_calls (x r : Nat) (w : World) (h : Ieee.double.sqrt x = some r) :
    Calls Try.prog 126 #[.float .f64 x] w fun e w' => e = .returned (.float .f64 r) ∧ w = w' := by
  have hrun : (Extern.MathSqrt.sqrt #[.float .f64 x]).run Try.prog w = .ok (.float .f64 r) w := by
    show Sem.run Try.prog (match Ieee.double.sqrt x with | some r => (pure (Value.float .f64 r) : Sem Value) | none => (do pure (Value.float .f64 (← choose (.nanBits .f64 x x))))) w = _
    rw [h]; rfl
  have hd : (callFunc 137 #[.float .f64 x]).run Try.prog w = .ok (.value (.float .f64 r)) w := by
    rw [run_callFunc_extern (e := Extern.MathSqrt.sqrt) Try.func137 (by kernel_rfl) (by kernel_rfl) (by kernel_rfl) (by kernel_rfl), hrun]; rfl
  clear h hrun
  go_enter Try.func126, Try.ntmps126
  go_wp2_with fail
  go_ret
  exact ⟨rfl, rfl⟩
set_option maxHeartbeats 1000000 in
theorem impl_leastSolution (d side most t u : Int) (v : Bool) (w : World) (hd1 : 5 ≤ d) (hd2 : d ≤ 1000) (hs1 : -4 ≤ side) (hs2 : side ≤ 4) (hm1 : 0 ≤ most) (hm2 : most ≤ 1000000) (h : LsOut d side most t u v) :
    Calls Try.prog 93 #[.int .i64 d, .int .i64 side, .int .i64 most] w fun e w' => e = .returned (.tuple #[.agg #[.int .i64 t, .int .i64 u], .bool v]) ∧ Below w.heap.size w w' := by
  have H := Lib.hid h
  clear h
  go_enter Try.func93, Try.ntmps93
  go_wp2_with fail
  go_loop [8] (fun i => ∃ k : Int, i = .int .i64 k ∧ 1 ≤ k ∧ k ≤ most + 1 ∧ NoUp d side k) (fun i => (most + 1 - intOf i).toNat)
  case atStart => exact ⟨1, rfl, by omega, by omega, fun t' u' _ h _ => h⟩
  case round =>
    obtain ⟨k, rfl, hk1, hk2, hno⟩ := hrel
    have Hno := Lib.hid hno
    clear hno
    by_cases hlt : k ≤ most
    · obtain ⟨b1, b2, b3, b4⟩ := ls_bd hd1 hd2 hk1 (show k ≤ 1000000 by omega)
      obtain ⟨r, x, hr, hx, x0, x1, hu⟩ := froot (n := d * k * k + side) (by omega) (by omega)
      have hcv : ∀ w, (convert 115 3 (.float .f64 r)).run Try.prog w = .ok (.int .i64 x) w := fun w => run_convert_float_int w _ _ _ _ _ _ (by kernel_rfl) Try.underlying3 hx
      have Hr := Lib.hid hr
      have Hu := Lib.hid hu
      clear hr hx hu
      obtain ⟨x2, x3⟩ : 0 ≤ x * x ∧ x * x ≤ 536870912 * 536870912 := ⟨Int.mul_nonneg x0 x0, Int.mul_le_mul x1 x1 x0 (by omega)⟩
      by_cases hf : 0 < x ∧ x * x = d * k * k + side
      · obtain ⟨f1, f2⟩ := hf
        obtain ⟨rfl, rfl, rfl⟩ := ls_found H.out Hno.out f1 (by omega) hlt f2
        have e1 : (t * t == d * u * u + side) = true := by simp [f2]
        have t2 := sqrt_t x0 f2 (by omega)
        have hgu : good u = true := good_yes (by omega) (by omega)
        have Hgu := Lib.hid hgu
        have F2 := Lib.hid f2
        clear f2 hgu
        go_wp2_with (go_at_call 126; refine (sqrt_calls _ r _ Hr.out).mono ?_; rintro e w' ⟨rfl, rfl⟩)
        refine region_named (fun W hW => ?_)
        have hB : Below w.heap.size w W := by rw [hW]; go_grown
        have h1 : Holds W w.heap.size #[.int .i64 0, .int .i64 0] 55 := by rw [hW]; repeat (first | (refine Holds.new' _ _ _ ?_; simp; done) | refine Holds.alloc ?_ _ | refine Holds.far ?_ (by first | omega | (simp; done) | (simp; omega)))
        have h2 : Holds W (w.heap.size + 1) #[.int .i64 t, .int .i64 u] 55 := by rw [hW]; repeat (first | (refine Holds.new' _ _ _ ?_; simp; done) | refine Holds.alloc ?_ _ | refine Holds.far ?_ (by first | omega | (simp; done) | (simp; omega)))
        clear hW
        have q0 : ∀ x' : Aft W, x'.w.cell? ⟨w.heap.size + 1, 0, none⟩ = some (.int .i64 t) := fun x' => x'.cell (Holds.lt h2) (Holds.cell h2 rfl)
        have q1 : ∀ x' : Aft W, x'.w.cell? ⟨w.heap.size + 1, 1, none⟩ = some (.int .i64 u) := fun x' => x'.cell (Holds.lt h2) (Holds.cell h2 rfl)
        refine region_aft_tail 3 (by kernel_rfl) (by kernel_rfl) ?_
        simp only [List.take_succ_cons, List.take_zero, List.drop_succ_cons, List.drop_zero]
        repeat go_big_quiet_step ((go_at_call 125; exact callsAft (impl_isSmall t u true _ ⟨by omega, by omega⟩ Hgu.out)))
        refine wpQuiet_nil ?_
        intro w1 hb1
        have hB1 : Below w.heap.size w w1 := Below.after hB hb1
        have j1 := h1.below hb1
        have c0 : w1.cell? ⟨w.heap.size, 0, none⟩ = some (.int .i64 0) := Holds.cell j1 rfl
        have c1 : w1.cell? ⟨w.heap.size, 1, none⟩ = some (.int .i64 0) := Holds.cell j1 rfl
        have cf0 : w1.frozen? ⟨w.heap.size, 0, none⟩ = false := Holds.free j1
        have cf1 : w1.frozen? ⟨w.heap.size, 1, none⟩ = false := Holds.free j1
        clear q0 q1 h1 h2 hB hb1
        go_wp2_with fail
        refine bodyPost_ret (v := .tuple #[.agg #[.int .i64 t, .int .i64 u], .bool true]) (by simp [results, Try.results93, go_sem, *] <;> rfl) rfl ⟨rfl, by go_grown⟩
      · have hno : NoUp d side (k + 1) := fun t' u' a b c => by
          have := Hno.out t' u' a b c
          refine Int.not_lt.1 fun hc => hf ?_
          have e : u' = k := by omega
          subst e
          have := Hu.out t' a c
          subst this
          exact ⟨a, c⟩
        have Hno' := Lib.hid hno
        have hc : (0 < x ∧ (x * x == d * k * k + side) = false) ∨ x ≤ 0 := by
          by_cases hp : 0 < x
          · exact .inl ⟨hp, by simpa using fun e => hf ⟨hp, e⟩⟩
          · exact .inr (by omega)
        clear hno hf Hno
        rcases hc with ⟨hp, hq⟩ | hp
        all_goals
          go_wp2_with (go_at_call 126; refine (sqrt_calls _ r _ Hr.out).mono ?_; rintro e w' ⟨rfl, rfl⟩)
          go_round
          case rel => exact ⟨k + 1, rfl, by omega, by omega, Hno'.out⟩
          case measure => simp [intOf]; omega
    · obtain rfl : k = most + 1 := by omega
      obtain ⟨rfl, rfl, rfl⟩ := ls_end H.out Hno.out
      clear H Hno
      go_wp2_with fail
      refine bodyPost_ret (v := .tuple #[.agg #[.int .i64 0, .int .i64 0], .bool false]) (by simp [results, Try.results93, go_sem, *] <;> rfl) rfl ⟨rfl, by go_grown⟩
end Go.Proofs.Ytdonpiihjoihcaa
