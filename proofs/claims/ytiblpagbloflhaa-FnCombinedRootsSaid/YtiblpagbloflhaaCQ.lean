/- Contracts: values and polar values of forms, forms with a matrix substituted, also where products leave the machine's range and the sum comes back. -/
import Derived.Test.YtiblpagbloflhaaH
import Derived.Test.YtiblpagbloflhaaIV
import Derived.Test.YtiblpagbloflhaaBK
namespace Go.Proofs.Ytiblpagbloflhaa
set_option linter.unusedVariables false
open Go.ChangeShapes Go.WideShapes Go.ChangeAt Go.RowKit

def fV (a b c x y : Int) : Int := a * x * x + b * x * y + c * y * y
def fP (a b c x y u v : Int) : Int := 2 * a * x * u + b * (x * v + y * u) + 2 * c * y * v
/-- the machine's integer is the integer, up to a multiple -/
theorem wr_mul (u : Int) : ∃ k, wrap64 u = u + 18446744073709551616 * k := by
  refine ⟨-((u + 9223372036854775808) / 18446744073709551616), ?_⟩
  unfold wrap64
  omega
theorem wr_eq {u r k : Int} (h : u = r + 18446744073709551616 * k) (h1 : -9223372036854775808 ≤ r) (h2 : r ≤ 9223372036854775807) : wrap64 u = r := by
  unfold wrap64
  omega
theorem at_wrap {a b c x y r : Int} (h : fV a b c x y = r) (h1 : -9223372036854775808 ≤ r) (h2 : r ≤ 9223372036854775807) :
    wrap64 (wrap64 (wrap64 (wrap64 (a * x) * x) + wrap64 (wrap64 (b * x) * y)) + wrap64 (wrap64 (c * y) * y)) = r := by
  obtain ⟨k1, e1⟩ := wr_mul (a * x)
  obtain ⟨k2, e2⟩ := wr_mul (b * x)
  obtain ⟨k3, e3⟩ := wr_mul (c * y)
  rw [e1, e2, e3]
  obtain ⟨k4, e4⟩ := wr_mul ((a * x + 18446744073709551616 * k1) * x)
  obtain ⟨k5, e5⟩ := wr_mul ((b * x + 18446744073709551616 * k2) * y)
  obtain ⟨k6, e6⟩ := wr_mul ((c * y + 18446744073709551616 * k3) * y)
  rw [e4, e5, e6]
  obtain ⟨k7, e7⟩ := wr_mul (((a * x + 18446744073709551616 * k1) * x + 18446744073709551616 * k4) + ((b * x + 18446744073709551616 * k2) * y + 18446744073709551616 * k5))
  rw [e7]
  refine wr_eq (k := k1 * x + k4 + k2 * y + k5 + k7 + k3 * y + k6) ?_ h1 h2
  rw [← h]
  unfold fV
  grind
theorem pol_wrap {a b c x y u v r : Int} (h : fP a b c x y u v = r) (h1 : -9223372036854775808 ≤ r) (h2 : r ≤ 9223372036854775807) :
    wrap64 (wrap64 (wrap64 (wrap64 (2 * a * x) * u) + wrap64 (b * wrap64 (wrap64 (x * v) + wrap64 (y * u)))) + wrap64 (wrap64 (2 * c * y) * v)) = r := by
  obtain ⟨k1, e1⟩ := wr_mul (2 * a * x)
  obtain ⟨k2, e2⟩ := wr_mul (x * v)
  obtain ⟨k3, e3⟩ := wr_mul (y * u)
  obtain ⟨k4, e4⟩ := wr_mul (2 * c * y)
  rw [e1, e2, e3, e4]
  obtain ⟨k5, e5⟩ := wr_mul ((2 * a * x + 18446744073709551616 * k1) * u)
  obtain ⟨k6, e6⟩ := wr_mul (x * v + 18446744073709551616 * k2 + (y * u + 18446744073709551616 * k3))
  obtain ⟨k7, e7⟩ := wr_mul ((2 * c * y + 18446744073709551616 * k4) * v)
  rw [e5, e6, e7]
  obtain ⟨k8, e8⟩ := wr_mul (b * (x * v + 18446744073709551616 * k2 + (y * u + 18446744073709551616 * k3) + 18446744073709551616 * k6))
  rw [e8]
  obtain ⟨k9, e9⟩ := wr_mul ((2 * a * x + 18446744073709551616 * k1) * u + 18446744073709551616 * k5 + (b * (x * v + 18446744073709551616 * k2 + (y * u + 18446744073709551616 * k3) + 18446744073709551616 * k6) + 18446744073709551616 * k8))
  rw [e9]
  refine wr_eq (k := k1 * u + k5 + b * (k2 + k3 + k6) + k8 + k9 + k4 * v + k7) ?_ h1 h2
  rw [← h]
  unfold fP
  grind
theorem spec_foValue_r (a b c x y r : Int) (w : World) (h : good3 a b c = true) (hr : fV a b c x y = r) (h1 : -9223372036854775808 ≤ r) (h2 : r ≤ 9223372036854775807) :
    Calls Try.prog 90 #[.agg #[.int .i64 a, .int .i64 b, .int .i64 c], .int .i64 x, .int .i64 y] w fun e w' => e = .returned (.int .i64 r) ∧ Below w.heap.size w w' := by
  have Hr := Lib.hid (at_wrap hr h1 h2)
  clear h hr h1 h2
  go_enter Try.func90, Try.ntmps90
  go_wp2_with fail
  go_ret
  exact ⟨rint Hr.out, by go_grown⟩
theorem impl_at_r (a b c x y r : Int) (w : World) (h : good3 a b c = true) (hr : fV a b c x y = r) (h1 : -9223372036854775808 ≤ r) (h2 : r ≤ 9223372036854775807) :
    Calls Try.prog 172 #[.agg #[.int .i64 a, .int .i64 b, .int .i64 c], .int .i64 x, .int .i64 y] w fun e w' => e = .returned (.int .i64 r) ∧ Below w.heap.size w w' := by
  have Hr := Lib.hid (at_wrap hr h1 h2)
  clear h hr h1 h2
  go_enter Try.func172, Try.ntmps172
  go_wp2_with fail
  go_ret
  exact ⟨rint Hr.out, by go_grown⟩
theorem spec_foPolar_r (a b c x y u v r : Int) (w : World) (h : good3 a b c = true) (hr : fP a b c x y u v = r) (h1 : -9223372036854775808 ≤ r) (h2 : r ≤ 9223372036854775807) :
    Calls Try.prog 156 #[.agg #[.int .i64 a, .int .i64 b, .int .i64 c], .int .i64 x, .int .i64 y, .int .i64 u, .int .i64 v] w fun e w' => e = .returned (.int .i64 r) ∧ Below w.heap.size w w' := by
  obtain ⟨⟨a1, a2⟩, _, ⟨c1, c2⟩⟩ := good3_iff.1 h
  have Hr := Lib.hid (pol_wrap hr h1 h2)
  clear h hr h1 h2
  go_enter Try.func156, Try.ntmps156
  go_wp2_with fail
  go_ret
  exact ⟨rint Hr.out, by go_grown⟩
theorem impl_polar_r (a b c x y u v r : Int) (w : World) (h : good3 a b c = true) (hr : fP a b c x y u v = r) (h1 : -9223372036854775808 ≤ r) (h2 : r ≤ 9223372036854775807) :
    Calls Try.prog 173 #[.agg #[.int .i64 a, .int .i64 b, .int .i64 c], .int .i64 x, .int .i64 y, .int .i64 u, .int .i64 v] w fun e w' => e = .returned (.int .i64 r) ∧ Below w.heap.size w w' := by
  obtain ⟨⟨a1, a2⟩, _, ⟨c1, c2⟩⟩ := good3_iff.1 h
  have Hr := Lib.hid (pol_wrap hr h1 h2)
  clear h hr h1 h2
  go_enter Try.func173, Try.ntmps173
  go_wp2_with fail
  go_ret
  exact ⟨rint Hr.out, by go_grown⟩
theorem impl_subst_r (a b c p q r s A B C : Int) (w : World) (h : good3 a b c = true) (hA : fV a b c p r = A) (hB : fP a b c p r q s = B) (hC : fV a b c q s = C)
    (A1 : -9223372036854775808 ≤ A) (A2 : A ≤ 9223372036854775807) (B1 : -9223372036854775808 ≤ B) (B2 : B ≤ 9223372036854775807) (C1 : -9223372036854775808 ≤ C) (C2 : C ≤ 9223372036854775807) :
    Calls Try.prog 158 #[.agg #[.int .i64 a, .int .i64 b, .int .i64 c], .agg #[.int .i64 p, .int .i64 q, .int .i64 r, .int .i64 s]] w fun e w' => e = .returned (.agg #[.int .i64 A, .int .i64 B, .int .i64 C]) ∧ Below w.heap.size w w' := by
  have H := Lib.hid h
  clear h
  have HA := Lib.hid hA
  clear hA
  have HB := Lib.hid hB
  clear hB
  have HC := Lib.hid hC
  clear hC
  have HA1 := Lib.hid A1
  have HA2 := Lib.hid A2
  have HB1 := Lib.hid B1
  have HB2 := Lib.hid B2
  have HC1 := Lib.hid C1
  have HC2 := Lib.hid C2
  clear A1 A2 B1 B2 C1 C2
  go_enter Try.func158, Try.ntmps158
  go_wp2_with fail
  refine region_named (fun W hW => ?_)
  have c0 : ∀ x' : Aft W, x'.w.cell? ⟨w.heap.size, 0, none⟩ = some (.int .i64 a) := fun x' => x'.cell (by rw [hW]; simp <;> omega) (by rw [hW]; simp [go_sem])
  have c1 : ∀ x' : Aft W, x'.w.cell? ⟨w.heap.size, 1, none⟩ = some (.int .i64 b) := fun x' => x'.cell (by rw [hW]; simp <;> omega) (by rw [hW]; simp [go_sem])
  have c2 : ∀ x' : Aft W, x'.w.cell? ⟨w.heap.size, 2, none⟩ = some (.int .i64 c) := fun x' => x'.cell (by rw [hW]; simp <;> omega) (by rw [hW]; simp [go_sem])
  have c3 : ∀ x' : Aft W, x'.w.cell? ⟨w.heap.size + 1, 0, none⟩ = some (.int .i64 p) := fun x' => x'.cell (by rw [hW]; simp <;> omega) (by rw [hW]; simp [go_sem])
  have c4 : ∀ x' : Aft W, x'.w.cell? ⟨w.heap.size + 1, 1, none⟩ = some (.int .i64 q) := fun x' => x'.cell (by rw [hW]; simp <;> omega) (by rw [hW]; simp [go_sem])
  have c5 : ∀ x' : Aft W, x'.w.cell? ⟨w.heap.size + 1, 2, none⟩ = some (.int .i64 r) := fun x' => x'.cell (by rw [hW]; simp <;> omega) (by rw [hW]; simp [go_sem])
  have c6 : ∀ x' : Aft W, x'.w.cell? ⟨w.heap.size + 1, 3, none⟩ = some (.int .i64 s) := fun x' => x'.cell (by rw [hW]; simp <;> omega) (by rw [hW]; simp [go_sem])
  have Hw := Lib.hid hW
  clear hW
  refine region_aft_tail 22 (by kernel_rfl) (by kernel_rfl) ?_
  simp only [List.take_succ_cons, List.take_zero, List.drop_succ_cons, List.drop_zero]
  repeat go_big_quiet_step ((first | (go_at_call 172; first | (with_reducible exact callsAft (impl_at_r _ _ _ _ _ A _ H.out HA.out HA1.out HA2.out)) | (with_reducible exact callsAft (impl_at_r _ _ _ _ _ C _ H.out HC.out HC1.out HC2.out))) | (go_at_call 173; exact callsAft (impl_polar_r _ _ _ _ _ _ _ B _ H.out HB.out HB1.out HB2.out))))
  refine wpQuiet_nil ?_
  clear c0 c1 c2 c3 c4 c5 c6
  intro w1 hb1
  obtain rfl := Hw.out
  clear Hw
  have hB1 : Below w.heap.size w w1 := Below.after (by go_grown) hb1
  obtain ⟨hc1, hf1⟩ := bcell hb1
  have hy1 := hb1.size
  try simp at hy1
  first | (with_reducible have hx1 := Nat.lt_of_succ_le hy1) | skip
  first | (with_reducible have hv1 := Nat.lt_of_succ_lt hx1) | skip
  first | (with_reducible have hu1 := Nat.lt_of_succ_lt hv1) | skip
  first | (have hz1 : w.heap.size < w1.heap.size := by omega) | (have hz1 := hB1.size)
  clear hb1
  have z0 : w1.cell? ⟨w.heap.size + 1 + 1, 0, none⟩ = some (.int .i64 0) := (hc1 _ _ (by first | (simp; done) | (simp; omega))).trans (by simp [go_sem])
  have z1 : w1.cell? ⟨w.heap.size + 1 + 1, 1, none⟩ = some (.int .i64 0) := (hc1 _ _ (by first | (simp; done) | (simp; omega))).trans (by simp [go_sem])
  have z2 : w1.cell? ⟨w.heap.size + 1 + 1, 2, none⟩ = some (.int .i64 0) := (hc1 _ _ (by first | (simp; done) | (simp; omega))).trans (by simp [go_sem])
  go_wp2_with fail
  refine bodyPost_ret (v := .agg #[.int .i64 A, .int .i64 B, .int .i64 C]) (by simp [results, Try.results158, go_sem, *] <;> rfl) rfl ⟨rfl, by go_grown⟩
end Go.Proofs.Ytiblpagbloflhaa
