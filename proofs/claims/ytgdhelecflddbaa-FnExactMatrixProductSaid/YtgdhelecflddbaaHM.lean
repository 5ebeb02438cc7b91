/- The walk of the law on matrix products. -/
import Derived.Test.YtgdhelecflddbaaH
import Derived.Test.YtgdhelecflddbaaRB
namespace Go.Proofs.Ytgdhelecflddbaa
set_option linter.unusedVariables false
open Go.ChangeShapes Go.WideShapes Go.ChangeAt Go.RowKit

theorem walkMP (p q r s x y z u a b c d : Int) (v : Bool) (w : World)
    (hs : ∀ w, Calls Try.prog 34 #[.agg #[.int .i64 p, .int .i64 q, .int .i64 r, .int .i64 s], .agg #[.int .i64 x, .int .i64 y, .int .i64 z, .int .i64 u]] w fun e w' => e = .returned (.tuple #[.agg #[.int .i64 a, .int .i64 b, .int .i64 c, .int .i64 d], .bool v]) ∧ Below w.heap.size w w')
    (hi : ∀ w, Calls Try.prog 36 #[.agg #[.int .i64 p, .int .i64 q, .int .i64 r, .int .i64 s], .agg #[.int .i64 x, .int .i64 y, .int .i64 z, .int .i64 u]] w fun e w' => e = .returned (.tuple #[.agg #[.int .i64 a, .int .i64 b, .int .i64 c, .int .i64 d], .bool v]) ∧ Below w.heap.size w w') :
    Calls Try.prog 10 #[.agg #[.int .i64 p, .int .i64 q, .int .i64 r, .int .i64 s], .agg #[.int .i64 x, .int .i64 y, .int .i64 z, .int .i64 u]] w fun e w' => e = .returned (.bool true) ∧ Below w.heap.size w w' := by
  have Hs := Lib.hid hs
  clear hs
  have Hi := Lib.hid hi
  clear hi
  go_enter Try.func10, Try.ntmps10
  go_wp2_with fail
  refine region_named (fun W hW => ?_)
  have hB0 : Below w.heap.size w W := by rw [hW]; go_grown
  have hs0 : w.heap.size + 1 < W.heap.size := by rw [hW]; first | (simp; done) | (simp; omega)
  have c0 : ∀ x' : Aft W, x'.w.cell? ⟨w.heap.size, 0, none⟩ = some (.int .i64 p) := fun x' => x'.cell (by rw [hW]; simp <;> omega) (by rw [hW]; simp)
  have c1 : ∀ x' : Aft W, x'.w.cell? ⟨w.heap.size, 1, none⟩ = some (.int .i64 q) := fun x' => x'.cell (by rw [hW]; simp <;> omega) (by rw [hW]; simp)
  have c2 : ∀ x' : Aft W, x'.w.cell? ⟨w.heap.size, 2, none⟩ = some (.int .i64 r) := fun x' => x'.cell (by rw [hW]; simp <;> omega) (by rw [hW]; simp)
  have c3 : ∀ x' : Aft W, x'.w.cell? ⟨w.heap.size, 3, none⟩ = some (.int .i64 s) := fun x' => x'.cell (by rw [hW]; simp <;> omega) (by rw [hW]; simp)
  have c4 : ∀ x' : Aft W, x'.w.cell? ⟨w.heap.size + 1, 0, none⟩ = some (.int .i64 x) := fun x' => x'.cell (by rw [hW]; simp <;> omega) (by rw [hW]; simp)
  have c5 : ∀ x' : Aft W, x'.w.cell? ⟨w.heap.size + 1, 1, none⟩ = some (.int .i64 y) := fun x' => x'.cell (by rw [hW]; simp <;> omega) (by rw [hW]; simp)
  have c6 : ∀ x' : Aft W, x'.w.cell? ⟨w.heap.size + 1, 2, none⟩ = some (.int .i64 z) := fun x' => x'.cell (by rw [hW]; simp <;> omega) (by rw [hW]; simp)
  have c7 : ∀ x' : Aft W, x'.w.cell? ⟨w.heap.size + 1, 3, none⟩ = some (.int .i64 u) := fun x' => x'.cell (by rw [hW]; simp <;> omega) (by rw [hW]; simp)
  clear hW
  refine region_aft_alloc_late 8 7 9 _ 52 #[.int .i64 0, .int .i64 0, .int .i64 0, .int .i64 0] (by kernel_rfl) (by kernel_rfl) rfl (fun a w => by kernel_rfl) (fun _ _ _ _ _ h => h) ?_
  simp only [List.take_succ_cons, List.take_zero, List.drop_succ_cons, List.drop_zero]
  refine wpMild_step (fun K hK => ?_)
  go_simp
  (refine hK _ ?_; clear hK K)
  refine wpMild_step (fun K hK => ?_)
  go_simp
  apply Exists.intro
  refine ⟨fun _ => ?_, hK _ ?_⟩
  · exact laws_toMatrix _ _ _ _ _
  clear hK K
  refine wpMild_step (fun K hK => ?_)
  go_simp
  (refine hK _ ?_; clear hK K)
  refine wpMild_step (fun K hK => ?_)
  go_simp
  apply Exists.intro
  refine ⟨fun _ => ?_, hK _ ?_⟩
  · exact laws_toMatrix _ _ _ _ _
  clear hK K
  refine wpMild_step (fun K hK => ?_)
  go_simp
  apply Exists.intro
  refine ⟨fun _ => ?_, hK _ ?_⟩
  · exact Hs.out _
  clear hK K
  refine wpMild_step (fun K hK => ?_)
  go_simp
  (refine hK _ ?_; clear hK K)
  refine wpMild_step (fun K hK => ?_)
  go_simp
  (refine hK _ ?_; clear hK K)
  refine wpMild_step (fun K hK => ?_)
  go_simp
  (refine hK _ ?_; clear hK K)
  refine wpMild_nil ?_
  intro g w1 hg1 hg2 hg3 hb1
  have k0 := made_cell (j := 0) hg3 rfl
  have k1 := made_cell (j := 1) hg3 rfl
  have k2 := made_cell (j := 2) hg3 rfl
  have k3 := made_cell (j := 3) hg3 rfl
  have f0 := made_free (j := 0) hg3
  have f1 := made_free (j := 1) hg3
  have f2 := made_free (j := 2) hg3
  have f3 := made_free (j := 3) hg3
  clear hg3
  go_wp2_with fail
  refine region_named (fun W2 hW2 => ?_)
  have hb2 : Below W.heap.size W W2 := by rw [hW2]; go_grown
  have hz2 : w1.heap.size = W2.heap.size := by rw [hW2]; simp
  have m0 : W2.cell? ⟨g, 0, none⟩ = some (.int .i64 a) := by rw [hW2]; simp [go_sem, k0]
  have m1 : W2.cell? ⟨g, 1, none⟩ = some (.int .i64 b) := by rw [hW2]; simp [go_sem, k1]
  have m2 : W2.cell? ⟨g, 2, none⟩ = some (.int .i64 c) := by rw [hW2]; simp [go_sem, k2]
  have m3 : W2.cell? ⟨g, 3, none⟩ = some (.int .i64 d) := by rw [hW2]; simp [go_sem, k3]
  clear hW2 k0 k1 k2 k3 f0 f1 f2 f3 hb1
  have e0 : ∀ x' : Aft W2, x'.w.cell? ⟨w.heap.size, 0, none⟩ = some (.int .i64 p) := fun x' => x'.cell (by omega) (c0 ⟨W2, hb2⟩)
  have e1 : ∀ x' : Aft W2, x'.w.cell? ⟨w.heap.size, 1, none⟩ = some (.int .i64 q) := fun x' => x'.cell (by omega) (c1 ⟨W2, hb2⟩)
  have e2 : ∀ x' : Aft W2, x'.w.cell? ⟨w.heap.size, 2, none⟩ = some (.int .i64 r) := fun x' => x'.cell (by omega) (c2 ⟨W2, hb2⟩)
  have e3 : ∀ x' : Aft W2, x'.w.cell? ⟨w.heap.size, 3, none⟩ = some (.int .i64 s) := fun x' => x'.cell (by omega) (c3 ⟨W2, hb2⟩)
  have e4 : ∀ x' : Aft W2, x'.w.cell? ⟨w.heap.size + 1, 0, none⟩ = some (.int .i64 x) := fun x' => x'.cell (by omega) (c4 ⟨W2, hb2⟩)
  have e5 : ∀ x' : Aft W2, x'.w.cell? ⟨w.heap.size + 1, 1, none⟩ = some (.int .i64 y) := fun x' => x'.cell (by omega) (c5 ⟨W2, hb2⟩)
  have e6 : ∀ x' : Aft W2, x'.w.cell? ⟨w.heap.size + 1, 2, none⟩ = some (.int .i64 z) := fun x' => x'.cell (by omega) (c6 ⟨W2, hb2⟩)
  have e7 : ∀ x' : Aft W2, x'.w.cell? ⟨w.heap.size + 1, 3, none⟩ = some (.int .i64 u) := fun x' => x'.cell (by omega) (c7 ⟨W2, hb2⟩)
  clear c0 c1 c2 c3 c4 c5 c6 c7
  refine region_aft_alloc_late 8 7 9 _ 52 #[.int .i64 0, .int .i64 0, .int .i64 0, .int .i64 0] (by kernel_rfl) (by kernel_rfl) rfl (fun a w => by kernel_rfl) (fun _ _ _ _ _ h => h) ?_
  simp only [List.take_succ_cons, List.take_zero, List.drop_succ_cons, List.drop_zero]
  refine wpMild_step (fun K hK => ?_)
  go_simp
  (refine hK _ ?_; clear hK K)
  refine wpMild_step (fun K hK => ?_)
  go_simp
  apply Exists.intro
  refine ⟨fun _ => ?_, hK _ ?_⟩
  · exact laws_toMatrix _ _ _ _ _
  clear hK K
  refine wpMild_step (fun K hK => ?_)
  go_simp
  (refine hK _ ?_; clear hK K)
  refine wpMild_step (fun K hK => ?_)
  go_simp
  apply Exists.intro
  refine ⟨fun _ => ?_, hK _ ?_⟩
  · exact laws_toMatrix _ _ _ _ _
  clear hK K
  refine wpMild_step (fun K hK => ?_)
  go_simp
  apply Exists.intro
  refine ⟨fun _ => ?_, hK _ ?_⟩
  · exact Hi.out _
  clear hK K
  refine wpMild_step (fun K hK => ?_)
  go_simp
  (refine hK _ ?_; clear hK K)
  refine wpMild_step (fun K hK => ?_)
  go_simp
  (refine hK _ ?_; clear hK K)
  refine wpMild_step (fun K hK => ?_)
  go_simp
  (refine hK _ ?_; clear hK K)
  refine wpMild_nil ?_
  intro g2 w3 hg4 hg5 hg6 hb3
  have k0 := made_cell (j := 0) hg6 rfl
  have k1 := made_cell (j := 1) hg6 rfl
  have k2 := made_cell (j := 2) hg6 rfl
  have k3 := made_cell (j := 3) hg6 rfl
  have f0 := made_free (j := 0) hg6
  have f1 := made_free (j := 1) hg6
  have f2 := made_free (j := 2) hg6
  have f3 := made_free (j := 3) hg6
  have n0 := (hb3.cell (p := ⟨g, 0, none⟩) (by show g < _; omega)).trans m0
  have n1 := (hb3.cell (p := ⟨g, 1, none⟩) (by show g < _; omega)).trans m1
  have n2 := (hb3.cell (p := ⟨g, 2, none⟩) (by show g < _; omega)).trans m2
  have n3 := (hb3.cell (p := ⟨g, 3, none⟩) (by show g < _; omega)).trans m3
  have hne : ¬ g2 = g := by omega
  have hne' : ¬ g = g2 := by omega
  have hB3 : Below w.heap.size w w3 := (hB0.trans (hb2.mono (by omega))).trans (hb3.mono (by have := hb2.size; omega))
  clear hg6 e0 e1 e2 e3 e4 e5 e6 e7 m0 m1 m2 m3 hb3 hb2 hB0
  go_wp2_with fail
  refine (laws_eqMatrix a b c d _).mono ?_
  rintro e w5 ⟨rfl, hb5⟩
  have hB5 : Below w.heap.size w w5 := Below.after (by go_grown) hb5
  clear hb5
  go_wp2_with fail
  all_goals (try go_ret)
  all_goals exact ⟨rfl, hB5⟩
theorem walkMatrixProduct (p q r s x y z u : Int) (w : World) (wp : (Lit.int .i64 p).wf = true) (wq : (Lit.int .i64 q).wf = true) (wr : (Lit.int .i64 r).wf = true) (ws : (Lit.int .i64 s).wf = true) (wx : (Lit.int .i64 x).wf = true) (wy : (Lit.int .i64 y).wf = true) (wz : (Lit.int .i64 z).wf = true) (wu : (Lit.int .i64 u).wf = true) :
    Calls Try.prog 10 #[.agg #[.int .i64 p, .int .i64 q, .int .i64 r, .int .i64 s], .agg #[.int .i64 x, .int .i64 y, .int .i64 z, .int .i64 u]] w fun e w' => e = .returned (.bool true) ∧ Below w.heap.size w w' := by
  by_cases h : good4 p q r s = true ∧ good4 x y z u = true ∧ mgood p q r s x y z u = true
  · exact walkMP _ _ _ _ _ _ _ _ _ _ _ _ _ w (fun w => spec_MatrixProduct_yes p q r s x y z u w h.1 h.2.1 h.2.2) (fun w => impl_MatrixProduct_yes p q r s x y z u w h.1 h.2.1 h.2.2)
  · exact walkMP _ _ _ _ _ _ _ _ _ _ _ _ _ w (fun w => spec_MatrixProduct_no p q r s x y z u w h) (fun w => impl_MatrixProduct_no p q r s x y z u w h)
end Go.Proofs.Ytgdhelecflddbaa
