/-
  The readings of this seat's own types, printed by a small program.
-/
import Derived.Test.YtpladpmkpchndaaRead
namespace Go.Proofs.Ytpladpmkpchndaa
open Go.ChangeShapes Go.WideShapes Go.ChangeAt Go.RowKit Go.Deep
set_option linter.unusedSimpArgs false
set_option linter.unusedVariables false

structure DStep where
  op : Int
  re : Int
  im : Int
def RStep : Rd DStep := fun w B cs x => cs = [.int .i64 x.op, .int .i64 x.re, .int .i64 x.im] ∧ (Lit.int .i64 x.op).wf = true ∧ (Lit.int .i64 x.re).wf = true ∧ (Lit.int .i64 x.im).wf = true
theorem stable_Step : Stable RStep := by
  intro w w' B cs x h hk
  obtain ⟨e, q0, q1, q2⟩ := h
  exact ⟨e, q0, q1, q2⟩
set_option maxRecDepth 100000 in
theorem conv_Step : Conv Try.prog 87 RStep := by
  intro H enc w B fuel cs y h hp hw
  obtain ⟨ys, n, hn, rfl, hcl, hyl, hf⟩ := DataW.trod_struct Try.underlying87 h
  rw [show Try.prog.cellsOf 87 = 3 from by kernel_rfl] at hcl
  obtain ⟨k0, k1, k2, rfl⟩ := len3 hcl
  obtain ⟨y0, y1, y2, rfl⟩ := len3 hyl
  have g0 : DataW.trod enc Try.prog w 0 (fun _ => true) true n 85 [k0] = some y0 := by
    have hk1 : Try.prog.cellsOf 85 = 1 := by kernel_rfl
    have h1 : DataW.trod enc Try.prog w 0 (fun _ => true) true n 85 (List.take (Try.prog.cellsOf 85) (List.drop 0 [k0, k1, k2])) = [y0, y1, y2][0]? := hf 0 _ rfl
    rw [hk1] at h1
    exact h1
  obtain ⟨x0, hx0⟩ := (conv_int Try.underlying85) g0 (fun p hp1 => hp p (by simp [hp1])) (fun m hm => hw m (by simp [DataW.weights, Try.underlying87, DataW.weightsEach, hm]))
  have g1 : DataW.trod enc Try.prog w 0 (fun _ => true) true n 3 [k1] = some y1 := by
    have hk1 : Try.prog.cellsOf 3 = 1 := by kernel_rfl
    have h1 : DataW.trod enc Try.prog w 0 (fun _ => true) true n 3 (List.take (Try.prog.cellsOf 3) (List.drop 1 [k0, k1, k2])) = [y0, y1, y2][1]? := hf 1 _ rfl
    rw [hk1] at h1
    exact h1
  obtain ⟨x1, hx1⟩ := (conv_int Try.underlying3) g1 (fun p hp1 => hp p (by simp [hp1])) (fun m hm => hw m (by simp [DataW.weights, Try.underlying87, DataW.weightsEach, hm]))
  have g2 : DataW.trod enc Try.prog w 0 (fun _ => true) true n 3 [k2] = some y2 := by
    have hk1 : Try.prog.cellsOf 3 = 1 := by kernel_rfl
    have h1 : DataW.trod enc Try.prog w 0 (fun _ => true) true n 3 (List.take (Try.prog.cellsOf 3) (List.drop 2 [k0, k1, k2])) = [y0, y1, y2][2]? := hf 2 _ rfl
    rw [hk1] at h1
    exact h1
  obtain ⟨x2, hx2⟩ := (conv_int Try.underlying3) g2 (fun p hp1 => hp p (by simp [hp1])) (fun m hm => hw m (by simp [DataW.weights, Try.underlying87, DataW.weightsEach, hm]))
  obtain ⟨e0, q0⟩ := hx0
  obtain ⟨e1, q1⟩ := hx1
  obtain ⟨e2, q2⟩ := hx2
  simp only [List.cons.injEq, and_true] at e0 e1 e2
  subst e0 e1 e2
  exact ⟨⟨x0, x1, x2⟩, rfl, q0, q1, q2⟩

structure DInt2 where
  w0 : Int
  w1 : Int
def RInt2 : Rd DInt2 := fun w B cs x => cs = [.int .i64 x.w0, .int .i64 x.w1] ∧ (Lit.int .i64 x.w0).wf = true ∧ (Lit.int .i64 x.w1).wf = true
theorem stable_Int2 : Stable RInt2 := by
  intro w w' B cs x h hk
  obtain ⟨e, q0, q1⟩ := h
  exact ⟨e, q0, q1⟩
set_option maxRecDepth 100000 in
theorem conv_Int2 : Conv Try.prog 92 RInt2 := by
  intro H enc w B fuel cs y h hp hw
  obtain ⟨ys, n, hn, rfl, hcl, hyl, hf⟩ := DataW.trod_array Try.underlying92 h
  rw [show Try.prog.cellsOf 92 = 2 from by kernel_rfl] at hcl
  obtain ⟨k0, k1, rfl⟩ := len2 hcl
  obtain ⟨y0, y1, rfl⟩ := len2 hyl
  have g0 : DataW.trod enc Try.prog w 0 (fun _ => true) true n 3 [k0] = some y0 := by
    have hk1 : Try.prog.cellsOf 3 = 1 := by kernel_rfl
    have h1 := hf 0 (by omega)
    rw [hk1] at h1
    exact h1
  obtain ⟨x0, hx0⟩ := (conv_int Try.underlying3) g0 (fun p hp1 => hp p (by simp [hp1])) (fun m hm => hw m (by simp [DataW.weights, Try.underlying92, DataW.weightsAll, hm]))
  have g1 : DataW.trod enc Try.prog w 0 (fun _ => true) true n 3 [k1] = some y1 := by
    have hk1 : Try.prog.cellsOf 3 = 1 := by kernel_rfl
    have h1 := hf 1 (by omega)
    rw [hk1] at h1
    exact h1
  obtain ⟨x1, hx1⟩ := (conv_int Try.underlying3) g1 (fun p hp1 => hp p (by simp [hp1])) (fun m hm => hw m (by simp [DataW.weights, Try.underlying92, DataW.weightsAll, hm]))
  obtain ⟨e0, q0⟩ := hx0
  obtain ⟨e1, q1⟩ := hx1
  simp only [List.cons.injEq, and_true] at e0 e1
  subst e0 e1
  exact ⟨⟨x0, x1⟩, rfl, q0, q1⟩
end Go.Proofs.Ytpladpmkpchndaa
