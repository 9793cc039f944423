/-
  The readings of this seat's own types, printed by a small program.
-/
import Derived.Test.YthddhipmmhihlaaRead
namespace Go.Proofs.Ythddhipmmhihlaa
open Go.ChangeShapes Go.WideShapes Go.ChangeAt Go.RowKit Go.Deep
set_option linter.unusedSimpArgs false
set_option linter.unusedVariables false

structure DFour where
  k : Int
  n : Int
  re : Int
  im : Int
def RFour : Rd DFour := fun w B cs x => cs = [.int .i64 x.k, .int .i64 x.n, .int .i64 x.re, .int .i64 x.im] ∧ (Lit.int .i64 x.k).wf = true ∧ (Lit.int .i64 x.n).wf = true ∧ (Lit.int .i64 x.re).wf = true ∧ (Lit.int .i64 x.im).wf = true
theorem stable_Four : Stable RFour := by
  intro w w' B cs x h hk
  obtain ⟨e, q0, q1, q2, q3⟩ := h
  exact ⟨e, q0, q1, q2, q3⟩
set_option maxRecDepth 100000 in
theorem conv_Four : Conv Try.prog 40 RFour := by
  intro H enc w B fuel cs y h hp hw
  obtain ⟨ys, n, hn, rfl, hcl, hyl, hf⟩ := DataW.trod_struct Try.underlying40 h
  rw [show Try.prog.cellsOf 40 = 4 from by kernel_rfl] at hcl
  obtain ⟨k0, k1, k2, k3, rfl⟩ := len4 hcl
  obtain ⟨y0, y1, y2, y3, rfl⟩ := len4 hyl
  have g0 : DataW.trod enc Try.prog w 0 (fun _ => true) true n 38 [k0] = some y0 := by
    have hk1 : Try.prog.cellsOf 38 = 1 := by kernel_rfl
    have h1 : DataW.trod enc Try.prog w 0 (fun _ => true) true n 38 (List.take (Try.prog.cellsOf 38) (List.drop 0 [k0, k1, k2, k3])) = [y0, y1, y2, y3][0]? := hf 0 _ rfl
    rw [hk1] at h1
    exact h1
  obtain ⟨x0, hx0⟩ := (conv_int Try.underlying38) g0 (fun p hp1 => hp p (by simp [hp1])) (fun m hm => hw m (by simp [DataW.weights, Try.underlying40, DataW.weightsEach, hm]))
  have g1 : DataW.trod enc Try.prog w 0 (fun _ => true) true n 3 [k1] = some y1 := by
    have hk1 : Try.prog.cellsOf 3 = 1 := by kernel_rfl
    have h1 : DataW.trod enc Try.prog w 0 (fun _ => true) true n 3 (List.take (Try.prog.cellsOf 3) (List.drop 1 [k0, k1, k2, k3])) = [y0, y1, y2, y3][1]? := hf 1 _ rfl
    rw [hk1] at h1
    exact h1
  obtain ⟨x1, hx1⟩ := (conv_int Try.underlying3) g1 (fun p hp1 => hp p (by simp [hp1])) (fun m hm => hw m (by simp [DataW.weights, Try.underlying40, DataW.weightsEach, hm]))
  have g2 : DataW.trod enc Try.prog w 0 (fun _ => true) true n 3 [k2] = some y2 := by
    have hk1 : Try.prog.cellsOf 3 = 1 := by kernel_rfl
    have h1 : DataW.trod enc Try.prog w 0 (fun _ => true) true n 3 (List.take (Try.prog.cellsOf 3) (List.drop 2 [k0, k1, k2, k3])) = [y0, y1, y2, y3][2]? := hf 2 _ rfl
    rw [hk1] at h1
    exact h1
  obtain ⟨x2, hx2⟩ := (conv_int Try.underlying3) g2 (fun p hp1 => hp p (by simp [hp1])) (fun m hm => hw m (by simp [DataW.weights, Try.underlying40, DataW.weightsEach, hm]))
  have g3 : DataW.trod enc Try.prog w 0 (fun _ => true) true n 3 [k3] = some y3 := by
    have hk1 : Try.prog.cellsOf 3 = 1 := by kernel_rfl
    have h1 : DataW.trod enc Try.prog w 0 (fun _ => true) true n 3 (List.take (Try.prog.cellsOf 3) (List.drop 3 [k0, k1, k2, k3])) = [y0, y1, y2, y3][3]? := hf 3 _ rfl
    rw [hk1] at h1
    exact h1
  obtain ⟨x3, hx3⟩ := (conv_int Try.underlying3) g3 (fun p hp1 => hp p (by simp [hp1])) (fun m hm => hw m (by simp [DataW.weights, Try.underlying40, DataW.weightsEach, hm]))
  obtain ⟨e0, q0⟩ := hx0
  obtain ⟨e1, q1⟩ := hx1
  obtain ⟨e2, q2⟩ := hx2
  obtain ⟨e3, q3⟩ := hx3
  simp only [List.cons.injEq, and_true] at e0 e1 e2 e3
  subst e0 e1 e2 e3
  exact ⟨⟨x0, x1, x2, x3⟩, rfl, q0, q1, q2, q3⟩
end Go.Proofs.Ythddhipmmhihlaa
