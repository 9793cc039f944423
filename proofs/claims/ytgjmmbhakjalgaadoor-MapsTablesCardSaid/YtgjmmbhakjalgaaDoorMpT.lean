/-
  The readings of this seat's own types, printed by a small program.
-/
import Derived.Test.YtgjmmbhakjalgaaDoorRead
namespace Go.Proofs.YtgjmmbhakjalgaaDoor
open Go.ChangeShapes Go.WideShapes Go.ChangeAt Go.RowKit Go.Deep
set_option linter.unusedSimpArgs false
set_option linter.unusedVariables false

structure DSet where
  w0 : Int
  w1 : Int
  w2 : Int
  w3 : Int
def RSet : Rd DSet := fun w B cs x => cs = [.int .u64 x.w0, .int .u64 x.w1, .int .u64 x.w2, .int .u64 x.w3] ∧ (Lit.int .u64 x.w0).wf = true ∧ (Lit.int .u64 x.w1).wf = true ∧ (Lit.int .u64 x.w2).wf = true ∧ (Lit.int .u64 x.w3).wf = true
theorem stable_Set : Stable RSet := by
  intro w w' B cs x h hk
  obtain ⟨e, q0, q1, q2, q3⟩ := h
  exact ⟨e, q0, q1, q2, q3⟩
set_option maxRecDepth 100000 in
theorem conv_Set : Conv Tryd.prog 27 RSet := by
  intro H enc w B fuel cs y h hp hw
  obtain ⟨ys, n, hn, rfl, hcl, hyl, hf⟩ := DataW.trod_array Tryd.underlying27 h
  rw [show Tryd.prog.cellsOf 27 = 4 from by kernel_rfl] at hcl
  obtain ⟨k0, k1, k2, k3, rfl⟩ := len4 hcl
  obtain ⟨y0, y1, y2, y3, rfl⟩ := len4 hyl
  have g0 : DataW.trod enc Tryd.prog w 0 (fun _ => true) true n 25 [k0] = some y0 := by
    have hk1 : Tryd.prog.cellsOf 25 = 1 := by kernel_rfl
    have h1 := hf 0 (by omega)
    rw [hk1] at h1
    exact h1
  obtain ⟨x0, hx0⟩ := (conv_int Tryd.underlying25) g0 (fun p hp1 => hp p (by simp [hp1])) (fun m hm => hw m (by simp [DataW.weights, Tryd.underlying27, DataW.weightsAll, hm]))
  have g1 : DataW.trod enc Tryd.prog w 0 (fun _ => true) true n 25 [k1] = some y1 := by
    have hk1 : Tryd.prog.cellsOf 25 = 1 := by kernel_rfl
    have h1 := hf 1 (by omega)
    rw [hk1] at h1
    exact h1
  obtain ⟨x1, hx1⟩ := (conv_int Tryd.underlying25) g1 (fun p hp1 => hp p (by simp [hp1])) (fun m hm => hw m (by simp [DataW.weights, Tryd.underlying27, DataW.weightsAll, hm]))
  have g2 : DataW.trod enc Tryd.prog w 0 (fun _ => true) true n 25 [k2] = some y2 := by
    have hk1 : Tryd.prog.cellsOf 25 = 1 := by kernel_rfl
    have h1 := hf 2 (by omega)
    rw [hk1] at h1
    exact h1
  obtain ⟨x2, hx2⟩ := (conv_int Tryd.underlying25) g2 (fun p hp1 => hp p (by simp [hp1])) (fun m hm => hw m (by simp [DataW.weights, Tryd.underlying27, DataW.weightsAll, hm]))
  have g3 : DataW.trod enc Tryd.prog w 0 (fun _ => true) true n 25 [k3] = some y3 := by
    have hk1 : Tryd.prog.cellsOf 25 = 1 := by kernel_rfl
    have h1 := hf 3 (by omega)
    rw [hk1] at h1
    exact h1
  obtain ⟨x3, hx3⟩ := (conv_int Tryd.underlying25) g3 (fun p hp1 => hp p (by simp [hp1])) (fun m hm => hw m (by simp [DataW.weights, Tryd.underlying27, DataW.weightsAll, hm]))
  obtain ⟨e0, q0⟩ := hx0
  obtain ⟨e1, q1⟩ := hx1
  obtain ⟨e2, q2⟩ := hx2
  obtain ⟨e3, q3⟩ := hx3
  simp only [List.cons.injEq, and_true] at e0 e1 e2 e3
  subst e0 e1 e2 e3
  exact ⟨⟨x0, x1, x2, x3⟩, rfl, q0, q1, q2, q3⟩
end Go.Proofs.YtgjmmbhakjalgaaDoor
