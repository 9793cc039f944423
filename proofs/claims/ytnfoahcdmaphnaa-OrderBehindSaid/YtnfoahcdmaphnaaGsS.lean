/-
  The readings of this seat's own types, printed by a small program.
-/
import Derived.Test.YtnfoahcdmaphnaaRead
namespace Go.Proofs.Ytnfoahcdmaphnaa
open Go.ChangeShapes Go.WideShapes Go.ChangeAt Go.RowKit Go.Deep
set_option linter.unusedSimpArgs false
set_option linter.unusedVariables false

structure DSite where
  fn : Int
  pc : Int
def RSite : Rd DSite := fun w B cs x => cs = [.int .i64 x.fn, .int .i64 x.pc] ∧ (Lit.int .i64 x.fn).wf = true ∧ (Lit.int .i64 x.pc).wf = true
theorem stable_Site : Stable RSite := by
  intro w w' B cs x h hk
  obtain ⟨e, q0, q1⟩ := h
  exact ⟨e, q0, q1⟩
set_option maxRecDepth 100000 in
theorem conv_Site : Conv Try.prog 46 RSite := by
  intro H enc w B fuel cs y h hp hw
  obtain ⟨ys, n, hn, rfl, hcl, hyl, hf⟩ := DataW.trod_struct Try.underlying46 h
  rw [show Try.prog.cellsOf 46 = 2 from by kernel_rfl] at hcl
  obtain ⟨k0, k1, rfl⟩ := len2 hcl
  obtain ⟨y0, y1, rfl⟩ := len2 hyl
  have g0 : DataW.trod enc Try.prog w 0 (fun _ => true) true n 3 [k0] = some y0 := by
    have hk1 : Try.prog.cellsOf 3 = 1 := by kernel_rfl
    have h1 : DataW.trod enc Try.prog w 0 (fun _ => true) true n 3 (List.take (Try.prog.cellsOf 3) (List.drop 0 [k0, k1])) = [y0, y1][0]? := hf 0 _ rfl
    rw [hk1] at h1
    exact h1
  obtain ⟨x0, hx0⟩ := (conv_int Try.underlying3) g0 (fun p hp1 => hp p (by simp [hp1])) (fun m hm => hw m (by simp [DataW.weights, Try.underlying46, DataW.weightsEach, hm]))
  have g1 : DataW.trod enc Try.prog w 0 (fun _ => true) true n 3 [k1] = some y1 := by
    have hk1 : Try.prog.cellsOf 3 = 1 := by kernel_rfl
    have h1 : DataW.trod enc Try.prog w 0 (fun _ => true) true n 3 (List.take (Try.prog.cellsOf 3) (List.drop 1 [k0, k1])) = [y0, y1][1]? := hf 1 _ rfl
    rw [hk1] at h1
    exact h1
  obtain ⟨x1, hx1⟩ := (conv_int Try.underlying3) g1 (fun p hp1 => hp p (by simp [hp1])) (fun m hm => hw m (by simp [DataW.weights, Try.underlying46, DataW.weightsEach, hm]))
  obtain ⟨e0, q0⟩ := hx0
  obtain ⟨e1, q1⟩ := hx1
  simp only [List.cons.injEq, and_true] at e0 e1
  subst e0 e1
  exact ⟨⟨x0, x1⟩, rfl, q0, q1⟩
end Go.Proofs.Ytnfoahcdmaphnaa
