/-
  The readings of this seat's own types, printed by a small program.
-/
import Derived.Test.YtpladpmkpchndaaRead
namespace Go.Proofs.Ytpladpmkpchndaa
open Go.ChangeShapes Go.WideShapes Go.ChangeAt Go.RowKit Go.Deep
set_option linter.unusedSimpArgs false
set_option linter.unusedVariables false

structure DNode where
  parent : Int
  fn : Int
  line : Int
  from_ : Int
  args : Int
  to_ : Int
  resume : Int
def RNode : Rd DNode := fun w B cs x => cs = [.int .i64 x.parent, .int .i64 x.fn, .int .i64 x.line, .int .i64 x.from_, .int .i64 x.args, .int .i64 x.to_, .int .i64 x.resume] ∧ (Lit.int .i64 x.parent).wf = true ∧ (Lit.int .i64 x.fn).wf = true ∧ (Lit.int .i64 x.line).wf = true ∧ (Lit.int .i64 x.from_).wf = true ∧ (Lit.int .i64 x.args).wf = true ∧ (Lit.int .i64 x.to_).wf = true ∧ (Lit.int .i64 x.resume).wf = true
theorem stable_Node : Stable RNode := by
  intro w w' B cs x h hk
  obtain ⟨e, q0, q1, q2, q3, q4, q5, q6⟩ := h
  exact ⟨e, q0, q1, q2, q3, q4, q5, q6⟩
set_option maxRecDepth 100000 in
theorem conv_Node : Conv Try.prog 115 RNode := by
  intro H enc w B fuel cs y h hp hw
  obtain ⟨ys, n, hn, rfl, hcl, hyl, hf⟩ := DataW.trod_struct Try.underlying115 h
  rw [show Try.prog.cellsOf 115 = 7 from by kernel_rfl] at hcl
  obtain ⟨k0, k1, k2, k3, k4, k5, k6, rfl⟩ := len7 hcl
  obtain ⟨y0, y1, y2, y3, y4, y5, y6, rfl⟩ := len7 hyl
  have g0 : DataW.trod enc Try.prog w 0 (fun _ => true) true n 3 [k0] = some y0 := by
    have hk1 : Try.prog.cellsOf 3 = 1 := by kernel_rfl
    have h1 : DataW.trod enc Try.prog w 0 (fun _ => true) true n 3 (List.take (Try.prog.cellsOf 3) (List.drop 0 [k0, k1, k2, k3, k4, k5, k6])) = [y0, y1, y2, y3, y4, y5, y6][0]? := hf 0 _ rfl
    rw [hk1] at h1
    exact h1
  obtain ⟨x0, hx0⟩ := (conv_int Try.underlying3) g0 (fun p hp1 => hp p (by simp [hp1])) (fun m hm => hw m (by simp [DataW.weights, Try.underlying115, DataW.weightsEach, hm]))
  have g1 : DataW.trod enc Try.prog w 0 (fun _ => true) true n 3 [k1] = some y1 := by
    have hk1 : Try.prog.cellsOf 3 = 1 := by kernel_rfl
    have h1 : DataW.trod enc Try.prog w 0 (fun _ => true) true n 3 (List.take (Try.prog.cellsOf 3) (List.drop 1 [k0, k1, k2, k3, k4, k5, k6])) = [y0, y1, y2, y3, y4, y5, y6][1]? := hf 1 _ rfl
    rw [hk1] at h1
    exact h1
  obtain ⟨x1, hx1⟩ := (conv_int Try.underlying3) g1 (fun p hp1 => hp p (by simp [hp1])) (fun m hm => hw m (by simp [DataW.weights, Try.underlying115, DataW.weightsEach, hm]))
  have g2 : DataW.trod enc Try.prog w 0 (fun _ => true) true n 3 [k2] = some y2 := by
    have hk1 : Try.prog.cellsOf 3 = 1 := by kernel_rfl
    have h1 : DataW.trod enc Try.prog w 0 (fun _ => true) true n 3 (List.take (Try.prog.cellsOf 3) (List.drop 2 [k0, k1, k2, k3, k4, k5, k6])) = [y0, y1, y2, y3, y4, y5, y6][2]? := hf 2 _ rfl
    rw [hk1] at h1
    exact h1
  obtain ⟨x2, hx2⟩ := (conv_int Try.underlying3) g2 (fun p hp1 => hp p (by simp [hp1])) (fun m hm => hw m (by simp [DataW.weights, Try.underlying115, DataW.weightsEach, hm]))
  have g3 : DataW.trod enc Try.prog w 0 (fun _ => true) true n 3 [k3] = some y3 := by
    have hk1 : Try.prog.cellsOf 3 = 1 := by kernel_rfl
    have h1 : DataW.trod enc Try.prog w 0 (fun _ => true) true n 3 (List.take (Try.prog.cellsOf 3) (List.drop 3 [k0, k1, k2, k3, k4, k5, k6])) = [y0, y1, y2, y3, y4, y5, y6][3]? := hf 3 _ rfl
    rw [hk1] at h1
    exact h1
  obtain ⟨x3, hx3⟩ := (conv_int Try.underlying3) g3 (fun p hp1 => hp p (by simp [hp1])) (fun m hm => hw m (by simp [DataW.weights, Try.underlying115, DataW.weightsEach, hm]))
  have g4 : DataW.trod enc Try.prog w 0 (fun _ => true) true n 3 [k4] = some y4 := by
    have hk1 : Try.prog.cellsOf 3 = 1 := by kernel_rfl
    have h1 : DataW.trod enc Try.prog w 0 (fun _ => true) true n 3 (List.take (Try.prog.cellsOf 3) (List.drop 4 [k0, k1, k2, k3, k4, k5, k6])) = [y0, y1, y2, y3, y4, y5, y6][4]? := hf 4 _ rfl
    rw [hk1] at h1
    exact h1
  obtain ⟨x4, hx4⟩ := (conv_int Try.underlying3) g4 (fun p hp1 => hp p (by simp [hp1])) (fun m hm => hw m (by simp [DataW.weights, Try.underlying115, DataW.weightsEach, hm]))
  have g5 : DataW.trod enc Try.prog w 0 (fun _ => true) true n 3 [k5] = some y5 := by
    have hk1 : Try.prog.cellsOf 3 = 1 := by kernel_rfl
    have h1 : DataW.trod enc Try.prog w 0 (fun _ => true) true n 3 (List.take (Try.prog.cellsOf 3) (List.drop 5 [k0, k1, k2, k3, k4, k5, k6])) = [y0, y1, y2, y3, y4, y5, y6][5]? := hf 5 _ rfl
    rw [hk1] at h1
    exact h1
  obtain ⟨x5, hx5⟩ := (conv_int Try.underlying3) g5 (fun p hp1 => hp p (by simp [hp1])) (fun m hm => hw m (by simp [DataW.weights, Try.underlying115, DataW.weightsEach, hm]))
  have g6 : DataW.trod enc Try.prog w 0 (fun _ => true) true n 3 [k6] = some y6 := by
    have hk1 : Try.prog.cellsOf 3 = 1 := by kernel_rfl
    have h1 : DataW.trod enc Try.prog w 0 (fun _ => true) true n 3 (List.take (Try.prog.cellsOf 3) (List.drop 6 [k0, k1, k2, k3, k4, k5, k6])) = [y0, y1, y2, y3, y4, y5, y6][6]? := hf 6 _ rfl
    rw [hk1] at h1
    exact h1
  obtain ⟨x6, hx6⟩ := (conv_int Try.underlying3) g6 (fun p hp1 => hp p (by simp [hp1])) (fun m hm => hw m (by simp [DataW.weights, Try.underlying115, DataW.weightsEach, hm]))
  obtain ⟨e0, q0⟩ := hx0
  obtain ⟨e1, q1⟩ := hx1
  obtain ⟨e2, q2⟩ := hx2
  obtain ⟨e3, q3⟩ := hx3
  obtain ⟨e4, q4⟩ := hx4
  obtain ⟨e5, q5⟩ := hx5
  obtain ⟨e6, q6⟩ := hx6
  simp only [List.cons.injEq, and_true] at e0 e1 e2 e3 e4 e5 e6
  subst e0 e1 e2 e3 e4 e5 e6
  exact ⟨⟨x0, x1, x2, x3, x4, x5, x6⟩, rfl, q0, q1, q2, q3, q4, q5, q6⟩

structure DInt3 where
  w0 : Int
  w1 : Int
  w2 : Int
def RInt3 : Rd DInt3 := fun w B cs x => cs = [.int .i64 x.w0, .int .i64 x.w1, .int .i64 x.w2] ∧ (Lit.int .i64 x.w0).wf = true ∧ (Lit.int .i64 x.w1).wf = true ∧ (Lit.int .i64 x.w2).wf = true
theorem stable_Int3 : Stable RInt3 := by
  intro w w' B cs x h hk
  obtain ⟨e, q0, q1, q2⟩ := h
  exact ⟨e, q0, q1, q2⟩
set_option maxRecDepth 100000 in
theorem conv_Int3 : Conv Try.prog 56 RInt3 := by
  intro H enc w B fuel cs y h hp hw
  obtain ⟨ys, n, hn, rfl, hcl, hyl, hf⟩ := DataW.trod_array Try.underlying56 h
  rw [show Try.prog.cellsOf 56 = 3 from by kernel_rfl] at hcl
  obtain ⟨k0, k1, k2, rfl⟩ := len3 hcl
  obtain ⟨y0, y1, y2, rfl⟩ := len3 hyl
  have g0 : DataW.trod enc Try.prog w 0 (fun _ => true) true n 3 [k0] = some y0 := by
    have hk1 : Try.prog.cellsOf 3 = 1 := by kernel_rfl
    have h1 := hf 0 (by omega)
    rw [hk1] at h1
    exact h1
  obtain ⟨x0, hx0⟩ := (conv_int Try.underlying3) g0 (fun p hp1 => hp p (by simp [hp1])) (fun m hm => hw m (by simp [DataW.weights, Try.underlying56, DataW.weightsAll, hm]))
  have g1 : DataW.trod enc Try.prog w 0 (fun _ => true) true n 3 [k1] = some y1 := by
    have hk1 : Try.prog.cellsOf 3 = 1 := by kernel_rfl
    have h1 := hf 1 (by omega)
    rw [hk1] at h1
    exact h1
  obtain ⟨x1, hx1⟩ := (conv_int Try.underlying3) g1 (fun p hp1 => hp p (by simp [hp1])) (fun m hm => hw m (by simp [DataW.weights, Try.underlying56, DataW.weightsAll, hm]))
  have g2 : DataW.trod enc Try.prog w 0 (fun _ => true) true n 3 [k2] = some y2 := by
    have hk1 : Try.prog.cellsOf 3 = 1 := by kernel_rfl
    have h1 := hf 2 (by omega)
    rw [hk1] at h1
    exact h1
  obtain ⟨x2, hx2⟩ := (conv_int Try.underlying3) g2 (fun p hp1 => hp p (by simp [hp1])) (fun m hm => hw m (by simp [DataW.weights, Try.underlying56, DataW.weightsAll, hm]))
  obtain ⟨e0, q0⟩ := hx0
  obtain ⟨e1, q1⟩ := hx1
  obtain ⟨e2, q2⟩ := hx2
  simp only [List.cons.injEq, and_true] at e0 e1 e2
  subst e0 e1 e2
  exact ⟨⟨x0, x1, x2⟩, rfl, q0, q1, q2⟩

structure DInstr where
  op : Int
  a : Int
def RInstr : Rd DInstr := fun w B cs x => cs = [.int .i64 x.op, .int .i64 x.a] ∧ (Lit.int .i64 x.op).wf = true ∧ (Lit.int .i64 x.a).wf = true
theorem stable_Instr : Stable RInstr := by
  intro w w' B cs x h hk
  obtain ⟨e, q0, q1⟩ := h
  exact ⟨e, q0, q1⟩
set_option maxRecDepth 100000 in
theorem conv_Instr : Conv Try.prog 117 RInstr := by
  intro H enc w B fuel cs y h hp hw
  obtain ⟨ys, n, hn, rfl, hcl, hyl, hf⟩ := DataW.trod_struct Try.underlying117 h
  rw [show Try.prog.cellsOf 117 = 2 from by kernel_rfl] at hcl
  obtain ⟨k0, k1, rfl⟩ := len2 hcl
  obtain ⟨y0, y1, rfl⟩ := len2 hyl
  have g0 : DataW.trod enc Try.prog w 0 (fun _ => true) true n 85 [k0] = some y0 := by
    have hk1 : Try.prog.cellsOf 85 = 1 := by kernel_rfl
    have h1 : DataW.trod enc Try.prog w 0 (fun _ => true) true n 85 (List.take (Try.prog.cellsOf 85) (List.drop 0 [k0, k1])) = [y0, y1][0]? := hf 0 _ rfl
    rw [hk1] at h1
    exact h1
  obtain ⟨x0, hx0⟩ := (conv_int Try.underlying85) g0 (fun p hp1 => hp p (by simp [hp1])) (fun m hm => hw m (by simp [DataW.weights, Try.underlying117, DataW.weightsEach, hm]))
  have g1 : DataW.trod enc Try.prog w 0 (fun _ => true) true n 3 [k1] = some y1 := by
    have hk1 : Try.prog.cellsOf 3 = 1 := by kernel_rfl
    have h1 : DataW.trod enc Try.prog w 0 (fun _ => true) true n 3 (List.take (Try.prog.cellsOf 3) (List.drop 1 [k0, k1])) = [y0, y1][1]? := hf 1 _ rfl
    rw [hk1] at h1
    exact h1
  obtain ⟨x1, hx1⟩ := (conv_int Try.underlying3) g1 (fun p hp1 => hp p (by simp [hp1])) (fun m hm => hw m (by simp [DataW.weights, Try.underlying117, DataW.weightsEach, hm]))
  obtain ⟨e0, q0⟩ := hx0
  obtain ⟨e1, q1⟩ := hx1
  simp only [List.cons.injEq, and_true] at e0 e1
  subst e0 e1
  exact ⟨⟨x0, x1⟩, rfl, q0, q1⟩
end Go.Proofs.Ytpladpmkpchndaa
