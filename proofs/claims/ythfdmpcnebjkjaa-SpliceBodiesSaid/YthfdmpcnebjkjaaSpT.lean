/-
  The readings of this seat's own types, printed by a small program.
-/
import Derived.Test.YthfdmpcnebjkjaaRead
namespace Go.Proofs.Ythfdmpcnebjkjaa
open Go.ChangeShapes Go.WideShapes Go.ChangeAt Go.RowKit Go.Deep
set_option linter.unusedSimpArgs false
set_option linter.unusedVariables false

structure DInstr where
  op : Int
  a : Int
def RInstr : Rd DInstr := fun w B cs x => cs = [.int .i64 x.op, .int .i64 x.a] ∧ (Lit.int .i64 x.op).wf = true ∧ (Lit.int .i64 x.a).wf = true
theorem stable_Instr : Stable RInstr := by
  intro w w' B cs x h hk
  obtain ⟨e, q0, q1⟩ := h
  exact ⟨e, q0, q1⟩
set_option maxRecDepth 100000 in
theorem conv_Instr : Conv Try.prog 49 RInstr := by
  intro H enc w B fuel cs y h hp hw
  obtain ⟨ys, n, hn, rfl, hcl, hyl, hf⟩ := DataW.trod_struct Try.underlying49 h
  rw [show Try.prog.cellsOf 49 = 2 from by kernel_rfl] at hcl
  obtain ⟨k0, k1, rfl⟩ := len2 hcl
  obtain ⟨y0, y1, rfl⟩ := len2 hyl
  have g0 : DataW.trod enc Try.prog w 0 (fun _ => true) true n 47 [k0] = some y0 := by
    have hk1 : Try.prog.cellsOf 47 = 1 := by kernel_rfl
    have h1 : DataW.trod enc Try.prog w 0 (fun _ => true) true n 47 (List.take (Try.prog.cellsOf 47) (List.drop 0 [k0, k1])) = [y0, y1][0]? := hf 0 _ rfl
    rw [hk1] at h1
    exact h1
  obtain ⟨x0, hx0⟩ := (conv_int Try.underlying47) g0 (fun p hp1 => hp p (by simp [hp1])) (fun m hm => hw m (by simp [DataW.weights, Try.underlying49, DataW.weightsEach, hm]))
  have g1 : DataW.trod enc Try.prog w 0 (fun _ => true) true n 3 [k1] = some y1 := by
    have hk1 : Try.prog.cellsOf 3 = 1 := by kernel_rfl
    have h1 : DataW.trod enc Try.prog w 0 (fun _ => true) true n 3 (List.take (Try.prog.cellsOf 3) (List.drop 1 [k0, k1])) = [y0, y1][1]? := hf 1 _ rfl
    rw [hk1] at h1
    exact h1
  obtain ⟨x1, hx1⟩ := (conv_int Try.underlying3) g1 (fun p hp1 => hp p (by simp [hp1])) (fun m hm => hw m (by simp [DataW.weights, Try.underlying49, DataW.weightsEach, hm]))
  obtain ⟨e0, q0⟩ := hx0
  obtain ⟨e1, q1⟩ := hx1
  simp only [List.cons.injEq, and_true] at e0 e1
  subst e0 e1
  exact ⟨⟨x0, x1⟩, rfl, q0, q1⟩

structure DNode where
  parent : Int
  fn : Int
  line : Int
  from_ : Int
  args : Int
  to_ : Int
  resume : Int
def RNode : Rd DNode := fun w B cs x => cs = [.int .i64 x.parent, .int .i64 x.fn, .int .i64 x.line, .int .i64 x.from_, .int .i64 x.args, .int .i64 x.to_, .int .i64 x.resume] ∧ (Lit.int .i64 x.parent).wf = true ∧ (Lit.int .i64 x.fn).wf = true ∧ (Lit.int .i64 x.line).wf = true ∧ (Lit.int .i64 x.from_).wf = true ∧ (Lit.int .i64 x.args).wf = true ∧ (Lit.int .i64 x.to_).wf = true ∧ (Lit.int .i64 x.resume).wf = true
theorem stable_Node : Stable RNode := by
  intro w w' B cs x h hk
  obtain ⟨e, q0, q1, q2, q3, q4, q5, q6⟩ := h
  exact ⟨e, q0, q1, q2, q3, q4, q5, q6⟩
set_option maxRecDepth 100000 in
theorem conv_Node : Conv Try.prog 58 RNode := by
  intro H enc w B fuel cs y h hp hw
  obtain ⟨ys, n, hn, rfl, hcl, hyl, hf⟩ := DataW.trod_struct Try.underlying58 h
  rw [show Try.prog.cellsOf 58 = 7 from by kernel_rfl] at hcl
  obtain ⟨k0, k1, k2, k3, k4, k5, k6, rfl⟩ := len7 hcl
  obtain ⟨y0, y1, y2, y3, y4, y5, y6, rfl⟩ := len7 hyl
  have g0 : DataW.trod enc Try.prog w 0 (fun _ => true) true n 3 [k0] = some y0 := by
    have hk1 : Try.prog.cellsOf 3 = 1 := by kernel_rfl
    have h1 : DataW.trod enc Try.prog w 0 (fun _ => true) true n 3 (List.take (Try.prog.cellsOf 3) (List.drop 0 [k0, k1, k2, k3, k4, k5, k6])) = [y0, y1, y2, y3, y4, y5, y6][0]? := hf 0 _ rfl
    rw [hk1] at h1
    exact h1
  obtain ⟨x0, hx0⟩ := (conv_int Try.underlying3) g0 (fun p hp1 => hp p (by simp [hp1])) (fun m hm => hw m (by simp [DataW.weights, Try.underlying58, DataW.weightsEach, hm]))
  have g1 : DataW.trod enc Try.prog w 0 (fun _ => true) true n 3 [k1] = some y1 := by
    have hk1 : Try.prog.cellsOf 3 = 1 := by kernel_rfl
    have h1 : DataW.trod enc Try.prog w 0 (fun _ => true) true n 3 (List.take (Try.prog.cellsOf 3) (List.drop 1 [k0, k1, k2, k3, k4, k5, k6])) = [y0, y1, y2, y3, y4, y5, y6][1]? := hf 1 _ rfl
    rw [hk1] at h1
    exact h1
  obtain ⟨x1, hx1⟩ := (conv_int Try.underlying3) g1 (fun p hp1 => hp p (by simp [hp1])) (fun m hm => hw m (by simp [DataW.weights, Try.underlying58, DataW.weightsEach, hm]))
  have g2 : DataW.trod enc Try.prog w 0 (fun _ => true) true n 3 [k2] = some y2 := by
    have hk1 : Try.prog.cellsOf 3 = 1 := by kernel_rfl
    have h1 : DataW.trod enc Try.prog w 0 (fun _ => true) true n 3 (List.take (Try.prog.cellsOf 3) (List.drop 2 [k0, k1, k2, k3, k4, k5, k6])) = [y0, y1, y2, y3, y4, y5, y6][2]? := hf 2 _ rfl
    rw [hk1] at h1
    exact h1
  obtain ⟨x2, hx2⟩ := (conv_int Try.underlying3) g2 (fun p hp1 => hp p (by simp [hp1])) (fun m hm => hw m (by simp [DataW.weights, Try.underlying58, DataW.weightsEach, hm]))
  have g3 : DataW.trod enc Try.prog w 0 (fun _ => true) true n 3 [k3] = some y3 := by
    have hk1 : Try.prog.cellsOf 3 = 1 := by kernel_rfl
    have h1 : DataW.trod enc Try.prog w 0 (fun _ => true) true n 3 (List.take (Try.prog.cellsOf 3) (List.drop 3 [k0, k1, k2, k3, k4, k5, k6])) = [y0, y1, y2, y3, y4, y5, y6][3]? := hf 3 _ rfl
    rw [hk1] at h1
    exact h1
  obtain ⟨x3, hx3⟩ := (conv_int Try.underlying3) g3 (fun p hp1 => hp p (by simp [hp1])) (fun m hm => hw m (by simp [DataW.weights, Try.underlying58, DataW.weightsEach, hm]))
  have g4 : DataW.trod enc Try.prog w 0 (fun _ => true) true n 3 [k4] = some y4 := by
    have hk1 : Try.prog.cellsOf 3 = 1 := by kernel_rfl
    have h1 : DataW.trod enc Try.prog w 0 (fun _ => true) true n 3 (List.take (Try.prog.cellsOf 3) (List.drop 4 [k0, k1, k2, k3, k4, k5, k6])) = [y0, y1, y2, y3, y4, y5, y6][4]? := hf 4 _ rfl
    rw [hk1] at h1
    exact h1
  obtain ⟨x4, hx4⟩ := (conv_int Try.underlying3) g4 (fun p hp1 => hp p (by simp [hp1])) (fun m hm => hw m (by simp [DataW.weights, Try.underlying58, DataW.weightsEach, hm]))
  have g5 : DataW.trod enc Try.prog w 0 (fun _ => true) true n 3 [k5] = some y5 := by
    have hk1 : Try.prog.cellsOf 3 = 1 := by kernel_rfl
    have h1 : DataW.trod enc Try.prog w 0 (fun _ => true) true n 3 (List.take (Try.prog.cellsOf 3) (List.drop 5 [k0, k1, k2, k3, k4, k5, k6])) = [y0, y1, y2, y3, y4, y5, y6][5]? := hf 5 _ rfl
    rw [hk1] at h1
    exact h1
  obtain ⟨x5, hx5⟩ := (conv_int Try.underlying3) g5 (fun p hp1 => hp p (by simp [hp1])) (fun m hm => hw m (by simp [DataW.weights, Try.underlying58, DataW.weightsEach, hm]))
  have g6 : DataW.trod enc Try.prog w 0 (fun _ => true) true n 3 [k6] = some y6 := by
    have hk1 : Try.prog.cellsOf 3 = 1 := by kernel_rfl
    have h1 : DataW.trod enc Try.prog w 0 (fun _ => true) true n 3 (List.take (Try.prog.cellsOf 3) (List.drop 6 [k0, k1, k2, k3, k4, k5, k6])) = [y0, y1, y2, y3, y4, y5, y6][6]? := hf 6 _ rfl
    rw [hk1] at h1
    exact h1
  obtain ⟨x6, hx6⟩ := (conv_int Try.underlying3) g6 (fun p hp1 => hp p (by simp [hp1])) (fun m hm => hw m (by simp [DataW.weights, Try.underlying58, DataW.weightsEach, hm]))
  obtain ⟨e0, q0⟩ := hx0
  obtain ⟨e1, q1⟩ := hx1
  obtain ⟨e2, q2⟩ := hx2
  obtain ⟨e3, q3⟩ := hx3
  obtain ⟨e4, q4⟩ := hx4
  obtain ⟨e5, q5⟩ := hx5
  obtain ⟨e6, q6⟩ := hx6
  simp only [List.cons.injEq, and_true] at e0 e1 e2 e3 e4 e5 e6
  subst e0 e1 e2 e3 e4 e5 e6
  exact ⟨⟨x0, x1, x2, x3, x4, x5, x6⟩, rfl, q0, q1, q2, q3, q4, q5, q6⟩

structure DSet where
  w0 : Int
  w1 : Int
  w2 : Int
  w3 : Int
def RSet : Rd DSet := fun w B cs x => cs = [.int .u64 x.w0, .int .u64 x.w1, .int .u64 x.w2, .int .u64 x.w3] ∧ (Lit.int .u64 x.w0).wf = true ∧ (Lit.int .u64 x.w1).wf = true ∧ (Lit.int .u64 x.w2).wf = true ∧ (Lit.int .u64 x.w3).wf = true
theorem stable_Set : Stable RSet := by
  intro w w' B cs x h hk
  obtain ⟨e, q0, q1, q2, q3⟩ := h
  exact ⟨e, q0, q1, q2, q3⟩
set_option maxRecDepth 100000 in
theorem conv_Set : Conv Try.prog 81 RSet := by
  intro H enc w B fuel cs y h hp hw
  obtain ⟨ys, n, hn, rfl, hcl, hyl, hf⟩ := DataW.trod_array Try.underlying81 h
  rw [show Try.prog.cellsOf 81 = 4 from by kernel_rfl] at hcl
  obtain ⟨k0, k1, k2, k3, rfl⟩ := len4 hcl
  obtain ⟨y0, y1, y2, y3, rfl⟩ := len4 hyl
  have g0 : DataW.trod enc Try.prog w 0 (fun _ => true) true n 79 [k0] = some y0 := by
    have hk1 : Try.prog.cellsOf 79 = 1 := by kernel_rfl
    have h1 := hf 0 (by omega)
    rw [hk1] at h1
    exact h1
  obtain ⟨x0, hx0⟩ := (conv_int Try.underlying79) g0 (fun p hp1 => hp p (by simp [hp1])) (fun m hm => hw m (by simp [DataW.weights, Try.underlying81, DataW.weightsAll, hm]))
  have g1 : DataW.trod enc Try.prog w 0 (fun _ => true) true n 79 [k1] = some y1 := by
    have hk1 : Try.prog.cellsOf 79 = 1 := by kernel_rfl
    have h1 := hf 1 (by omega)
    rw [hk1] at h1
    exact h1
  obtain ⟨x1, hx1⟩ := (conv_int Try.underlying79) g1 (fun p hp1 => hp p (by simp [hp1])) (fun m hm => hw m (by simp [DataW.weights, Try.underlying81, DataW.weightsAll, hm]))
  have g2 : DataW.trod enc Try.prog w 0 (fun _ => true) true n 79 [k2] = some y2 := by
    have hk1 : Try.prog.cellsOf 79 = 1 := by kernel_rfl
    have h1 := hf 2 (by omega)
    rw [hk1] at h1
    exact h1
  obtain ⟨x2, hx2⟩ := (conv_int Try.underlying79) g2 (fun p hp1 => hp p (by simp [hp1])) (fun m hm => hw m (by simp [DataW.weights, Try.underlying81, DataW.weightsAll, hm]))
  have g3 : DataW.trod enc Try.prog w 0 (fun _ => true) true n 79 [k3] = some y3 := by
    have hk1 : Try.prog.cellsOf 79 = 1 := by kernel_rfl
    have h1 := hf 3 (by omega)
    rw [hk1] at h1
    exact h1
  obtain ⟨x3, hx3⟩ := (conv_int Try.underlying79) g3 (fun p hp1 => hp p (by simp [hp1])) (fun m hm => hw m (by simp [DataW.weights, Try.underlying81, DataW.weightsAll, hm]))
  obtain ⟨e0, q0⟩ := hx0
  obtain ⟨e1, q1⟩ := hx1
  obtain ⟨e2, q2⟩ := hx2
  obtain ⟨e3, q3⟩ := hx3
  simp only [List.cons.injEq, and_true] at e0 e1 e2 e3
  subst e0 e1 e2 e3
  exact ⟨⟨x0, x1, x2, x3⟩, rfl, q0, q1, q2, q3⟩

structure DFunc where
  name : ByteArray
  inner : Bool
  outer : List Int
  params : List Int
  results : List Int
  locals : List Int
  code : List DInstr
  lines : List Int
  nodes : List DNode
  at_ : List Int
  live : List DSet
def RFunc : Rd DFunc := fun w B cs x => ∃ A0 n0 c0, ∃ A1 n1 c1, ∃ A2 n2 c2, ∃ A3 n3 c3, ∃ A4 n4 c4, ∃ A5 n5 c5, ∃ A6 n6 c6, ∃ A7 n7 c7, ∃ A8 n8 c8, cs = [.string x.name, .bool x.inner, .slice A0 n0 c0, .slice A1 n1 c1, .slice A2 n2 c2, .slice A3 n3 c3, .slice A4 n4 c4, .slice A5 n5 c5, .slice A6 n6 c6, .slice A7 n7 c7, .slice A8 n8 c8] ∧ x.name.size ≤ reachBytes ∧ SlR 1 8 (RInt .i64) w B A0 n0 c0 x.outer ∧ SlR 1 8 (RInt .i64) w B A1 n1 c1 x.params ∧ SlR 1 8 (RInt .i64) w B A2 n2 c2 x.results ∧ SlR 1 8 (RInt .i64) w B A3 n3 c3 x.locals ∧ SlR 2 16 RInstr w B A4 n4 c4 x.code ∧ SlR 1 8 (RInt .i64) w B A5 n5 c5 x.lines ∧ SlR 7 56 RNode w B A6 n6 c6 x.nodes ∧ SlR 1 8 (RInt .i64) w B A7 n7 c7 x.at_ ∧ SlR 4 32 RSet w B A8 n8 c8 x.live
theorem stable_Func : Stable RFunc := by
  intro w w' B cs x h hk
  obtain ⟨A0, n0, c0, A1, n1, c1, A2, n2, c2, A3, n3, c3, A4, n4, c4, A5, n5, c5, A6, n6, c6, A7, n7, c7, A8, n8, c8, e, q0, q1, q2, q3, q4, q5, q6, q7, q8, q9⟩ := h
  exact ⟨A0, n0, c0, A1, n1, c1, A2, n2, c2, A3, n3, c3, A4, n4, c4, A5, n5, c5, A6, n6, c6, A7, n7, c7, A8, n8, c8, e, q0, q1.keep (R := (RInt .i64)) (stable_int .i64) hk, q2.keep (R := (RInt .i64)) (stable_int .i64) hk, q3.keep (R := (RInt .i64)) (stable_int .i64) hk, q4.keep (R := (RInt .i64)) (stable_int .i64) hk, q5.keep (R := RInstr) stable_Instr hk, q6.keep (R := (RInt .i64)) (stable_int .i64) hk, q7.keep (R := RNode) stable_Node hk, q8.keep (R := (RInt .i64)) (stable_int .i64) hk, q9.keep (R := RSet) stable_Set hk⟩
set_option maxRecDepth 100000 in
theorem conv_Func : Conv Try.prog 28 RFunc := by
  intro H enc w B fuel cs y h hp hw
  obtain ⟨ys, n, hn, rfl, hcl, hyl, hf⟩ := DataW.trod_struct Try.underlying28 h
  rw [show Try.prog.cellsOf 28 = 11 from by kernel_rfl] at hcl
  obtain ⟨k0, k1, k2, k3, k4, k5, k6, k7, k8, k9, k10, rfl⟩ := len11 hcl
  obtain ⟨y0, y1, y2, y3, y4, y5, y6, y7, y8, y9, y10, rfl⟩ := len11 hyl
  have g0 : DataW.trod enc Try.prog w 0 (fun _ => true) true n 9 [k0] = some y0 := by
    have hk1 : Try.prog.cellsOf 9 = 1 := by kernel_rfl
    have h1 : DataW.trod enc Try.prog w 0 (fun _ => true) true n 9 (List.take (Try.prog.cellsOf 9) (List.drop 0 [k0, k1, k2, k3, k4, k5, k6, k7, k8, k9, k10])) = [y0, y1, y2, y3, y4, y5, y6, y7, y8, y9, y10][0]? := hf 0 _ rfl
    rw [hk1] at h1
    exact h1
  obtain ⟨x0, hx0⟩ := (conv_str Try.underlying9) g0 (fun p hp1 => hp p (by simp [hp1])) (fun m hm => hw m (by simp [DataW.weights, Try.underlying28, DataW.weightsEach, hm]))
  have g1 : DataW.trod enc Try.prog w 0 (fun _ => true) true n 4 [k1] = some y1 := by
    have hk1 : Try.prog.cellsOf 4 = 1 := by kernel_rfl
    have h1 : DataW.trod enc Try.prog w 0 (fun _ => true) true n 4 (List.take (Try.prog.cellsOf 4) (List.drop 1 [k0, k1, k2, k3, k4, k5, k6, k7, k8, k9, k10])) = [y0, y1, y2, y3, y4, y5, y6, y7, y8, y9, y10][1]? := hf 1 _ rfl
    rw [hk1] at h1
    exact h1
  obtain ⟨x1, hx1⟩ := (conv_bool Try.underlying4) g1 (fun p hp1 => hp p (by simp [hp1])) (fun m hm => hw m (by simp [DataW.weights, Try.underlying28, DataW.weightsEach, hm]))
  have g2 : DataW.trod enc Try.prog w 0 (fun _ => true) true n 22 [k2] = some y2 := by
    have hk1 : Try.prog.cellsOf 22 = 1 := by kernel_rfl
    have h1 : DataW.trod enc Try.prog w 0 (fun _ => true) true n 22 (List.take (Try.prog.cellsOf 22) (List.drop 2 [k0, k1, k2, k3, k4, k5, k6, k7, k8, k9, k10])) = [y0, y1, y2, y3, y4, y5, y6, y7, y8, y9, y10][2]? := hf 2 _ rfl
    rw [hk1] at h1
    exact h1
  obtain ⟨x2, hx2⟩ := (conv_sl (sz := 1) (bytes := 8) (R := (RInt .i64)) Try.underlying22 (by kernel_rfl) (by kernel_rfl) (by omega) (conv_int Try.underlying56)) g2 (fun p hp1 => hp p (by simp [hp1])) (fun m hm => hw m (by simp [DataW.weights, Try.underlying28, DataW.weightsEach, hm]))
  have g3 : DataW.trod enc Try.prog w 0 (fun _ => true) true n 22 [k3] = some y3 := by
    have hk1 : Try.prog.cellsOf 22 = 1 := by kernel_rfl
    have h1 : DataW.trod enc Try.prog w 0 (fun _ => true) true n 22 (List.take (Try.prog.cellsOf 22) (List.drop 3 [k0, k1, k2, k3, k4, k5, k6, k7, k8, k9, k10])) = [y0, y1, y2, y3, y4, y5, y6, y7, y8, y9, y10][3]? := hf 3 _ rfl
    rw [hk1] at h1
    exact h1
  obtain ⟨x3, hx3⟩ := (conv_sl (sz := 1) (bytes := 8) (R := (RInt .i64)) Try.underlying22 (by kernel_rfl) (by kernel_rfl) (by omega) (conv_int Try.underlying56)) g3 (fun p hp1 => hp p (by simp [hp1])) (fun m hm => hw m (by simp [DataW.weights, Try.underlying28, DataW.weightsEach, hm]))
  have g4 : DataW.trod enc Try.prog w 0 (fun _ => true) true n 22 [k4] = some y4 := by
    have hk1 : Try.prog.cellsOf 22 = 1 := by kernel_rfl
    have h1 : DataW.trod enc Try.prog w 0 (fun _ => true) true n 22 (List.take (Try.prog.cellsOf 22) (List.drop 4 [k0, k1, k2, k3, k4, k5, k6, k7, k8, k9, k10])) = [y0, y1, y2, y3, y4, y5, y6, y7, y8, y9, y10][4]? := hf 4 _ rfl
    rw [hk1] at h1
    exact h1
  obtain ⟨x4, hx4⟩ := (conv_sl (sz := 1) (bytes := 8) (R := (RInt .i64)) Try.underlying22 (by kernel_rfl) (by kernel_rfl) (by omega) (conv_int Try.underlying56)) g4 (fun p hp1 => hp p (by simp [hp1])) (fun m hm => hw m (by simp [DataW.weights, Try.underlying28, DataW.weightsEach, hm]))
  have g5 : DataW.trod enc Try.prog w 0 (fun _ => true) true n 22 [k5] = some y5 := by
    have hk1 : Try.prog.cellsOf 22 = 1 := by kernel_rfl
    have h1 : DataW.trod enc Try.prog w 0 (fun _ => true) true n 22 (List.take (Try.prog.cellsOf 22) (List.drop 5 [k0, k1, k2, k3, k4, k5, k6, k7, k8, k9, k10])) = [y0, y1, y2, y3, y4, y5, y6, y7, y8, y9, y10][5]? := hf 5 _ rfl
    rw [hk1] at h1
    exact h1
  obtain ⟨x5, hx5⟩ := (conv_sl (sz := 1) (bytes := 8) (R := (RInt .i64)) Try.underlying22 (by kernel_rfl) (by kernel_rfl) (by omega) (conv_int Try.underlying56)) g5 (fun p hp1 => hp p (by simp [hp1])) (fun m hm => hw m (by simp [DataW.weights, Try.underlying28, DataW.weightsEach, hm]))
  have g6 : DataW.trod enc Try.prog w 0 (fun _ => true) true n 23 [k6] = some y6 := by
    have hk1 : Try.prog.cellsOf 23 = 1 := by kernel_rfl
    have h1 : DataW.trod enc Try.prog w 0 (fun _ => true) true n 23 (List.take (Try.prog.cellsOf 23) (List.drop 6 [k0, k1, k2, k3, k4, k5, k6, k7, k8, k9, k10])) = [y0, y1, y2, y3, y4, y5, y6, y7, y8, y9, y10][6]? := hf 6 _ rfl
    rw [hk1] at h1
    exact h1
  obtain ⟨x6, hx6⟩ := (conv_sl (sz := 2) (bytes := 16) (R := RInstr) Try.underlying23 (by kernel_rfl) (by kernel_rfl) (by omega) conv_Instr) g6 (fun p hp1 => hp p (by simp [hp1])) (fun m hm => hw m (by simp [DataW.weights, Try.underlying28, DataW.weightsEach, hm]))
  have g7 : DataW.trod enc Try.prog w 0 (fun _ => true) true n 24 [k7] = some y7 := by
    have hk1 : Try.prog.cellsOf 24 = 1 := by kernel_rfl
    have h1 : DataW.trod enc Try.prog w 0 (fun _ => true) true n 24 (List.take (Try.prog.cellsOf 24) (List.drop 7 [k0, k1, k2, k3, k4, k5, k6, k7, k8, k9, k10])) = [y0, y1, y2, y3, y4, y5, y6, y7, y8, y9, y10][7]? := hf 7 _ rfl
    rw [hk1] at h1
    exact h1
  obtain ⟨x7, hx7⟩ := (conv_sl (sz := 1) (bytes := 8) (R := (RInt .i64)) Try.underlying24 (by kernel_rfl) (by kernel_rfl) (by omega) (conv_int Try.underlying3)) g7 (fun p hp1 => hp p (by simp [hp1])) (fun m hm => hw m (by simp [DataW.weights, Try.underlying28, DataW.weightsEach, hm]))
  have g8 : DataW.trod enc Try.prog w 0 (fun _ => true) true n 25 [k8] = some y8 := by
    have hk1 : Try.prog.cellsOf 25 = 1 := by kernel_rfl
    have h1 : DataW.trod enc Try.prog w 0 (fun _ => true) true n 25 (List.take (Try.prog.cellsOf 25) (List.drop 8 [k0, k1, k2, k3, k4, k5, k6, k7, k8, k9, k10])) = [y0, y1, y2, y3, y4, y5, y6, y7, y8, y9, y10][8]? := hf 8 _ rfl
    rw [hk1] at h1
    exact h1
  obtain ⟨x8, hx8⟩ := (conv_sl (sz := 7) (bytes := 56) (R := RNode) Try.underlying25 (by kernel_rfl) (by kernel_rfl) (by omega) conv_Node) g8 (fun p hp1 => hp p (by simp [hp1])) (fun m hm => hw m (by simp [DataW.weights, Try.underlying28, DataW.weightsEach, hm]))
  have g9 : DataW.trod enc Try.prog w 0 (fun _ => true) true n 24 [k9] = some y9 := by
    have hk1 : Try.prog.cellsOf 24 = 1 := by kernel_rfl
    have h1 : DataW.trod enc Try.prog w 0 (fun _ => true) true n 24 (List.take (Try.prog.cellsOf 24) (List.drop 9 [k0, k1, k2, k3, k4, k5, k6, k7, k8, k9, k10])) = [y0, y1, y2, y3, y4, y5, y6, y7, y8, y9, y10][9]? := hf 9 _ rfl
    rw [hk1] at h1
    exact h1
  obtain ⟨x9, hx9⟩ := (conv_sl (sz := 1) (bytes := 8) (R := (RInt .i64)) Try.underlying24 (by kernel_rfl) (by kernel_rfl) (by omega) (conv_int Try.underlying3)) g9 (fun p hp1 => hp p (by simp [hp1])) (fun m hm => hw m (by simp [DataW.weights, Try.underlying28, DataW.weightsEach, hm]))
  have g10 : DataW.trod enc Try.prog w 0 (fun _ => true) true n 26 [k10] = some y10 := by
    have hk1 : Try.prog.cellsOf 26 = 1 := by kernel_rfl
    have h1 : DataW.trod enc Try.prog w 0 (fun _ => true) true n 26 (List.take (Try.prog.cellsOf 26) (List.drop 10 [k0, k1, k2, k3, k4, k5, k6, k7, k8, k9, k10])) = [y0, y1, y2, y3, y4, y5, y6, y7, y8, y9, y10][10]? := hf 10 _ rfl
    rw [hk1] at h1
    exact h1
  obtain ⟨x10, hx10⟩ := (conv_sl (sz := 4) (bytes := 32) (R := RSet) Try.underlying26 (by kernel_rfl) (by kernel_rfl) (by omega) conv_Set) g10 (fun p hp1 => hp p (by simp [hp1])) (fun m hm => hw m (by simp [DataW.weights, Try.underlying28, DataW.weightsEach, hm]))
  obtain ⟨e0, q0⟩ := hx0
  have e1 := hx1
  unfold RBool at e1
  obtain ⟨A2, n2, c2, e2, q2⟩ := hx2
  obtain ⟨A3, n3, c3, e3, q3⟩ := hx3
  obtain ⟨A4, n4, c4, e4, q4⟩ := hx4
  obtain ⟨A5, n5, c5, e5, q5⟩ := hx5
  obtain ⟨A6, n6, c6, e6, q6⟩ := hx6
  obtain ⟨A7, n7, c7, e7, q7⟩ := hx7
  obtain ⟨A8, n8, c8, e8, q8⟩ := hx8
  obtain ⟨A9, n9, c9, e9, q9⟩ := hx9
  obtain ⟨A10, n10, c10, e10, q10⟩ := hx10
  simp only [List.cons.injEq, and_true] at e0 e1 e2 e3 e4 e5 e6 e7 e8 e9 e10
  subst e0 e1 e2 e3 e4 e5 e6 e7 e8 e9 e10
  exact ⟨⟨x0, x1, x2, x3, x4, x5, x6, x7, x8, x9, x10⟩, A2, n2, c2, A3, n3, c3, A4, n4, c4, A5, n5, c5, A6, n6, c6, A7, n7, c7, A8, n8, c8, A9, n9, c9, A10, n10, c10, rfl, q0, q2, q3, q4, q5, q6, q7, q8, q9, q10⟩

structure DSpot where
  at_ : Int
  node : Int
  slot : Int
  parent : Int
  line : Int
def RSpot : Rd DSpot := fun w B cs x => cs = [.int .i64 x.at_, .int .i64 x.node, .int .i64 x.slot, .int .i64 x.parent, .int .i64 x.line] ∧ (Lit.int .i64 x.at_).wf = true ∧ (Lit.int .i64 x.node).wf = true ∧ (Lit.int .i64 x.slot).wf = true ∧ (Lit.int .i64 x.parent).wf = true ∧ (Lit.int .i64 x.line).wf = true
theorem stable_Spot : Stable RSpot := by
  intro w w' B cs x h hk
  obtain ⟨e, q0, q1, q2, q3, q4⟩ := h
  exact ⟨e, q0, q1, q2, q3, q4⟩
set_option maxRecDepth 100000 in
theorem conv_Spot : Conv Try.prog 30 RSpot := by
  intro H enc w B fuel cs y h hp hw
  obtain ⟨ys, n, hn, rfl, hcl, hyl, hf⟩ := DataW.trod_struct Try.underlying30 h
  rw [show Try.prog.cellsOf 30 = 5 from by kernel_rfl] at hcl
  obtain ⟨k0, k1, k2, k3, k4, rfl⟩ := len5 hcl
  obtain ⟨y0, y1, y2, y3, y4, rfl⟩ := len5 hyl
  have g0 : DataW.trod enc Try.prog w 0 (fun _ => true) true n 3 [k0] = some y0 := by
    have hk1 : Try.prog.cellsOf 3 = 1 := by kernel_rfl
    have h1 : DataW.trod enc Try.prog w 0 (fun _ => true) true n 3 (List.take (Try.prog.cellsOf 3) (List.drop 0 [k0, k1, k2, k3, k4])) = [y0, y1, y2, y3, y4][0]? := hf 0 _ rfl
    rw [hk1] at h1
    exact h1
  obtain ⟨x0, hx0⟩ := (conv_int Try.underlying3) g0 (fun p hp1 => hp p (by simp [hp1])) (fun m hm => hw m (by simp [DataW.weights, Try.underlying30, DataW.weightsEach, hm]))
  have g1 : DataW.trod enc Try.prog w 0 (fun _ => true) true n 3 [k1] = some y1 := by
    have hk1 : Try.prog.cellsOf 3 = 1 := by kernel_rfl
    have h1 : DataW.trod enc Try.prog w 0 (fun _ => true) true n 3 (List.take (Try.prog.cellsOf 3) (List.drop 1 [k0, k1, k2, k3, k4])) = [y0, y1, y2, y3, y4][1]? := hf 1 _ rfl
    rw [hk1] at h1
    exact h1
  obtain ⟨x1, hx1⟩ := (conv_int Try.underlying3) g1 (fun p hp1 => hp p (by simp [hp1])) (fun m hm => hw m (by simp [DataW.weights, Try.underlying30, DataW.weightsEach, hm]))
  have g2 : DataW.trod enc Try.prog w 0 (fun _ => true) true n 3 [k2] = some y2 := by
    have hk1 : Try.prog.cellsOf 3 = 1 := by kernel_rfl
    have h1 : DataW.trod enc Try.prog w 0 (fun _ => true) true n 3 (List.take (Try.prog.cellsOf 3) (List.drop 2 [k0, k1, k2, k3, k4])) = [y0, y1, y2, y3, y4][2]? := hf 2 _ rfl
    rw [hk1] at h1
    exact h1
  obtain ⟨x2, hx2⟩ := (conv_int Try.underlying3) g2 (fun p hp1 => hp p (by simp [hp1])) (fun m hm => hw m (by simp [DataW.weights, Try.underlying30, DataW.weightsEach, hm]))
  have g3 : DataW.trod enc Try.prog w 0 (fun _ => true) true n 3 [k3] = some y3 := by
    have hk1 : Try.prog.cellsOf 3 = 1 := by kernel_rfl
    have h1 : DataW.trod enc Try.prog w 0 (fun _ => true) true n 3 (List.take (Try.prog.cellsOf 3) (List.drop 3 [k0, k1, k2, k3, k4])) = [y0, y1, y2, y3, y4][3]? := hf 3 _ rfl
    rw [hk1] at h1
    exact h1
  obtain ⟨x3, hx3⟩ := (conv_int Try.underlying3) g3 (fun p hp1 => hp p (by simp [hp1])) (fun m hm => hw m (by simp [DataW.weights, Try.underlying30, DataW.weightsEach, hm]))
  have g4 : DataW.trod enc Try.prog w 0 (fun _ => true) true n 3 [k4] = some y4 := by
    have hk1 : Try.prog.cellsOf 3 = 1 := by kernel_rfl
    have h1 : DataW.trod enc Try.prog w 0 (fun _ => true) true n 3 (List.take (Try.prog.cellsOf 3) (List.drop 4 [k0, k1, k2, k3, k4])) = [y0, y1, y2, y3, y4][4]? := hf 4 _ rfl
    rw [hk1] at h1
    exact h1
  obtain ⟨x4, hx4⟩ := (conv_int Try.underlying3) g4 (fun p hp1 => hp p (by simp [hp1])) (fun m hm => hw m (by simp [DataW.weights, Try.underlying30, DataW.weightsEach, hm]))
  obtain ⟨e0, q0⟩ := hx0
  obtain ⟨e1, q1⟩ := hx1
  obtain ⟨e2, q2⟩ := hx2
  obtain ⟨e3, q3⟩ := hx3
  obtain ⟨e4, q4⟩ := hx4
  simp only [List.cons.injEq, and_true] at e0 e1 e2 e3 e4
  subst e0 e1 e2 e3 e4
  exact ⟨⟨x0, x1, x2, x3, x4⟩, rfl, q0, q1, q2, q3, q4⟩
end Go.Proofs.Ythfdmpcnebjkjaa
