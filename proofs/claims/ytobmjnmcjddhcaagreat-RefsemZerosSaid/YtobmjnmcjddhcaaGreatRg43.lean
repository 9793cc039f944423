import Derived.Test.YtobmjnmcjddhcaaGreatRg1
set_option linter.unusedSimpArgs false
set_option linter.unusedVariables false
set_option maxRecDepth 100000
namespace Go.Proofs.YtobmjnmcjddhcaaGreat
open Go.ChangeShapes Go.WideShapes Go.ChangeAt Go.RowKit Go.Deep
structure DInput where
 args : List Int
 draws : List Int
def RInput : Rd DInput := fun w B cs x => ∃ A0 n0 c0, ∃ A1 n1 c1, cs = [.slice A0 n0 c0, .slice A1 n1 c1] ∧ SlR 1 8 (RInt .i64) w B A0 n0 c0 x.args ∧ SlR 1 8 (RInt .i64) w B A1 n1 c1 x.draws
theorem conv_Input : Conv Tryz.prog 66 RInput := by
 intro H enc w B fuel cs y h hp hw
 obtain ⟨ys, n, hn, rfl, hcl, hyl, hf⟩ := DataW.trod_struct Tryz.underlying66 h
 rw [show Tryz.prog.cellsOf 66 = 2 from by kernel_rfl] at hcl
 obtain ⟨k0, k1, rfl⟩ := len2 hcl
 obtain ⟨y0, y1, rfl⟩ := len2 hyl
 have g0 : DataW.trod enc Tryz.prog w 0 (fun _ => true) true n 34 [k0] = some y0 := by
  have hk1 : Tryz.prog.cellsOf 34 = 1 := by kernel_rfl
  have h1 : DataW.trod enc Tryz.prog w 0 (fun _ => true) true n 34 (List.take (Tryz.prog.cellsOf 34) (List.drop 0 [k0, k1])) = [y0, y1][0]? := hf 0 _ rfl
  rw [hk1] at h1
  exact h1
 obtain ⟨x0, hx0⟩ := (conv_sl (sz := 1) (bytes := 8) (R := (RInt .i64)) Tryz.underlying34 (by kernel_rfl) (by kernel_rfl) (by omega) (conv_int Tryz.underlying3)) g0 (fun p hp1 => hp p (by simp [hp1])) (fun m hm => hw m (by simp [DataW.weights, Tryz.underlying66, DataW.weightsEach, hm]))
 have g1 : DataW.trod enc Tryz.prog w 0 (fun _ => true) true n 34 [k1] = some y1 := by
  have hk1 : Tryz.prog.cellsOf 34 = 1 := by kernel_rfl
  have h1 : DataW.trod enc Tryz.prog w 0 (fun _ => true) true n 34 (List.take (Tryz.prog.cellsOf 34) (List.drop 1 [k0, k1])) = [y0, y1][1]? := hf 1 _ rfl
  rw [hk1] at h1
  exact h1
 obtain ⟨x1, hx1⟩ := (conv_sl (sz := 1) (bytes := 8) (R := (RInt .i64)) Tryz.underlying34 (by kernel_rfl) (by kernel_rfl) (by omega) (conv_int Tryz.underlying3)) g1 (fun p hp1 => hp p (by simp [hp1])) (fun m hm => hw m (by simp [DataW.weights, Tryz.underlying66, DataW.weightsEach, hm]))
 obtain ⟨A0, n0, c0, e0, q0⟩ := hx0
 obtain ⟨A1, n1, c1, e1, q1⟩ := hx1
 simp only [List.cons.injEq, and_true] at e0 e1
 subst e0 e1
 exact ⟨⟨x0, x1⟩, A0, n0, c0, A1, n1, c1, rfl, q0, q1⟩
structure DInt2 where
 w0 : Int
 w1 : Int
def RInt2 : Rd DInt2 := fun w B cs x => cs = [.int .i64 x.w0, .int .i64 x.w1] ∧ (Lit.int .i64 x.w0).wf = true ∧ (Lit.int .i64 x.w1).wf = true
theorem conv_Int2 : Conv Tryz.prog 75 RInt2 := by
 intro H enc w B fuel cs y h hp hw
 obtain ⟨ys, n, hn, rfl, hcl, hyl, hf⟩ := DataW.trod_array Tryz.underlying75 h
 rw [show Tryz.prog.cellsOf 75 = 2 from by kernel_rfl] at hcl
 obtain ⟨k0, k1, rfl⟩ := len2 hcl
 obtain ⟨y0, y1, rfl⟩ := len2 hyl
 have g0 : DataW.trod enc Tryz.prog w 0 (fun _ => true) true n 3 [k0] = some y0 := by
  have hk1 : Tryz.prog.cellsOf 3 = 1 := by kernel_rfl
  have h1 := hf 0 (by omega)
  rw [hk1] at h1
  exact h1
 obtain ⟨x0, hx0⟩ := (conv_int Tryz.underlying3) g0 (fun p hp1 => hp p (by simp [hp1])) (fun m hm => hw m (by simp [DataW.weights, Tryz.underlying75, DataW.weightsAll, hm]))
 have g1 : DataW.trod enc Tryz.prog w 0 (fun _ => true) true n 3 [k1] = some y1 := by
  have hk1 : Tryz.prog.cellsOf 3 = 1 := by kernel_rfl
  have h1 := hf 1 (by omega)
  rw [hk1] at h1
  exact h1
 obtain ⟨x1, hx1⟩ := (conv_int Tryz.underlying3) g1 (fun p hp1 => hp p (by simp [hp1])) (fun m hm => hw m (by simp [DataW.weights, Tryz.underlying75, DataW.weightsAll, hm]))
 obtain ⟨e0, q0⟩ := hx0
 obtain ⟨e1, q1⟩ := hx1
 simp only [List.cons.injEq, and_true] at e0 e1
 subst e0 e1
 exact ⟨⟨x0, x1⟩, rfl, q0, q1⟩
structure DInt3 where
 w0 : Int
 w1 : Int
 w2 : Int
def RInt3 : Rd DInt3 := fun w B cs x => cs = [.int .i64 x.w0, .int .i64 x.w1, .int .i64 x.w2] ∧ (Lit.int .i64 x.w0).wf = true ∧ (Lit.int .i64 x.w1).wf = true ∧ (Lit.int .i64 x.w2).wf = true
theorem conv_Int3 : Conv Tryz.prog 80 RInt3 := by
 intro H enc w B fuel cs y h hp hw
 obtain ⟨ys, n, hn, rfl, hcl, hyl, hf⟩ := DataW.trod_array Tryz.underlying80 h
 rw [show Tryz.prog.cellsOf 80 = 3 from by kernel_rfl] at hcl
 obtain ⟨k0, k1, k2, rfl⟩ := len3 hcl
 obtain ⟨y0, y1, y2, rfl⟩ := len3 hyl
 have g0 : DataW.trod enc Tryz.prog w 0 (fun _ => true) true n 3 [k0] = some y0 := by
  have hk1 : Tryz.prog.cellsOf 3 = 1 := by kernel_rfl
  have h1 := hf 0 (by omega)
  rw [hk1] at h1
  exact h1
 obtain ⟨x0, hx0⟩ := (conv_int Tryz.underlying3) g0 (fun p hp1 => hp p (by simp [hp1])) (fun m hm => hw m (by simp [DataW.weights, Tryz.underlying80, DataW.weightsAll, hm]))
 have g1 : DataW.trod enc Tryz.prog w 0 (fun _ => true) true n 3 [k1] = some y1 := by
  have hk1 : Tryz.prog.cellsOf 3 = 1 := by kernel_rfl
  have h1 := hf 1 (by omega)
  rw [hk1] at h1
  exact h1
 obtain ⟨x1, hx1⟩ := (conv_int Tryz.underlying3) g1 (fun p hp1 => hp p (by simp [hp1])) (fun m hm => hw m (by simp [DataW.weights, Tryz.underlying80, DataW.weightsAll, hm]))
 have g2 : DataW.trod enc Tryz.prog w 0 (fun _ => true) true n 3 [k2] = some y2 := by
  have hk1 : Tryz.prog.cellsOf 3 = 1 := by kernel_rfl
  have h1 := hf 2 (by omega)
  rw [hk1] at h1
  exact h1
 obtain ⟨x2, hx2⟩ := (conv_int Tryz.underlying3) g2 (fun p hp1 => hp p (by simp [hp1])) (fun m hm => hw m (by simp [DataW.weights, Tryz.underlying80, DataW.weightsAll, hm]))
 obtain ⟨e0, q0⟩ := hx0
 obtain ⟨e1, q1⟩ := hx1
 obtain ⟨e2, q2⟩ := hx2
 simp only [List.cons.injEq, and_true] at e0 e1 e2
 subst e0 e1 e2
 exact ⟨⟨x0, x1, x2⟩, rfl, q0, q1, q2⟩
end Go.Proofs.YtobmjnmcjddhcaaGreat
