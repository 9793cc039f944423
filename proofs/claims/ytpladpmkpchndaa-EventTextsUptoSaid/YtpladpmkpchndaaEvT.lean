/-
  The readings of this seat's own types, printed by a small program.
-/
import Derived.Test.YtpladpmkpchndaaRead
namespace Go.Proofs.Ytpladpmkpchndaa
open Go.ChangeShapes Go.WideShapes Go.ChangeAt Go.RowKit Go.Deep
set_option linter.unusedSimpArgs false
set_option linter.unusedVariables false

structure DEntry where
  func : Int
  line : Int
def REntry : Rd DEntry := fun w B cs x => cs = [.int .i64 x.func, .int .i64 x.line] ∧ (Lit.int .i64 x.func).wf = true ∧ (Lit.int .i64 x.line).wf = true
theorem stable_Entry : Stable REntry := by
  intro w w' B cs x h hk
  obtain ⟨e, q0, q1⟩ := h
  exact ⟨e, q0, q1⟩
set_option maxRecDepth 100000 in
theorem conv_Entry : Conv Try.prog 129 REntry := by
  intro H enc w B fuel cs y h hp hw
  obtain ⟨ys, n, hn, rfl, hcl, hyl, hf⟩ := DataW.trod_struct Try.underlying129 h
  rw [show Try.prog.cellsOf 129 = 2 from by kernel_rfl] at hcl
  obtain ⟨k0, k1, rfl⟩ := len2 hcl
  obtain ⟨y0, y1, rfl⟩ := len2 hyl
  have g0 : DataW.trod enc Try.prog w 0 (fun _ => true) true n 3 [k0] = some y0 := by
    have hk1 : Try.prog.cellsOf 3 = 1 := by kernel_rfl
    have h1 : DataW.trod enc Try.prog w 0 (fun _ => true) true n 3 (List.take (Try.prog.cellsOf 3) (List.drop 0 [k0, k1])) = [y0, y1][0]? := hf 0 _ rfl
    rw [hk1] at h1
    exact h1
  obtain ⟨x0, hx0⟩ := (conv_int Try.underlying3) g0 (fun p hp1 => hp p (by simp [hp1])) (fun m hm => hw m (by simp [DataW.weights, Try.underlying129, DataW.weightsEach, hm]))
  have g1 : DataW.trod enc Try.prog w 0 (fun _ => true) true n 3 [k1] = some y1 := by
    have hk1 : Try.prog.cellsOf 3 = 1 := by kernel_rfl
    have h1 : DataW.trod enc Try.prog w 0 (fun _ => true) true n 3 (List.take (Try.prog.cellsOf 3) (List.drop 1 [k0, k1])) = [y0, y1][1]? := hf 1 _ rfl
    rw [hk1] at h1
    exact h1
  obtain ⟨x1, hx1⟩ := (conv_int Try.underlying3) g1 (fun p hp1 => hp p (by simp [hp1])) (fun m hm => hw m (by simp [DataW.weights, Try.underlying129, DataW.weightsEach, hm]))
  obtain ⟨e0, q0⟩ := hx0
  obtain ⟨e1, q1⟩ := hx1
  simp only [List.cons.injEq, and_true] at e0 e1
  subst e0 e1
  exact ⟨⟨x0, x1⟩, rfl, q0, q1⟩

structure DEvent where
  kind : Int
  n : Int
  m : Int
  trace : List DEntry
def REvent : Rd DEvent := fun w B cs x => ∃ A0 n0 c0, cs = [.int .i64 x.kind, .int .i64 x.n, .int .i64 x.m, .slice A0 n0 c0] ∧ (Lit.int .i64 x.kind).wf = true ∧ (Lit.int .i64 x.n).wf = true ∧ (Lit.int .i64 x.m).wf = true ∧ SlR 2 16 REntry w B A0 n0 c0 x.trace
theorem stable_Event : Stable REvent := by
  intro w w' B cs x h hk
  obtain ⟨A0, n0, c0, e, q0, q1, q2, q3⟩ := h
  exact ⟨A0, n0, c0, e, q0, q1, q2, q3.keep (R := REntry) stable_Entry hk⟩
set_option maxRecDepth 100000 in
theorem conv_Event : Conv Try.prog 98 REvent := by
  intro H enc w B fuel cs y h hp hw
  obtain ⟨ys, n, hn, rfl, hcl, hyl, hf⟩ := DataW.trod_struct Try.underlying98 h
  rw [show Try.prog.cellsOf 98 = 4 from by kernel_rfl] at hcl
  obtain ⟨k0, k1, k2, k3, rfl⟩ := len4 hcl
  obtain ⟨y0, y1, y2, y3, rfl⟩ := len4 hyl
  have g0 : DataW.trod enc Try.prog w 0 (fun _ => true) true n 3 [k0] = some y0 := by
    have hk1 : Try.prog.cellsOf 3 = 1 := by kernel_rfl
    have h1 : DataW.trod enc Try.prog w 0 (fun _ => true) true n 3 (List.take (Try.prog.cellsOf 3) (List.drop 0 [k0, k1, k2, k3])) = [y0, y1, y2, y3][0]? := hf 0 _ rfl
    rw [hk1] at h1
    exact h1
  obtain ⟨x0, hx0⟩ := (conv_int Try.underlying3) g0 (fun p hp1 => hp p (by simp [hp1])) (fun m hm => hw m (by simp [DataW.weights, Try.underlying98, DataW.weightsEach, hm]))
  have g1 : DataW.trod enc Try.prog w 0 (fun _ => true) true n 3 [k1] = some y1 := by
    have hk1 : Try.prog.cellsOf 3 = 1 := by kernel_rfl
    have h1 : DataW.trod enc Try.prog w 0 (fun _ => true) true n 3 (List.take (Try.prog.cellsOf 3) (List.drop 1 [k0, k1, k2, k3])) = [y0, y1, y2, y3][1]? := hf 1 _ rfl
    rw [hk1] at h1
    exact h1
  obtain ⟨x1, hx1⟩ := (conv_int Try.underlying3) g1 (fun p hp1 => hp p (by simp [hp1])) (fun m hm => hw m (by simp [DataW.weights, Try.underlying98, DataW.weightsEach, hm]))
  have g2 : DataW.trod enc Try.prog w 0 (fun _ => true) true n 3 [k2] = some y2 := by
    have hk1 : Try.prog.cellsOf 3 = 1 := by kernel_rfl
    have h1 : DataW.trod enc Try.prog w 0 (fun _ => true) true n 3 (List.take (Try.prog.cellsOf 3) (List.drop 2 [k0, k1, k2, k3])) = [y0, y1, y2, y3][2]? := hf 2 _ rfl
    rw [hk1] at h1
    exact h1
  obtain ⟨x2, hx2⟩ := (conv_int Try.underlying3) g2 (fun p hp1 => hp p (by simp [hp1])) (fun m hm => hw m (by simp [DataW.weights, Try.underlying98, DataW.weightsEach, hm]))
  have g3 : DataW.trod enc Try.prog w 0 (fun _ => true) true n 96 [k3] = some y3 := by
    have hk1 : Try.prog.cellsOf 96 = 1 := by kernel_rfl
    have h1 : DataW.trod enc Try.prog w 0 (fun _ => true) true n 96 (List.take (Try.prog.cellsOf 96) (List.drop 3 [k0, k1, k2, k3])) = [y0, y1, y2, y3][3]? := hf 3 _ rfl
    rw [hk1] at h1
    exact h1
  obtain ⟨x3, hx3⟩ := (conv_sl (sz := 2) (bytes := 16) (R := REntry) Try.underlying96 (by kernel_rfl) (by kernel_rfl) (by omega) conv_Entry) g3 (fun p hp1 => hp p (by simp [hp1])) (fun m hm => hw m (by simp [DataW.weights, Try.underlying98, DataW.weightsEach, hm]))
  obtain ⟨e0, q0⟩ := hx0
  obtain ⟨e1, q1⟩ := hx1
  obtain ⟨e2, q2⟩ := hx2
  obtain ⟨A3, n3, c3, e3, q3⟩ := hx3
  simp only [List.cons.injEq, and_true] at e0 e1 e2 e3
  subst e0 e1 e2 e3
  exact ⟨⟨x0, x1, x2, x3⟩, A3, n3, c3, rfl, q0, q1, q2, q3⟩

structure DBlame where
  kind : Int
  num : Int
  reco : Bool
  trace : List DEntry
def RBlame : Rd DBlame := fun w B cs x => ∃ A0 n0 c0, cs = [.int .i64 x.kind, .int .i64 x.num, .bool x.reco, .slice A0 n0 c0] ∧ (Lit.int .i64 x.kind).wf = true ∧ (Lit.int .i64 x.num).wf = true ∧ SlR 2 16 REntry w B A0 n0 c0 x.trace
theorem stable_Blame : Stable RBlame := by
  intro w w' B cs x h hk
  obtain ⟨A0, n0, c0, e, q0, q1, q2⟩ := h
  exact ⟨A0, n0, c0, e, q0, q1, q2.keep (R := REntry) stable_Entry hk⟩
set_option maxRecDepth 100000 in
theorem conv_Blame : Conv Try.prog 142 RBlame := by
  intro H enc w B fuel cs y h hp hw
  obtain ⟨ys, n, hn, rfl, hcl, hyl, hf⟩ := DataW.trod_struct Try.underlying142 h
  rw [show Try.prog.cellsOf 142 = 4 from by kernel_rfl] at hcl
  obtain ⟨k0, k1, k2, k3, rfl⟩ := len4 hcl
  obtain ⟨y0, y1, y2, y3, rfl⟩ := len4 hyl
  have g0 : DataW.trod enc Try.prog w 0 (fun _ => true) true n 3 [k0] = some y0 := by
    have hk1 : Try.prog.cellsOf 3 = 1 := by kernel_rfl
    have h1 : DataW.trod enc Try.prog w 0 (fun _ => true) true n 3 (List.take (Try.prog.cellsOf 3) (List.drop 0 [k0, k1, k2, k3])) = [y0, y1, y2, y3][0]? := hf 0 _ rfl
    rw [hk1] at h1
    exact h1
  obtain ⟨x0, hx0⟩ := (conv_int Try.underlying3) g0 (fun p hp1 => hp p (by simp [hp1])) (fun m hm => hw m (by simp [DataW.weights, Try.underlying142, DataW.weightsEach, hm]))
  have g1 : DataW.trod enc Try.prog w 0 (fun _ => true) true n 3 [k1] = some y1 := by
    have hk1 : Try.prog.cellsOf 3 = 1 := by kernel_rfl
    have h1 : DataW.trod enc Try.prog w 0 (fun _ => true) true n 3 (List.take (Try.prog.cellsOf 3) (List.drop 1 [k0, k1, k2, k3])) = [y0, y1, y2, y3][1]? := hf 1 _ rfl
    rw [hk1] at h1
    exact h1
  obtain ⟨x1, hx1⟩ := (conv_int Try.underlying3) g1 (fun p hp1 => hp p (by simp [hp1])) (fun m hm => hw m (by simp [DataW.weights, Try.underlying142, DataW.weightsEach, hm]))
  have g2 : DataW.trod enc Try.prog w 0 (fun _ => true) true n 4 [k2] = some y2 := by
    have hk1 : Try.prog.cellsOf 4 = 1 := by kernel_rfl
    have h1 : DataW.trod enc Try.prog w 0 (fun _ => true) true n 4 (List.take (Try.prog.cellsOf 4) (List.drop 2 [k0, k1, k2, k3])) = [y0, y1, y2, y3][2]? := hf 2 _ rfl
    rw [hk1] at h1
    exact h1
  obtain ⟨x2, hx2⟩ := (conv_bool Try.underlying4) g2 (fun p hp1 => hp p (by simp [hp1])) (fun m hm => hw m (by simp [DataW.weights, Try.underlying142, DataW.weightsEach, hm]))
  have g3 : DataW.trod enc Try.prog w 0 (fun _ => true) true n 96 [k3] = some y3 := by
    have hk1 : Try.prog.cellsOf 96 = 1 := by kernel_rfl
    have h1 : DataW.trod enc Try.prog w 0 (fun _ => true) true n 96 (List.take (Try.prog.cellsOf 96) (List.drop 3 [k0, k1, k2, k3])) = [y0, y1, y2, y3][3]? := hf 3 _ rfl
    rw [hk1] at h1
    exact h1
  obtain ⟨x3, hx3⟩ := (conv_sl (sz := 2) (bytes := 16) (R := REntry) Try.underlying96 (by kernel_rfl) (by kernel_rfl) (by omega) conv_Entry) g3 (fun p hp1 => hp p (by simp [hp1])) (fun m hm => hw m (by simp [DataW.weights, Try.underlying142, DataW.weightsEach, hm]))
  obtain ⟨e0, q0⟩ := hx0
  obtain ⟨e1, q1⟩ := hx1
  have e2 := hx2
  unfold RBool at e2
  obtain ⟨A3, n3, c3, e3, q3⟩ := hx3
  simp only [List.cons.injEq, and_true] at e0 e1 e2 e3
  subst e0 e1 e2 e3
  exact ⟨⟨x0, x1, x2, x3⟩, A3, n3, c3, rfl, q0, q1, q3⟩

structure DRun where
  events : List DEvent
  fin : Int
  results : List Int
  chain : List DBlame
  steps : Int
def RRun : Rd DRun := fun w B cs x => ∃ A0 n0 c0, ∃ A1 n1 c1, ∃ A2 n2 c2, cs = [.slice A0 n0 c0, .int .i64 x.fin, .slice A1 n1 c1, .slice A2 n2 c2, .int .i64 x.steps] ∧ SlR 4 48 REvent w B A0 n0 c0 x.events ∧ (Lit.int .i64 x.fin).wf = true ∧ SlR 1 8 (RInt .i64) w B A1 n1 c1 x.results ∧ SlR 4 48 RBlame w B A2 n2 c2 x.chain ∧ (Lit.int .i64 x.steps).wf = true
theorem stable_Run : Stable RRun := by
  intro w w' B cs x h hk
  obtain ⟨A0, n0, c0, A1, n1, c1, A2, n2, c2, e, q0, q1, q2, q3, q4⟩ := h
  exact ⟨A0, n0, c0, A1, n1, c1, A2, n2, c2, e, q0.keep (R := REvent) stable_Event hk, q1, q2.keep (R := (RInt .i64)) (stable_int .i64) hk, q3.keep (R := RBlame) stable_Blame hk, q4⟩
set_option maxRecDepth 100000 in
theorem conv_Run : Conv Try.prog 103 RRun := by
  intro H enc w B fuel cs y h hp hw
  obtain ⟨ys, n, hn, rfl, hcl, hyl, hf⟩ := DataW.trod_struct Try.underlying103 h
  rw [show Try.prog.cellsOf 103 = 5 from by kernel_rfl] at hcl
  obtain ⟨k0, k1, k2, k3, k4, rfl⟩ := len5 hcl
  obtain ⟨y0, y1, y2, y3, y4, rfl⟩ := len5 hyl
  have g0 : DataW.trod enc Try.prog w 0 (fun _ => true) true n 94 [k0] = some y0 := by
    have hk1 : Try.prog.cellsOf 94 = 1 := by kernel_rfl
    have h1 : DataW.trod enc Try.prog w 0 (fun _ => true) true n 94 (List.take (Try.prog.cellsOf 94) (List.drop 0 [k0, k1, k2, k3, k4])) = [y0, y1, y2, y3, y4][0]? := hf 0 _ rfl
    rw [hk1] at h1
    exact h1
  obtain ⟨x0, hx0⟩ := (conv_sl (sz := 4) (bytes := 48) (R := REvent) Try.underlying94 (by kernel_rfl) (by kernel_rfl) (by omega) conv_Event) g0 (fun p hp1 => hp p (by simp [hp1])) (fun m hm => hw m (by simp [DataW.weights, Try.underlying103, DataW.weightsEach, hm]))
  have g1 : DataW.trod enc Try.prog w 0 (fun _ => true) true n 3 [k1] = some y1 := by
    have hk1 : Try.prog.cellsOf 3 = 1 := by kernel_rfl
    have h1 : DataW.trod enc Try.prog w 0 (fun _ => true) true n 3 (List.take (Try.prog.cellsOf 3) (List.drop 1 [k0, k1, k2, k3, k4])) = [y0, y1, y2, y3, y4][1]? := hf 1 _ rfl
    rw [hk1] at h1
    exact h1
  obtain ⟨x1, hx1⟩ := (conv_int Try.underlying3) g1 (fun p hp1 => hp p (by simp [hp1])) (fun m hm => hw m (by simp [DataW.weights, Try.underlying103, DataW.weightsEach, hm]))
  have g2 : DataW.trod enc Try.prog w 0 (fun _ => true) true n 50 [k2] = some y2 := by
    have hk1 : Try.prog.cellsOf 50 = 1 := by kernel_rfl
    have h1 : DataW.trod enc Try.prog w 0 (fun _ => true) true n 50 (List.take (Try.prog.cellsOf 50) (List.drop 2 [k0, k1, k2, k3, k4])) = [y0, y1, y2, y3, y4][2]? := hf 2 _ rfl
    rw [hk1] at h1
    exact h1
  obtain ⟨x2, hx2⟩ := (conv_sl (sz := 1) (bytes := 8) (R := (RInt .i64)) Try.underlying50 (by kernel_rfl) (by kernel_rfl) (by omega) (conv_int Try.underlying3)) g2 (fun p hp1 => hp p (by simp [hp1])) (fun m hm => hw m (by simp [DataW.weights, Try.underlying103, DataW.weightsEach, hm]))
  have g3 : DataW.trod enc Try.prog w 0 (fun _ => true) true n 101 [k3] = some y3 := by
    have hk1 : Try.prog.cellsOf 101 = 1 := by kernel_rfl
    have h1 : DataW.trod enc Try.prog w 0 (fun _ => true) true n 101 (List.take (Try.prog.cellsOf 101) (List.drop 3 [k0, k1, k2, k3, k4])) = [y0, y1, y2, y3, y4][3]? := hf 3 _ rfl
    rw [hk1] at h1
    exact h1
  obtain ⟨x3, hx3⟩ := (conv_sl (sz := 4) (bytes := 48) (R := RBlame) Try.underlying101 (by kernel_rfl) (by kernel_rfl) (by omega) conv_Blame) g3 (fun p hp1 => hp p (by simp [hp1])) (fun m hm => hw m (by simp [DataW.weights, Try.underlying103, DataW.weightsEach, hm]))
  have g4 : DataW.trod enc Try.prog w 0 (fun _ => true) true n 3 [k4] = some y4 := by
    have hk1 : Try.prog.cellsOf 3 = 1 := by kernel_rfl
    have h1 : DataW.trod enc Try.prog w 0 (fun _ => true) true n 3 (List.take (Try.prog.cellsOf 3) (List.drop 4 [k0, k1, k2, k3, k4])) = [y0, y1, y2, y3, y4][4]? := hf 4 _ rfl
    rw [hk1] at h1
    exact h1
  obtain ⟨x4, hx4⟩ := (conv_int Try.underlying3) g4 (fun p hp1 => hp p (by simp [hp1])) (fun m hm => hw m (by simp [DataW.weights, Try.underlying103, DataW.weightsEach, hm]))
  obtain ⟨A0, n0, c0, e0, q0⟩ := hx0
  obtain ⟨e1, q1⟩ := hx1
  obtain ⟨A2, n2, c2, e2, q2⟩ := hx2
  obtain ⟨A3, n3, c3, e3, q3⟩ := hx3
  obtain ⟨e4, q4⟩ := hx4
  simp only [List.cons.injEq, and_true] at e0 e1 e2 e3 e4
  subst e0 e1 e2 e3 e4
  exact ⟨⟨x0, x1, x2, x3, x4⟩, A0, n0, c0, A2, n2, c2, A3, n3, c3, rfl, q0, q1, q2, q3, q4⟩
end Go.Proofs.Ytpladpmkpchndaa
