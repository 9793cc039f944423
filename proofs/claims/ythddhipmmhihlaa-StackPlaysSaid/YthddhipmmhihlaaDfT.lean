/-
  The readings of a call: three numbers and a value.
-/
import Derived.Test.YthddhipmmhihlaaCdT
namespace Go.Proofs.Ythddhipmmhihlaa
open Go.ChangeShapes Go.WideShapes Go.ChangeAt Go.RowKit Go.Deep
set_option linter.unusedSimpArgs false
set_option linter.unusedVariables false
structure DOp7 where
  a : Int
  b : Int
  c : Int
  v : DFour
def ROp7 : Rd DOp7 := fun w B cs x => cs = [.int .i64 x.a, .int .i64 x.b, .int .i64 x.c, .int .i64 x.v.k, .int .i64 x.v.n, .int .i64 x.v.re, .int .i64 x.v.im] ∧ (Lit.int .i64 x.a).wf = true ∧ (Lit.int .i64 x.b).wf = true ∧ (Lit.int .i64 x.c).wf = true ∧ (Lit.int .i64 x.v.k).wf = true ∧ (Lit.int .i64 x.v.n).wf = true ∧ (Lit.int .i64 x.v.re).wf = true ∧ (Lit.int .i64 x.v.im).wf = true
theorem op7_at {w : World} {B : Nat} {A : Option Addr} {n c : Nat} {xs : List DOp7} (h : SlR 7 56 ROp7 w B A n c xs) {k : Nat} (hk : k < n) : ∃ b off x, A = some ⟨b, off, none⟩ ∧ b < B ∧ xs[k]? = some x ∧ w.cell? ⟨b, off + k * 7, none⟩ = some (.int .i64 x.a) ∧ w.cell? ⟨b, off + k * 7 + 1, none⟩ = some (.int .i64 x.b) ∧ w.cell? ⟨b, off + k * 7 + 2, none⟩ = some (.int .i64 x.c) ∧ w.cell? ⟨b, off + k * 7 + 3, none⟩ = some (.int .i64 x.v.k) ∧ w.cell? ⟨b, off + k * 7 + 4, none⟩ = some (.int .i64 x.v.n) ∧ w.cell? ⟨b, off + k * 7 + 5, none⟩ = some (.int .i64 x.v.re) ∧ w.cell? ⟨b, off + k * 7 + 6, none⟩ = some (.int .i64 x.v.im) ∧ (Lit.int .i64 x.a).wf = true ∧ (Lit.int .i64 x.b).wf = true ∧ (Lit.int .i64 x.c).wf = true := by
  obtain ⟨b, off, x, cs, hA, hb, hx, _, hc, hr⟩ := h.at_ hk
  obtain ⟨rfl, q0, q1, q2, _⟩ := hr
  exact ⟨b, off, x, hA, hb, hx, by simpa using hc 0 _ rfl, by simpa [Nat.add_assoc] using hc 1 _ rfl, by simpa [Nat.add_assoc] using hc 2 _ rfl, by simpa [Nat.add_assoc] using hc 3 _ rfl, by simpa [Nat.add_assoc] using hc 4 _ rfl, by simpa [Nat.add_assoc] using hc 5 _ rfl, by simpa [Nat.add_assoc] using hc 6 _ rfl, q0, q1, q2⟩
set_option maxRecDepth 100000 in
theorem conv_Op32 : Conv Try.prog 42 ROp7 := by
  intro H enc w B fuel cs y h hp hw
  obtain ⟨ys, n, hn, rfl, hcl, hyl, hf⟩ := DataW.trod_struct Try.underlying42 h
  rw [show Try.prog.cellsOf 42 = 7 from by kernel_rfl] at hcl
  obtain ⟨k0, k1, k2, k3, k4, k5, k6, rfl⟩ := len7 hcl
  obtain ⟨y0, y1, y2, y3, rfl⟩ := len4 hyl
  have g0 : DataW.trod enc Try.prog w 0 (fun _ => true) true n 3 [k0] = some y0 := by
    have hk1 : Try.prog.cellsOf 3 = 1 := by kernel_rfl
    have h1 : DataW.trod enc Try.prog w 0 (fun _ => true) true n 3 (List.take (Try.prog.cellsOf 3) (List.drop 0 [k0, k1, k2, k3, k4, k5, k6])) = [y0, y1, y2, y3][0]? := hf 0 _ rfl
    rw [hk1] at h1
    exact h1
  obtain ⟨x0, hx0⟩ := (conv_int Try.underlying3) g0 (fun p hp1 => hp p (by simp [hp1])) (fun m hm => hw m (by simp [DataW.weights, Try.underlying42, DataW.weightsEach, hm]))
  have g1 : DataW.trod enc Try.prog w 0 (fun _ => true) true n 3 [k1] = some y1 := by
    have hk1 : Try.prog.cellsOf 3 = 1 := by kernel_rfl
    have h1 : DataW.trod enc Try.prog w 0 (fun _ => true) true n 3 (List.take (Try.prog.cellsOf 3) (List.drop 1 [k0, k1, k2, k3, k4, k5, k6])) = [y0, y1, y2, y3][1]? := hf 1 _ rfl
    rw [hk1] at h1
    exact h1
  obtain ⟨x1, hx1⟩ := (conv_int Try.underlying3) g1 (fun p hp1 => hp p (by simp [hp1])) (fun m hm => hw m (by simp [DataW.weights, Try.underlying42, DataW.weightsEach, hm]))
  have g2 : DataW.trod enc Try.prog w 0 (fun _ => true) true n 3 [k2] = some y2 := by
    have hk1 : Try.prog.cellsOf 3 = 1 := by kernel_rfl
    have h1 : DataW.trod enc Try.prog w 0 (fun _ => true) true n 3 (List.take (Try.prog.cellsOf 3) (List.drop 2 [k0, k1, k2, k3, k4, k5, k6])) = [y0, y1, y2, y3][2]? := hf 2 _ rfl
    rw [hk1] at h1
    exact h1
  obtain ⟨x2, hx2⟩ := (conv_int Try.underlying3) g2 (fun p hp1 => hp p (by simp [hp1])) (fun m hm => hw m (by simp [DataW.weights, Try.underlying42, DataW.weightsEach, hm]))
  have g3 : DataW.trod enc Try.prog w 0 (fun _ => true) true n 40 [k3, k4, k5, k6] = some y3 := by
    have hk1 : Try.prog.cellsOf 40 = 4 := by kernel_rfl
    have h1 : DataW.trod enc Try.prog w 0 (fun _ => true) true n 40 (List.take (Try.prog.cellsOf 40) (List.drop 3 [k0, k1, k2, k3, k4, k5, k6])) = [y0, y1, y2, y3][3]? := hf 3 _ rfl
    rw [hk1] at h1
    exact h1
  obtain ⟨x3, hx3⟩ := conv_Four g3 (fun p hp1 => hp p (by simp [hp1])) (fun m hm => hw m (by simp [DataW.weights, Try.underlying42, DataW.weightsEach, hm]))
  obtain ⟨e0, q0⟩ := hx0
  obtain ⟨e1, q1⟩ := hx1
  obtain ⟨e2, q2⟩ := hx2
  obtain ⟨e3, q3, q4, q5, q6⟩ := hx3
  simp only [List.cons.injEq, and_true] at e0 e1 e2 e3
  obtain ⟨rfl, rfl, rfl, rfl⟩ := e3
  subst e0 e1 e2
  exact ⟨⟨x0, x1, x2, x3⟩, rfl, q0, q1, q2, q3, q4, q5, q6⟩
theorem conv_Op32s : Conv Try.prog 33 (RSl 7 56 ROp7) := conv_sl Try.underlying33 (by kernel_rfl) (by kernel_rfl) (by decide) conv_Op32
set_option maxRecDepth 100000 in
theorem conv_Op30 : Conv Try.prog 57 ROp7 := by
  intro H enc w B fuel cs y h hp hw
  obtain ⟨ys, n, hn, rfl, hcl, hyl, hf⟩ := DataW.trod_struct Try.underlying57 h
  rw [show Try.prog.cellsOf 57 = 7 from by kernel_rfl] at hcl
  obtain ⟨k0, k1, k2, k3, k4, k5, k6, rfl⟩ := len7 hcl
  obtain ⟨y0, y1, y2, y3, rfl⟩ := len4 hyl
  have g0 : DataW.trod enc Try.prog w 0 (fun _ => true) true n 3 [k0] = some y0 := by
    have hk1 : Try.prog.cellsOf 3 = 1 := by kernel_rfl
    have h1 : DataW.trod enc Try.prog w 0 (fun _ => true) true n 3 (List.take (Try.prog.cellsOf 3) (List.drop 0 [k0, k1, k2, k3, k4, k5, k6])) = [y0, y1, y2, y3][0]? := hf 0 _ rfl
    rw [hk1] at h1
    exact h1
  obtain ⟨x0, hx0⟩ := (conv_int Try.underlying3) g0 (fun p hp1 => hp p (by simp [hp1])) (fun m hm => hw m (by simp [DataW.weights, Try.underlying57, DataW.weightsEach, hm]))
  have g1 : DataW.trod enc Try.prog w 0 (fun _ => true) true n 3 [k1] = some y1 := by
    have hk1 : Try.prog.cellsOf 3 = 1 := by kernel_rfl
    have h1 : DataW.trod enc Try.prog w 0 (fun _ => true) true n 3 (List.take (Try.prog.cellsOf 3) (List.drop 1 [k0, k1, k2, k3, k4, k5, k6])) = [y0, y1, y2, y3][1]? := hf 1 _ rfl
    rw [hk1] at h1
    exact h1
  obtain ⟨x1, hx1⟩ := (conv_int Try.underlying3) g1 (fun p hp1 => hp p (by simp [hp1])) (fun m hm => hw m (by simp [DataW.weights, Try.underlying57, DataW.weightsEach, hm]))
  have g2 : DataW.trod enc Try.prog w 0 (fun _ => true) true n 3 [k2] = some y2 := by
    have hk1 : Try.prog.cellsOf 3 = 1 := by kernel_rfl
    have h1 : DataW.trod enc Try.prog w 0 (fun _ => true) true n 3 (List.take (Try.prog.cellsOf 3) (List.drop 2 [k0, k1, k2, k3, k4, k5, k6])) = [y0, y1, y2, y3][2]? := hf 2 _ rfl
    rw [hk1] at h1
    exact h1
  obtain ⟨x2, hx2⟩ := (conv_int Try.underlying3) g2 (fun p hp1 => hp p (by simp [hp1])) (fun m hm => hw m (by simp [DataW.weights, Try.underlying57, DataW.weightsEach, hm]))
  have g3 : DataW.trod enc Try.prog w 0 (fun _ => true) true n 40 [k3, k4, k5, k6] = some y3 := by
    have hk1 : Try.prog.cellsOf 40 = 4 := by kernel_rfl
    have h1 : DataW.trod enc Try.prog w 0 (fun _ => true) true n 40 (List.take (Try.prog.cellsOf 40) (List.drop 3 [k0, k1, k2, k3, k4, k5, k6])) = [y0, y1, y2, y3][3]? := hf 3 _ rfl
    rw [hk1] at h1
    exact h1
  obtain ⟨x3, hx3⟩ := conv_Four g3 (fun p hp1 => hp p (by simp [hp1])) (fun m hm => hw m (by simp [DataW.weights, Try.underlying57, DataW.weightsEach, hm]))
  obtain ⟨e0, q0⟩ := hx0
  obtain ⟨e1, q1⟩ := hx1
  obtain ⟨e2, q2⟩ := hx2
  obtain ⟨e3, q3, q4, q5, q6⟩ := hx3
  simp only [List.cons.injEq, and_true] at e0 e1 e2 e3
  obtain ⟨rfl, rfl, rfl, rfl⟩ := e3
  subst e0 e1 e2
  exact ⟨⟨x0, x1, x2, x3⟩, rfl, q0, q1, q2, q3, q4, q5, q6⟩
theorem conv_Op30s : Conv Try.prog 50 (RSl 7 56 ROp7) := conv_sl Try.underlying50 (by kernel_rfl) (by kernel_rfl) (by decide) conv_Op30
end Go.Proofs.Ythddhipmmhihlaa
