/-
  A frame: the value on top is taken.
-/
import Derived.Test.YtafcggibhmkgkaaFr6
namespace Go.Proofs.Ytafcggibhmkgkaa
open Go.RowKit
set_option linter.unusedSimpArgs false
set_option linter.unusedVariables false
attribute [local go_sem] run_store_cplx
set_option maxRecDepth 100000 in
set_option maxHeartbeats 1000000 in
theorem pile_pop (g s c : Nat) (k n : Int) (x y : Nat) (w : World) (h : w.cell? ⟨g, 14, none⟩ = some (.slice (some ⟨s, 0, none⟩) 1 c)) (hf : w.frozen? ⟨g, 14, none⟩ = false) (hc : 1 ≤ c) (hm : c ≤ 9223372036854775807) (hsg : s ≠ g) (h0 : w.cell? ⟨s, 0, none⟩ = some (.int .i64 k)) (h1 : w.cell? ⟨s, 1, none⟩ = some (.int .i64 n)) (h2 : w.cell? ⟨s, 2, none⟩ = some (.complex .f64 x y)) :
    Calls Try.prog 32 #[.pointer (some ⟨g, 14, none⟩)] w fun e w' => e = .returned (.tuple #[vV k n x y, .bool true]) ∧ Kp (fun k => k = g) w w' ∧ ∀ i, i ≠ 14 → w'.cell? ⟨g, i, none⟩ = w.cell? ⟨g, i, none⟩ := by
  obtain ⟨W, hW⟩ : ∃ W, (w.alloc (.cells #[.int .i64 0, .int .i64 0, .complex .f64 0 0] 27)).alloc (.cells #[.int .i64 0, .int .i64 0, .complex .f64 0 0] 27) = W := ⟨_, rfl⟩
  have hk : Kp (fun _ => False) w W := by rw [← hW]; exact ((Kp.refl _ _).alloc _).alloc _
  have hlt : g < w.heap.size := World.block_lt_of_cell? _ _ h
  have hls : s < w.heap.size := World.block_lt_of_cell? _ _ h0
  have ct := Lib.hid (pile_take1 g s c W (hk.cellv h id) ((hk.frozen hlt id).trans hf) hc hm)
  have z : ∀ j, j < 3 → ∃ u, #[Value.int .i64 0, .int .i64 0, .complex .f64 0 0][j]? = some u ∧ W.cell? ⟨w.heap.size, j, none⟩ = some u ∧ W.frozen? ⟨w.heap.size, j, none⟩ = false := fun j hj => by
    rw [← hW]
    have hb : Below (w.alloc (.cells #[.int .i64 0, .int .i64 0, .complex .f64 0 0] 27)).heap.size (w.alloc (.cells #[.int .i64 0, .int .i64 0, .complex .f64 0 0] 27)) ((w.alloc (.cells #[.int .i64 0, .int .i64 0, .complex .f64 0 0] 27)).alloc (.cells #[.int .i64 0, .int .i64 0, .complex .f64 0 0] 27)) := (Below.refl _ _).alloc (Nat.le_refl _) _
    match j, hj with
    | 0, _ => exact ⟨_, rfl, (new_cells hb 0 _ rfl).1, (new_cells hb 0 (.int .i64 0) rfl).2⟩
    | 1, _ => exact ⟨_, rfl, (new_cells hb 1 _ rfl).1, (new_cells hb 1 (.int .i64 0) rfl).2⟩
    | 2, _ => exact ⟨_, rfl, (new_cells hb 2 _ rfl).1, (new_cells hb 2 (.complex .f64 0 0) rfl).2⟩
  have HE := Lib.hid hW
  have HX : Hid (∀ q v, ((((W.drewN q).setCell ⟨g, 14, none⟩ v).cell? ⟨w.heap.size, 0, none⟩ = some (.int .i64 0) ∧ ((W.drewN q).setCell ⟨g, 14, none⟩ v).cell? ⟨w.heap.size, 1, none⟩ = some (.int .i64 0) ∧ ((W.drewN q).setCell ⟨g, 14, none⟩ v).cell? ⟨w.heap.size, 2, none⟩ = some (.complex .f64 0 0)) ∧ (∀ j, ((W.drewN q).setCell ⟨g, 14, none⟩ v).frozen? ⟨w.heap.size, j, none⟩ = W.frozen? ⟨w.heap.size, j, none⟩)) ∧ ((W.drewN q).setCell ⟨g, 14, none⟩ v).cell? ⟨s, 0, none⟩ = some (.int .i64 k) ∧ ((W.drewN q).setCell ⟨g, 14, none⟩ v).cell? ⟨s, 1, none⟩ = some (.int .i64 n) ∧ ((W.drewN q).setCell ⟨g, 14, none⟩ v).cell? ⟨s, 2, none⟩ = some (.complex .f64 x y) ∧ Kp (fun k => k = g) w ((W.drewN q).setCell ⟨g, 14, none⟩ v) ∧ ∀ i, i ≠ 14 → ((W.drewN q).setCell ⟨g, 14, none⟩ v).cell? ⟨g, i, none⟩ = w.cell? ⟨g, i, none⟩) := Lib.hid fun q v => by
    have ne : w.heap.size ≠ g := by omega
    have far : ∀ p : Addr, p.block ≠ g → ((W.drewN q).setCell ⟨g, 14, none⟩ v).cell? p = W.cell? p := fun p hp => World.cell?_setCell_far _ _ _ _ (Ne.symm hp)
    obtain ⟨u0, e0, c0, f0⟩ := z 0 (by omega)
    obtain ⟨u1, e1, c1, f1⟩ := z 1 (by omega)
    obtain ⟨u2, e2, c2, f2⟩ := z 2 (by omega)
    simp at e0 e1 e2
    subst e0 e1 e2
    exact ⟨⟨⟨(far _ ne).trans c0, (far _ ne).trans c1, (far _ ne).trans c2⟩, fun j => World.frozen?_setCell _ _ _ _⟩, (far _ hsg).trans (hk.cellv h0 id), (far _ hsg).trans (hk.cellv h1 id), (far _ hsg).trans (hk.cellv h2 id), Kp.setCell (S := fun k => k = g) ((hk.mono fun _ _ h => h.elim).drewN q) (p := ⟨g, 14, none⟩) (fun _ => rfl) _, fun i hi => (World.cell?_setCell_other _ _ _ _ (by simp; try omega)).trans (hk.cell hlt id)⟩
  have Z0 : Hid (∀ j, j < 3 → W.frozen? ⟨w.heap.size, j, none⟩ = false) := Lib.hid fun j hj => (z j hj).elim fun u h => h.2.2
  have HG : Hid (w.heap.size ≠ g) := Lib.hid (by omega)
  clear h hf h0 h1 h2 hk hW z hlt hls
  go_enter Try.func32, Try.ntmps32
  go_wp2_with fail
  rw [HE.out]
  refine ct.out.mono ?_
  rintro e w2 ⟨rfl, q, v, rfl⟩
  obtain ⟨⟨⟨x0, x1, x2⟩, xf⟩, s0, s1, s2, hk, hco⟩ := HX.out q v
  have HCO := Lib.hid hco
  have f0 := (xf 0).trans (Z0.out 0 (by omega))
  have f1 := (xf 1).trans (Z0.out 1 (by omega))
  have f2 := (xf 2).trans (Z0.out 2 (by omega))
  have HKK := Lib.hid hk
  generalize (W.drewN q).setCell ⟨g, 14, none⟩ v = W2 at *
  clear hk hco xf HX ct
  go_wp2_with fail
  exact bodyPost_ret (v := .tuple #[vV k n x y, .bool true]) (by simp [results, Try.results32, go_sem, x0, x1, x2]) rfl ⟨rfl, by repeat (first | exact HKK.out | (refine Kp.setCell (S := fun k => k = g) ?_ (fun h => absurd h (Nat.lt_irrefl _)) _)), fun i hi => by
    rw [World.cell?_setCell_far _ _ _ _ HG.out, World.cell?_setCell_far _ _ _ _ HG.out, World.cell?_setCell_far _ _ _ _ HG.out]
    exact HCO.out i hi⟩
set_option maxRecDepth 100000 in
set_option maxHeartbeats 1000000 in
theorem f_pop (g s c : Nat) (k n : Int) (x y : Nat) (w : World) (h : w.cell? ⟨g, 14, none⟩ = some (.slice (some ⟨s, 0, none⟩) 1 c)) (hf : w.frozen? ⟨g, 14, none⟩ = false) (hc : 1 ≤ c) (hm : c ≤ 9223372036854775807) (hsg : s ≠ g) (h0 : w.cell? ⟨s, 0, none⟩ = some (.int .i64 k)) (h1 : w.cell? ⟨s, 1, none⟩ = some (.int .i64 n)) (h2 : w.cell? ⟨s, 2, none⟩ = some (.complex .f64 x y)) :
    Calls Try.prog 12 #[fpV g] w fun e w' => e = .returned (vV k n x y) ∧ Kp (fun k => k = g) w w' ∧ ∀ i, i ≠ 14 → w'.cell? ⟨g, i, none⟩ = w.cell? ⟨g, i, none⟩ := by
  have hlt : g < w.heap.size := World.block_lt_of_cell? _ _ h
  have hk : Kp (fun _ => False) w (w.alloc (.cells #[.int .i64 0, .int .i64 0, .complex .f64 0 0] 27)) := (Kp.refl _ _).alloc _
  have cp := Lib.hid (pile_pop g s c k n x y (w.alloc (.cells #[.int .i64 0, .int .i64 0, .complex .f64 0 0] 27)) (hk.cellv h id) ((hk.frozen hlt id).trans hf) hc hm hsg (hk.cellv h0 id) (hk.cellv h1 id) (hk.cellv h2 id))
  have HG : Hid (¬ w.heap.size = g) := Lib.hid (by omega)
  have HL : Hid (g < w.heap.size) := Lib.hid hlt
  clear h hf h0 h1 h2 hlt hk
  go_enter Try.func12, Try.ntmps12
  go_wp2_with fail
  refine cp.out.mono ?_
  rintro e w2 ⟨rfl, hk, hco⟩
  have N := fun i v h => new_cells (w := w) (cs := #[.int .i64 0, .int .i64 0, .complex .f64 0 0]) (t := 27) (Below.refl _ _) i v h
  have hk2 : Kp (fun _ => False) w2 (w2.alloc (.cells #[.int .i64 k, .int .i64 n, .complex .f64 x y] 27)) := (Kp.refl _ _).alloc _
  have hk9 : Kp (fun k => k = g) _ (w2.alloc (.cells #[.int .i64 k, .int .i64 n, .complex .f64 x y] 27)) := hk.trans (hk2.mono fun _ _ h => h.elim)
  have x0 : (w2.alloc (.cells #[.int .i64 k, .int .i64 n, .complex .f64 x y] 27)).cell? ⟨w.heap.size, 0, none⟩ = some (.int .i64 0) := hk9.cellv (N 0 (.int .i64 0) rfl).1 HG.out
  have f0 : (w2.alloc (.cells #[.int .i64 k, .int .i64 n, .complex .f64 x y] 27)).frozen? ⟨w.heap.size, 0, none⟩ = false := (hk9.frozen (p := ⟨w.heap.size, 0, none⟩) (by simp) HG.out).trans (N 0 (.int .i64 0) rfl).2
  have x1 : (w2.alloc (.cells #[.int .i64 k, .int .i64 n, .complex .f64 x y] 27)).cell? ⟨w.heap.size, 1, none⟩ = some (.int .i64 0) := hk9.cellv (N 1 (.int .i64 0) rfl).1 HG.out
  have f1 : (w2.alloc (.cells #[.int .i64 k, .int .i64 n, .complex .f64 x y] 27)).frozen? ⟨w.heap.size, 1, none⟩ = false := (hk9.frozen (p := ⟨w.heap.size, 1, none⟩) (by simp) HG.out).trans (N 1 (.int .i64 0) rfl).2
  have x2 : (w2.alloc (.cells #[.int .i64 k, .int .i64 n, .complex .f64 x y] 27)).cell? ⟨w.heap.size, 2, none⟩ = some (.complex .f64 0 0) := hk9.cellv (N 2 (.complex .f64 0 0) rfl).1 HG.out
  have f2 : (w2.alloc (.cells #[.int .i64 k, .int .i64 n, .complex .f64 x y] 27)).frozen? ⟨w.heap.size, 2, none⟩ = false := (hk9.frozen (p := ⟨w.heap.size, 2, none⟩) (by simp) HG.out).trans (N 2 (.complex .f64 0 0) rfl).2
  have HK : Hid (Kp (fun k => k = g) w w2) := Lib.hid (((Kp.refl _ _).alloc _).trans hk)
  have HCO : Hid (∀ i, i ≠ 14 → (w2.alloc (.cells #[.int .i64 k, .int .i64 n, .complex .f64 x y] 27)).cell? ⟨g, i, none⟩ = w.cell? ⟨g, i, none⟩) := Lib.hid fun i hi => by
    rw [World.cell?_alloc_lt _ _ _ (by have := hk.size; have := HL.out; simp at *; omega), hco i hi, World.cell?_alloc_lt _ _ _ HL.out]
  clear hk hco N cp hk2 hk9
  go_wp2_with fail
  exact bodyPost_ret (v := vV k n x y) (by simp [results, Try.results12, go_sem, x0, x1, x2]) rfl ⟨rfl, by repeat (first | exact HK.out | (refine Kp.alloc ?_ _) | (refine Kp.setCell (S := fun k => k = g) ?_ (fun h => absurd h (Nat.lt_irrefl _)) _)), fun i hi => by
    rw [World.cell?_setCell_far _ _ _ _ HG.out, World.cell?_setCell_far _ _ _ _ HG.out, World.cell?_setCell_far _ _ _ _ HG.out]
    exact HCO.out i hi⟩
end Go.Proofs.Ytafcggibhmkgkaa
