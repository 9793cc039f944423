/-
  Sets of slots: one more slot, whichever it is.
-/
import Derived.Test.YtgjmmbhakjalgaaDoorSl1
import Derived.Test.YtgjmmbhakjalgaaDoorMtN
import Derived.Test.YtgjmmbhakjalgaaDoorHeld
namespace Go.Proofs.YtgjmmbhakjalgaaDoor
open Go.RowKit
set_option linter.unusedSimpArgs false
set_option linter.unusedVariables false
set_option maxHeartbeats 1000000 in
theorem with_w0 (a0 a1 a2 a3 : Int) (r : Nat) (hr : r < 64) (w : World) : Calls Tryd.prog 23 #[aggU a0 a1 a2 a3, .int .i64 ((0 + r : Nat) : Int)] w (IsAgg (bits .or .u64 a0 (2 ^ r)) a1 a2 a3 w) := by
  obtain ⟨n, hn⟩ : ∃ n : Int, ((0 + r : Nat) : Int) = n := ⟨_, rfl⟩
  have hq : n.tdiv 64 = 0 := by rw [Int.tdiv_eq_ediv_of_nonneg (by omega)]; omega
  have hm : n.tmod 64 = (r : Int) := by rw [Int.tmod_eq_emod_of_nonneg (by omega)]; omega
  have hw : IntKind.i64.wrap (r : Int) = r := by rw [IntKind.wrap_i64]; omega
  have hw1 : IntKind.i64.wrap 0 = 0 := by rw [IntKind.wrap_i64]; omega
  have hp : IntKind.u64.wrap (2 ^ r) = 2 ^ r := by
    have h1 : 2 ^ r < 18446744073709551616 := by
      calc 2 ^ r < 2 ^ 64 := Nat.pow_lt_pow_right (by decide) hr
        _ = 18446744073709551616 := by decide
    have h2 : ((2 ^ r : Nat) : Int) = 2 ^ r := by simp
    have h3 : (0 : Int) ≤ 2 ^ r := by rw [← h2]; exact Int.natCast_nonneg _
    have h4 : (2 : Int) ^ r < 18446744073709551616 := by rw [← h2]; exact Int.ofNat_lt.2 h1
    rw [IntKind.wrap_u64]
    exact Int.emod_eq_of_lt h3 h4
  have hn0 : 0 ≤ n := by omega
  have hn1 : n < 256 := by omega
  obtain ⟨w0, hw0⟩ : ∃ y, (w.alloc (.cells #[.int .u64 a0, .int .u64 a1, .int .u64 a2, .int .u64 a3] 27)).alloc (.cells #[.int .u64 0, .int .u64 0, .int .u64 0, .int .u64 0] 27) = y := ⟨_, rfl⟩
  have hb0 : Below w.heap.size w w0 := by rw [← hw0]; exact ((Below.refl _ _).alloc (Nat.le_refl _) _).alloc (by simp) _
  have y : ∀ j u, #[Value.int .u64 a0, .int .u64 a1, .int .u64 a2, .int .u64 a3][j]? = some u → w0.cell? ⟨w.heap.size, j, none⟩ = some u ∧ w0.frozen? ⟨w.heap.size, j, none⟩ = false := fun j u hu => by
    rw [← hw0]
    exact new_cells (w := w) (cs := #[Value.int .u64 a0, .int .u64 a1, .int .u64 a2, .int .u64 a3]) (t := 27) ((Below.refl _ _).alloc (Nat.le_refl _) _) j u hu
  have z : ∀ j u, #[Value.int .u64 0, .int .u64 0, .int .u64 0, .int .u64 0][j]? = some u → w0.cell? ⟨w.heap.size + 1, j, none⟩ = some u ∧ w0.frozen? ⟨w.heap.size + 1, j, none⟩ = false := fun j u hu => by
    rw [← hw0]
    have := new_cells (w := w.alloc (.cells #[.int .u64 a0, .int .u64 a1, .int .u64 a2, .int .u64 a3] 27)) (cs := #[Value.int .u64 0, .int .u64 0, .int .u64 0, .int .u64 0]) (t := 27) (Below.refl _ _) j u hu
    simpa using this
  have y0 : w0.cell? ⟨w.heap.size, 0, none⟩ = some (.int .u64 a0) := (y 0 _ rfl).1
  have f0 := (y 0 _ rfl).2
  have y1 : w0.cell? ⟨w.heap.size, 1, none⟩ = some (.int .u64 a1) := (y 1 _ rfl).1
  have f1 := (y 1 _ rfl).2
  have y2 : w0.cell? ⟨w.heap.size, 2, none⟩ = some (.int .u64 a2) := (y 2 _ rfl).1
  have f2 := (y 2 _ rfl).2
  have y3 : w0.cell? ⟨w.heap.size, 3, none⟩ = some (.int .u64 a3) := (y 3 _ rfl).1
  have f3 := (y 3 _ rfl).2
  have z0 : w0.cell? ⟨w.heap.size + 1, 0, none⟩ = some (.int .u64 0) := (z 0 _ rfl).1
  have g0 := (z 0 _ rfl).2
  have z1 : w0.cell? ⟨w.heap.size + 1, 1, none⟩ = some (.int .u64 0) := (z 1 _ rfl).1
  have g1 := (z 1 _ rfl).2
  have z2 : w0.cell? ⟨w.heap.size + 1, 2, none⟩ = some (.int .u64 0) := (z 2 _ rfl).1
  have g2 := (z 2 _ rfl).2
  have z3 : w0.cell? ⟨w.heap.size + 1, 3, none⟩ = some (.int .u64 0) := (z 3 _ rfl).1
  have g3 := (z 3 _ rfl).2
  have HE := Lib.hid hw0
  have HB := Lib.hid hb0
  rw [hn]
  clear y z hw0 hb0
  go_enter Tryd.func23, Tryd.ntmps23
  go_wp2_with fail
  rw [HE.out]
  refine (is_in n hn0 hn1 _).mono ?_
  rintro e w' ⟨rfl, rfl⟩
  go_wp2_with fail
  have hS0 : Below w.heap.size w w0.drew := HB.out.drew
  refine wp_region_held (S := fun W => Below w.heap.size w W) (by kernel_rfl) ?_
  change wpAnyH _ _ _ _ _ _ _ _ (World.drew _)
  refine wpAnyH_take (i := 0) (v := .int .i64 n) rfl (by kernel_rfl) (by kernel_rfl) (by kernel_rfl) (fun _ _ _ h => h) (Or.inl ⟨by rfl, by intro W hW; go_simp; try (first | (with_reducible rfl) | omega)⟩) hS0 ?_
  refine wpAnyH_take (i := 1) (v := .int .i64 0) rfl (by kernel_rfl) (by kernel_rfl) (by kernel_rfl) (fun _ _ _ h => h) (Or.inl ⟨by rfl, by intro W hW; go_simp; try (first | (with_reducible rfl) | omega)⟩) hS0 ?_
  refine wpAnyH_take (i := 2) (v := .pointer (some ⟨w.heap.size, 0, none⟩)) rfl (by kernel_rfl) (by kernel_rfl) (by kernel_rfl) (fun _ _ _ h => h) (Or.inl ⟨by rfl, by intro W hW; go_simp; try (first | (with_reducible rfl) | omega)⟩) hS0 ?_
  refine wpAnyH_take (i := 4) (v := .int .i64 n) rfl (by kernel_rfl) (by kernel_rfl) (by kernel_rfl) (fun _ _ _ h => h) (Or.inl ⟨by rfl, by intro W hW; go_simp; try (first | (with_reducible rfl) | omega)⟩) hS0 ?_
  refine wpAnyH_take (i := 5) (v := .int .i64 (r : Int)) rfl (by kernel_rfl) (by kernel_rfl) (by kernel_rfl) (fun _ _ _ h => h) (Or.inl ⟨by rfl, by intro W hW; go_simp; try (first | (with_reducible rfl) | omega)⟩) hS0 ?_
  refine wpAnyH_take (i := 6) (v := .int .u64 (2 ^ r)) rfl (by kernel_rfl) (by kernel_rfl) (by kernel_rfl) (fun _ _ _ h => h) (Or.inl ⟨by rfl, by intro W hW; go_simp; try (first | (with_reducible rfl) | omega)⟩) hS0 ?_
  refine wpAnyH_one (i := 3) (by kernel_rfl) rfl (fun K hK => ?_)
  go_simp
  refine hK _ _ ⟨hS0, ?_⟩; clear hK K
  refine wpAnyH_take (i := 7) (v := .int .u64 (bits .or .u64 a0 (2 ^ r))) rfl (by kernel_rfl) (by kernel_rfl) (by kernel_rfl) (fun _ _ _ h => h) (Or.inl ⟨by rfl, by intro W hW; go_simp; try (first | (with_reducible rfl) | omega)⟩) hS0 ?_
  refine wpAnyH_take (i := 8) (v := .pointer (some ⟨w.heap.size, 0, none⟩)) rfl (by kernel_rfl) (by kernel_rfl) (by kernel_rfl) (fun _ _ _ h => h) (Or.inl ⟨by rfl, by intro W hW; go_simp; try (first | (with_reducible rfl) | omega)⟩) hS0 ?_
  have hK1 := hS0
  refine wpAnyH_one (i := 9) (by kernel_rfl) rfl (fun K hK => ?_)
  go_simp
  refine hK _ _ ⟨(hK1.setCell (p := ⟨w.heap.size, 0, none⟩) (Nat.le_refl _) _), ?_⟩; clear hK K
  refine wpAnyH_done (by kernel_rfl) ?_ _
  go_simp
  go_wp2_with fail
  exact bodyPost_ret (v := aggU (bits .or .u64 a0 (2 ^ r)) a1 a2 a3) (by simp [results, Tryd.results23, go_sem, z0, z1, z2, z3]) rfl ⟨rfl, below3 (hK1.setCell (p := ⟨w.heap.size, 0, none⟩) (Nat.le_refl _) _) (by omega) _ _ _ _⟩
set_option maxHeartbeats 1000000 in
theorem with_w1 (a0 a1 a2 a3 : Int) (r : Nat) (hr : r < 64) (w : World) : Calls Tryd.prog 23 #[aggU a0 a1 a2 a3, .int .i64 ((64 + r : Nat) : Int)] w (IsAgg a0 (bits .or .u64 a1 (2 ^ r)) a2 a3 w) := by
  obtain ⟨n, hn⟩ : ∃ n : Int, ((64 + r : Nat) : Int) = n := ⟨_, rfl⟩
  have hq : n.tdiv 64 = 1 := by rw [Int.tdiv_eq_ediv_of_nonneg (by omega)]; omega
  have hm : n.tmod 64 = (r : Int) := by rw [Int.tmod_eq_emod_of_nonneg (by omega)]; omega
  have hw : IntKind.i64.wrap (r : Int) = r := by rw [IntKind.wrap_i64]; omega
  have hw1 : IntKind.i64.wrap 1 = 1 := by rw [IntKind.wrap_i64]; omega
  have hp : IntKind.u64.wrap (2 ^ r) = 2 ^ r := by
    have h1 : 2 ^ r < 18446744073709551616 := by
      calc 2 ^ r < 2 ^ 64 := Nat.pow_lt_pow_right (by decide) hr
        _ = 18446744073709551616 := by decide
    have h2 : ((2 ^ r : Nat) : Int) = 2 ^ r := by simp
    have h3 : (0 : Int) ≤ 2 ^ r := by rw [← h2]; exact Int.natCast_nonneg _
    have h4 : (2 : Int) ^ r < 18446744073709551616 := by rw [← h2]; exact Int.ofNat_lt.2 h1
    rw [IntKind.wrap_u64]
    exact Int.emod_eq_of_lt h3 h4
  have hn0 : 0 ≤ n := by omega
  have hn1 : n < 256 := by omega
  obtain ⟨w0, hw0⟩ : ∃ y, (w.alloc (.cells #[.int .u64 a0, .int .u64 a1, .int .u64 a2, .int .u64 a3] 27)).alloc (.cells #[.int .u64 0, .int .u64 0, .int .u64 0, .int .u64 0] 27) = y := ⟨_, rfl⟩
  have hb0 : Below w.heap.size w w0 := by rw [← hw0]; exact ((Below.refl _ _).alloc (Nat.le_refl _) _).alloc (by simp) _
  have y : ∀ j u, #[Value.int .u64 a0, .int .u64 a1, .int .u64 a2, .int .u64 a3][j]? = some u → w0.cell? ⟨w.heap.size, j, none⟩ = some u ∧ w0.frozen? ⟨w.heap.size, j, none⟩ = false := fun j u hu => by
    rw [← hw0]
    exact new_cells (w := w) (cs := #[Value.int .u64 a0, .int .u64 a1, .int .u64 a2, .int .u64 a3]) (t := 27) ((Below.refl _ _).alloc (Nat.le_refl _) _) j u hu
  have z : ∀ j u, #[Value.int .u64 0, .int .u64 0, .int .u64 0, .int .u64 0][j]? = some u → w0.cell? ⟨w.heap.size + 1, j, none⟩ = some u ∧ w0.frozen? ⟨w.heap.size + 1, j, none⟩ = false := fun j u hu => by
    rw [← hw0]
    have := new_cells (w := w.alloc (.cells #[.int .u64 a0, .int .u64 a1, .int .u64 a2, .int .u64 a3] 27)) (cs := #[Value.int .u64 0, .int .u64 0, .int .u64 0, .int .u64 0]) (t := 27) (Below.refl _ _) j u hu
    simpa using this
  have y0 : w0.cell? ⟨w.heap.size, 0, none⟩ = some (.int .u64 a0) := (y 0 _ rfl).1
  have f0 := (y 0 _ rfl).2
  have y1 : w0.cell? ⟨w.heap.size, 1, none⟩ = some (.int .u64 a1) := (y 1 _ rfl).1
  have f1 := (y 1 _ rfl).2
  have y2 : w0.cell? ⟨w.heap.size, 2, none⟩ = some (.int .u64 a2) := (y 2 _ rfl).1
  have f2 := (y 2 _ rfl).2
  have y3 : w0.cell? ⟨w.heap.size, 3, none⟩ = some (.int .u64 a3) := (y 3 _ rfl).1
  have f3 := (y 3 _ rfl).2
  have z0 : w0.cell? ⟨w.heap.size + 1, 0, none⟩ = some (.int .u64 0) := (z 0 _ rfl).1
  have g0 := (z 0 _ rfl).2
  have z1 : w0.cell? ⟨w.heap.size + 1, 1, none⟩ = some (.int .u64 0) := (z 1 _ rfl).1
  have g1 := (z 1 _ rfl).2
  have z2 : w0.cell? ⟨w.heap.size + 1, 2, none⟩ = some (.int .u64 0) := (z 2 _ rfl).1
  have g2 := (z 2 _ rfl).2
  have z3 : w0.cell? ⟨w.heap.size + 1, 3, none⟩ = some (.int .u64 0) := (z 3 _ rfl).1
  have g3 := (z 3 _ rfl).2
  have HE := Lib.hid hw0
  have HB := Lib.hid hb0
  rw [hn]
  clear y z hw0 hb0
  go_enter Tryd.func23, Tryd.ntmps23
  go_wp2_with fail
  rw [HE.out]
  refine (is_in n hn0 hn1 _).mono ?_
  rintro e w' ⟨rfl, rfl⟩
  go_wp2_with fail
  have hS0 : Below w.heap.size w w0.drew := HB.out.drew
  refine wp_region_held (S := fun W => Below w.heap.size w W) (by kernel_rfl) ?_
  change wpAnyH _ _ _ _ _ _ _ _ (World.drew _)
  refine wpAnyH_take (i := 0) (v := .int .i64 n) rfl (by kernel_rfl) (by kernel_rfl) (by kernel_rfl) (fun _ _ _ h => h) (Or.inl ⟨by rfl, by intro W hW; go_simp; try (first | (with_reducible rfl) | omega)⟩) hS0 ?_
  refine wpAnyH_take (i := 1) (v := .int .i64 1) rfl (by kernel_rfl) (by kernel_rfl) (by kernel_rfl) (fun _ _ _ h => h) (Or.inl ⟨by rfl, by intro W hW; go_simp; try (first | (with_reducible rfl) | omega)⟩) hS0 ?_
  refine wpAnyH_take (i := 2) (v := .pointer (some ⟨w.heap.size, 1, none⟩)) rfl (by kernel_rfl) (by kernel_rfl) (by kernel_rfl) (fun _ _ _ h => h) (Or.inl ⟨by rfl, by intro W hW; go_simp; try (first | (with_reducible rfl) | omega)⟩) hS0 ?_
  refine wpAnyH_take (i := 4) (v := .int .i64 n) rfl (by kernel_rfl) (by kernel_rfl) (by kernel_rfl) (fun _ _ _ h => h) (Or.inl ⟨by rfl, by intro W hW; go_simp; try (first | (with_reducible rfl) | omega)⟩) hS0 ?_
  refine wpAnyH_take (i := 5) (v := .int .i64 (r : Int)) rfl (by kernel_rfl) (by kernel_rfl) (by kernel_rfl) (fun _ _ _ h => h) (Or.inl ⟨by rfl, by intro W hW; go_simp; try (first | (with_reducible rfl) | omega)⟩) hS0 ?_
  refine wpAnyH_take (i := 6) (v := .int .u64 (2 ^ r)) rfl (by kernel_rfl) (by kernel_rfl) (by kernel_rfl) (fun _ _ _ h => h) (Or.inl ⟨by rfl, by intro W hW; go_simp; try (first | (with_reducible rfl) | omega)⟩) hS0 ?_
  refine wpAnyH_one (i := 3) (by kernel_rfl) rfl (fun K hK => ?_)
  go_simp
  refine hK _ _ ⟨hS0, ?_⟩; clear hK K
  refine wpAnyH_take (i := 7) (v := .int .u64 (bits .or .u64 a1 (2 ^ r))) rfl (by kernel_rfl) (by kernel_rfl) (by kernel_rfl) (fun _ _ _ h => h) (Or.inl ⟨by rfl, by intro W hW; go_simp; try (first | (with_reducible rfl) | omega)⟩) hS0 ?_
  refine wpAnyH_take (i := 8) (v := .pointer (some ⟨w.heap.size, 1, none⟩)) rfl (by kernel_rfl) (by kernel_rfl) (by kernel_rfl) (fun _ _ _ h => h) (Or.inl ⟨by rfl, by intro W hW; go_simp; try (first | (with_reducible rfl) | omega)⟩) hS0 ?_
  have hK1 := hS0
  refine wpAnyH_one (i := 9) (by kernel_rfl) rfl (fun K hK => ?_)
  go_simp
  refine hK _ _ ⟨(hK1.setCell (p := ⟨w.heap.size, 1, none⟩) (Nat.le_refl _) _), ?_⟩; clear hK K
  refine wpAnyH_done (by kernel_rfl) ?_ _
  go_simp
  go_wp2_with fail
  exact bodyPost_ret (v := aggU a0 (bits .or .u64 a1 (2 ^ r)) a2 a3) (by simp [results, Tryd.results23, go_sem, z0, z1, z2, z3]) rfl ⟨rfl, below3 (hK1.setCell (p := ⟨w.heap.size, 1, none⟩) (Nat.le_refl _) _) (by omega) _ _ _ _⟩
set_option maxHeartbeats 1000000 in
theorem with_w2 (a0 a1 a2 a3 : Int) (r : Nat) (hr : r < 64) (w : World) : Calls Tryd.prog 23 #[aggU a0 a1 a2 a3, .int .i64 ((128 + r : Nat) : Int)] w (IsAgg a0 a1 (bits .or .u64 a2 (2 ^ r)) a3 w) := by
  obtain ⟨n, hn⟩ : ∃ n : Int, ((128 + r : Nat) : Int) = n := ⟨_, rfl⟩
  have hq : n.tdiv 64 = 2 := by rw [Int.tdiv_eq_ediv_of_nonneg (by omega)]; omega
  have hm : n.tmod 64 = (r : Int) := by rw [Int.tmod_eq_emod_of_nonneg (by omega)]; omega
  have hw : IntKind.i64.wrap (r : Int) = r := by rw [IntKind.wrap_i64]; omega
  have hw1 : IntKind.i64.wrap 2 = 2 := by rw [IntKind.wrap_i64]; omega
  have hp : IntKind.u64.wrap (2 ^ r) = 2 ^ r := by
    have h1 : 2 ^ r < 18446744073709551616 := by
      calc 2 ^ r < 2 ^ 64 := Nat.pow_lt_pow_right (by decide) hr
        _ = 18446744073709551616 := by decide
    have h2 : ((2 ^ r : Nat) : Int) = 2 ^ r := by simp
    have h3 : (0 : Int) ≤ 2 ^ r := by rw [← h2]; exact Int.natCast_nonneg _
    have h4 : (2 : Int) ^ r < 18446744073709551616 := by rw [← h2]; exact Int.ofNat_lt.2 h1
    rw [IntKind.wrap_u64]
    exact Int.emod_eq_of_lt h3 h4
  have hn0 : 0 ≤ n := by omega
  have hn1 : n < 256 := by omega
  obtain ⟨w0, hw0⟩ : ∃ y, (w.alloc (.cells #[.int .u64 a0, .int .u64 a1, .int .u64 a2, .int .u64 a3] 27)).alloc (.cells #[.int .u64 0, .int .u64 0, .int .u64 0, .int .u64 0] 27) = y := ⟨_, rfl⟩
  have hb0 : Below w.heap.size w w0 := by rw [← hw0]; exact ((Below.refl _ _).alloc (Nat.le_refl _) _).alloc (by simp) _
  have y : ∀ j u, #[Value.int .u64 a0, .int .u64 a1, .int .u64 a2, .int .u64 a3][j]? = some u → w0.cell? ⟨w.heap.size, j, none⟩ = some u ∧ w0.frozen? ⟨w.heap.size, j, none⟩ = false := fun j u hu => by
    rw [← hw0]
    exact new_cells (w := w) (cs := #[Value.int .u64 a0, .int .u64 a1, .int .u64 a2, .int .u64 a3]) (t := 27) ((Below.refl _ _).alloc (Nat.le_refl _) _) j u hu
  have z : ∀ j u, #[Value.int .u64 0, .int .u64 0, .int .u64 0, .int .u64 0][j]? = some u → w0.cell? ⟨w.heap.size + 1, j, none⟩ = some u ∧ w0.frozen? ⟨w.heap.size + 1, j, none⟩ = false := fun j u hu => by
    rw [← hw0]
    have := new_cells (w := w.alloc (.cells #[.int .u64 a0, .int .u64 a1, .int .u64 a2, .int .u64 a3] 27)) (cs := #[Value.int .u64 0, .int .u64 0, .int .u64 0, .int .u64 0]) (t := 27) (Below.refl _ _) j u hu
    simpa using this
  have y0 : w0.cell? ⟨w.heap.size, 0, none⟩ = some (.int .u64 a0) := (y 0 _ rfl).1
  have f0 := (y 0 _ rfl).2
  have y1 : w0.cell? ⟨w.heap.size, 1, none⟩ = some (.int .u64 a1) := (y 1 _ rfl).1
  have f1 := (y 1 _ rfl).2
  have y2 : w0.cell? ⟨w.heap.size, 2, none⟩ = some (.int .u64 a2) := (y 2 _ rfl).1
  have f2 := (y 2 _ rfl).2
  have y3 : w0.cell? ⟨w.heap.size, 3, none⟩ = some (.int .u64 a3) := (y 3 _ rfl).1
  have f3 := (y 3 _ rfl).2
  have z0 : w0.cell? ⟨w.heap.size + 1, 0, none⟩ = some (.int .u64 0) := (z 0 _ rfl).1
  have g0 := (z 0 _ rfl).2
  have z1 : w0.cell? ⟨w.heap.size + 1, 1, none⟩ = some (.int .u64 0) := (z 1 _ rfl).1
  have g1 := (z 1 _ rfl).2
  have z2 : w0.cell? ⟨w.heap.size + 1, 2, none⟩ = some (.int .u64 0) := (z 2 _ rfl).1
  have g2 := (z 2 _ rfl).2
  have z3 : w0.cell? ⟨w.heap.size + 1, 3, none⟩ = some (.int .u64 0) := (z 3 _ rfl).1
  have g3 := (z 3 _ rfl).2
  have HE := Lib.hid hw0
  have HB := Lib.hid hb0
  rw [hn]
  clear y z hw0 hb0
  go_enter Tryd.func23, Tryd.ntmps23
  go_wp2_with fail
  rw [HE.out]
  refine (is_in n hn0 hn1 _).mono ?_
  rintro e w' ⟨rfl, rfl⟩
  go_wp2_with fail
  have hS0 : Below w.heap.size w w0.drew := HB.out.drew
  refine wp_region_held (S := fun W => Below w.heap.size w W) (by kernel_rfl) ?_
  change wpAnyH _ _ _ _ _ _ _ _ (World.drew _)
  refine wpAnyH_take (i := 0) (v := .int .i64 n) rfl (by kernel_rfl) (by kernel_rfl) (by kernel_rfl) (fun _ _ _ h => h) (Or.inl ⟨by rfl, by intro W hW; go_simp; try (first | (with_reducible rfl) | omega)⟩) hS0 ?_
  refine wpAnyH_take (i := 1) (v := .int .i64 2) rfl (by kernel_rfl) (by kernel_rfl) (by kernel_rfl) (fun _ _ _ h => h) (Or.inl ⟨by rfl, by intro W hW; go_simp; try (first | (with_reducible rfl) | omega)⟩) hS0 ?_
  refine wpAnyH_take (i := 2) (v := .pointer (some ⟨w.heap.size, 2, none⟩)) rfl (by kernel_rfl) (by kernel_rfl) (by kernel_rfl) (fun _ _ _ h => h) (Or.inl ⟨by rfl, by intro W hW; go_simp; try (first | (with_reducible rfl) | omega)⟩) hS0 ?_
  refine wpAnyH_take (i := 4) (v := .int .i64 n) rfl (by kernel_rfl) (by kernel_rfl) (by kernel_rfl) (fun _ _ _ h => h) (Or.inl ⟨by rfl, by intro W hW; go_simp; try (first | (with_reducible rfl) | omega)⟩) hS0 ?_
  refine wpAnyH_take (i := 5) (v := .int .i64 (r : Int)) rfl (by kernel_rfl) (by kernel_rfl) (by kernel_rfl) (fun _ _ _ h => h) (Or.inl ⟨by rfl, by intro W hW; go_simp; try (first | (with_reducible rfl) | omega)⟩) hS0 ?_
  refine wpAnyH_take (i := 6) (v := .int .u64 (2 ^ r)) rfl (by kernel_rfl) (by kernel_rfl) (by kernel_rfl) (fun _ _ _ h => h) (Or.inl ⟨by rfl, by intro W hW; go_simp; try (first | (with_reducible rfl) | omega)⟩) hS0 ?_
  refine wpAnyH_one (i := 3) (by kernel_rfl) rfl (fun K hK => ?_)
  go_simp
  refine hK _ _ ⟨hS0, ?_⟩; clear hK K
  refine wpAnyH_take (i := 7) (v := .int .u64 (bits .or .u64 a2 (2 ^ r))) rfl (by kernel_rfl) (by kernel_rfl) (by kernel_rfl) (fun _ _ _ h => h) (Or.inl ⟨by rfl, by intro W hW; go_simp; try (first | (with_reducible rfl) | omega)⟩) hS0 ?_
  refine wpAnyH_take (i := 8) (v := .pointer (some ⟨w.heap.size, 2, none⟩)) rfl (by kernel_rfl) (by kernel_rfl) (by kernel_rfl) (fun _ _ _ h => h) (Or.inl ⟨by rfl, by intro W hW; go_simp; try (first | (with_reducible rfl) | omega)⟩) hS0 ?_
  have hK1 := hS0
  refine wpAnyH_one (i := 9) (by kernel_rfl) rfl (fun K hK => ?_)
  go_simp
  refine hK _ _ ⟨(hK1.setCell (p := ⟨w.heap.size, 2, none⟩) (Nat.le_refl _) _), ?_⟩; clear hK K
  refine wpAnyH_done (by kernel_rfl) ?_ _
  go_simp
  go_wp2_with fail
  exact bodyPost_ret (v := aggU a0 a1 (bits .or .u64 a2 (2 ^ r)) a3) (by simp [results, Tryd.results23, go_sem, z0, z1, z2, z3]) rfl ⟨rfl, below3 (hK1.setCell (p := ⟨w.heap.size, 2, none⟩) (Nat.le_refl _) _) (by omega) _ _ _ _⟩
set_option maxHeartbeats 1000000 in
theorem with_w3 (a0 a1 a2 a3 : Int) (r : Nat) (hr : r < 64) (w : World) : Calls Tryd.prog 23 #[aggU a0 a1 a2 a3, .int .i64 ((192 + r : Nat) : Int)] w (IsAgg a0 a1 a2 (bits .or .u64 a3 (2 ^ r)) w) := by
  obtain ⟨n, hn⟩ : ∃ n : Int, ((192 + r : Nat) : Int) = n := ⟨_, rfl⟩
  have hq : n.tdiv 64 = 3 := by rw [Int.tdiv_eq_ediv_of_nonneg (by omega)]; omega
  have hm : n.tmod 64 = (r : Int) := by rw [Int.tmod_eq_emod_of_nonneg (by omega)]; omega
  have hw : IntKind.i64.wrap (r : Int) = r := by rw [IntKind.wrap_i64]; omega
  have hw1 : IntKind.i64.wrap 3 = 3 := by rw [IntKind.wrap_i64]; omega
  have hp : IntKind.u64.wrap (2 ^ r) = 2 ^ r := by
    have h1 : 2 ^ r < 18446744073709551616 := by
      calc 2 ^ r < 2 ^ 64 := Nat.pow_lt_pow_right (by decide) hr
        _ = 18446744073709551616 := by decide
    have h2 : ((2 ^ r : Nat) : Int) = 2 ^ r := by simp
    have h3 : (0 : Int) ≤ 2 ^ r := by rw [← h2]; exact Int.natCast_nonneg _
    have h4 : (2 : Int) ^ r < 18446744073709551616 := by rw [← h2]; exact Int.ofNat_lt.2 h1
    rw [IntKind.wrap_u64]
    exact Int.emod_eq_of_lt h3 h4
  have hn0 : 0 ≤ n := by omega
  have hn1 : n < 256 := by omega
  obtain ⟨w0, hw0⟩ : ∃ y, (w.alloc (.cells #[.int .u64 a0, .int .u64 a1, .int .u64 a2, .int .u64 a3] 27)).alloc (.cells #[.int .u64 0, .int .u64 0, .int .u64 0, .int .u64 0] 27) = y := ⟨_, rfl⟩
  have hb0 : Below w.heap.size w w0 := by rw [← hw0]; exact ((Below.refl _ _).alloc (Nat.le_refl _) _).alloc (by simp) _
  have y : ∀ j u, #[Value.int .u64 a0, .int .u64 a1, .int .u64 a2, .int .u64 a3][j]? = some u → w0.cell? ⟨w.heap.size, j, none⟩ = some u ∧ w0.frozen? ⟨w.heap.size, j, none⟩ = false := fun j u hu => by
    rw [← hw0]
    exact new_cells (w := w) (cs := #[Value.int .u64 a0, .int .u64 a1, .int .u64 a2, .int .u64 a3]) (t := 27) ((Below.refl _ _).alloc (Nat.le_refl _) _) j u hu
  have z : ∀ j u, #[Value.int .u64 0, .int .u64 0, .int .u64 0, .int .u64 0][j]? = some u → w0.cell? ⟨w.heap.size + 1, j, none⟩ = some u ∧ w0.frozen? ⟨w.heap.size + 1, j, none⟩ = false := fun j u hu => by
    rw [← hw0]
    have := new_cells (w := w.alloc (.cells #[.int .u64 a0, .int .u64 a1, .int .u64 a2, .int .u64 a3] 27)) (cs := #[Value.int .u64 0, .int .u64 0, .int .u64 0, .int .u64 0]) (t := 27) (Below.refl _ _) j u hu
    simpa using this
  have y0 : w0.cell? ⟨w.heap.size, 0, none⟩ = some (.int .u64 a0) := (y 0 _ rfl).1
  have f0 := (y 0 _ rfl).2
  have y1 : w0.cell? ⟨w.heap.size, 1, none⟩ = some (.int .u64 a1) := (y 1 _ rfl).1
  have f1 := (y 1 _ rfl).2
  have y2 : w0.cell? ⟨w.heap.size, 2, none⟩ = some (.int .u64 a2) := (y 2 _ rfl).1
  have f2 := (y 2 _ rfl).2
  have y3 : w0.cell? ⟨w.heap.size, 3, none⟩ = some (.int .u64 a3) := (y 3 _ rfl).1
  have f3 := (y 3 _ rfl).2
  have z0 : w0.cell? ⟨w.heap.size + 1, 0, none⟩ = some (.int .u64 0) := (z 0 _ rfl).1
  have g0 := (z 0 _ rfl).2
  have z1 : w0.cell? ⟨w.heap.size + 1, 1, none⟩ = some (.int .u64 0) := (z 1 _ rfl).1
  have g1 := (z 1 _ rfl).2
  have z2 : w0.cell? ⟨w.heap.size + 1, 2, none⟩ = some (.int .u64 0) := (z 2 _ rfl).1
  have g2 := (z 2 _ rfl).2
  have z3 : w0.cell? ⟨w.heap.size + 1, 3, none⟩ = some (.int .u64 0) := (z 3 _ rfl).1
  have g3 := (z 3 _ rfl).2
  have HE := Lib.hid hw0
  have HB := Lib.hid hb0
  rw [hn]
  clear y z hw0 hb0
  go_enter Tryd.func23, Tryd.ntmps23
  go_wp2_with fail
  rw [HE.out]
  refine (is_in n hn0 hn1 _).mono ?_
  rintro e w' ⟨rfl, rfl⟩
  go_wp2_with fail
  have hS0 : Below w.heap.size w w0.drew := HB.out.drew
  refine wp_region_held (S := fun W => Below w.heap.size w W) (by kernel_rfl) ?_
  change wpAnyH _ _ _ _ _ _ _ _ (World.drew _)
  refine wpAnyH_take (i := 0) (v := .int .i64 n) rfl (by kernel_rfl) (by kernel_rfl) (by kernel_rfl) (fun _ _ _ h => h) (Or.inl ⟨by rfl, by intro W hW; go_simp; try (first | (with_reducible rfl) | omega)⟩) hS0 ?_
  refine wpAnyH_take (i := 1) (v := .int .i64 3) rfl (by kernel_rfl) (by kernel_rfl) (by kernel_rfl) (fun _ _ _ h => h) (Or.inl ⟨by rfl, by intro W hW; go_simp; try (first | (with_reducible rfl) | omega)⟩) hS0 ?_
  refine wpAnyH_take (i := 2) (v := .pointer (some ⟨w.heap.size, 3, none⟩)) rfl (by kernel_rfl) (by kernel_rfl) (by kernel_rfl) (fun _ _ _ h => h) (Or.inl ⟨by rfl, by intro W hW; go_simp; try (first | (with_reducible rfl) | omega)⟩) hS0 ?_
  refine wpAnyH_take (i := 4) (v := .int .i64 n) rfl (by kernel_rfl) (by kernel_rfl) (by kernel_rfl) (fun _ _ _ h => h) (Or.inl ⟨by rfl, by intro W hW; go_simp; try (first | (with_reducible rfl) | omega)⟩) hS0 ?_
  refine wpAnyH_take (i := 5) (v := .int .i64 (r : Int)) rfl (by kernel_rfl) (by kernel_rfl) (by kernel_rfl) (fun _ _ _ h => h) (Or.inl ⟨by rfl, by intro W hW; go_simp; try (first | (with_reducible rfl) | omega)⟩) hS0 ?_
  refine wpAnyH_take (i := 6) (v := .int .u64 (2 ^ r)) rfl (by kernel_rfl) (by kernel_rfl) (by kernel_rfl) (fun _ _ _ h => h) (Or.inl ⟨by rfl, by intro W hW; go_simp; try (first | (with_reducible rfl) | omega)⟩) hS0 ?_
  refine wpAnyH_one (i := 3) (by kernel_rfl) rfl (fun K hK => ?_)
  go_simp
  refine hK _ _ ⟨hS0, ?_⟩; clear hK K
  refine wpAnyH_take (i := 7) (v := .int .u64 (bits .or .u64 a3 (2 ^ r))) rfl (by kernel_rfl) (by kernel_rfl) (by kernel_rfl) (fun _ _ _ h => h) (Or.inl ⟨by rfl, by intro W hW; go_simp; try (first | (with_reducible rfl) | omega)⟩) hS0 ?_
  refine wpAnyH_take (i := 8) (v := .pointer (some ⟨w.heap.size, 3, none⟩)) rfl (by kernel_rfl) (by kernel_rfl) (by kernel_rfl) (fun _ _ _ h => h) (Or.inl ⟨by rfl, by intro W hW; go_simp; try (first | (with_reducible rfl) | omega)⟩) hS0 ?_
  have hK1 := hS0
  refine wpAnyH_one (i := 9) (by kernel_rfl) rfl (fun K hK => ?_)
  go_simp
  refine hK _ _ ⟨(hK1.setCell (p := ⟨w.heap.size, 3, none⟩) (Nat.le_refl _) _), ?_⟩; clear hK K
  refine wpAnyH_done (by kernel_rfl) ?_ _
  go_simp
  go_wp2_with fail
  exact bodyPost_ret (v := aggU a0 a1 a2 (bits .or .u64 a3 (2 ^ r))) (by simp [results, Tryd.results23, go_sem, z0, z1, z2, z3]) rfl ⟨rfl, below3 (hK1.setCell (p := ⟨w.heap.size, 3, none⟩) (Nat.le_refl _) _) (by omega) _ _ _ _⟩
end Go.Proofs.YtgjmmbhakjalgaaDoor
