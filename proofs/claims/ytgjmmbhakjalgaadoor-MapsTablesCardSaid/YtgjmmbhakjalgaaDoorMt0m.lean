/-
  The tables' example, out of r9's texts.
-/
import Derived.Test.YtgjmmbhakjalgaaDoorMp1
import Derived.Test.YtgjmmbhakjalgaaDoorMp4m
namespace Go.Proofs.YtgjmmbhakjalgaaDoor
open Go.RowKit
set_option linter.unusedSimpArgs false
set_option linter.unusedVariables false
set_option maxRecDepth 100000 in
set_option maxHeartbeats 1000000 in
theorem below_3 (w : World) : Calls Tryd.prog 17 #[aggU 8 0 0 0, .int .i64 3] w fun e w' => e = .returned (.bool false) ∧ Below w.heap.size w w' := by
  have cI : ∀ w : World, Hid (Calls Tryd.prog 26 #[aggU 8 0 0 0, aggU 7 0 0 0] w fun e w' => e = .returned (.bool false) ∧ Below w.heap.size w w') := fun w => by
    have e : insB 8 0 0 0 7 0 0 0 = false := by decide
    have := inside_any 8 0 0 0 7 0 0 0 w
    rw [e] at this
    exact this
  go_enter Tryd.func17, Tryd.ntmps17
  go_wp2_with fail
  obtain ⟨w1, hw⟩ : ∃ w1, w.alloc (.cells #[.int .u64 8, .int .u64 0, .int .u64 0, .int .u64 0] 27) = w1 := ⟨_, rfl⟩
  have HB : Hid (Below w.heap.size w w1) := Lib.hid (by rw [← hw]; exact bl_one _)
  rw [hw]
  refine wp_region_held (S := fun W => Below w1.heap.size w1 W) (by kernel_rfl) ?_
  change wpAnyH _ _ _ _ _ _ _ _ (World.drew _)
  have hS0 : Below w1.heap.size w1 w1.drew := (Below.refl _ _).drew
  refine wpAnyH_take (i := 0) (v := aggU 8 0 0 0) rfl (by kernel_rfl) (by kernel_rfl) (by kernel_rfl) (fun _ _ _ h => h) (Or.inl ⟨by rfl, by intro W hW; have e0 := (at_new hw.symm rfl hW).1; have e1 := (at_new hw.symm rfl hW).2.1; have e2 := (at_new hw.symm rfl hW).2.2.1; have e3 := (at_new hw.symm rfl hW).2.2.2.1; go_simp; try (with_reducible rfl)⟩) hS0 ?_
  refine wpAnyH_take (i := 1) (v := .int .i64 3) rfl (by kernel_rfl) (by kernel_rfl) (by kernel_rfl) (fun _ _ _ h => h) (Or.inl ⟨by rfl, by intro W hW; go_simp; try (with_reducible rfl)⟩) hS0 ?_
  refine wpAnyH_one (i := 2) (by kernel_rfl) rfl (fun K hK => ?_)
  go_simp
  refine (range_3 _).mono ?_
  rintro e w4 ⟨rfl, hb4⟩
  have hS4 : Below w1.heap.size w1 w4 := bl_trans hS0 hS0.size hb4
  go_simp
  refine hK _ _ ⟨hS4, ?_⟩; clear hK K
  refine wpAnyH_one (i := 3) (by kernel_rfl) rfl (fun K hK => ?_)
  go_simp
  refine Calls.mono (cI _).out ?_
  rintro e w5 ⟨rfl, hb5⟩
  have hS5 : Below w1.heap.size w1 w5 := bl_trans hS4 hS4.size hb5
  go_simp
  refine hK _ _ ⟨hS5, ?_⟩; clear hK K
  refine wpAnyH_one (i := 4) (by kernel_rfl) rfl (fun K hK => ?_)
  go_simp
  refine hK _ _ ⟨hS5, ?_⟩; clear hK K
  refine wpAnyH_done (by kernel_rfl) ?_ _
  go_wp2_with fail
  go_ret
  exact ⟨rfl, HB.out.trans (hS5.mono HB.out.size)⟩
set_option maxRecDepth 100000 in
set_option maxHeartbeats 1000000 in
theorem below_4 (w : World) : Calls Tryd.prog 17 #[aggU 8 0 0 0, .int .i64 4] w fun e w' => e = .returned (.bool true) ∧ Below w.heap.size w w' := by
  have cI : ∀ w : World, Hid (Calls Tryd.prog 26 #[aggU 8 0 0 0, aggU 15 0 0 0] w fun e w' => e = .returned (.bool true) ∧ Below w.heap.size w w') := fun w => by
    have e : insB 8 0 0 0 15 0 0 0 = true := by decide
    have := inside_any 8 0 0 0 15 0 0 0 w
    rw [e] at this
    exact this
  go_enter Tryd.func17, Tryd.ntmps17
  go_wp2_with fail
  obtain ⟨w1, hw⟩ : ∃ w1, w.alloc (.cells #[.int .u64 8, .int .u64 0, .int .u64 0, .int .u64 0] 27) = w1 := ⟨_, rfl⟩
  have HB : Hid (Below w.heap.size w w1) := Lib.hid (by rw [← hw]; exact bl_one _)
  rw [hw]
  refine wp_region_held (S := fun W => Below w1.heap.size w1 W) (by kernel_rfl) ?_
  change wpAnyH _ _ _ _ _ _ _ _ (World.drew _)
  have hS0 : Below w1.heap.size w1 w1.drew := (Below.refl _ _).drew
  refine wpAnyH_take (i := 0) (v := aggU 8 0 0 0) rfl (by kernel_rfl) (by kernel_rfl) (by kernel_rfl) (fun _ _ _ h => h) (Or.inl ⟨by rfl, by intro W hW; have e0 := (at_new hw.symm rfl hW).1; have e1 := (at_new hw.symm rfl hW).2.1; have e2 := (at_new hw.symm rfl hW).2.2.1; have e3 := (at_new hw.symm rfl hW).2.2.2.1; go_simp; try (with_reducible rfl)⟩) hS0 ?_
  refine wpAnyH_take (i := 1) (v := .int .i64 4) rfl (by kernel_rfl) (by kernel_rfl) (by kernel_rfl) (fun _ _ _ h => h) (Or.inl ⟨by rfl, by intro W hW; go_simp; try (with_reducible rfl)⟩) hS0 ?_
  refine wpAnyH_one (i := 2) (by kernel_rfl) rfl (fun K hK => ?_)
  go_simp
  refine (range_4 _).mono ?_
  rintro e w4 ⟨rfl, hb4⟩
  have hS4 : Below w1.heap.size w1 w4 := bl_trans hS0 hS0.size hb4
  go_simp
  refine hK _ _ ⟨hS4, ?_⟩; clear hK K
  refine wpAnyH_one (i := 3) (by kernel_rfl) rfl (fun K hK => ?_)
  go_simp
  refine Calls.mono (cI _).out ?_
  rintro e w5 ⟨rfl, hb5⟩
  have hS5 : Below w1.heap.size w1 w5 := bl_trans hS4 hS4.size hb5
  go_simp
  refine hK _ _ ⟨hS5, ?_⟩; clear hK K
  refine wpAnyH_one (i := 4) (by kernel_rfl) rfl (fun K hK => ?_)
  go_simp
  refine hK _ _ ⟨hS5, ?_⟩; clear hK K
  refine wpAnyH_done (by kernel_rfl) ?_ _
  go_wp2_with fail
  go_ret
  exact ⟨rfl, HB.out.trans (hS5.mono HB.out.size)⟩
set_option maxRecDepth 100000 in
set_option maxHeartbeats 1000000 in
theorem right_3 (g : Nat) (w : World) (q0 : w.cell? ⟨g, 0, none⟩ = some (.int .u64 8)) (q1 : w.cell? ⟨g, 1, none⟩ = some (.int .u64 0)) (q2 : w.cell? ⟨g, 2, none⟩ = some (.int .u64 0)) (q3 : w.cell? ⟨g, 3, none⟩ = some (.int .u64 0)) :
    Calls Tryd.prog 7 #[.slice (some ⟨g, 0, none⟩) 1 1, .int .i64 3] w fun e w' => e = .returned (.bool false) ∧ Below w.heap.size w w' := by
  go_enter Tryd.func7, Tryd.ntmps7
  go_wp2_with fail
  refine wp_loop_rounds 1 ?_
  rw [rounds_succ]
  go_wp2_with fail
  refine (below_3 _).mono ?_
  rintro e w1 ⟨rfl, hb⟩
  go_wp2_with fail
  go_ret
  exact ⟨rfl, bl_trans (bl_one _) (by simp) hb⟩
set_option maxRecDepth 100000 in
set_option maxHeartbeats 1000000 in
theorem right_4 (g : Nat) (w : World) (q0 : w.cell? ⟨g, 0, none⟩ = some (.int .u64 8)) (q1 : w.cell? ⟨g, 1, none⟩ = some (.int .u64 0)) (q2 : w.cell? ⟨g, 2, none⟩ = some (.int .u64 0)) (q3 : w.cell? ⟨g, 3, none⟩ = some (.int .u64 0)) :
    Calls Tryd.prog 7 #[.slice (some ⟨g, 0, none⟩) 1 1, .int .i64 4] w fun e w' => e = .returned (.bool true) ∧ Below w.heap.size w w' := by
  go_enter Tryd.func7, Tryd.ntmps7
  go_wp2_with fail
  refine wp_loop_rounds 2 ?_
  rw [rounds_succ]
  go_wp2_with fail
  refine (below_4 _).mono ?_
  rintro e w1 ⟨rfl, hb⟩
  go_wp2_with fail
  rw [rounds_succ]
  go_wp2_with fail
  go_ret
  exact ⟨rfl, bl_trans (bl_one _) (by simp) hb⟩
set_option maxRecDepth 100000 in
set_option maxHeartbeats 1000000 in
theorem at_zero (g : Nat) (w : World) (q0 : w.cell? ⟨g, 0, none⟩ = some (.int .u64 8)) (q1 : w.cell? ⟨g, 1, none⟩ = some (.int .u64 0)) (q2 : w.cell? ⟨g, 2, none⟩ = some (.int .u64 0)) (q3 : w.cell? ⟨g, 3, none⟩ = some (.int .u64 0)) :
    Calls Tryd.prog 9 #[.slice (some ⟨g, 0, none⟩) 1 1, .int .i64 0] w (IsAgg 8 0 0 0 w) := by
  have hl := World.block_lt_of_cell? _ _ q0
  have p0 := (World.cell?_alloc_lt w (.cells #[.int .u64 0, .int .u64 0, .int .u64 0, .int .u64 0] 27) ⟨g, 0, none⟩ hl).trans q0
  have p1 := (World.cell?_alloc_lt w (.cells #[.int .u64 0, .int .u64 0, .int .u64 0, .int .u64 0] 27) ⟨g, 1, none⟩ hl).trans q1
  have p2 := (World.cell?_alloc_lt w (.cells #[.int .u64 0, .int .u64 0, .int .u64 0, .int .u64 0] 27) ⟨g, 2, none⟩ hl).trans q2
  have p3 := (World.cell?_alloc_lt w (.cells #[.int .u64 0, .int .u64 0, .int .u64 0, .int .u64 0] 27) ⟨g, 3, none⟩ hl).trans q3
  clear hl
  go_enter Tryd.func9, Tryd.ntmps9
  go_wp2_with fail
  exact bodyPost_ret (v := aggU 8 0 0 0) (by simp [results, Tryd.results9, go_sem]) rfl ⟨rfl, by repeat (first | exact Below.refl _ _ | (refine Below.setCell ?_ (by simp) _) | (refine Below.alloc ?_ (by simp) _))⟩
set_option maxRecDepth 100000 in
set_option maxHeartbeats 2000000 in
theorem maps_lives (w : World) : Calls Tryd.prog 4 #[] w fun e w' => e = .returned (.bool true) ∧ Below w.heap.size w w' := by
  have hq := eq_run 8 0 0 0 8 0 0 0
  have hg := eq_guard
  go_enter Tryd.func4, Tryd.ntmps4
  go_wp2_with fail
  refine (of_three w.heap.size _ (cell_of_row _ w.heap.size 0 #[.int .i64 3] 3 (0, 0) (heap_alloc_new w _))).mono ?_
  rintro e w1 ⟨rfl, hb⟩
  have B1 := Lib.hid (bl_trans (Below.refl _ _) (Nat.le_refl _) (bl_trans (bl_one _) (by simp) hb))
  clear hb
  go_wp2_with fail
  refine (right_3 w1.heap.size _ (cell_of_row _ w1.heap.size 0 _ _ (0, 0) (heap_alloc_new w1 _)) (cell_of_row _ w1.heap.size 1 _ _ (0, 0) (heap_alloc_new w1 _)) (cell_of_row _ w1.heap.size 2 _ _ (0, 0) (heap_alloc_new w1 _)) (cell_of_row _ w1.heap.size 3 _ _ (0, 0) (heap_alloc_new w1 _))).mono ?_
  rintro e w2 ⟨rfl, hb⟩
  have B2 := Lib.hid (bl_trans B1.out B1.out.size (bl_trans (bl_one _) (by simp) hb))
  clear hb
  go_wp2_with fail
  refine (of_three w2.heap.size _ (cell_of_row _ w2.heap.size 0 #[.int .i64 3] 3 (0, 0) (heap_alloc_new w2 _))).mono ?_
  rintro e w3 ⟨rfl, hb⟩
  have B3 := Lib.hid (bl_trans B2.out B2.out.size (bl_trans (bl_one _) (by simp) hb))
  clear hb
  go_wp2_with fail
  refine (right_4 w3.heap.size _ (cell_of_row _ w3.heap.size 0 _ _ (0, 0) (heap_alloc_new w3 _)) (cell_of_row _ w3.heap.size 1 _ _ (0, 0) (heap_alloc_new w3 _)) (cell_of_row _ w3.heap.size 2 _ _ (0, 0) (heap_alloc_new w3 _)) (cell_of_row _ w3.heap.size 3 _ _ (0, 0) (heap_alloc_new w3 _))).mono ?_
  rintro e w4 ⟨rfl, hb⟩
  have B4 := Lib.hid (bl_trans B3.out B3.out.size (bl_trans (bl_one _) (by simp) hb))
  clear hb
  go_wp2_with fail
  refine (of_three w4.heap.size _ (cell_of_row _ w4.heap.size 0 #[.int .i64 3] 3 (0, 0) (heap_alloc_new w4 _))).mono ?_
  rintro e w5 ⟨rfl, hb⟩
  have B5 := Lib.hid (bl_trans B4.out B4.out.size (bl_trans (bl_one _) (by simp) hb))
  clear hb
  go_wp2_with fail
  refine (at_zero w5.heap.size _ (cell_of_row _ w5.heap.size 0 _ _ (0, 0) (heap_alloc_new w5 _)) (cell_of_row _ w5.heap.size 1 _ _ (0, 0) (heap_alloc_new w5 _)) (cell_of_row _ w5.heap.size 2 _ _ (0, 0) (heap_alloc_new w5 _)) (cell_of_row _ w5.heap.size 3 _ _ (0, 0) (heap_alloc_new w5 _))).mono ?_
  rintro e w6 ⟨rfl, hb⟩
  have B6 := Lib.hid (bl_trans B5.out B5.out.size (bl_trans (bl_one _) (by simp) hb))
  clear hb
  go_wp2_with fail
  refine (of_three w6.heap.size _ (cell_of_row _ w6.heap.size 0 #[.int .i64 3] 3 (0, 0) (heap_alloc_new w6 _))).mono ?_
  rintro e w7 ⟨rfl, hb⟩
  have B7 := Lib.hid (bl_trans B6.out B6.out.size (bl_trans (bl_one _) (by simp) hb))
  clear hb
  go_wp2_with fail
  go_ret
  exact ⟨rfl, B7.out⟩
end Go.Proofs.YtgjmmbhakjalgaaDoor
