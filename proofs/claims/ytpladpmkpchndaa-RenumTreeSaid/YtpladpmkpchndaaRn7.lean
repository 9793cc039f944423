/-
  Other numbers: the walk of RenumTree.
-/
import Derived.Test.YtpladpmkpchndaaRn6
namespace Go.Proofs.Ytpladpmkpchndaa
open Go.RowKit
set_option linter.unusedSimpArgs false
set_option linter.unusedVariables false

set_option maxRecDepth 100000 in
set_option maxHeartbeats 2000000 in
theorem renumTree_few (n c : Nat) (A : Option Addr) (xs : List DNode) (b0 b1 b2 : Int) (w : World) (h : SlN w w.heap.size A n c xs) (hn : n ≤ 130) :
    Calls Try.prog 6 #[.slice A n c, .agg #[.int .i64 b0, .int .i64 b1, .int .i64 b2]] w fun e w' => e = .returned (.bool true) ∧ Below w.heap.size w w' := by
  have cT : ∀ W : World, Below w.heap.size w W → Hid (Calls Try.prog 34 #[.slice A n c, .int .i64 b0, .int .i64 b1, .int .i64 b2] W (IsN (n - 1) (treeM b0 b1 b2 xs) W)) := fun W hW => tree_any n c A xs b0 b1 b2 W (h.on hW) (by omega)
  have cR : ∀ W : World, Below w.heap.size w W → Hid (Calls Try.prog 35 #[.slice A n c, .int .i64 b0, .int .i64 b1, .int .i64 b2] W (IsN (n - 1) (treeM b0 b1 b2 xs) W)) := fun W hW => refTree_any n c A xs b0 b1 b2 W (h.on hW) (by omega)
  have cL : ∀ w : World, Hid (Calls Try.prog 27 #[] w fun e w' => e = .returned (.bool true) ∧ Below w.heap.size w w') := fun w => renum_lives w
  have hnn : ¬ (130 : Int) < (n : Int) := by omega
  generalize treeM b0 b1 b2 xs = ys at *
  clear h
  go_enter Try.func6, Try.ntmps6
  go_wp2_with fail
  obtain ⟨w1, hw1⟩ : ∃ w1, w.alloc (.cells #[.int .i64 b0, .int .i64 b1, .int .i64 b2] 56) = w1 := ⟨_, rfl⟩
  have q0 : ∀ W, Below w1.heap.size w1 W → W.cell? ⟨w.heap.size, 0, none⟩ = some (.int .i64 b0) := fun W hW => (hW.cell (by rw [← hw1]; simp)).trans (by rw [← hw1]; exact cell_of_row _ w.heap.size 0 _ _ (0, 0) (heap_alloc_new w _))
  have q1 : ∀ W, Below w1.heap.size w1 W → W.cell? ⟨w.heap.size, 1, none⟩ = some (.int .i64 b1) := fun W hW => (hW.cell (by rw [← hw1]; simp)).trans (by rw [← hw1]; exact cell_of_row _ w.heap.size 1 _ _ (0, 0) (heap_alloc_new w _))
  have q2 : ∀ W, Below w1.heap.size w1 W → W.cell? ⟨w.heap.size, 2, none⟩ = some (.int .i64 b2) := fun W hW => (hW.cell (by rw [← hw1]; simp)).trans (by rw [← hw1]; exact cell_of_row _ w.heap.size 2 _ _ (0, 0) (heap_alloc_new w _))
  have HB : Hid (Below w.heap.size w w1) := Lib.hid (by rw [← hw1]; exact (Below.refl _ _).alloc (Nat.le_refl _) _)
  have cT : ∀ W : World, Below w1.heap.size w1 W → Hid (Calls Try.prog 34 #[.slice A n c, .int .i64 b0, .int .i64 b1, .int .i64 b2] W (IsN (n - 1) ys W)) := fun W hW => cT W (HB.out.trans (hW.mono HB.out.size))
  have cR : ∀ W : World, Below w1.heap.size w1 W → Hid (Calls Try.prog 35 #[.slice A n c, .int .i64 b0, .int .i64 b1, .int .i64 b2] W (IsN (n - 1) ys W)) := fun W hW => cR W (HB.out.trans (hW.mono HB.out.size))
  rw [hw1]
  clear hw1
  refine wp_region_held (S := fun W => Below w1.heap.size w1 W) (by kernel_rfl) ?_
  change wpAnyH _ _ _ _ _ _ _ _ (World.drew _)
  have hS0 : Below w1.heap.size w1 w1.drew := (Below.refl _ _).drew
  refine wpAnyH_take (i := 0) (v := .slice A n c) rfl (by kernel_rfl) (by kernel_rfl) (by kernel_rfl) (fun _ _ _ h => h) (Or.inl ⟨by rfl, by intro W hW; go_simp; try (with_reducible rfl)⟩) hS0 ?_
  refine wpAnyH_take (i := 1) (v := .pointer (some ⟨w.heap.size, 0, none⟩)) rfl (by kernel_rfl) (by kernel_rfl) (by kernel_rfl) (fun _ _ _ h => h) (Or.inl ⟨by rfl, by intro W hW; go_simp; try (with_reducible rfl)⟩) hS0 ?_
  refine wpAnyH_take (i := 2) (v := .int .i64 b0) rfl (by kernel_rfl) (by kernel_rfl) (by kernel_rfl) (fun _ _ _ h => h) (Or.inl ⟨by rfl, by intro W hW; have e := q0 W hW; go_simp; try (with_reducible rfl)⟩) hS0 ?_
  refine wpAnyH_take (i := 3) (v := .pointer (some ⟨w.heap.size, 1, none⟩)) rfl (by kernel_rfl) (by kernel_rfl) (by kernel_rfl) (fun _ _ _ h => h) (Or.inl ⟨by rfl, by intro W hW; go_simp; try (with_reducible rfl)⟩) hS0 ?_
  refine wpAnyH_take (i := 4) (v := .int .i64 b1) rfl (by kernel_rfl) (by kernel_rfl) (by kernel_rfl) (fun _ _ _ h => h) (Or.inl ⟨by rfl, by intro W hW; have e := q1 W hW; go_simp; try (with_reducible rfl)⟩) hS0 ?_
  refine wpAnyH_take (i := 5) (v := .pointer (some ⟨w.heap.size, 2, none⟩)) rfl (by kernel_rfl) (by kernel_rfl) (by kernel_rfl) (fun _ _ _ h => h) (Or.inl ⟨by rfl, by intro W hW; go_simp; try (with_reducible rfl)⟩) hS0 ?_
  refine wpAnyH_take (i := 6) (v := .int .i64 b2) rfl (by kernel_rfl) (by kernel_rfl) (by kernel_rfl) (fun _ _ _ h => h) (Or.inl ⟨by rfl, by intro W hW; have e := q2 W hW; go_simp; try (with_reducible rfl)⟩) hS0 ?_
  refine wpAnyH_take (i := 8) (v := .slice A n c) rfl (by kernel_rfl) (by kernel_rfl) (by kernel_rfl) (fun _ _ _ h => h) (Or.inl ⟨by rfl, by intro W hW; go_simp; try (with_reducible rfl)⟩) hS0 ?_
  refine wpAnyH_take (i := 9) (v := .pointer (some ⟨w.heap.size, 0, none⟩)) rfl (by kernel_rfl) (by kernel_rfl) (by kernel_rfl) (fun _ _ _ h => h) (Or.inl ⟨by rfl, by intro W hW; go_simp; try (with_reducible rfl)⟩) hS0 ?_
  refine wpAnyH_take (i := 10) (v := .int .i64 b0) rfl (by kernel_rfl) (by kernel_rfl) (by kernel_rfl) (fun _ _ _ h => h) (Or.inl ⟨by rfl, by intro W hW; have e := q0 W hW; go_simp; try (with_reducible rfl)⟩) hS0 ?_
  refine wpAnyH_take (i := 11) (v := .pointer (some ⟨w.heap.size, 1, none⟩)) rfl (by kernel_rfl) (by kernel_rfl) (by kernel_rfl) (fun _ _ _ h => h) (Or.inl ⟨by rfl, by intro W hW; go_simp; try (with_reducible rfl)⟩) hS0 ?_
  refine wpAnyH_take (i := 12) (v := .int .i64 b1) rfl (by kernel_rfl) (by kernel_rfl) (by kernel_rfl) (fun _ _ _ h => h) (Or.inl ⟨by rfl, by intro W hW; have e := q1 W hW; go_simp; try (with_reducible rfl)⟩) hS0 ?_
  refine wpAnyH_take (i := 13) (v := .pointer (some ⟨w.heap.size, 2, none⟩)) rfl (by kernel_rfl) (by kernel_rfl) (by kernel_rfl) (fun _ _ _ h => h) (Or.inl ⟨by rfl, by intro W hW; go_simp; try (with_reducible rfl)⟩) hS0 ?_
  refine wpAnyH_take (i := 14) (v := .int .i64 b2) rfl (by kernel_rfl) (by kernel_rfl) (by kernel_rfl) (fun _ _ _ h => h) (Or.inl ⟨by rfl, by intro W hW; have e := q2 W hW; go_simp; try (with_reducible rfl)⟩) hS0 ?_
  refine wpAnyH_one (i := 7) (by kernel_rfl) rfl (fun K hK => ?_)
  go_simp
  refine Calls.mono (cT _ hS0).out ?_
  rintro e w4 ⟨A1, c1, rfl, s4, hb4⟩
  have hS4 : Below w1.heap.size w1 w4 := bl_trans hS0 hS0.size hb4
  go_simp
  refine hK _ _ ⟨hS4, ?_⟩; clear hK K
  refine wpAnyH_one (i := 15) (by kernel_rfl) rfl (fun K hK => ?_)
  go_simp
  refine Calls.mono (cR _ hS4).out ?_
  rintro e w5 ⟨A2, c2, rfl, s5, hb5⟩
  have hS5 : Below w1.heap.size w1 w5 := bl_trans hS4 hS4.size hb5
  have s45 := SlN.on s4 hb5
  go_simp
  refine hK _ _ ⟨hS5, ?_⟩; clear hK K
  refine wpAnyH_one (i := 16) (by kernel_rfl) rfl (fun K hK => ?_)
  go_simp
  refine (nodes_same _ _ _ _ _ _ _ s45 s5 (by omega)).mono ?_
  rintro e w6 ⟨rfl, hb6⟩
  have hS6 : Below w1.heap.size w1 w6 := bl_trans hS5 hS5.size hb6
  go_simp
  refine hK _ _ ⟨hS6, ?_⟩; clear hK K
  refine wpAnyH_one (i := 17) (by kernel_rfl) rfl (fun K hK => ?_)
  go_simp
  refine hK _ _ ⟨hS6, ?_⟩; clear hK K
  refine wpAnyH_one (i := 18) (by kernel_rfl) rfl (fun K hK => ?_)
  go_simp
  refine Calls.mono (cL _).out ?_
  rintro e w7 ⟨rfl, hb7⟩
  have hS7 : Below w1.heap.size w1 w7 := bl_trans hS6 hS6.size hb7
  go_simp
  refine hK _ _ ⟨hS7, ?_⟩; clear hK K
  refine wpAnyH_one (i := 19) (by kernel_rfl) rfl (fun K hK => ?_)
  go_simp
  refine hK _ _ ⟨hS7, ?_⟩; clear hK K
  refine wpAnyH_one (i := 20) (by kernel_rfl) rfl (fun K hK => ?_)
  go_simp
  refine hK _ _ ⟨hS7, ?_⟩; clear hK K
  refine wpAnyH_done (by kernel_rfl) ?_ _
  go_wp2_with fail
  go_ret
  exact ⟨rfl, HB.out.trans (hS7.mono HB.out.size)⟩
theorem renumTree_walk (A : Option Addr) (n c : Nat) (xs : List DNode) (cs : Array Value) (b : DInt3) (w : World) (h : SlR 7 56 RNode w w.heap.size A n c xs) (hb : RInt3 w w.heap.size cs.toList b) :
    Calls Try.prog 6 #[.slice A n c, .agg cs] w fun e w' => e = .returned (.bool true) ∧ Below w.heap.size w w' := by
  obtain ⟨b0, b1, b2⟩ := b
  have e1 : cs = #[.int .i64 b0, .int .i64 b1, .int .i64 b2] := by rw [← Array.toList_inj]; exact hb.1
  subst e1
  clear hb
  by_cases hn : n ≤ 130
  · exact renumTree_few n c A xs b0 b1 b2 w (sln_of h) hn
  · have hnn : (130 : Int) < (n : Int) := by omega
    clear h
    go_enter Try.func6, Try.ntmps6
    go_wp2_with fail
    refine (renum_lives _).mono ?_
    rintro e w1 ⟨rfl, hb⟩
    go_wp2_with fail
    go_ret
    exact ⟨rfl, bl_trans (bel_alloc _ _) (by simp) hb⟩
end Go.Proofs.Ytpladpmkpchndaa
