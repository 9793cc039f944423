/-
  Sets of slots: whether all are below a number; the walk of SlotsRanges.
-/
import Derived.Test.YtaffndecknhhnaaDoorSl14
namespace Go.Proofs.YtaffndecknhhnaaDoor
open Go.RowKit
set_option linter.unusedSimpArgs false
set_option linter.unusedVariables false
def insW (s r : W4) : Bool := insB s.a0 s.a1 s.a2 s.a3 r.a0 r.a1 r.a2 r.a3
theorem rangeM_ok (f t : Int) : (rangeM f t).Ok := foldW_ok _ _ zW_ok
set_option maxRecDepth 100000 in
set_option maxHeartbeats 2000000 in
theorem below_any (s : W4) (t : Int) (w : World) : Calls Tryd.prog 24 #[aggW s, .int .i64 t] w fun e w' => e = .returned (.bool (insW s (rangeM 0 t))) ∧ Below w.heap.size w w' := by
  obtain ⟨w1, hw1⟩ : ∃ w1, w.alloc (.cells #[.int .u64 (s.a0 : Int), .int .u64 (s.a1 : Int), .int .u64 (s.a2 : Int), .int .u64 (s.a3 : Int)] 24) = w1 := ⟨_, rfl⟩
  have hb1 : Below w.heap.size w w1 := by rw [← hw1]; exact bl_one _
  have hs1 : w1.heap.size = w.heap.size + 1 := by rw [← hw1]; simp
  have EA : Hid (∀ W, Below w1.heap.size w1 W → W.cell? ⟨w.heap.size, 0, none⟩ = some (.int .u64 (s.a0 : Int)) ∧ W.cell? ⟨w.heap.size, 1, none⟩ = some (.int .u64 (s.a1 : Int)) ∧ W.cell? ⟨w.heap.size, 2, none⟩ = some (.int .u64 (s.a2 : Int)) ∧ W.cell? ⟨w.heap.size, 3, none⟩ = some (.int .u64 (s.a3 : Int))) := Lib.hid fun W hW => by
    have hl : w.heap.size < w1.heap.size := by omega
    have g : ∀ q, q < 4 → W.cell? ⟨w.heap.size, q, none⟩ = some (.int .u64 (s.get q : Int)) := fun q hq => (hW.cell (p := ⟨w.heap.size, q, none⟩) hl).trans (by rw [← hw1]; exact set_new w s q hq)
    exact ⟨g 0 (by omega), g 1 (by omega), g 2 (by omega), g 3 (by omega)⟩
  have cr := Lib.hid (fun w => range_any 0 t w (by omega) (by omega))
  have ci := Lib.hid (fun w => inside_any s.a0 s.a1 s.a2 s.a3 (rangeM 0 t).a0 (rangeM 0 t).a1 (rangeM 0 t).a2 (rangeM 0 t).a3 w)
  have hv : Hid (insB s.a0 s.a1 s.a2 s.a3 (rangeM 0 t).a0 (rangeM 0 t).a1 (rangeM 0 t).a2 (rangeM 0 t).a3 = insW s (rangeM 0 t)) := Lib.hid rfl
  rw [hv.out] at ci
  generalize insW s (rangeM 0 t) = v at *
  generalize rangeM 0 t = R at *
  have HE := Lib.hid hw1
  have HB1 := Lib.hid hb1
  have hS0 : Below w1.heap.size w1 w1.drew := (Below.refl _ _).drew
  clear hw1 hb1 hv
  go_enter Tryd.func24, Tryd.ntmps24
  go_wp2_with fail
  rw [HE.out]
  refine wp_region_held (S := fun W => Below w1.heap.size w1 W) (by kernel_rfl) ?_
  change wpAnyH _ _ _ _ _ _ _ _ (World.drew _)

  refine wpAnyH_take (i := 0) (v := aggW s) rfl (by kernel_rfl) (by kernel_rfl) (by kernel_rfl) (fun _ _ _ h => h) (Or.inl ⟨by rfl, by intro W hW; obtain ⟨a0, a1, a2, a3⟩ := EA.out W hW; go_simp; try (first | (with_reducible rfl) | omega)⟩) hS0 ?_
  refine wpAnyH_take (i := 1) (v := .int .i64 t) rfl (by kernel_rfl) (by kernel_rfl) (by kernel_rfl) (fun _ _ _ h => h) (Or.inl ⟨by rfl, by intro W hW; go_simp; try (first | (with_reducible rfl) | omega)⟩) hS0 ?_
  refine wpAnyH_one (i := 2) (by kernel_rfl) rfl (fun K hK => ?_)
  go_simp
  refine Calls.mono (cr.out _) ?_
  rintro e w2 ⟨rfl, hb2⟩
  have hS2 := bl_trans hS0 hS0.size hb2
  go_simp
  refine hK _ _ ⟨hS2, ?_⟩; clear hK K
  refine wpAnyH_one (i := 3) (by kernel_rfl) rfl (fun K hK => ?_)
  go_simp
  refine Calls.mono (ci.out _) ?_
  rintro e w3 ⟨rfl, hb3⟩
  have hS3 := bl_trans hS2 hS2.size hb3
  go_simp
  refine hK _ _ ⟨hS3, ?_⟩; clear hK K
  refine wpAnyH_one (i := 4) (by kernel_rfl) rfl (fun K hK => ?_)
  go_simp
  refine hK _ _ ⟨hS3, ?_⟩; clear hK K
  refine wpAnyH_done (by kernel_rfl) ?_ _
  go_wp2_with fail
  go_ret
  exact ⟨rfl, bl_trans HB1.out HB1.out.size hS3⟩
set_option maxRecDepth 100000 in
set_option maxHeartbeats 4000000 in
theorem slotsRanges_walk (s : W4) (hok : s.Ok) (f t : Int) (w : World) (hf0 : -9223372036854775808 ≤ f) (hf1 : f < 9223372036854775808) (hT : Tab w) (hw0 : 0 < w.heap.size) : Calls Tryd.prog 5 #[aggW s, .int .i64 f, .int .i64 t] w fun e w' => e = .returned (.bool true) ∧ Below w.heap.size w w' := by
  obtain ⟨w1, hw1⟩ : ∃ w1, w.alloc (.cells #[.int .u64 (s.a0 : Int), .int .u64 (s.a1 : Int), .int .u64 (s.a2 : Int), .int .u64 (s.a3 : Int)] 24) = w1 := ⟨_, rfl⟩
  have hb1 : Below w.heap.size w w1 := by rw [← hw1]; exact bl_one _
  have hs1 : w1.heap.size = w.heap.size + 1 := by rw [← hw1]; simp
  have EA : Hid (∀ W, Below w1.heap.size w1 W → W.cell? ⟨w.heap.size, 0, none⟩ = some (.int .u64 (s.a0 : Int)) ∧ W.cell? ⟨w.heap.size, 1, none⟩ = some (.int .u64 (s.a1 : Int)) ∧ W.cell? ⟨w.heap.size, 2, none⟩ = some (.int .u64 (s.a2 : Int)) ∧ W.cell? ⟨w.heap.size, 3, none⟩ = some (.int .u64 (s.a3 : Int))) := Lib.hid fun W hW => by
    have hl : w.heap.size < w1.heap.size := by omega
    have g : ∀ q, q < 4 → W.cell? ⟨w.heap.size, q, none⟩ = some (.int .u64 (s.get q : Int)) := fun q hq => (hW.cell (p := ⟨w.heap.size, q, none⟩) hl).trans (by rw [← hw1]; exact set_new w s q hq)
    exact ⟨g 0 (by omega), g 1 (by omega), g 2 (by omega), g 3 (by omega)⟩
  have c1 := Lib.hid (fun w => range_any f t w hf0 hf1)
  have c2 := Lib.hid (fun w => rrange_any f t w hf0 hf1)
  have c3 := Lib.hid (fun w => below_any s t w)
  have c4 := Lib.hid (fun w => rrange_any 0 t w (by omega) (by omega))
  have c5 : Hid (∀ w, Calls Tryd.prog 19 #[aggW s, aggW (rangeM 0 t)] w fun e w' => e = .returned (.bool (insW s (rangeM 0 t))) ∧ Below w.heap.size w w') := Lib.hid (fun w => refInside_any s.a0 s.a1 s.a2 s.a3 (rangeM 0 t).a0 (rangeM 0 t).a1 (rangeM 0 t).a2 (rangeM 0 t).a3 w)
  have c6 : Hid (∀ W, Below w1.heap.size w1 W → Calls Tryd.prog 7 #[] W fun e w' => e = .returned (.bool true) ∧ Below W.heap.size W w') := Lib.hid fun W hW => slots_lives W (hT.below (hb1.trans (hW.mono (by omega))) hw0) (by have := hW.size; omega)
  generalize insW s (rangeM 0 t) = v at *
  generalize rangeM 0 t = R0 at *
  generalize rangeM f t = R at *
  have heq : ∀ W, (Op.equalIn 10000 24 (aggW R) (aggW R)).run Tryd.prog W = .ok true W := fun W => by
    have := eq_arr 9998 R.a0 R.a1 R.a2 R.a3 R.a0 R.a1 R.a2 R.a3 W
    simpa using this
  have hguard := eq_guard
  have tv : (v == v) = true := by simp
  have HE := Lib.hid hw1
  have HB1 := Lib.hid hb1
  have hS0 : Below w1.heap.size w1 w1.drew := (Below.refl _ _).drew
  clear hw1 hb1 hs1
  go_enter Tryd.func5, Tryd.ntmps5
  go_wp2_with fail
  rw [HE.out]
  refine wp_region_held (S := fun W => Below w1.heap.size w1 W) (by kernel_rfl) ?_
  change wpAnyH _ _ _ _ _ _ _ _ (World.drew _)

  refine wpAnyH_take (i := 0) (v := .int .i64 f) rfl (by kernel_rfl) (by kernel_rfl) (by kernel_rfl) (fun _ _ _ h => h) (Or.inl ⟨by rfl, by intro W hW; go_simp; try (first | (with_reducible rfl) | omega)⟩) hS0 ?_
  refine wpAnyH_take (i := 1) (v := .int .i64 t) rfl (by kernel_rfl) (by kernel_rfl) (by kernel_rfl) (fun _ _ _ h => h) (Or.inl ⟨by rfl, by intro W hW; go_simp; try (first | (with_reducible rfl) | omega)⟩) hS0 ?_
  refine wpAnyH_take (i := 3) (v := .int .i64 f) rfl (by kernel_rfl) (by kernel_rfl) (by kernel_rfl) (fun _ _ _ h => h) (Or.inl ⟨by rfl, by intro W hW; go_simp; try (first | (with_reducible rfl) | omega)⟩) hS0 ?_
  refine wpAnyH_take (i := 4) (v := .int .i64 t) rfl (by kernel_rfl) (by kernel_rfl) (by kernel_rfl) (fun _ _ _ h => h) (Or.inl ⟨by rfl, by intro W hW; go_simp; try (first | (with_reducible rfl) | omega)⟩) hS0 ?_
  refine wpAnyH_one (i := 2) (by kernel_rfl) rfl (fun K hK => ?_)
  go_simp
  refine Calls.mono (c1.out _) ?_
  rintro e w2 ⟨rfl, hb2⟩
  have hS2 := bl_trans hS0 hS0.size hb2
  go_simp
  refine hK _ _ ⟨hS2, ?_⟩; clear hK K
  refine wpAnyH_one (i := 5) (by kernel_rfl) rfl (fun K hK => ?_)
  go_simp
  refine Calls.mono (c2.out _) ?_
  rintro e w3 ⟨rfl, hb3⟩
  have hS3 := bl_trans hS2 hS2.size hb3
  go_simp
  refine hK _ _ ⟨hS3, ?_⟩; clear hK K
  refine wpAnyH_one (i := 6) (by kernel_rfl) rfl (fun K hK => ?_)
  go_simp
  refine hK _ _ ⟨hS3, ?_⟩; clear hK K
  refine wpAnyH_one (i := 7) (by kernel_rfl) rfl (fun K hK => ?_)
  go_simp
  refine hK _ _ ⟨hS3, ?_⟩; clear hK K
  refine wpAnyH_take (i := 8) (v := aggW s) rfl (by kernel_rfl) (by kernel_rfl) (by kernel_rfl) (fun _ _ _ h => h) (Or.inl ⟨by rfl, by intro W hW; obtain ⟨a0, a1, a2, a3⟩ := EA.out W hW; go_simp; try (first | (with_reducible rfl) | omega)⟩) hS3 ?_
  refine wpAnyH_take (i := 9) (v := .int .i64 t) rfl (by kernel_rfl) (by kernel_rfl) (by kernel_rfl) (fun _ _ _ h => h) (Or.inl ⟨by rfl, by intro W hW; go_simp; try (first | (with_reducible rfl) | omega)⟩) hS3 ?_
  refine wpAnyH_take (i := 11) (v := aggW s) rfl (by kernel_rfl) (by kernel_rfl) (by kernel_rfl) (fun _ _ _ h => h) (Or.inl ⟨by rfl, by intro W hW; obtain ⟨a0, a1, a2, a3⟩ := EA.out W hW; go_simp; try (first | (with_reducible rfl) | omega)⟩) hS3 ?_
  refine wpAnyH_take (i := 12) (v := .int .i64 t) rfl (by kernel_rfl) (by kernel_rfl) (by kernel_rfl) (fun _ _ _ h => h) (Or.inl ⟨by rfl, by intro W hW; go_simp; try (first | (with_reducible rfl) | omega)⟩) hS3 ?_
  refine wpAnyH_one (i := 10) (by kernel_rfl) rfl (fun K hK => ?_)
  go_simp
  refine Calls.mono (c3.out _) ?_
  rintro e w4 ⟨rfl, hb4⟩
  have hS4 := bl_trans hS3 hS3.size hb4
  go_simp
  refine hK _ _ ⟨hS4, ?_⟩; clear hK K
  refine wpAnyH_one (i := 13) (by kernel_rfl) rfl (fun K hK => ?_)
  go_simp
  refine Calls.mono (c4.out _) ?_
  rintro e w5 ⟨rfl, hb5⟩
  have hS5 := bl_trans hS4 hS4.size hb5
  go_simp
  refine hK _ _ ⟨hS5, ?_⟩; clear hK K
  refine wpAnyH_one (i := 14) (by kernel_rfl) rfl (fun K hK => ?_)
  go_simp
  refine Calls.mono (c5.out _) ?_
  rintro e w6 ⟨rfl, hb6⟩
  have hS6 := bl_trans hS5 hS5.size hb6
  go_simp
  refine hK _ _ ⟨hS6, ?_⟩; clear hK K
  refine wpAnyH_one (i := 15) (by kernel_rfl) rfl (fun K hK => ?_)
  go_simp
  refine hK _ _ ⟨hS6, ?_⟩; clear hK K
  refine wpAnyH_one (i := 16) (by kernel_rfl) rfl (fun K hK => ?_)
  go_simp
  refine hK _ _ ⟨hS6, ?_⟩; clear hK K
  refine wpAnyH_one (i := 17) (by kernel_rfl) rfl (fun K hK => ?_)
  go_simp
  refine hK _ _ ⟨hS6, ?_⟩; clear hK K
  refine wpAnyH_one (i := 18) (by kernel_rfl) rfl (fun K hK => ?_)
  go_simp
  refine Calls.mono (c6.out _ hS6) ?_
  rintro e w7 ⟨rfl, hb7⟩
  have hS7 := bl_trans hS6 hS6.size hb7
  go_simp
  refine hK _ _ ⟨hS7, ?_⟩; clear hK K
  refine wpAnyH_one (i := 19) (by kernel_rfl) rfl (fun K hK => ?_)
  go_simp
  refine hK _ _ ⟨hS7, ?_⟩; clear hK K
  refine wpAnyH_one (i := 20) (by kernel_rfl) rfl (fun K hK => ?_)
  go_simp
  refine hK _ _ ⟨hS7, ?_⟩; clear hK K
  refine wpAnyH_done (by kernel_rfl) ?_ _
  go_wp2_with fail
  go_ret
  exact ⟨rfl, bl_trans HB1.out HB1.out.size hS7⟩
end Go.Proofs.YtaffndecknhhnaaDoor
