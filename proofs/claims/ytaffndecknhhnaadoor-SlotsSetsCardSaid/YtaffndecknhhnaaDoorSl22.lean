/-
  Sets of slots: the walk of SlotsSets.
-/
import Derived.Test.YtaffndecknhhnaaDoorSl20
import Derived.Test.YtaffndecknhhnaaDoorSl21
namespace Go.Proofs.YtaffndecknhhnaaDoor
open Go.RowKit
set_option linter.unusedSimpArgs false
set_option linter.unusedVariables false
set_option maxRecDepth 100000 in
set_option maxHeartbeats 8000000 in
theorem slotsSets_walk (s t : W4) (hs : s.Ok) (ht : t.Ok) (w : World) (hT : Tab w) (hw0 : 0 < w.heap.size) : Calls Tryd.prog 4 #[aggW s, aggW t] w fun e w' => e = .returned (.bool true) ∧ Below w.heap.size w w' := by
  obtain ⟨w1, hw1⟩ : ∃ w1, (w.alloc (.cells #[.int .u64 (s.a0 : Int), .int .u64 (s.a1 : Int), .int .u64 (s.a2 : Int), .int .u64 (s.a3 : Int)] 24)).alloc (.cells #[.int .u64 (t.a0 : Int), .int .u64 (t.a1 : Int), .int .u64 (t.a2 : Int), .int .u64 (t.a3 : Int)] 24) = w1 := ⟨_, rfl⟩
  have hb1 : Below w.heap.size w w1 := by rw [← hw1]; exact (bl_one _).alloc (by simp) _
  have hs1 : w1.heap.size = w.heap.size + 1 + 1 := by rw [← hw1]; simp
  have cs : ∀ q, q < 4 → w1.cell? ⟨w.heap.size, q, none⟩ = some (.int .u64 (s.get q : Int)) := fun q hq => by
    rw [← hw1, World.cell?_alloc_lt _ _ _ (by show w.heap.size < _; simp)]
    exact set_new w s q hq
  have ct : ∀ q, q < 4 → w1.cell? ⟨w.heap.size + 1, q, none⟩ = some (.int .u64 (t.get q : Int)) := fun q hq => by
    rw [← hw1]
    have := set_new (w.alloc (.cells #[.int .u64 (s.a0 : Int), .int .u64 (s.a1 : Int), .int .u64 (s.a2 : Int), .int .u64 (s.a3 : Int)] 24)) t q hq
    rw [World.size_alloc] at this
    exact this
  have ES : Hid (∀ W, Below w1.heap.size w1 W → W.cell? ⟨w.heap.size, 0, none⟩ = some (.int .u64 (s.a0 : Int)) ∧ W.cell? ⟨w.heap.size, 1, none⟩ = some (.int .u64 (s.a1 : Int)) ∧ W.cell? ⟨w.heap.size, 2, none⟩ = some (.int .u64 (s.a2 : Int)) ∧ W.cell? ⟨w.heap.size, 3, none⟩ = some (.int .u64 (s.a3 : Int))) := Lib.hid fun W hW => by
    have g : ∀ q, q < 4 → W.cell? ⟨w.heap.size, q, none⟩ = some (.int .u64 (s.get q : Int)) := fun q hq => (hW.cell (p := ⟨w.heap.size, q, none⟩) (by show w.heap.size < _; omega)).trans (cs q hq)
    exact ⟨g 0 (by omega), g 1 (by omega), g 2 (by omega), g 3 (by omega)⟩
  have ET : Hid (∀ W, Below w1.heap.size w1 W → W.cell? ⟨w.heap.size + 1, 0, none⟩ = some (.int .u64 (t.a0 : Int)) ∧ W.cell? ⟨w.heap.size + 1, 1, none⟩ = some (.int .u64 (t.a1 : Int)) ∧ W.cell? ⟨w.heap.size + 1, 2, none⟩ = some (.int .u64 (t.a2 : Int)) ∧ W.cell? ⟨w.heap.size + 1, 3, none⟩ = some (.int .u64 (t.a3 : Int))) := Lib.hid fun W hW => by
    have g : ∀ q, q < 4 → W.cell? ⟨w.heap.size + 1, q, none⟩ = some (.int .u64 (t.get q : Int)) := fun q hq => (hW.cell (p := ⟨w.heap.size + 1, q, none⟩) (by show w.heap.size + 1 < _; omega)).trans (ct q hq)
    exact ⟨g 0 (by omega), g 1 (by omega), g 2 (by omega), g 3 (by omega)⟩
  have c1 := Lib.hid (fun w => por_any s t hs ht w)
  have c2 := Lib.hid (fun w => ror_any s t hs ht w)
  have c3 := Lib.hid (fun w => sub_any s.a0 s.a1 s.a2 s.a3 t.a0 t.a1 t.a2 t.a3 w)
  have c4 := Lib.hid (fun w => refSub_any s.a0 s.a1 s.a2 s.a3 t.a0 t.a1 t.a2 t.a3 w)
  have c5 := Lib.hid (fun w => inside_any s.a0 s.a1 s.a2 s.a3 t.a0 t.a1 t.a2 t.a3 w)
  have c6 := Lib.hid (fun w => refInside_any s.a0 s.a1 s.a2 s.a3 t.a0 t.a1 t.a2 t.a3 w)
  have c7 := Lib.hid (fun w => count_any s hs w)
  have c8 := Lib.hid (fun w => rlist_any s hs w)
  have c9 : Hid (∀ W, Below w1.heap.size w1 W → Calls Tryd.prog 7 #[] W fun e w' => e = .returned (.bool true) ∧ Below W.heap.size W w') := Lib.hid fun W hW => slots_lives W (hT.below (hb1.trans (hW.mono (by omega))) hw0) (by have := hW.size; omega)
  have hlen : (listM s).length ≤ 256 := listK_len s 256
  have hcl := count_list s hs
  rw [hcl] at c7
  generalize listM s = xs at *
  obtain ⟨n, hn⟩ : ∃ n, xs.length = n := ⟨_, rfl⟩
  rw [hn] at c7 hlen
  generalize orW s t = R at *
  generalize insB (s.a0 : Int) (s.a1 : Int) (s.a2 : Int) (s.a3 : Int) (t.a0 : Int) (t.a1 : Int) (t.a2 : Int) (t.a3 : Int) = v at *
  generalize fU (s.a0 : Int) (t.a0 : Int) = k0 at *
  generalize fU (s.a1 : Int) (t.a1 : Int) = k1 at *
  generalize fU (s.a2 : Int) (t.a2 : Int) = k2 at *
  generalize fU (s.a3 : Int) (t.a3 : Int) = k3 at *
  have heq1 : ∀ W, (Op.equalIn 10000 24 (aggU (R.a0 : Int) (R.a1 : Int) (R.a2 : Int) (R.a3 : Int)) (aggU (R.a0 : Int) (R.a1 : Int) (R.a2 : Int) (R.a3 : Int))).run Tryd.prog W = .ok true W := fun W => by
    have := eq_arr 9998 (R.a0 : Int) (R.a1 : Int) (R.a2 : Int) (R.a3 : Int) (R.a0 : Int) (R.a1 : Int) (R.a2 : Int) (R.a3 : Int) W
    simpa using this
  have heq3 : ∀ W, (Op.equalIn 10000 24 (aggU k0 k1 k2 k3) (aggU k0 k1 k2 k3)).run Tryd.prog W = .ok true W := fun W => by
    have := eq_arr 9998 k0 k1 k2 k3 k0 k1 k2 k3 W
    simpa using this
  have hguard := eq_guard
  have tv : (v == v) = true := by simp
  have tn : ((n : Int) == n) = true := by simp
  have HE := Lib.hid hw1
  have HB1 := Lib.hid hb1
  have hS0 : Below w1.heap.size w1 w1.drew := (Below.refl _ _).drew
  clear hw1 hb1 hs1 cs ct hcl
  go_enter Tryd.func4, Tryd.ntmps4
  go_wp2_with fail
  rw [HE.out]
  refine wp_region_held (S := fun W => Below w1.heap.size w1 W) (by kernel_rfl) ?_
  change wpAnyH _ _ _ _ _ _ _ _ (World.drew _)
  refine wpAnyH_take (i := 0) (v := aggW s) rfl (by kernel_rfl) (by kernel_rfl) (by kernel_rfl) (fun _ _ _ h => h) (Or.inl ⟨by rfl, by intro W hW; obtain ⟨a0, a1, a2, a3⟩ := ES.out W hW; go_simp; try (first | (with_reducible rfl) | omega)⟩) hS0 ?_
  refine wpAnyH_take (i := 1) (v := aggW t) rfl (by kernel_rfl) (by kernel_rfl) (by kernel_rfl) (fun _ _ _ h => h) (Or.inl ⟨by rfl, by intro W hW; obtain ⟨a0, a1, a2, a3⟩ := ET.out W hW; go_simp; try (first | (with_reducible rfl) | omega)⟩) hS0 ?_
  refine wpAnyH_take (i := 3) (v := aggW s) rfl (by kernel_rfl) (by kernel_rfl) (by kernel_rfl) (fun _ _ _ h => h) (Or.inl ⟨by rfl, by intro W hW; obtain ⟨a0, a1, a2, a3⟩ := ES.out W hW; go_simp; try (first | (with_reducible rfl) | omega)⟩) hS0 ?_
  refine wpAnyH_take (i := 4) (v := aggW t) rfl (by kernel_rfl) (by kernel_rfl) (by kernel_rfl) (fun _ _ _ h => h) (Or.inl ⟨by rfl, by intro W hW; obtain ⟨a0, a1, a2, a3⟩ := ET.out W hW; go_simp; try (first | (with_reducible rfl) | omega)⟩) hS0 ?_
  refine wpAnyH_one (i := 2) (by kernel_rfl) rfl (fun K hK => ?_)
  go_simp
  refine Calls.mono (c1.out _) ?_
  rintro e w4 ⟨rfl, hb4⟩
  have hS4 := bl_trans hS0 hS0.size hb4
  go_simp
  refine hK _ _ ⟨hS4, ?_⟩; clear hK K
  refine wpAnyH_one (i := 5) (by kernel_rfl) rfl (fun K hK => ?_)
  go_simp
  refine Calls.mono (c2.out _) ?_
  rintro e w5 ⟨rfl, hb5⟩
  have hS5 := bl_trans hS4 hS4.size hb5
  go_simp
  refine hK _ _ ⟨hS5, ?_⟩; clear hK K
  refine wpAnyH_one (i := 6) (by kernel_rfl) rfl (fun K hK => ?_)
  go_simp
  refine hK _ _ ⟨hS5, ?_⟩; clear hK K
  refine wpAnyH_one (i := 7) (by kernel_rfl) rfl (fun K hK => ?_)
  go_simp
  refine hK _ _ ⟨hS5, ?_⟩; clear hK K
  refine wpAnyH_take (i := 8) (v := aggW s) rfl (by kernel_rfl) (by kernel_rfl) (by kernel_rfl) (fun _ _ _ h => h) (Or.inl ⟨by rfl, by intro W hW; obtain ⟨a0, a1, a2, a3⟩ := ES.out W hW; go_simp; try (first | (with_reducible rfl) | omega)⟩) hS5 ?_
  refine wpAnyH_take (i := 9) (v := aggW t) rfl (by kernel_rfl) (by kernel_rfl) (by kernel_rfl) (fun _ _ _ h => h) (Or.inl ⟨by rfl, by intro W hW; obtain ⟨a0, a1, a2, a3⟩ := ET.out W hW; go_simp; try (first | (with_reducible rfl) | omega)⟩) hS5 ?_
  refine wpAnyH_take (i := 11) (v := aggW s) rfl (by kernel_rfl) (by kernel_rfl) (by kernel_rfl) (fun _ _ _ h => h) (Or.inl ⟨by rfl, by intro W hW; obtain ⟨a0, a1, a2, a3⟩ := ES.out W hW; go_simp; try (first | (with_reducible rfl) | omega)⟩) hS5 ?_
  refine wpAnyH_take (i := 12) (v := aggW t) rfl (by kernel_rfl) (by kernel_rfl) (by kernel_rfl) (fun _ _ _ h => h) (Or.inl ⟨by rfl, by intro W hW; obtain ⟨a0, a1, a2, a3⟩ := ET.out W hW; go_simp; try (first | (with_reducible rfl) | omega)⟩) hS5 ?_
  refine wpAnyH_one (i := 10) (by kernel_rfl) rfl (fun K hK => ?_)
  go_simp
  refine Calls.mono (c3.out _) ?_
  rintro e w6 ⟨rfl, hb6⟩
  have hS6 := bl_trans hS5 hS5.size hb6
  go_simp
  refine hK _ _ ⟨hS6, ?_⟩; clear hK K
  refine wpAnyH_one (i := 13) (by kernel_rfl) rfl (fun K hK => ?_)
  go_simp
  refine Calls.mono (c4.out _) ?_
  rintro e w7 ⟨rfl, hb7⟩
  have hS7 := bl_trans hS6 hS6.size hb7
  go_simp
  refine hK _ _ ⟨hS7, ?_⟩; clear hK K
  refine wpAnyH_one (i := 14) (by kernel_rfl) rfl (fun K hK => ?_)
  go_simp
  refine hK _ _ ⟨hS7, ?_⟩; clear hK K
  refine wpAnyH_one (i := 15) (by kernel_rfl) rfl (fun K hK => ?_)
  go_simp
  refine hK _ _ ⟨hS7, ?_⟩; clear hK K
  refine wpAnyH_one (i := 16) (by kernel_rfl) rfl (fun K hK => ?_)
  go_simp
  refine hK _ _ ⟨hS7, ?_⟩; clear hK K
  refine wpAnyH_take (i := 17) (v := aggW s) rfl (by kernel_rfl) (by kernel_rfl) (by kernel_rfl) (fun _ _ _ h => h) (Or.inl ⟨by rfl, by intro W hW; obtain ⟨a0, a1, a2, a3⟩ := ES.out W hW; go_simp; try (first | (with_reducible rfl) | omega)⟩) hS7 ?_
  refine wpAnyH_take (i := 18) (v := aggW t) rfl (by kernel_rfl) (by kernel_rfl) (by kernel_rfl) (fun _ _ _ h => h) (Or.inl ⟨by rfl, by intro W hW; obtain ⟨a0, a1, a2, a3⟩ := ET.out W hW; go_simp; try (first | (with_reducible rfl) | omega)⟩) hS7 ?_
  refine wpAnyH_take (i := 20) (v := aggW s) rfl (by kernel_rfl) (by kernel_rfl) (by kernel_rfl) (fun _ _ _ h => h) (Or.inl ⟨by rfl, by intro W hW; obtain ⟨a0, a1, a2, a3⟩ := ES.out W hW; go_simp; try (first | (with_reducible rfl) | omega)⟩) hS7 ?_
  refine wpAnyH_take (i := 21) (v := aggW t) rfl (by kernel_rfl) (by kernel_rfl) (by kernel_rfl) (fun _ _ _ h => h) (Or.inl ⟨by rfl, by intro W hW; obtain ⟨a0, a1, a2, a3⟩ := ET.out W hW; go_simp; try (first | (with_reducible rfl) | omega)⟩) hS7 ?_
  refine wpAnyH_one (i := 19) (by kernel_rfl) rfl (fun K hK => ?_)
  go_simp
  refine Calls.mono (c5.out _) ?_
  rintro e w8 ⟨rfl, hb8⟩
  have hS8 := bl_trans hS7 hS7.size hb8
  go_simp
  refine hK _ _ ⟨hS8, ?_⟩; clear hK K
  refine wpAnyH_one (i := 22) (by kernel_rfl) rfl (fun K hK => ?_)
  go_simp
  refine Calls.mono (c6.out _) ?_
  rintro e w9 ⟨rfl, hb9⟩
  have hS9 := bl_trans hS8 hS8.size hb9
  go_simp
  refine hK _ _ ⟨hS9, ?_⟩; clear hK K
  refine wpAnyH_one (i := 23) (by kernel_rfl) rfl (fun K hK => ?_)
  go_simp
  refine hK _ _ ⟨hS9, ?_⟩; clear hK K
  refine wpAnyH_one (i := 24) (by kernel_rfl) rfl (fun K hK => ?_)
  go_simp
  refine hK _ _ ⟨hS9, ?_⟩; clear hK K
  refine wpAnyH_one (i := 25) (by kernel_rfl) rfl (fun K hK => ?_)
  go_simp
  refine hK _ _ ⟨hS9, ?_⟩; clear hK K
  refine wpAnyH_take (i := 26) (v := aggW s) rfl (by kernel_rfl) (by kernel_rfl) (by kernel_rfl) (fun _ _ _ h => h) (Or.inl ⟨by rfl, by intro W hW; obtain ⟨a0, a1, a2, a3⟩ := ES.out W hW; go_simp; try (first | (with_reducible rfl) | omega)⟩) hS9 ?_
  refine wpAnyH_take (i := 28) (v := aggW s) rfl (by kernel_rfl) (by kernel_rfl) (by kernel_rfl) (fun _ _ _ h => h) (Or.inl ⟨by rfl, by intro W hW; obtain ⟨a0, a1, a2, a3⟩ := ES.out W hW; go_simp; try (first | (with_reducible rfl) | omega)⟩) hS9 ?_
  refine wpAnyH_one (i := 27) (by kernel_rfl) rfl (fun K hK => ?_)
  go_simp
  refine Calls.mono (c7.out _) ?_
  rintro e w10 ⟨rfl, hb10⟩
  have hS10 := bl_trans hS9 hS9.size hb10
  go_simp
  refine hK _ _ ⟨hS10, ?_⟩; clear hK K
  refine wpAnyH_one (i := 29) (by kernel_rfl) rfl (fun K hK => ?_)
  go_simp
  refine Calls.mono (c8.out _) ?_
  rintro e w11 ⟨A', c', rfl, _, hb11⟩
  rw [hn]
  have hS11 := bl_trans hS10 hS10.size hb11
  go_simp
  refine hK _ _ ⟨hS11, ?_⟩; clear hK K
  refine wpAnyH_one (i := 30) (by kernel_rfl) rfl (fun K hK => ?_)
  go_simp
  refine hK _ _ ⟨hS11, ?_⟩; clear hK K
  refine wpAnyH_one (i := 31) (by kernel_rfl) rfl (fun K hK => ?_)
  go_simp
  refine hK _ _ ⟨hS11, ?_⟩; clear hK K
  refine wpAnyH_one (i := 32) (by kernel_rfl) rfl (fun K hK => ?_)
  go_simp
  refine hK _ _ ⟨hS11, ?_⟩; clear hK K
  refine wpAnyH_one (i := 33) (by kernel_rfl) rfl (fun K hK => ?_)
  go_simp
  refine hK _ _ ⟨hS11, ?_⟩; clear hK K
  refine wpAnyH_one (i := 34) (by kernel_rfl) rfl (fun K hK => ?_)
  go_simp
  refine Calls.mono (c9.out _ hS11) ?_
  rintro e w12 ⟨rfl, hb12⟩
  have hS12 := bl_trans hS11 hS11.size hb12
  go_simp
  refine hK _ _ ⟨hS12, ?_⟩; clear hK K
  refine wpAnyH_one (i := 35) (by kernel_rfl) rfl (fun K hK => ?_)
  go_simp
  refine hK _ _ ⟨hS12, ?_⟩; clear hK K
  refine wpAnyH_one (i := 36) (by kernel_rfl) rfl (fun K hK => ?_)
  go_simp
  refine hK _ _ ⟨hS12, ?_⟩; clear hK K
  refine wpAnyH_done (by kernel_rfl) ?_ _
  go_wp2_with fail
  go_ret
  exact ⟨rfl, bl_trans HB1.out HB1.out.size hS12⟩
end Go.Proofs.YtaffndecknhhnaaDoor
