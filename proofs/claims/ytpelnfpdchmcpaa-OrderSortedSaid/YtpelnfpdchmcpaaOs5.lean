/-
  Order: the plain program; its takes; its order.
-/
import Derived.Test.YtpelnfpdchmcpaaOs4
namespace Go.Proofs.Ytpelnfpdchmcpaa
open Go.RowKit
set_option linter.unusedSimpArgs false
set_option linter.unusedVariables false
set_option maxRecDepth 100000 in
set_option maxHeartbeats 2000000 in
theorem plain_one (w : World) : Calls Try.prog 11 #[] w fun e w' => (∃ b, e = .returned (.agg #[.slice (some ⟨b, 0, none⟩) 1 1])) ∧ Below w.heap.size w w' := by
  go_enter Try.func11, Try.ntmps11
  go_wp2_with fail
  refine bodyPost_ret (v := .agg #[.slice (some ⟨w.heap.size + 1 + 1 + 1, 0, none⟩) 1 1]) (by simp [results, Try.results11, go_sem]) rfl ⟨⟨_, rfl⟩, ?_⟩
  exact (((((Below.refl _ _).alloc (Nat.le_refl _) _).alloc (by simp) _).alloc (by simp; omega) _).alloc (by simp; omega) _)
set_option maxRecDepth 100000 in
set_option maxHeartbeats 2000000 in
theorem takes_one (b0 : Nat) (w : World) : Calls Try.prog 13 #[.agg #[.slice (some ⟨b0, 0, none⟩) 1 1], .slice none 0 0] w fun e w' => ∃ b, e = .returned (.slice (some ⟨b, 0, none⟩) 1 1) ∧ Cells w' b [.slice none 0 0] ∧ Below w.heap.size w w' := by
  have hmk : ∀ W, (Instr.makeSlice 39 (.int .i64 1) (.int .i64 1)).run Try.prog W = .ok (.slice (some ⟨W.heap.size, 0, none⟩) 1 1) (W.alloc (.cells #[.slice none 0 0] 26)) := fun W => by kernel_rfl
  go_enter Try.func13, Try.ntmps13
  go_wp2_with fail
  refine wp_loop_rounds 1 ?_
  rw [rounds_succ]
  go_wp2_with fail
  obtain ⟨w1, hw1⟩ : ∃ X, w.alloc (.cells #[.slice (some ⟨b0, 0, none⟩) 1 1] 34) = X := ⟨_, rfl⟩
  have hb1 : Below w.heap.size w w1 := by rw [← hw1]; exact bl_one _
  obtain ⟨w2, hw2⟩ : ∃ X, w1.alloc (.cells #[.slice none 0 0] 26) = X := ⟨_, rfl⟩
  obtain ⟨b, hbE⟩ : ∃ b, w.heap.size + 1 = b := ⟨_, rfl⟩
  have hs1 : w1.heap.size = b := by rw [← hw1, ← hbE]; simp
  have hc2 : Cells w2 b [.slice none 0 0] := by rw [← hw2, ← hs1]; exact Cells.new w1 [.slice none 0 0] _
  have hb2 : Below w.heap.size w w2 := by rw [← hw2]; exact hb1.alloc hb1.size _
  have HC := Lib.hid hc2
  have HB := Lib.hid hb2
  have hbw : Hid (w.heap.size ≤ b ∧ w.heap.size ≤ w2.heap.size) := Lib.hid ⟨by omega, hb2.size⟩
  rw [hw1, hw2, hbE]
  have b0 := hc2.at_ 0 _ rfl
  have bf := hc2.fz 0 (by simp)
  have cI := Lib.hid (ints_nil w2)
  have cC := Lib.hid (compact_nil w2)
  clear hw1 hw2 hb1 hs1 hc2 hb2 hbE
  refine wp_loop_rounds 2 ?_
  rw [rounds_succ]
  go_wp2_with fail
  refine cI.out.mono ?_
  rintro e w' ⟨⟨v, rfl⟩, rfl⟩
  go_wp2_with fail
  refine cC.out.mono ?_
  rintro e w' ⟨rfl, rfl⟩
  go_wp2_with fail
  rw [rounds_succ]
  go_wp2_with fail
  go_ret
  exact ⟨b, rfl, HC.out.put 0 (by simp) _, HB.out.trans ((kp_set w2 b 0 _).below hbw.out.2 fun j hj => by have hj' : j = b := hj; have := hbw.out.1; omega)⟩
set_option maxRecDepth 100000 in
set_option maxHeartbeats 2000000 in
theorem of_one (b0 : Nat) (w : World) : Calls Try.prog 10 #[.agg #[.slice (some ⟨b0, 0, none⟩) 1 1], .slice none 0 0] w fun e w' => (∃ A c, e = .returned (.tuple #[.slice A 1 c, .int .i64 0])) ∧ Below w.heap.size w w' := by
  obtain ⟨w1, hw1⟩ : ∃ X, w.alloc (.cells #[.slice (some ⟨b0, 0, none⟩) 1 1] 34) = X := ⟨_, rfl⟩
  have HB1 : Hid (Below w.heap.size w w1) := Lib.hid (by rw [← hw1]; exact bl_one _)
  have x0 : w1.cell? ⟨w.heap.size, 0, none⟩ = some (.slice (some ⟨b0, 0, none⟩) 1 1) := by rw [← hw1]; exact (new_cells (Below.refl _ _) 0 _ rfl).1
  have cT := Lib.hid (takes_one b0 w1)
  go_enter Try.func10, Try.ntmps10
  go_wp2_with fail
  refine cT.out.mono ?_
  rintro e w2 ⟨b, rfl, hc2, hb2⟩
  have HB2 : Hid (Below w.heap.size w w2) := Lib.hid (HB1.out.trans (hb2.mono HB1.out.size))
  have cC := Lib.hid (circle_one b w2 hc2)
  have HC2 := Lib.hid hc2
  clear hc2 hb2 cT x0 hw1
  go_wp2_with fail
  refine wp_loop_rounds 2 ?_
  rw [rounds_succ]
  go_wp2_with fail
  refine cC.out.mono ?_
  rintro e w3 ⟨rfl, hb3⟩
  have HB3 : Hid (Below w.heap.size w w3) := Lib.hid (HB2.out.trans (hb3.mono HB2.out.size))
  have cO := Lib.hid (order_one b w3 (HC2.out.on hb3))
  clear hb3 cC
  go_wp2_with fail
  rw [rounds_succ]
  go_wp2_with fail
  refine cO.out.mono ?_
  rintro e w4 ⟨A, c, rfl, hb4⟩
  go_wp2_with fail
  go_ret2
  exact ⟨⟨A, c, rfl⟩, HB3.out.trans (hb4.mono HB3.out.size)⟩
end Go.Proofs.Ytpelnfpdchmcpaa
