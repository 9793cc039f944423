/-
  The flat stack: the walk of StackNil, the chapter's example given.
-/
import Derived.Test.YtpladpmkpchndaaStackNil2
namespace Go.Proofs.Ytpladpmkpchndaa
open Go.RowKit
set_option linter.unusedSimpArgs false
set_option linter.unusedVariables false
attribute [local go_sem] run_store_cplx

theorem bl_trans {B : Nat} {a b c : World} (h : Below B a b) (hB : B ≤ b.heap.size) (k : Below b.heap.size b c) : Below B a c := h.trans (k.mono hB)
set_option maxRecDepth 100000 in
set_option maxHeartbeats 1000000 in
theorem stackNil_walk (hl : ∀ w : World, Hid (Calls Try.prog 24 #[] w fun e w' => e = .returned (.bool true) ∧ Below w.heap.size w w')) (n : Int) (w : World) :
    Calls Try.prog 3 #[.int .i64 n] w fun e w' => e = .returned (.bool true) ∧ Below w.heap.size w w' := by
  have hq : ∀ w : World, (Op.equalIn 9999 25 (.complex .f64 0 0) (.complex .f64 0 0)).run Try.prog w = .ok true w := fun w => by first | kernel_rfl | rfl | simp [Op.equalIn, go_sem]
  go_enter Try.func3, Try.ntmps3
  go_wp2_with fail
  refine (push_nil _).mono ?_
  rintro e w1 ⟨⟨v, rfl⟩, b1⟩
  go_wp2_with fail
  refine (cut_nil n _).mono ?_
  rintro e w2 ⟨⟨v, rfl⟩, rfl⟩
  go_wp2_with fail
  refine (len_nil _).mono ?_
  rintro e w3 ⟨rfl, rfl⟩
  have b2 : Below w.heap.size w (w1.alloc (.cells #[.slice none 0 0] 31)) := b1.alloc b1.size _
  have d0 : (w1.alloc (.cells #[.slice none 0 0] 31)).cell? ⟨w1.heap.size, 0, none⟩ = some (.slice none 0 0) := cell_of_row _ w1.heap.size 0 _ _ (0, 0) (heap_alloc_new w1 _)
  go_wp2_with fail
  refine (pop_nil _).mono ?_
  rintro e w4 ⟨rfl, b4⟩
  go_wp2_with fail
  have hbd : (w1.alloc (.cells #[.slice none 0 0] 31)).heap.size = w1.heap.size + 1 := by simp
  refine (get_nil n _).mono ?_
  rintro e w5 ⟨rfl, b5⟩
  have B5 := bl_trans b4 b4.size b5
  go_wp2_with fail
  refine (set_nil n _).mono ?_
  rintro e w6 ⟨rfl, b6⟩
  have B6 := bl_trans B5 B5.size b6
  have d6 : w6.cell? ⟨w1.heap.size, 0, none⟩ = some (.slice none 0 0) := (B6.cell (by simp)).trans d0
  have BB : Below w.heap.size w w6 := bl_trans b2 b2.size B6
  clear b4 b5 b6 B5 B6 d0 b1 b2 hbd
  go_wp2_with fail
  refine (grow_nil _).mono ?_
  rintro e w7 ⟨rfl, rfl⟩
  go_wp2_with fail
  refine (top_nil n _).mono ?_
  rintro e w7 ⟨rfl, rfl⟩
  go_wp2_with fail
  refine (row_nil 0 n (by omega) _).mono ?_
  rintro e w7 ⟨rfl, rfl⟩
  go_wp2_with fail
  refine (get_out _ _ 0 0 n _ d6 (by omega) (by omega)).mono ?_
  rintro e w8 ⟨rfl, b8⟩
  go_wp2_with fail
  refine Calls.mono (hl _).out ?_
  rintro e w9 ⟨rfl, b9⟩
  go_wp2_with fail
  go_ret
  exact ⟨rfl, bl_trans (bl_trans BB BB.size b8) (Nat.le_trans BB.size b8.size) b9⟩
end Go.Proofs.Ytpladpmkpchndaa
