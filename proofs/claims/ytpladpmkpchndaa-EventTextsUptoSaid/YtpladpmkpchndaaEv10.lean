/-
  The example of the chapter.
-/
import Derived.Test.YtpladpmkpchndaaEv9
namespace Go.Proofs.Ytpladpmkpchndaa
open Go.RowKit
set_option linter.unusedSimpArgs false
set_option linter.unusedVariables false

def exV : DEvent := { kind := 1, n := 5, m := 0, trace := [] }
theorem dig5 : digM 5 = [53] := by unfold digM; rw [if_pos (by decide), show (5 : Int).natAbs = 5 from rfl, dg_lt (by decide)]; rfl
theorem dig7 : digM 7 = [55] := by unfold digM; rw [if_pos (by decide), show (7 : Int).natAbs = 7 from rfl, dg_lt (by decide)]; rfl
theorem ex_text : strU (evL 1 5 0 []) = ⟨#[101, 109, 105, 116, 32, 53]⟩ := by
  unfold evL
  rw [if_pos rfl, dig5]
  rfl
theorem ex_showL : showL [] 1 [7] [] = [100, 111, 110, 101, 32, 55, 10] := by
  have e : endL 1 [7] [] = [100, 111, 110, 101, 32, 55] := by
    unfold endL doneL resL
    rw [if_pos rfl]
    simp [dig7, sDone]
  unfold showL tailL
  rw [e]
  rfl
theorem slv_one {w : World} {g : Nat} (h0 : w.cell? ⟨g, 0, none⟩ = some (.int .i64 1)) (h1 : w.cell? ⟨g, 1, none⟩ = some (.int .i64 5)) (h2 : w.cell? ⟨g, 2, none⟩ = some (.int .i64 0)) (h3 : w.cell? ⟨g, 3, none⟩ = some (.slice none 0 0)) :
    SlV w w.heap.size (some ⟨g, 0, none⟩) 1 1 [exV] := by
  refine ⟨rfl, Nat.le_refl _, by unfold maxLen; omega, by unfold reachBytes; omega, fun _ => ⟨g, 0, rfl, World.block_lt_of_cell? _ _ h0, fun i x hi => ?_⟩⟩
  have hi0 : i = 0 := by
    have := (List.getElem?_eq_some_iff.1 hi).1
    simp at this
    exact this
  subst hi0
  simp at hi
  subst hi
  refine ⟨[.int .i64 1, .int .i64 5, .int .i64 0, .slice none 0 0], rfl, fun j u hj => ?_, none, 0, 0, rfl, by decide, by decide, by decide, SlR.nil_ _ _⟩
  match j, hj with
  | 0, hj => simp at hj; subst hj; simpa using h0
  | 1, hj => simp at hj; subst hj; simpa using h1
  | 2, hj => simp at hj; subst hj; simpa using h2
  | 3, hj => simp at hj; subst hj; simpa using h3
theorem sln_one {w : World} {g : Nat} (h0 : w.cell? ⟨g, 0, none⟩ = some (.int .i64 7)) : SlN w w.heap.size (some ⟨g, 0, none⟩) 1 1 [7] := by
  refine ⟨rfl, Nat.le_refl _, by unfold maxLen; omega, by unfold reachBytes; omega, fun _ => ⟨g, 0, rfl, World.block_lt_of_cell? _ _ h0, fun i x hi => ?_⟩⟩
  have hi0 : i = 0 := by
    have := (List.getElem?_eq_some_iff.1 hi).1
    simp at this
    exact this
  subst hi0
  simp at hi
  subst hi
  refine ⟨[.int .i64 7], rfl, fun j u hj => ?_, rfl, by decide⟩
  match j, hj with
  | 0, hj => simp at hj; subst hj; simpa using h0

theorem slv_new (w : World) (t : TypeId) : SlV (w.alloc (.cells #[.int .i64 1, .int .i64 5, .int .i64 0, .slice none 0 0] t)) (w.alloc (.cells #[.int .i64 1, .int .i64 5, .int .i64 0, .slice none 0 0] t)).heap.size (some ⟨w.heap.size, 0, none⟩) 1 1 [exV] :=
  slv_one (cell_of_row _ w.heap.size 0 _ _ (0, 0) (heap_alloc_new w _)) (cell_of_row _ w.heap.size 1 _ _ (0, 0) (heap_alloc_new w _)) (cell_of_row _ w.heap.size 2 _ _ (0, 0) (heap_alloc_new w _)) (cell_of_row _ w.heap.size 3 _ _ (0, 0) (heap_alloc_new w _))
theorem sln_new (w : World) (t : TypeId) : SlN (w.alloc (.cells #[.int .i64 7] t)) (w.alloc (.cells #[.int .i64 7] t)).heap.size (some ⟨w.heap.size, 0, none⟩) 1 1 [7] :=
  sln_one (cell_of_row _ w.heap.size 0 _ _ (0, 0) (heap_alloc_new w _))

set_option maxRecDepth 100000 in
set_option maxHeartbeats 2000000 in
theorem ev_lives (w : World) : Calls Try.prog 58 #[] w fun e w' => e = .returned (.bool true) ∧ Below w.heap.size w w' := by
  have ct : ∀ w : World, Hid (Calls Try.prog 86 #[.agg #[.int .i64 1, .int .i64 5, .int .i64 0, .slice none 0 0]] w fun e w' => e = .returned (.string ⟨#[101, 109, 105, 116, 32, 53]⟩) ∧ Below w.heap.size w w') := fun w => by
    have := text_any 1 5 0 w.heap.size none 0 0 [] w ⟨by decide, by decide⟩ ⟨by decide, by decide⟩ (SlR.nil_ _ _) (Nat.le_refl _)
    rw [ex_text] at this
    exact this
  obtain ⟨w1, hw1⟩ : ∃ w1, w.alloc (.cells #[.int .i64 1, .int .i64 5, .int .i64 0, .slice none 0 0] 98) = w1 := ⟨_, rfl⟩
  have hb1 : Below w.heap.size w w1 := by rw [← hw1]; exact (Below.refl _ _).alloc (Nat.le_refl _) _
  have r0 : w1.cell? ⟨w.heap.size, 0, none⟩ = some (.int .i64 1) := by rw [← hw1]; exact box_cells _ _ _ _ (Below.refl _ _) 0 _ rfl
  have r1 : w1.cell? ⟨w.heap.size, 1, none⟩ = some (.int .i64 5) := by rw [← hw1]; exact box_cells _ _ _ _ (Below.refl _ _) 1 _ rfl
  have r2 : w1.cell? ⟨w.heap.size, 2, none⟩ = some (.int .i64 0) := by rw [← hw1]; exact box_cells _ _ _ _ (Below.refl _ _) 2 _ rfl
  have r3 : w1.cell? ⟨w.heap.size, 3, none⟩ = some (.slice none 0 0) := by rw [← hw1]; exact box_cells _ _ _ _ (Below.refl _ _) 3 _ rfl
  have R0 := Lib.hid r0
  have R1 := Lib.hid r1
  have R2 := Lib.hid r2
  have R3 := Lib.hid r3
  have HB1 := Lib.hid hb1
  have HW1 := Lib.hid hw1
  clear hb1 hw1 r0 r1 r2 r3
  go_enter Try.func58, Try.ntmps58
  go_wp2_with fail
  rw [HW1.out]
  refine Calls.mono (ct _).out ?_
  rintro e w2 ⟨rfl, hb2⟩
  have s0 := (hb2.cell (p := ⟨w.heap.size, 0, none⟩) (World.block_lt_of_cell? _ _ R0.out)).trans R0.out
  have s1 := (hb2.cell (p := ⟨w.heap.size, 1, none⟩) (World.block_lt_of_cell? _ _ R1.out)).trans R1.out
  have s2 := (hb2.cell (p := ⟨w.heap.size, 2, none⟩) (World.block_lt_of_cell? _ _ R2.out)).trans R2.out
  have s3 := (hb2.cell (p := ⟨w.heap.size, 3, none⟩) (World.block_lt_of_cell? _ _ R3.out)).trans R3.out
  have HB2 := Lib.hid (bl_trans HB1.out HB1.out.size hb2)
  clear hb2
  go_wp2_with fail
  refine Calls.mono (begins_any _ none _ 0 1 0 1 [] [exV] _ (SlR.nil_ _ _) (slv_new w2 _) (Nat.le_refl _)) ?_
  rintro e w3 ⟨rfl, hb3⟩
  have hb23 : Below w2.heap.size w2 w3 := ((Below.refl _ _).alloc (Nat.le_refl _) _).trans (hb3.mono (by simp))
  have s0 := (hb23.cell (p := ⟨w.heap.size, 0, none⟩) (World.block_lt_of_cell? _ _ s0)).trans s0
  have s1 := (hb23.cell (p := ⟨w.heap.size, 1, none⟩) (World.block_lt_of_cell? _ _ s1)).trans s1
  have s2 := (hb23.cell (p := ⟨w.heap.size, 2, none⟩) (World.block_lt_of_cell? _ _ s2)).trans s2
  have s3 := (hb23.cell (p := ⟨w.heap.size, 3, none⟩) (World.block_lt_of_cell? _ _ s3)).trans s3
  have HB3 := Lib.hid (bl_trans HB2.out HB2.out.size hb23)
  clear hb3 hb23
  rw [show begL eqV [] [exV] = true from rfl]
  go_wp2_with fail
  refine Calls.mono (begins_any _ _ none 1 0 1 0 [exV] [] _ (slv_new w3 _) (SlR.nil_ _ _) (Nat.le_refl _)) ?_
  rintro e w4 ⟨rfl, hb4⟩
  have HB4 := Lib.hid (bl_trans HB3.out HB3.out.size (((Below.refl _ _).alloc (Nat.le_refl _) _).trans (hb4.mono (by simp))))
  clear hb4 s0 s1 s2 s3
  rw [show begL eqV [exV] [] = false from rfl]
  go_wp2_with fail
  have cs := show_any none 0 0 1 (some ⟨w4.heap.size, 0, none⟩) 1 1 none 0 0 0 [] [7] [] _ (SlR.nil_ _ _) (sln_new w4 3) (SlR.nil_ _ _) (by omega) (by omega) (by rw [ex_showL]; simp)
  rw [ex_showL] at cs
  refine Calls.mono cs ?_
  rintro e w5 ⟨rfl, hb5⟩
  have HB5 := Lib.hid (bl_trans HB4.out HB4.out.size (((Below.refl _ _).alloc (Nat.le_refl _) _).trans (hb5.mono (by simp))))
  clear hb5 cs
  rw [show strU [100, 111, 110, 101, 32, 55, 10] = (⟨#[100, 111, 110, 101, 32, 55, 10]⟩ : ByteArray) from rfl]
  go_wp2_with fail
  go_ret
  exact ⟨rfl, HB5.out⟩
end Go.Proofs.Ytpladpmkpchndaa
