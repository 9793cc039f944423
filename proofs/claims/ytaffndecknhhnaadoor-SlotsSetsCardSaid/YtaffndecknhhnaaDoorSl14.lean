/-
  Sets of slots: the chapter's example.
-/
import Derived.Test.YtaffndecknhhnaaDoorSl13
namespace Go.Proofs.YtaffndecknhhnaaDoor
open Go.RowKit
set_option linter.unusedSimpArgs false
set_option linter.unusedVariables false
theorem sl_lit (w : World) (xs : List Int) (cs : Array Value) (hcs : cs.toList = xs.flatMap iC) (hn : xs.length ≤ 1000) (hwf : ∀ x ∈ xs, (Lit.int .i64 x).wf = true) : SlR 1 8 (RInt .i64) (w.alloc (.cells cs 3)) (w.heap.size + 1) (some ⟨w.heap.size, 0, none⟩) xs.length xs.length xs := by
  refine ⟨rfl, Nat.le_refl _, by unfold maxLen; omega, by unfold reachBytes; omega, fun _ => ⟨w.heap.size, 0, rfl, Nat.lt_succ_self _, fun i x hi => ?_⟩⟩
  refine ⟨[.int .i64 x], rfl, fun j u hj => ?_, rfl, hwf x (List.mem_of_getElem? hi)⟩
  have hj0 : j = 0 := by have := (List.getElem?_eq_some_iff.1 hj).1; simp at this; omega
  subst hj0
  simp at hj
  subst hj
  have e : cs[i]? = some (.int .i64 x) := by
    rw [← Array.getElem?_toList, hcs]
    have := flatMap_at (sz := 1) iC (fun _ => rfl) xs i 0 x (.int .i64 x) (by omega) hi rfl
    simpa using this
  have := (new_cells (w := w) (cs := cs) (t := 3) (Below.refl _ _) i _ e).1
  simpa using this
abbrev exS : W4 := ⟨8, 64, 0, 0⟩
theorem exS_ok : exS.Ok := by constructor <;> decide
theorem ex_fold : foldW zW [3, 70] = exS := by kernel_rfl
theorem ex_65 : foldW zW [65] = ⟨0, 2, 0, 0⟩ := by kernel_rfl
theorem ex_m70 : memM exS 70 = true := by kernel_rfl
theorem ex_m4 : memM exS 4 = false := by kernel_rfl
theorem ex_move : movedM exS (-5) = ⟨0, 2, 0, 0⟩ := by kernel_rfl
theorem ex_count : ((popF exS.a0 + popF exS.a1 + popF exS.a2 + popF exS.a3 : Nat) : Int) = 2 := by kernel_rfl
set_option maxRecDepth 100000 in
set_option maxHeartbeats 2000000 in
theorem slots_lives (w : World) (hT : Tab w) (hw0 : 0 < w.heap.size) : Calls Tryd.prog 7 #[] w fun e w' => e = .returned (.bool true) ∧ Below w.heap.size w w' := by
  have c1 := Lib.hid (of_any (some ⟨w.heap.size, 0, none⟩) 2 2 (w.heap.size + 1) [3, 70] (w.alloc (.cells #[.int .i64 3, .int .i64 70] 3)) (sl_lit w [3, 70] _ rfl (by decide) (by decide)) (by simp) (by omega))
  have h70 := Lib.hid (fun w => has_any exS exS_ok 70 w)
  have h4 := Lib.hid (fun w => has_any exS exS_ok 4 w)
  have hmv := Lib.hid (fun w hT hw => move_any exS exS_ok (-5) w hT hw)
  have h65 : Hid (∀ w : World, Calls Tryd.prog 15 #[.slice (some ⟨w.heap.size, 0, none⟩) 1 1] (w.alloc (.cells #[.int .i64 65] 3)) (IsW ⟨0, 2, 0, 0⟩ (w.alloc (.cells #[.int .i64 65] 3)))) := Lib.hid fun w => by
    have := of_any (some ⟨w.heap.size, 0, none⟩) 1 1 (w.heap.size + 1) [65] (w.alloc (.cells #[.int .i64 65] 3)) (sl_lit w [65] _ rfl (by decide) (by decide)) (by simp) (by omega)
    rw [ex_65] at this
    exact this
  have hct := Lib.hid (fun w => count_any exS exS_ok w)
  rw [ex_fold] at c1
  rw [ex_m70] at h70
  rw [ex_m4] at h4
  rw [ex_move] at hmv
  rw [ex_count] at hct
  have heq : ∀ W, (Op.equalIn 10000 24 (.agg #[.int .u64 0, .int .u64 2, .int .u64 0, .int .u64 0]) (.agg #[.int .u64 0, .int .u64 2, .int .u64 0, .int .u64 0])).run Tryd.prog W = .ok true W := fun W => eq_arr 9998 0 2 0 0 0 2 0 0 W
  have hguard := eq_guard
  go_enter Tryd.func7, Tryd.ntmps7
  go_wp2_with fail
  refine c1.out.mono ?_
  rintro e w1 ⟨rfl, hb1⟩
  have HB1 : Hid (Below w.heap.size w w1) := Lib.hid (bl_trans (bl_one _) (by simp) hb1)
  have HL : Hid (w.heap.size + 1 ≤ w1.heap.size) := Lib.hid (by have := hb1.size; simpa using this)
  clear hb1 c1
  go_wp2_with fail
  refine (h70.out _).mono ?_
  rintro e w2 ⟨rfl, hb2⟩
  have hsz1 : w1.heap.size < (w1.alloc (.cells #[.int .u64 8, .int .u64 64, .int .u64 0, .int .u64 0] 24)).heap.size := by simp
  have HV2 : Hid (∀ i v, #[Value.int .u64 8, .int .u64 64, .int .u64 0, .int .u64 0][i]? = some v → w2.cell? ⟨w1.heap.size, i, none⟩ = some v) := Lib.hid fun i v hv => (new_cells hb2 i v hv).1
  have HL2 : Hid (w1.heap.size < w2.heap.size) := Lib.hid (Nat.lt_of_lt_of_le hsz1 hb2.size)
  have HB2 : Hid (Below w.heap.size w w2) := Lib.hid (bl_trans (HB1.out.alloc HB1.out.size _) (by have := HL.out; simp; omega) hb2)
  clear hb2 hsz1
  have x0 : w2.cell? ⟨w1.heap.size, 0, none⟩ = some (.int .u64 8) := HV2.out 0 _ rfl
  have x1 : w2.cell? ⟨w1.heap.size, 1, none⟩ = some (.int .u64 64) := HV2.out 1 _ rfl
  have x2 : w2.cell? ⟨w1.heap.size, 2, none⟩ = some (.int .u64 0) := HV2.out 2 _ rfl
  have x3 : w2.cell? ⟨w1.heap.size, 3, none⟩ = some (.int .u64 0) := HV2.out 3 _ rfl
  go_wp2_with fail
  refine (h4.out _).mono ?_
  rintro e w3 ⟨rfl, hb3⟩
  have HV3 : Hid (∀ i v, #[Value.int .u64 8, .int .u64 64, .int .u64 0, .int .u64 0][i]? = some v → w3.cell? ⟨w1.heap.size, i, none⟩ = some v) := Lib.hid fun i v hv => (hb3.cell (p := ⟨w1.heap.size, i, none⟩) HL2.out).trans (HV2.out i v hv)
  have HL3 : Hid (w1.heap.size < w3.heap.size) := Lib.hid (Nat.lt_of_lt_of_le HL2.out hb3.size)
  have HB3 : Hid (Below w.heap.size w w3) := Lib.hid (bl_trans HB2.out HB2.out.size hb3)
  clear hb3 x0 x1 x2 x3
  have x0 : w3.cell? ⟨w1.heap.size, 0, none⟩ = some (.int .u64 8) := HV3.out 0 _ rfl
  have x1 : w3.cell? ⟨w1.heap.size, 1, none⟩ = some (.int .u64 64) := HV3.out 1 _ rfl
  have x2 : w3.cell? ⟨w1.heap.size, 2, none⟩ = some (.int .u64 0) := HV3.out 2 _ rfl
  have x3 : w3.cell? ⟨w1.heap.size, 3, none⟩ = some (.int .u64 0) := HV3.out 3 _ rfl
  have hT3 : Tab w3 := hT.below HB3.out hw0
  have hw3 : 0 < w3.heap.size := by have := HL3.out; omega
  go_wp2_with fail
  refine (hmv.out _ hT3 hw3).mono ?_
  rintro e w4 ⟨rfl, hb4⟩
  have HV4 : Hid (∀ i v, #[Value.int .u64 8, .int .u64 64, .int .u64 0, .int .u64 0][i]? = some v → w4.cell? ⟨w1.heap.size, i, none⟩ = some v) := Lib.hid fun i v hv => (hb4.cell (p := ⟨w1.heap.size, i, none⟩) HL3.out).trans (HV3.out i v hv)
  have HL4 : Hid (w1.heap.size < w4.heap.size) := Lib.hid (Nat.lt_of_lt_of_le HL3.out hb4.size)
  have HB4 : Hid (Below w.heap.size w w4) := Lib.hid (bl_trans HB3.out HB3.out.size hb4)
  clear hb4 x0 x1 x2 x3 hT3 hw3
  go_wp2_with fail
  refine (h65.out _).mono ?_
  rintro e w5 ⟨rfl, hb5⟩
  have hb5' : Below w4.heap.size w4 w5 := bl_trans (bl_one _) (by simp) hb5
  have HV5 : Hid (∀ i v, #[Value.int .u64 8, .int .u64 64, .int .u64 0, .int .u64 0][i]? = some v → w5.cell? ⟨w1.heap.size, i, none⟩ = some v) := Lib.hid fun i v hv => (hb5'.cell (p := ⟨w1.heap.size, i, none⟩) HL4.out).trans (HV4.out i v hv)
  have HB5 : Hid (Below w.heap.size w w5) := Lib.hid (bl_trans HB4.out HB4.out.size hb5')
  clear hb5 hb5'
  have x0 : w5.cell? ⟨w1.heap.size, 0, none⟩ = some (.int .u64 8) := HV5.out 0 _ rfl
  have x1 : w5.cell? ⟨w1.heap.size, 1, none⟩ = some (.int .u64 64) := HV5.out 1 _ rfl
  have x2 : w5.cell? ⟨w1.heap.size, 2, none⟩ = some (.int .u64 0) := HV5.out 2 _ rfl
  have x3 : w5.cell? ⟨w1.heap.size, 3, none⟩ = some (.int .u64 0) := HV5.out 3 _ rfl
  go_wp2_with fail
  refine (hct.out _).mono ?_
  rintro e w6 ⟨rfl, hb6⟩
  have HB6 : Hid (Below w.heap.size w w6) := Lib.hid (bl_trans HB5.out HB5.out.size hb6)
  clear hb6 x0 x1 x2 x3
  go_wp2_with fail
  go_ret
  exact ⟨rfl, HB6.out⟩
end Go.Proofs.YtaffndecknhhnaaDoor
