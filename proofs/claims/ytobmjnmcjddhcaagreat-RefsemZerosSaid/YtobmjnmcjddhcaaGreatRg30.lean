import Derived.Test.YtobmjnmcjddhcaaGreatRg20
import Derived.Test.YtobmjnmcjddhcaaGreatRg29
set_option linter.unusedSimpArgs false
set_option linter.unusedVariables false
namespace Go.Proofs.YtobmjnmcjddhcaaGreat
section
set_option maxRecDepth 100000
open Go.RowKit
def IsTk (k : Nat) (w : World) (e : Ending) (w' : World) : Prop := ∃ A c, e = .returned (.slice A k c) ∧ Below w.heap.size w w'
theorem known_6 (w : World) : Calls Tryz.prog 195 #[.int .i64 6] w fun e w' => e = .returned (.bool true) ∧ Below w.heap.size w w' := by
 go_in
 go_wp2_with fail
 go_ret
 exact ⟨rfl, by first | exact Below.refl _ _ | exact below_drewN' (Below.refl _ _) 1⟩
theorem shape_6 (w : World) : Calls Tryz.prog 187 #[.int .i64 6] w fun e w' => e = .returned (.int .i64 3) ∧ Below w.heap.size w w' := by
 go_in
 go_wp2_with fail
 refine (known_6 _).mono ?_
 rintro e w2 ⟨rfl, hb⟩
 have hix : ∀ w : World, (Instr.index 273 (.agg #[.int .i64 1, .int .i64 2, .int .i64 0, .int .i64 0, .int .i64 0, .int .i64 0, .int .i64 3, .int .i64 3, .int .i64 3, .int .i64 3, .int .i64 3, .int .i64 4, .int .i64 3, .int .i64 3, .int .i64 4, .int .i64 5, .int .i64 6, .int .i64 6, .int .i64 6, .int .i64 7, .int .i64 7, .int .i64 1, .int .i64 8, .int .i64 0, .int .i64 0, .int .i64 1, .int .i64 8, .int .i64 9, .int .i64 0, .int .i64 0, .int .i64 8, .int .i64 1, .int .i64 2, .int .i64 1, .int .i64 1]) (.int .i64 6)).run Tryz.prog w = .ok (.int .i64 3) w := fun _ => by kernel_rfl
 go_wp2_with fail
 go_ret
 exact ⟨rfl, hb⟩
theorem takes_6 (w : World) : Calls Tryz.prog 184 #[.int .i64 6] w (IsTk 2 w) := by
 go_in
 go_wp2_with fail
 refine (shape_6 w).mono ?_
 rintro e w2 ⟨rfl, hb⟩
 go_wp2_with fail
 go_ret
 exact ⟨_, _, rfl, hb.alloc hb.size _⟩
theorem known_7 (w : World) : Calls Tryz.prog 195 #[.int .i64 7] w fun e w' => e = .returned (.bool true) ∧ Below w.heap.size w w' := by
 go_in
 go_wp2_with fail
 go_ret
 exact ⟨rfl, by first | exact Below.refl _ _ | exact below_drewN' (Below.refl _ _) 1⟩
theorem shape_7 (w : World) : Calls Tryz.prog 187 #[.int .i64 7] w fun e w' => e = .returned (.int .i64 3) ∧ Below w.heap.size w w' := by
 go_in
 go_wp2_with fail
 refine (known_7 _).mono ?_
 rintro e w2 ⟨rfl, hb⟩
 have hix : ∀ w : World, (Instr.index 273 (.agg #[.int .i64 1, .int .i64 2, .int .i64 0, .int .i64 0, .int .i64 0, .int .i64 0, .int .i64 3, .int .i64 3, .int .i64 3, .int .i64 3, .int .i64 3, .int .i64 4, .int .i64 3, .int .i64 3, .int .i64 4, .int .i64 5, .int .i64 6, .int .i64 6, .int .i64 6, .int .i64 7, .int .i64 7, .int .i64 1, .int .i64 8, .int .i64 0, .int .i64 0, .int .i64 1, .int .i64 8, .int .i64 9, .int .i64 0, .int .i64 0, .int .i64 8, .int .i64 1, .int .i64 2, .int .i64 1, .int .i64 1]) (.int .i64 7)).run Tryz.prog w = .ok (.int .i64 3) w := fun _ => by kernel_rfl
 go_wp2_with fail
 go_ret
 exact ⟨rfl, hb⟩
theorem takes_7 (w : World) : Calls Tryz.prog 184 #[.int .i64 7] w (IsTk 2 w) := by
 go_in
 go_wp2_with fail
 refine (shape_7 w).mono ?_
 rintro e w2 ⟨rfl, hb⟩
 go_wp2_with fail
 go_ret
 exact ⟨_, _, rfl, hb.alloc hb.size _⟩
theorem known_8 (w : World) : Calls Tryz.prog 195 #[.int .i64 8] w fun e w' => e = .returned (.bool true) ∧ Below w.heap.size w w' := by
 go_in
 go_wp2_with fail
 go_ret
 exact ⟨rfl, by first | exact Below.refl _ _ | exact below_drewN' (Below.refl _ _) 1⟩
theorem shape_8 (w : World) : Calls Tryz.prog 187 #[.int .i64 8] w fun e w' => e = .returned (.int .i64 3) ∧ Below w.heap.size w w' := by
 go_in
 go_wp2_with fail
 refine (known_8 _).mono ?_
 rintro e w2 ⟨rfl, hb⟩
 have hix : ∀ w : World, (Instr.index 273 (.agg #[.int .i64 1, .int .i64 2, .int .i64 0, .int .i64 0, .int .i64 0, .int .i64 0, .int .i64 3, .int .i64 3, .int .i64 3, .int .i64 3, .int .i64 3, .int .i64 4, .int .i64 3, .int .i64 3, .int .i64 4, .int .i64 5, .int .i64 6, .int .i64 6, .int .i64 6, .int .i64 7, .int .i64 7, .int .i64 1, .int .i64 8, .int .i64 0, .int .i64 0, .int .i64 1, .int .i64 8, .int .i64 9, .int .i64 0, .int .i64 0, .int .i64 8, .int .i64 1, .int .i64 2, .int .i64 1, .int .i64 1]) (.int .i64 8)).run Tryz.prog w = .ok (.int .i64 3) w := fun _ => by kernel_rfl
 go_wp2_with fail
 go_ret
 exact ⟨rfl, hb⟩
theorem takes_8 (w : World) : Calls Tryz.prog 184 #[.int .i64 8] w (IsTk 2 w) := by
 go_in
 go_wp2_with fail
 refine (shape_8 w).mono ?_
 rintro e w2 ⟨rfl, hb⟩
 go_wp2_with fail
 go_ret
 exact ⟨_, _, rfl, hb.alloc hb.size _⟩
theorem known_9 (w : World) : Calls Tryz.prog 195 #[.int .i64 9] w fun e w' => e = .returned (.bool true) ∧ Below w.heap.size w w' := by
 go_in
 go_wp2_with fail
 go_ret
 exact ⟨rfl, by first | exact Below.refl _ _ | exact below_drewN' (Below.refl _ _) 1⟩
theorem shape_9 (w : World) : Calls Tryz.prog 187 #[.int .i64 9] w fun e w' => e = .returned (.int .i64 3) ∧ Below w.heap.size w w' := by
 go_in
 go_wp2_with fail
 refine (known_9 _).mono ?_
 rintro e w2 ⟨rfl, hb⟩
 have hix : ∀ w : World, (Instr.index 273 (.agg #[.int .i64 1, .int .i64 2, .int .i64 0, .int .i64 0, .int .i64 0, .int .i64 0, .int .i64 3, .int .i64 3, .int .i64 3, .int .i64 3, .int .i64 3, .int .i64 4, .int .i64 3, .int .i64 3, .int .i64 4, .int .i64 5, .int .i64 6, .int .i64 6, .int .i64 6, .int .i64 7, .int .i64 7, .int .i64 1, .int .i64 8, .int .i64 0, .int .i64 0, .int .i64 1, .int .i64 8, .int .i64 9, .int .i64 0, .int .i64 0, .int .i64 8, .int .i64 1, .int .i64 2, .int .i64 1, .int .i64 1]) (.int .i64 9)).run Tryz.prog w = .ok (.int .i64 3) w := fun _ => by kernel_rfl
 go_wp2_with fail
 go_ret
 exact ⟨rfl, hb⟩
theorem takes_9 (w : World) : Calls Tryz.prog 184 #[.int .i64 9] w (IsTk 2 w) := by
 go_in
 go_wp2_with fail
 refine (shape_9 w).mono ?_
 rintro e w2 ⟨rfl, hb⟩
 go_wp2_with fail
 go_ret
 exact ⟨_, _, rfl, hb.alloc hb.size _⟩
theorem known_10 (w : World) : Calls Tryz.prog 195 #[.int .i64 10] w fun e w' => e = .returned (.bool true) ∧ Below w.heap.size w w' := by
 go_in
 go_wp2_with fail
 go_ret
 exact ⟨rfl, by first | exact Below.refl _ _ | exact below_drewN' (Below.refl _ _) 1⟩
theorem shape_10 (w : World) : Calls Tryz.prog 187 #[.int .i64 10] w fun e w' => e = .returned (.int .i64 3) ∧ Below w.heap.size w w' := by
 go_in
 go_wp2_with fail
 refine (known_10 _).mono ?_
 rintro e w2 ⟨rfl, hb⟩
 have hix : ∀ w : World, (Instr.index 273 (.agg #[.int .i64 1, .int .i64 2, .int .i64 0, .int .i64 0, .int .i64 0, .int .i64 0, .int .i64 3, .int .i64 3, .int .i64 3, .int .i64 3, .int .i64 3, .int .i64 4, .int .i64 3, .int .i64 3, .int .i64 4, .int .i64 5, .int .i64 6, .int .i64 6, .int .i64 6, .int .i64 7, .int .i64 7, .int .i64 1, .int .i64 8, .int .i64 0, .int .i64 0, .int .i64 1, .int .i64 8, .int .i64 9, .int .i64 0, .int .i64 0, .int .i64 8, .int .i64 1, .int .i64 2, .int .i64 1, .int .i64 1]) (.int .i64 10)).run Tryz.prog w = .ok (.int .i64 3) w := fun _ => by kernel_rfl
 go_wp2_with fail
 go_ret
 exact ⟨rfl, hb⟩
theorem takes_10 (w : World) : Calls Tryz.prog 184 #[.int .i64 10] w (IsTk 2 w) := by
 go_in
 go_wp2_with fail
 refine (shape_10 w).mono ?_
 rintro e w2 ⟨rfl, hb⟩
 go_wp2_with fail
 go_ret
 exact ⟨_, _, rfl, hb.alloc hb.size _⟩
theorem known_11 (w : World) : Calls Tryz.prog 195 #[.int .i64 11] w fun e w' => e = .returned (.bool true) ∧ Below w.heap.size w w' := by
 go_in
 go_wp2_with fail
 go_ret
 exact ⟨rfl, by first | exact Below.refl _ _ | exact below_drewN' (Below.refl _ _) 1⟩
theorem shape_11 (w : World) : Calls Tryz.prog 187 #[.int .i64 11] w fun e w' => e = .returned (.int .i64 4) ∧ Below w.heap.size w w' := by
 go_in
 go_wp2_with fail
 refine (known_11 _).mono ?_
 rintro e w2 ⟨rfl, hb⟩
 have hix : ∀ w : World, (Instr.index 273 (.agg #[.int .i64 1, .int .i64 2, .int .i64 0, .int .i64 0, .int .i64 0, .int .i64 0, .int .i64 3, .int .i64 3, .int .i64 3, .int .i64 3, .int .i64 3, .int .i64 4, .int .i64 3, .int .i64 3, .int .i64 4, .int .i64 5, .int .i64 6, .int .i64 6, .int .i64 6, .int .i64 7, .int .i64 7, .int .i64 1, .int .i64 8, .int .i64 0, .int .i64 0, .int .i64 1, .int .i64 8, .int .i64 9, .int .i64 0, .int .i64 0, .int .i64 8, .int .i64 1, .int .i64 2, .int .i64 1, .int .i64 1]) (.int .i64 11)).run Tryz.prog w = .ok (.int .i64 4) w := fun _ => by kernel_rfl
 go_wp2_with fail
 go_ret
 exact ⟨rfl, hb⟩
theorem takes_11 (w : World) : Calls Tryz.prog 184 #[.int .i64 11] w (IsTk 1 w) := by
 go_in
 go_wp2_with fail
 refine (shape_11 w).mono ?_
 rintro e w2 ⟨rfl, hb⟩
 go_wp2_with fail
 go_ret
 exact ⟨_, _, rfl, hb.alloc hb.size _⟩
theorem known_12 (w : World) : Calls Tryz.prog 195 #[.int .i64 12] w fun e w' => e = .returned (.bool true) ∧ Below w.heap.size w w' := by
 go_in
 go_wp2_with fail
 go_ret
 exact ⟨rfl, by first | exact Below.refl _ _ | exact below_drewN' (Below.refl _ _) 1⟩
theorem shape_12 (w : World) : Calls Tryz.prog 187 #[.int .i64 12] w fun e w' => e = .returned (.int .i64 3) ∧ Below w.heap.size w w' := by
 go_in
 go_wp2_with fail
 refine (known_12 _).mono ?_
 rintro e w2 ⟨rfl, hb⟩
 have hix : ∀ w : World, (Instr.index 273 (.agg #[.int .i64 1, .int .i64 2, .int .i64 0, .int .i64 0, .int .i64 0, .int .i64 0, .int .i64 3, .int .i64 3, .int .i64 3, .int .i64 3, .int .i64 3, .int .i64 4, .int .i64 3, .int .i64 3, .int .i64 4, .int .i64 5, .int .i64 6, .int .i64 6, .int .i64 6, .int .i64 7, .int .i64 7, .int .i64 1, .int .i64 8, .int .i64 0, .int .i64 0, .int .i64 1, .int .i64 8, .int .i64 9, .int .i64 0, .int .i64 0, .int .i64 8, .int .i64 1, .int .i64 2, .int .i64 1, .int .i64 1]) (.int .i64 12)).run Tryz.prog w = .ok (.int .i64 3) w := fun _ => by kernel_rfl
 go_wp2_with fail
 go_ret
 exact ⟨rfl, hb⟩
theorem takes_12 (w : World) : Calls Tryz.prog 184 #[.int .i64 12] w (IsTk 2 w) := by
 go_in
 go_wp2_with fail
 refine (shape_12 w).mono ?_
 rintro e w2 ⟨rfl, hb⟩
 go_wp2_with fail
 go_ret
 exact ⟨_, _, rfl, hb.alloc hb.size _⟩
theorem known_13 (w : World) : Calls Tryz.prog 195 #[.int .i64 13] w fun e w' => e = .returned (.bool true) ∧ Below w.heap.size w w' := by
 go_in
 go_wp2_with fail
 go_ret
 exact ⟨rfl, by first | exact Below.refl _ _ | exact below_drewN' (Below.refl _ _) 1⟩
theorem shape_13 (w : World) : Calls Tryz.prog 187 #[.int .i64 13] w fun e w' => e = .returned (.int .i64 3) ∧ Below w.heap.size w w' := by
 go_in
 go_wp2_with fail
 refine (known_13 _).mono ?_
 rintro e w2 ⟨rfl, hb⟩
 have hix : ∀ w : World, (Instr.index 273 (.agg #[.int .i64 1, .int .i64 2, .int .i64 0, .int .i64 0, .int .i64 0, .int .i64 0, .int .i64 3, .int .i64 3, .int .i64 3, .int .i64 3, .int .i64 3, .int .i64 4, .int .i64 3, .int .i64 3, .int .i64 4, .int .i64 5, .int .i64 6, .int .i64 6, .int .i64 6, .int .i64 7, .int .i64 7, .int .i64 1, .int .i64 8, .int .i64 0, .int .i64 0, .int .i64 1, .int .i64 8, .int .i64 9, .int .i64 0, .int .i64 0, .int .i64 8, .int .i64 1, .int .i64 2, .int .i64 1, .int .i64 1]) (.int .i64 13)).run Tryz.prog w = .ok (.int .i64 3) w := fun _ => by kernel_rfl
 go_wp2_with fail
 go_ret
 exact ⟨rfl, hb⟩
theorem takes_13 (w : World) : Calls Tryz.prog 184 #[.int .i64 13] w (IsTk 2 w) := by
 go_in
 go_wp2_with fail
 refine (shape_13 w).mono ?_
 rintro e w2 ⟨rfl, hb⟩
 go_wp2_with fail
 go_ret
 exact ⟨_, _, rfl, hb.alloc hb.size _⟩
theorem known_14 (w : World) : Calls Tryz.prog 195 #[.int .i64 14] w fun e w' => e = .returned (.bool true) ∧ Below w.heap.size w w' := by
 go_in
 go_wp2_with fail
 go_ret
 exact ⟨rfl, by first | exact Below.refl _ _ | exact below_drewN' (Below.refl _ _) 1⟩
theorem shape_14 (w : World) : Calls Tryz.prog 187 #[.int .i64 14] w fun e w' => e = .returned (.int .i64 4) ∧ Below w.heap.size w w' := by
 go_in
 go_wp2_with fail
 refine (known_14 _).mono ?_
 rintro e w2 ⟨rfl, hb⟩
 have hix : ∀ w : World, (Instr.index 273 (.agg #[.int .i64 1, .int .i64 2, .int .i64 0, .int .i64 0, .int .i64 0, .int .i64 0, .int .i64 3, .int .i64 3, .int .i64 3, .int .i64 3, .int .i64 3, .int .i64 4, .int .i64 3, .int .i64 3, .int .i64 4, .int .i64 5, .int .i64 6, .int .i64 6, .int .i64 6, .int .i64 7, .int .i64 7, .int .i64 1, .int .i64 8, .int .i64 0, .int .i64 0, .int .i64 1, .int .i64 8, .int .i64 9, .int .i64 0, .int .i64 0, .int .i64 8, .int .i64 1, .int .i64 2, .int .i64 1, .int .i64 1]) (.int .i64 14)).run Tryz.prog w = .ok (.int .i64 4) w := fun _ => by kernel_rfl
 go_wp2_with fail
 go_ret
 exact ⟨rfl, hb⟩
theorem takes_14 (w : World) : Calls Tryz.prog 184 #[.int .i64 14] w (IsTk 1 w) := by
 go_in
 go_wp2_with fail
 refine (shape_14 w).mono ?_
 rintro e w2 ⟨rfl, hb⟩
 go_wp2_with fail
 go_ret
 exact ⟨_, _, rfl, hb.alloc hb.size _⟩
theorem known_15 (w : World) : Calls Tryz.prog 195 #[.int .i64 15] w fun e w' => e = .returned (.bool true) ∧ Below w.heap.size w w' := by
 go_in
 go_wp2_with fail
 go_ret
 exact ⟨rfl, by first | exact Below.refl _ _ | exact below_drewN' (Below.refl _ _) 1⟩
theorem shape_15 (w : World) : Calls Tryz.prog 187 #[.int .i64 15] w fun e w' => e = .returned (.int .i64 5) ∧ Below w.heap.size w w' := by
 go_in
 go_wp2_with fail
 refine (known_15 _).mono ?_
 rintro e w2 ⟨rfl, hb⟩
 have hix : ∀ w : World, (Instr.index 273 (.agg #[.int .i64 1, .int .i64 2, .int .i64 0, .int .i64 0, .int .i64 0, .int .i64 0, .int .i64 3, .int .i64 3, .int .i64 3, .int .i64 3, .int .i64 3, .int .i64 4, .int .i64 3, .int .i64 3, .int .i64 4, .int .i64 5, .int .i64 6, .int .i64 6, .int .i64 6, .int .i64 7, .int .i64 7, .int .i64 1, .int .i64 8, .int .i64 0, .int .i64 0, .int .i64 1, .int .i64 8, .int .i64 9, .int .i64 0, .int .i64 0, .int .i64 8, .int .i64 1, .int .i64 2, .int .i64 1, .int .i64 1]) (.int .i64 15)).run Tryz.prog w = .ok (.int .i64 5) w := fun _ => by kernel_rfl
 go_wp2_with fail
 go_ret
 exact ⟨rfl, hb⟩
theorem takes_15 (w : World) : Calls Tryz.prog 184 #[.int .i64 15] w (IsTk 2 w) := by
 go_in
 go_wp2_with fail
 refine (shape_15 w).mono ?_
 rintro e w2 ⟨rfl, hb⟩
 go_wp2_with fail
 go_ret
 exact ⟨_, _, rfl, hb.alloc hb.size _⟩
theorem known_16 (w : World) : Calls Tryz.prog 195 #[.int .i64 16] w fun e w' => e = .returned (.bool true) ∧ Below w.heap.size w w' := by
 go_in
 go_wp2_with fail
 go_ret
 exact ⟨rfl, by first | exact Below.refl _ _ | exact below_drewN' (Below.refl _ _) 1⟩
theorem shape_16 (w : World) : Calls Tryz.prog 187 #[.int .i64 16] w fun e w' => e = .returned (.int .i64 6) ∧ Below w.heap.size w w' := by
 go_in
 go_wp2_with fail
 refine (known_16 _).mono ?_
 rintro e w2 ⟨rfl, hb⟩
 have hix : ∀ w : World, (Instr.index 273 (.agg #[.int .i64 1, .int .i64 2, .int .i64 0, .int .i64 0, .int .i64 0, .int .i64 0, .int .i64 3, .int .i64 3, .int .i64 3, .int .i64 3, .int .i64 3, .int .i64 4, .int .i64 3, .int .i64 3, .int .i64 4, .int .i64 5, .int .i64 6, .int .i64 6, .int .i64 6, .int .i64 7, .int .i64 7, .int .i64 1, .int .i64 8, .int .i64 0, .int .i64 0, .int .i64 1, .int .i64 8, .int .i64 9, .int .i64 0, .int .i64 0, .int .i64 8, .int .i64 1, .int .i64 2, .int .i64 1, .int .i64 1]) (.int .i64 16)).run Tryz.prog w = .ok (.int .i64 6) w := fun _ => by kernel_rfl
 go_wp2_with fail
 go_ret
 exact ⟨rfl, hb⟩
theorem takes_16 (w : World) : Calls Tryz.prog 184 #[.int .i64 16] w (IsTk 2 w) := by
 go_in
 go_wp2_with fail
 refine (shape_16 w).mono ?_
 rintro e w2 ⟨rfl, hb⟩
 go_wp2_with fail
 go_ret
 exact ⟨_, _, rfl, hb.alloc hb.size _⟩
theorem known_17 (w : World) : Calls Tryz.prog 195 #[.int .i64 17] w fun e w' => e = .returned (.bool true) ∧ Below w.heap.size w w' := by
 go_in
 go_wp2_with fail
 go_ret
 exact ⟨rfl, by first | exact Below.refl _ _ | exact below_drewN' (Below.refl _ _) 1⟩
theorem shape_17 (w : World) : Calls Tryz.prog 187 #[.int .i64 17] w fun e w' => e = .returned (.int .i64 6) ∧ Below w.heap.size w w' := by
 go_in
 go_wp2_with fail
 refine (known_17 _).mono ?_
 rintro e w2 ⟨rfl, hb⟩
 have hix : ∀ w : World, (Instr.index 273 (.agg #[.int .i64 1, .int .i64 2, .int .i64 0, .int .i64 0, .int .i64 0, .int .i64 0, .int .i64 3, .int .i64 3, .int .i64 3, .int .i64 3, .int .i64 3, .int .i64 4, .int .i64 3, .int .i64 3, .int .i64 4, .int .i64 5, .int .i64 6, .int .i64 6, .int .i64 6, .int .i64 7, .int .i64 7, .int .i64 1, .int .i64 8, .int .i64 0, .int .i64 0, .int .i64 1, .int .i64 8, .int .i64 9, .int .i64 0, .int .i64 0, .int .i64 8, .int .i64 1, .int .i64 2, .int .i64 1, .int .i64 1]) (.int .i64 17)).run Tryz.prog w = .ok (.int .i64 6) w := fun _ => by kernel_rfl
 go_wp2_with fail
 go_ret
 exact ⟨rfl, hb⟩
theorem takes_17 (w : World) : Calls Tryz.prog 184 #[.int .i64 17] w (IsTk 2 w) := by
 go_in
 go_wp2_with fail
 refine (shape_17 w).mono ?_
 rintro e w2 ⟨rfl, hb⟩
 go_wp2_with fail
 go_ret
 exact ⟨_, _, rfl, hb.alloc hb.size _⟩
theorem known_18 (w : World) : Calls Tryz.prog 195 #[.int .i64 18] w fun e w' => e = .returned (.bool true) ∧ Below w.heap.size w w' := by
 go_in
 go_wp2_with fail
 go_ret
 exact ⟨rfl, by first | exact Below.refl _ _ | exact below_drewN' (Below.refl _ _) 1⟩
theorem shape_18 (w : World) : Calls Tryz.prog 187 #[.int .i64 18] w fun e w' => e = .returned (.int .i64 6) ∧ Below w.heap.size w w' := by
 go_in
 go_wp2_with fail
 refine (known_18 _).mono ?_
 rintro e w2 ⟨rfl, hb⟩
 have hix : ∀ w : World, (Instr.index 273 (.agg #[.int .i64 1, .int .i64 2, .int .i64 0, .int .i64 0, .int .i64 0, .int .i64 0, .int .i64 3, .int .i64 3, .int .i64 3, .int .i64 3, .int .i64 3, .int .i64 4, .int .i64 3, .int .i64 3, .int .i64 4, .int .i64 5, .int .i64 6, .int .i64 6, .int .i64 6, .int .i64 7, .int .i64 7, .int .i64 1, .int .i64 8, .int .i64 0, .int .i64 0, .int .i64 1, .int .i64 8, .int .i64 9, .int .i64 0, .int .i64 0, .int .i64 8, .int .i64 1, .int .i64 2, .int .i64 1, .int .i64 1]) (.int .i64 18)).run Tryz.prog w = .ok (.int .i64 6) w := fun _ => by kernel_rfl
 go_wp2_with fail
 go_ret
 exact ⟨rfl, hb⟩
theorem takes_18 (w : World) : Calls Tryz.prog 184 #[.int .i64 18] w (IsTk 2 w) := by
 go_in
 go_wp2_with fail
 refine (shape_18 w).mono ?_
 rintro e w2 ⟨rfl, hb⟩
 go_wp2_with fail
 go_ret
 exact ⟨_, _, rfl, hb.alloc hb.size _⟩
theorem known_19 (w : World) : Calls Tryz.prog 195 #[.int .i64 19] w fun e w' => e = .returned (.bool true) ∧ Below w.heap.size w w' := by
 go_in
 go_wp2_with fail
 go_ret
 exact ⟨rfl, by first | exact Below.refl _ _ | exact below_drewN' (Below.refl _ _) 1⟩
theorem shape_19 (w : World) : Calls Tryz.prog 187 #[.int .i64 19] w fun e w' => e = .returned (.int .i64 7) ∧ Below w.heap.size w w' := by
 go_in
 go_wp2_with fail
 refine (known_19 _).mono ?_
 rintro e w2 ⟨rfl, hb⟩
 have hix : ∀ w : World, (Instr.index 273 (.agg #[.int .i64 1, .int .i64 2, .int .i64 0, .int .i64 0, .int .i64 0, .int .i64 0, .int .i64 3, .int .i64 3, .int .i64 3, .int .i64 3, .int .i64 3, .int .i64 4, .int .i64 3, .int .i64 3, .int .i64 4, .int .i64 5, .int .i64 6, .int .i64 6, .int .i64 6, .int .i64 7, .int .i64 7, .int .i64 1, .int .i64 8, .int .i64 0, .int .i64 0, .int .i64 1, .int .i64 8, .int .i64 9, .int .i64 0, .int .i64 0, .int .i64 8, .int .i64 1, .int .i64 2, .int .i64 1, .int .i64 1]) (.int .i64 19)).run Tryz.prog w = .ok (.int .i64 7) w := fun _ => by kernel_rfl
 go_wp2_with fail
 go_ret
 exact ⟨rfl, hb⟩
theorem takes_19 (w : World) : Calls Tryz.prog 184 #[.int .i64 19] w (IsTk 1 w) := by
 go_in
 go_wp2_with fail
 refine (shape_19 w).mono ?_
 rintro e w2 ⟨rfl, hb⟩
 go_wp2_with fail
 go_ret
 exact ⟨_, _, rfl, hb.alloc hb.size _⟩
theorem known_20 (w : World) : Calls Tryz.prog 195 #[.int .i64 20] w fun e w' => e = .returned (.bool true) ∧ Below w.heap.size w w' := by
 go_in
 go_wp2_with fail
 go_ret
 exact ⟨rfl, by first | exact Below.refl _ _ | exact below_drewN' (Below.refl _ _) 1⟩
theorem shape_20 (w : World) : Calls Tryz.prog 187 #[.int .i64 20] w fun e w' => e = .returned (.int .i64 7) ∧ Below w.heap.size w w' := by
 go_in
 go_wp2_with fail
 refine (known_20 _).mono ?_
 rintro e w2 ⟨rfl, hb⟩
 have hix : ∀ w : World, (Instr.index 273 (.agg #[.int .i64 1, .int .i64 2, .int .i64 0, .int .i64 0, .int .i64 0, .int .i64 0, .int .i64 3, .int .i64 3, .int .i64 3, .int .i64 3, .int .i64 3, .int .i64 4, .int .i64 3, .int .i64 3, .int .i64 4, .int .i64 5, .int .i64 6, .int .i64 6, .int .i64 6, .int .i64 7, .int .i64 7, .int .i64 1, .int .i64 8, .int .i64 0, .int .i64 0, .int .i64 1, .int .i64 8, .int .i64 9, .int .i64 0, .int .i64 0, .int .i64 8, .int .i64 1, .int .i64 2, .int .i64 1, .int .i64 1]) (.int .i64 20)).run Tryz.prog w = .ok (.int .i64 7) w := fun _ => by kernel_rfl
 go_wp2_with fail
 go_ret
 exact ⟨rfl, hb⟩
theorem takes_20 (w : World) : Calls Tryz.prog 184 #[.int .i64 20] w (IsTk 1 w) := by
 go_in
 go_wp2_with fail
 refine (shape_20 w).mono ?_
 rintro e w2 ⟨rfl, hb⟩
 go_wp2_with fail
 go_ret
 exact ⟨_, _, rfl, hb.alloc hb.size _⟩
theorem takes_any (o : Int) (h0 : 6 ≤ o) (h1 : o ≤ 20) (w : World) : Calls Tryz.prog 184 #[.int .i64 o] w (IsTk (arityN o).toNat w) := by
 have : o = 6 ∨ o = 7 ∨ o = 8 ∨ o = 9 ∨ o = 10 ∨ o = 11 ∨ o = 12 ∨ o = 13 ∨ o = 14 ∨ o = 15 ∨ o = 16 ∨ o = 17 ∨ o = 18 ∨ o = 19 ∨ o = 20 := by omega
 rcases this with rfl | rfl | rfl | rfl | rfl | rfl | rfl | rfl | rfl | rfl | rfl | rfl | rfl | rfl | rfl
 ·exact takes_6 w
 ·exact takes_7 w
 ·exact takes_8 w
 ·exact takes_9 w
 ·exact takes_10 w
 ·exact takes_11 w
 ·exact takes_12 w
 ·exact takes_13 w
 ·exact takes_14 w
 ·exact takes_15 w
 ·exact takes_16 w
 ·exact takes_17 w
 ·exact takes_18 w
 ·exact takes_19 w
 ·exact takes_20 w
end
section
set_option maxRecDepth 100000
set_option maxHeartbeats 4000000
open Go.RowKit
attribute [local go_sem] run_store_cplx
def IsDoF (op : Int) (xs : List DV) (w : World) (e : Ending) (w' : World) : Prop :=
 ((OneR op xs none ∧ e = .returned (.tuple #[.slice none 0 0, .bool false])) ∨ ∃ v g, OneR op xs (some v) ∧ e = .returned (.tuple #[.slice (some ⟨g, 0, none⟩) 1 1, .bool true]) ∧ w'.ownsRow w.heap.size 43 3 (.slice (some ⟨g, 0, none⟩) 1 1) 1 (rowVl [v])) ∧ Below w.heap.size w w'
theorem do_anyF (op : Int) (A : Option Addr) (n c B : Nat) (xs : List DV) (w : World) (h : Lst w B A n c xs) (hn : n ≤ 1000) :
  Calls Tryz.prog 183 #[.int .i64 op, .slice A n c] w (IsDoF op xs w) := by
 have c1 := Hd (one_any op A n c B xs w h hn)
 clear h hn
 go_in
 go_wp2_with fail
 refine c1.out.mono ?_
 rintro e w1 ⟨⟨k, n, x, y⟩, ok, rfl, h1, h2, hb⟩
 have H1 := Hd h1
 have H2 := Hd h2
 have HB := Hd hb
 clear h1 h2 hb
 unfold DV.v
 cases ok
 ·go_wp2_with fail
  go_ret2
  exact ⟨.inl ⟨H2.out trivial, rfl⟩, by repeat (first | exact HB.out | (refine Below.setCell ?_ (by have := HB.out.size; simp; omega) _) | (refine Below.alloc ?_ (by have := HB.out.size; simp; omega) _))⟩
 ·go_wp2_with fail
  go_ret2
  exact ⟨.inr ⟨_, _, H1.out trivial, rfl, by
   have := World.ownsRow_lit (base := w.heap.size) (e := 43) (size := 3) (w1.alloc (.cells #[.int .i64 k, .int .i64 n, .complex .f64 x y] 43)) #[.int .i64 k, .int .i64 n, .complex .f64 x y] 1 (by have := HB.out.size; simp; omega) (by unfold maxLen; omega) rfl
   simpa [DV.c] using this⟩, by repeat (first | exact HB.out | (refine Below.setCell ?_ (by have := HB.out.size; simp; omega) _) | (refine Below.alloc ?_ (by have := HB.out.size; simp; omega) _))⟩
variable {K : RK} {τ τ' : Nat → Tag} {w w' : World} {gs : List Nat} {g : Nat} {fr fp : Option Addr} {cb L : Nat} {s s' : Ms} {x x' : Fr} {ys : List Fr} {ch : List Bl}
def PushI (K : RK) (τ0 : Nat → Tag) (w0 : World) (gs : List Nat) (g : Nat) (fr fp : Option Addr) (cb : Nat) (s : Ms) (x : Fr) (ys : List Fr) (L : Nat) (A : Option Addr) (n : Nat) (l : List DV) (k : Nat) (wr : World) : Prop :=
 ∃ τ', XI K τ' wr gs g fr fp cb { s with fr := { x with st := x.st ++ (cnL l).take k } :: ys } { x with st := x.st ++ (cnL l).take k } ys ∧ Tr (TT (ys.length + 1)) τ0 w0 τ' wr ∧ Im τ' wr A n 3 (rowVl l)
def RkP (K : RK) (τ : Nat → Tag) (w : World) (gs : List Nat) (g : Nat) (fr fp : Option Addr) (cb : Nat) (s : Ms) (x : Fr) (ys : List Fr) (o : Int) (e : Ending) (w' : World) : Prop := ∃ τ' b x', e = .returned (.bool b) ∧ XI K τ' w' gs g fr fp cb { s with fr := x' :: ys } x' ys ∧ Tr (TT (ys.length + 1)) τ w τ' w' ∧ x'.mode = 0 ∧ x'.pc = x.pc ∧ x'.dfd = x.dfd ∧ x'.by_ = x.by_ ∧ ((b = true ∧ reckM K.fs s x ys o = nextM' s x' ys) ∨ (b = false ∧ reckM K.fs s x ys o = raiseM K.fs s x ys 2 0 ∧ ∃ st, x' = { x with st := st }))
theorem reckon_any (h : XI K τ w gs g fr fp cb s x ys) (hm : x.mode = 0) (hl : x.st.length ≤ 9000) (o : Int) (h0 : 6 ≤ o) (h1 : o ≤ 20) (hk : (arityN o).toNat ≤ x.st.length) :
  Calls Tryz.prog 169 #[ptrV K.m, ptrV g, .int .i64 o] w (RkP K τ w gs g fr fp cb s x ys o) := by
 obtain ⟨q, hq⟩ : ∃ q, (arityN o).toNat = q := ⟨_, rfl⟩
 have hq2 : q ≤ 2 := by
  rw [← hq]
  have : o = 6 ∨ o = 7 ∨ o = 8 ∨ o = 9 ∨ o = 10 ∨ o = 11 ∨ o = 12 ∨ o = 13 ∨ o = 14 ∨ o = 15 ∨ o = 16 ∨ o = 17 ∨ o = 18 ∨ o = 19 ∨ o = 20 := by omega
  rcases this with rfl | rfl | rfl | rfl | rfl | rfl | rfl | rfl | rfl | rfl | rfl | rfl | rfl | rfl | rfl <;> decide
 have cT := Hd (takes_any o h0 h1 w)
 rw [hq] at cT hk
 have HX := Hd h
 have HM := Hd hm
 have HL := Hd hl
 have HQ := Hd hq
 have HK := Hd hk
 have HQ2 := Hd hq2
 obtain ⟨m, hkm⟩ : ∃ m, K.m = m := ⟨_, rfl⟩
 rw [hkm]
 clear h hm hl h0 h1 hk hq hkm hq2
 go_in
 go_wp2_with fail
 refine cT.out.mono ?_
 rintro e w1 ⟨A0, c0, rfl, hb⟩
 have HX1 := Hd (HX.out.on hb)
 have HK1 := Hd (Tr.below (T := TT (ys.length + 1)) HX.out.hz hb)
 have cQ := Hd (ztake HX1.out.fz (by omega) HX1.out.hz HM.out (by have := HL.out; omega) q HK.out)
 clear hb cT
 go_wp2_with fail
 refine cQ.out.mono ?_
 rintro e w2 ⟨A1, c1, l1, rfl, hl1, hown, τ2, hf, hk2, him⟩
 have HX2 := Hd (HX1.out.own hk2 hf rfl rfl)
 have HK2 := Hd (HK1.out.trans (hk2.mono fun _ => TT.tf))
 have HL1 := Hd hl1
 have hlst : Lst w2 w2.heap.size A1 q c1 l1 := ⟨SlR.of_ownN (f := DV.c) (fun _ => rfl) (by decide) hown (by have := HQ2.out; unfold reachBytes; omega), Nat.le_refl _, fun ad e => by
  obtain ⟨A2, c2, hv, _, hat⟩ := own_form hown
  simp only [Value.slice.injEq, true_and] at hv
  obtain ⟨rfl, rfl⟩ := hv
  obtain ⟨g', h1, _⟩ := hat ad e
  exact ⟨g', h1⟩⟩
 have cD := Hd (do_anyF o A1 q c1 _ l1 w2 hlst (by have := HQ2.out; omega))
 clear hl1 hown hf hk2 him hlst cQ
 go_wp2_with fail
 refine cD.out.mono ?_
 rintro e w3 ⟨hd, hb⟩
 obtain ⟨A, n, c, l, b, rfl, him, hres⟩ : ∃ A n c l b, e = .returned (.tuple #[.slice A n c, .bool b]) ∧ (Im τ2 w3 A n 3 (rowVl l) ∧ n ≤ 1) ∧ ((b = true ∧ ∃ v, opA o (cnL l1) = some v ∧ cnL l = [v]) ∨ (b = false ∧ opA o (cnL l1) = none ∧ l = [])) := by
  rcases hd with ⟨h1, rfl⟩ | ⟨v, g', h1, rfl, h2⟩
  ·exact ⟨none, 0, 0, [], false, rfl, ⟨Rdv.nil _ _ _, by omega⟩, .inr ⟨rfl, (opA_of h1).symm, rfl⟩⟩
  ·exact ⟨_, 1, 1, [v], true, rfl, ⟨Rdv.own h2 fun j hj _ hne => hne (HX2.out.hz j hj), by omega⟩, .inl ⟨rfl, cnV v, (opA_of h1).symm, rfl⟩⟩
 obtain ⟨him, hn1⟩ := him
 obtain ⟨x0, hx0⟩ : ∃ x0 : Fr, { x with st := x.st.take (x.st.length - q) } = x0 := ⟨_, rfl⟩
 have hx3 := HX2.out.on hb
 rw [hx0] at hx3
 obtain ⟨s0, hs0⟩ : ∃ s0 : Ms, { s with fr := x0 :: ys } = s0 := ⟨_, rfl⟩
 rw [hs0] at hx3
 obtain ⟨w0, τ0, L0, hw0, hτ0, hL0⟩ : ∃ w0 τ0 L0, w0 = w ∧ τ0 = τ ∧ L0 = ys.length + 1 := ⟨_, _, _, rfl, rfl, rfl⟩
 have HP0 : Hid (PushI K τ0 w0 gs g fr fp cb s0 x0 ys L0 A n l 0 w3) := Hd ⟨τ2, by simp only [List.take_zero, List.append_nil]; rw [← hs0] at hx3 ⊢; exact hx3, by rw [hw0, hτ0]; exact HK2.out.trans (Tr.below HX2.out.hz hb), him⟩
 have HM0 : Hid (x0.mode = 0) := Hd (by rw [← hx0]; exact HM.out)
 have HL0 : Hid (x0.st.length ≤ 9000) := Hd (by rw [← hx0]; have := HL.out; simp only [List.length_take]; omega)
 have HN9 : Hid (n ≤ 300) := Hd (by omega)
 have HNL := Hd him.len
 have HRES := Hd hres
 have HE := Hd (And.intro hx0 (And.intro hs0 (And.intro hw0 hτ0)))
 have hn1i : (n : Int) ≤ 1 := by omega
 clear hd hb him hres hx0 hs0 hx3 hw0 hτ0 hL0 cD
 clear HM HL
 have HM := HM0
 have HL := HL0
 clear HM0 HL0
 go_wp2_with fail
 go_loopw [10, 23] (fun _ iv wr => ∃ k : Nat, iv = .int .i64 (k : Int) ∧ k ≤ n ∧ Hid (PushI K τ0 w0 gs g fr fp cb s0 x0 ys L0 A n l k wr)) (fun _ iv _ => n - (intOf iv).toNat)
 case atStart => exact ⟨0, rfl, Nat.zero_le _, HP0⟩
 case round =>
  obtain ⟨k, rfl, hk, HP⟩ := hrel
  by_cases hlt : k < n
  ·obtain ⟨τ', hx, hkt, him⟩ := HP.out
   obtain ⟨⟨vk, vn, vx, vy⟩, hv⟩ : ∃ v, l[k]? = some v := ⟨_, List.getElem?_eq_getElem (by have := him.len; omega)⟩
   obtain ⟨b, off, rfl, hbl, hbt, q0, q1, q2⟩ := him.at3 hv
   obtain ⟨w3, hw3⟩ : ∃ W, wr.alloc (.cells #[.int .i64 vk, .int .i64 vn, .complex .f64 vx vy] 43) = W := ⟨_, rfl⟩
   have hb3 : Below wr.heap.size wr w3 := by rw [← hw3]; exact (Below.refl _ _).alloc (Nat.le_refl _) _
   have c0 : w3.cell? ⟨wr.heap.size, 0, none⟩ = some (.int .i64 vk) := by rw [← hw3]; simp [go_sem]
   have c1 : w3.cell? ⟨wr.heap.size, 1, none⟩ = some (.int .i64 vn) := by rw [← hw3]; simp [go_sem]
   have c2 : w3.cell? ⟨wr.heap.size, 2, none⟩ = some (.complex .f64 vx vy) := by rw [← hw3]; simp [go_sem]
   have HW3 := Hd hw3
   have hx3 := hx.on hb3
   have HX3 := Hd hx3
   have HK3 := Hd (hkt.trans (Tr.below hx.hz hb3))
   have HI3 := Hd (him.on hb3)
   have HV := Hd hv
   have HKN : Hid (k < n) := Hd hlt
   have cP := Hd (zpush hx3.fz (by omega) hx3.hz HM.out (by have h1 := HL.out; have h2 := HKN.out; have h3 := HN9.out; simp only [List.length_append, List.length_take]; omega) ⟨vk, vn, vx, vy⟩)
   have hk0 : (0 : Int) ≤ (k : Int) := by omega
   have hk1 : (k : Int) < (n : Int) := by omega
   have hk2 : (k : Int) < 9000 := by have := HN9.out; omega
   clear hx hkt him hbl hbt hw3 hb3 hx3 hv HP
   unfold DV.v at cP
   go_wp2_with fail
   rw [HW3.out]
   go_wp2_with fail
   refine cP.out.mono ?_
   rintro e w4 ⟨⟨u, rfl⟩, τ2, hf, hk3⟩
   have HPN : Hid (PushI K τ0 w0 gs g fr fp cb s0 x0 ys L0 (some ⟨b, off, none⟩) n l (k + 1) w4) := Hd (by
    refine ⟨τ2, ?_, HK3.out.trans (hk3.mono fun _ => TT.tf), Im.tr HI3.out hk3 (TF.no (by omega))⟩
    have h1 := HX3.out.own hk3 hf rfl rfl
    have e : x0.st ++ (cnL l).take k ++ [cnV ⟨vk, vn, vx, vy⟩] = x0.st ++ (cnL l).take (k + 1) := by
     rw [List.append_assoc, take_snoc' (cnL l) k (cnV ⟨vk, vn, vx, vy⟩) (by rw [List.getElem?_map, HV.out]; rfl)]
    simp only [e] at h1
    exact h1)
   clear hf hk3 c0 c1 c2 q0 q1 q2
   go_wp2_with fail
   go_roundw
   case rel => exact ⟨k + 1, by simp, by have := HKN.out; omega, HPN⟩
   case measure => first | (have h2 := HKN.out; simp [intOf]; done) | (have h2 := HKN.out; simp [intOf]; omega)
  ·obtain rfl : k = n := by omega
   go_wp2_with fail
   go_ret
   obtain ⟨rfl, rfl, rfl, rfl⟩ := HE.out
   obtain ⟨τ', hx, hkt, him⟩ := HP.out
   have e0 : (cnL l).take k = cnL l := List.take_of_length_le (by rw [List.length_map, HNL.out]; omega)
   rw [e0] at hx
   refine ⟨τ', b, _, rfl, hx, hkt, HM.out, rfl, rfl, rfl, ?_⟩
   rcases HRES.out with ⟨rfl, v, h1, h2⟩ | ⟨rfl, h1, h2⟩
   ·refine .inl ⟨rfl, ?_⟩
    unfold reckM
    rw [HL1.out] at h1
    rw [HQ.out, h1, h2]
   ·refine .inr ⟨rfl, ?_, _, rfl⟩
    unfold reckM
    rw [HL1.out] at h1
    rw [HQ.out, h1]
end
end Go.Proofs.YtobmjnmcjddhcaaGreat
