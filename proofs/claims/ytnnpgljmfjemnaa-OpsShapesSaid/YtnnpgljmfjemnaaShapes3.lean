/-
  The law of the shapes.
-/
import Derived.Test.YtnnpgljmfjemnaaShapes2
namespace Go.Proofs.Ytnnpgljmfjemnaa
open Go.RowKit
set_option linter.unusedSimpArgs false
set_option linter.unusedVariables false

set_option maxRecDepth 100000 in
set_option maxHeartbeats 1000000 in
theorem shapes_law (op : Int) (w : World) (_h : (Lit.int .i64 op).wf = true) :
    Calls Try.prog 8 #[.int .i64 op] w fun e w' => e = .returned (.bool true) ∧ Below w.heap.size w w' := by
  obtain ⟨m1, hm1⟩ : ∃ x, operandM op = x := ⟨_, rfl⟩
  obtain ⟨m2, hm2⟩ : ∃ x, fixedM op = x := ⟨_, rfl⟩
  obtain ⟨m3, hm3⟩ : ∃ x, endsM op = x := ⟨_, rfl⟩
  obtain ⟨m4, hm4⟩ : ∃ x, raisesM op = x := ⟨_, rfl⟩
  have c1 : ∀ w : World, Hid (Calls Try.prog 39 #[.int .i64 op] w fun e w' => e = .returned (.int .i64 m1) ∧ w = w') := fun w => by rw [← hm1]; exact ops_Operand_any op w
  have c2 : ∀ w : World, Hid (Calls Try.prog 40 #[.int .i64 op] w fun e w' => e = .returned (.int .i64 m1) ∧ w = w') := fun w => by rw [← hm1]; exact inlayref09_Operand_any op w
  have c3 : ∀ w : World, Hid (Calls Try.prog 41 #[.int .i64 op] w fun e w' => e = .returned (.bool m2) ∧ w = w') := fun w => by rw [← hm2]; exact ops_Fixed_any op w
  have c4 : ∀ w : World, Hid (Calls Try.prog 42 #[.int .i64 op] w fun e w' => e = .returned (.bool m2) ∧ w = w') := fun w => by rw [← hm2]; exact inlayref09_Fixed_any op w
  have c5 : ∀ w : World, Hid (Calls Try.prog 43 #[.int .i64 op] w fun e w' => e = .returned (.bool m3) ∧ w = w') := fun w => by rw [← hm3]; exact ops_Ends_any op w
  have c6 : ∀ w : World, Hid (Calls Try.prog 44 #[.int .i64 op] w fun e w' => e = .returned (.bool m3) ∧ w = w') := fun w => by rw [← hm3]; exact inlayref09_Ends_any op w
  have c7 : ∀ w : World, Hid (Calls Try.prog 45 #[.int .i64 op] w fun e w' => e = .returned (.bool m4) ∧ w = w') := fun w => by rw [← hm4]; exact ops_Raises_any op w
  have c8 : ∀ w : World, Hid (Calls Try.prog 46 #[.int .i64 op] w fun e w' => e = .returned (.bool m4) ∧ w = w') := fun w => by rw [← hm4]; exact inlayref09_Raises_any op w
  clear hm1 hm2 hm3 hm4
  go_enter Try.func8, Try.ntmps8
  go_wp2_with fail
  refine (effect_any _ _).mono ?_
  rintro e w1 ⟨A1, n1, k1, A2, n2, k2, rfl, hs1, hs2, hb1⟩
  have T1 := Lib.hid hs1
  have T2 := Lib.hid hs2
  clear hs1 hs2
  go_wp2_with fail
  refine (takes_any _ _).mono ?_
  rintro e w2 ⟨A3, n3, k3, rfl, hs3, hb2⟩
  go_wp2_with fail
  refine (same_any _ _ _ _ _ _ _ _ _ _ hs3 (T1.out.keep hb2)).mono ?_
  rintro e w3 ⟨rfl, q3, rfl⟩
  clear hs3
  go_wp2_with fail
  refine (gives_any _ _).mono ?_
  rintro e w4 ⟨A4, n4, k4, rfl, hs4, hb4'⟩
  have hb4 := below_of_drewN hb4'
  clear hb4'
  go_wp2_with fail
  refine (same_any _ _ _ _ _ _ _ _ _ _ hs4 ((T2.out.keep hb2).keep (w := w2) hb4)).mono ?_
  rintro e w5 ⟨rfl, q5, rfl⟩
  clear hs4
  go_wp2_with fail
  refine Calls.mono (c1 _).out ?_
  rintro e w6 ⟨rfl, rfl⟩
  go_wp2_with fail
  refine Calls.mono (c2 _).out ?_
  rintro e w6 ⟨rfl, rfl⟩
  go_wp2_with fail
  refine Calls.mono (c3 _).out ?_
  rintro e w6 ⟨rfl, rfl⟩
  go_wp2_with fail
  refine Calls.mono (c4 _).out ?_
  rintro e w6 ⟨rfl, rfl⟩
  go_wp2_with fail
  refine Calls.mono (c5 _).out ?_
  rintro e w6 ⟨rfl, rfl⟩
  go_wp2_with fail
  refine Calls.mono (c6 _).out ?_
  rintro e w6 ⟨rfl, rfl⟩
  go_wp2_with fail
  refine Calls.mono (c7 _).out ?_
  rintro e w6 ⟨rfl, rfl⟩
  go_wp2_with fail
  refine Calls.mono (c8 _).out ?_
  rintro e w6 ⟨rfl, rfl⟩
  go_wp2_with fail
  refine (ops_lives _).mono ?_
  rintro e w7 ⟨rfl, hb7⟩
  go_wp2_with fail
  go_ret
  exact ⟨rfl, below_trans (below_trans (below_trans hb1 hb2) hb4) (below_of_drewN hb7)⟩
end Go.Proofs.Ytnnpgljmfjemnaa
