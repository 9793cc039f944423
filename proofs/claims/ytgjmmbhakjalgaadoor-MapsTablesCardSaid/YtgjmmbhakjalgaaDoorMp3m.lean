/-
  Sets of slots: those made of few numbers.
-/
import Derived.Test.YtgjmmbhakjalgaaDoorMp0
namespace Go.Proofs.YtgjmmbhakjalgaaDoor
open Go.RowKit
set_option linter.unusedSimpArgs false
set_option linter.unusedVariables false

set_option maxRecDepth 100000 in
theorem is_inm (n : Int) (h0 : 0 ≤ n) (h1 : n < 256) (w : World) : Calls Tryd.prog 29 #[.int .i64 n] w fun e w' => e = .returned (.bool true) ∧ w = w' := by
  go_enter Tryd.func29, Tryd.ntmps29
  go_wp2
  go_ret
  exact ⟨rfl, rfl⟩
theorem below3m {w W : World} {g : Nat} (h : Below w.heap.size w W) (hg : w.heap.size ≤ g) (a b c d : Value) : Below w.heap.size w ((((W.setCell ⟨g, 0, none⟩ a).setCell ⟨g, 1, none⟩ b).setCell ⟨g, 2, none⟩ c).setCell ⟨g, 3, none⟩ d) :=
  (((h.setCell (p := ⟨g, 0, none⟩) hg _).setCell (p := ⟨g, 1, none⟩) hg _).setCell (p := ⟨g, 2, none⟩) hg _).setCell (p := ⟨g, 3, none⟩) hg _
set_option maxRecDepth 100000 in
set_option maxHeartbeats 1000000 in
theorem with_0_3 (w : World) : Calls Tryd.prog 23 #[aggU 0 0 0 0, .int .i64 3] w (IsAgg 8 0 0 0 w) := by
  have eb : bits .or .u64 0 8 = 8 := by decide
  go_enter Tryd.func23, Tryd.ntmps23
  go_wp2_with fail
  refine (is_inm 3 (by omega) (by omega) _).mono ?_
  rintro e w' ⟨rfl, rfl⟩
  go_wp2_with fail
  go_region
  all_goals go_wp2_with fail
  all_goals go_ways
  all_goals exact bodyPost_ret (v := aggU 8 0 0 0) (by simp [results, Tryd.results23, go_sem]) rfl ⟨rfl, by repeat (first | exact Below.refl _ _ | (refine below_drewN' ?_ _) | (refine Below.drew ?_) | (refine Below.setCell ?_ (by simp) _) | (refine Below.alloc ?_ (by simp) _))⟩
set_option maxRecDepth 100000 in
set_option maxHeartbeats 1000000 in
theorem with_0_0 (w : World) : Calls Tryd.prog 23 #[aggU 0 0 0 0, .int .i64 0] w (IsAgg 1 0 0 0 w) := by
  have eb : bits .or .u64 0 1 = 1 := by decide
  go_enter Tryd.func23, Tryd.ntmps23
  go_wp2_with fail
  refine (is_inm 0 (by omega) (by omega) _).mono ?_
  rintro e w' ⟨rfl, rfl⟩
  go_wp2_with fail
  go_region
  all_goals go_wp2_with fail
  all_goals go_ways
  all_goals exact bodyPost_ret (v := aggU 1 0 0 0) (by simp [results, Tryd.results23, go_sem]) rfl ⟨rfl, by repeat (first | exact Below.refl _ _ | (refine below_drewN' ?_ _) | (refine Below.drew ?_) | (refine Below.setCell ?_ (by simp) _) | (refine Below.alloc ?_ (by simp) _))⟩
set_option maxRecDepth 100000 in
set_option maxHeartbeats 1000000 in
theorem with_1_1 (w : World) : Calls Tryd.prog 23 #[aggU 1 0 0 0, .int .i64 1] w (IsAgg 3 0 0 0 w) := by
  have eb : bits .or .u64 1 2 = 3 := by decide
  go_enter Tryd.func23, Tryd.ntmps23
  go_wp2_with fail
  refine (is_inm 1 (by omega) (by omega) _).mono ?_
  rintro e w' ⟨rfl, rfl⟩
  go_wp2_with fail
  go_region
  all_goals go_wp2_with fail
  all_goals go_ways
  all_goals exact bodyPost_ret (v := aggU 3 0 0 0) (by simp [results, Tryd.results23, go_sem]) rfl ⟨rfl, by repeat (first | exact Below.refl _ _ | (refine below_drewN' ?_ _) | (refine Below.drew ?_) | (refine Below.setCell ?_ (by simp) _) | (refine Below.alloc ?_ (by simp) _))⟩
set_option maxRecDepth 100000 in
set_option maxHeartbeats 1000000 in
theorem with_3_2 (w : World) : Calls Tryd.prog 23 #[aggU 3 0 0 0, .int .i64 2] w (IsAgg 7 0 0 0 w) := by
  have eb : bits .or .u64 3 4 = 7 := by decide
  go_enter Tryd.func23, Tryd.ntmps23
  go_wp2_with fail
  refine (is_inm 2 (by omega) (by omega) _).mono ?_
  rintro e w' ⟨rfl, rfl⟩
  go_wp2_with fail
  go_region
  all_goals go_wp2_with fail
  all_goals go_ways
  all_goals exact bodyPost_ret (v := aggU 7 0 0 0) (by simp [results, Tryd.results23, go_sem]) rfl ⟨rfl, by repeat (first | exact Below.refl _ _ | (refine below_drewN' ?_ _) | (refine Below.drew ?_) | (refine Below.setCell ?_ (by simp) _) | (refine Below.alloc ?_ (by simp) _))⟩
set_option maxRecDepth 100000 in
set_option maxHeartbeats 1000000 in
theorem with_7_3 (w : World) : Calls Tryd.prog 23 #[aggU 7 0 0 0, .int .i64 3] w (IsAgg 15 0 0 0 w) := by
  have eb : bits .or .u64 7 8 = 15 := by decide
  go_enter Tryd.func23, Tryd.ntmps23
  go_wp2_with fail
  refine (is_inm 3 (by omega) (by omega) _).mono ?_
  rintro e w' ⟨rfl, rfl⟩
  go_wp2_with fail
  go_region
  all_goals go_wp2_with fail
  all_goals go_ways
  all_goals exact bodyPost_ret (v := aggU 15 0 0 0) (by simp [results, Tryd.results23, go_sem]) rfl ⟨rfl, by repeat (first | exact Below.refl _ _ | (refine below_drewN' ?_ _) | (refine Below.drew ?_) | (refine Below.setCell ?_ (by simp) _) | (refine Below.alloc ?_ (by simp) _))⟩
end Go.Proofs.YtgjmmbhakjalgaaDoor
