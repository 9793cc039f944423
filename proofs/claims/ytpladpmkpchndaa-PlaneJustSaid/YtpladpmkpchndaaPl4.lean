/-
  Complex numbers: the walk of PlaneJust.
-/
import Derived.Test.YtpladpmkpchndaaPl3
import Derived.IntWalk
namespace Go.Proofs.Ytpladpmkpchndaa
open Go.RowKit
set_option linter.unusedSimpArgs false
set_option linter.unusedVariables false

theorem quiet_eq2 {P : Program} {f : FuncId} {args : Array Value} {w : World} {a n : Nat} {v : Value}
    (h : Calls P f args (w.drewN (a + n)) fun e w' => e = .returned v ∧ w.drewN (a + n) = w') : Calls P f args (w.drewN (a + n)) fun e w'' => e = .returned v ∧ ∃ m, w'' = w.drewN (a + m) :=
  h.mono fun _ _ ⟨he, hm⟩ => ⟨he, n, hm.symm⟩

set_option maxRecDepth 100000 in
theorem just_out0 (a0 a1 b0 b1 : Int) (w : World) (h : a0 < -1048576 ∨ (-1048576 ≤ a0 ∧ 1048576 < a0) ∨ (-1048576 ≤ a0 ∧ a0 ≤ 1048576 ∧ b0 < -1048576) ∨ (-1048576 ≤ a0 ∧ a0 ≤ 1048576 ∧ -1048576 ≤ b0 ∧ 1048576 < b0)) :
    Calls Try.prog 11 #[.agg #[.int .i64 a0, .int .i64 a1], .agg #[.int .i64 b0, .int .i64 b1]] w fun e w' => e = .returned (.bool true) ∧ Below w.heap.size w w' := by
  rcases h with h | ⟨h1, h⟩ | ⟨h1, h2, h⟩ | ⟨h1, h2, h3, h⟩
  all_goals
    go_enter Try.func11, Try.ntmps11
    go_wp2
    refine wp_loop_rounds 1 ?_
    rw [rounds_succ]
    go_wp2_with fail
    refine (plane_lives _).mono ?_
    rintro e w' ⟨rfl, m, rfl⟩
    go_wp2_with fail
    go_ret
    exact ⟨rfl, below_drewN' (((Below.refl _ _).alloc (Nat.le_refl _) _).alloc (by simp) _) _⟩
set_option maxRecDepth 100000 in
set_option maxHeartbeats 1000000 in
theorem just_out1 (a0 a1 b0 b1 : Int) (w : World) (k1 : -1048576 ≤ a0) (k2 : a0 ≤ 1048576) (k3 : -1048576 ≤ b0) (k4 : b0 ≤ 1048576) (h : a1 < -1048576 ∨ (-1048576 ≤ a1 ∧ 1048576 < a1) ∨ (-1048576 ≤ a1 ∧ a1 ≤ 1048576 ∧ b1 < -1048576) ∨ (-1048576 ≤ a1 ∧ a1 ≤ 1048576 ∧ -1048576 ≤ b1 ∧ 1048576 < b1)) :
    Calls Try.prog 11 #[.agg #[.int .i64 a0, .int .i64 a1], .agg #[.int .i64 b0, .int .i64 b1]] w fun e w' => e = .returned (.bool true) ∧ Below w.heap.size w w' := by
  rcases h with h | ⟨h1, h⟩ | ⟨h1, h2, h⟩ | ⟨h1, h2, h3, h⟩
  all_goals
    go_enter Try.func11, Try.ntmps11
    go_wp2
    refine wp_loop_rounds 2 ?_
    rw [rounds_succ]
    go_wp2_with fail
    rw [rounds_succ]
    go_wp2_with fail
    refine (plane_lives _).mono ?_
    rintro e w' ⟨rfl, m, rfl⟩
    go_wp2_with fail
    go_ret
    exact ⟨rfl, below_drewN' (((Below.refl _ _).alloc (Nat.le_refl _) _).alloc (by simp) _) _⟩
end Go.Proofs.Ytpladpmkpchndaa
