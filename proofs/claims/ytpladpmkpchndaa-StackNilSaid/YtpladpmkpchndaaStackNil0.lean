/-
  The flat stack: one that there is not.
-/
import Derived.Test.YtpladpmkpchndaaApp
import Derived.WalkSpells
import Derived.WalkLawsBesides
import Derived.Outline
import Derived.Deep.QuietTactic
import Derived.BigQuiet
import Derived.Deep.DeepMust
namespace Go.Proofs.Ytpladpmkpchndaa
open Go.RowKit
set_option linter.unusedSimpArgs false
set_option linter.unusedVariables false

theorem len_nil (w : World) : Calls Try.prog 17 #[.pointer none] w fun e w' => e = .returned (.int .i64 0) ∧ w = w' := by
  go_enter Try.func17, Try.ntmps17
  go_wp2
  go_ret
  exact ⟨rfl, rfl⟩
theorem has_nil (n : Int) (w : World) : Calls Try.prog 70 #[.pointer none, .int .i64 n] w fun e w' => e = .returned (.bool false) ∧ w = w' := by
  have c1 : ∀ w : World, Hid (Calls Try.prog 17 #[.pointer none] w fun e w' => e = .returned (.int .i64 0) ∧ w = w') := fun w => len_nil w
  by_cases hn : 0 ≤ n
  · have hn' : ¬ n < 0 := by omega
    go_enter Try.func70, Try.ntmps70
    go_wp2_with fail
    refine Calls.mono (c1 _).out ?_
    rintro e w' ⟨rfl, rfl⟩
    go_wp2_with fail
    go_ret
    exact ⟨by show Ending.returned (Value.bool (decide (n < 0))) = _; rw [decide_eq_false (by omega)], rfl⟩
  · have hn' : n < 0 := by omega
    go_enter Try.func70, Try.ntmps70
    go_wp2_with fail
    go_ret
    exact ⟨rfl, rfl⟩
theorem run_store_cplx {P : Program} {w : World} {a : Addr} {m : Mode} (k : FloatKind) (x y : Nat) : (store a (.complex k x y) m).run P w = stored P w a (.complex k x y) m := run_store P w a _ m rfl
attribute [local go_sem] run_store_cplx
theorem get_nil (n : Int) (w : World) : Calls Try.prog 19 #[.pointer none, .int .i64 n] w fun e w' => e = .returned (.agg #[.int .i64 0, .int .i64 0, .complex .f64 0 0]) ∧ Below w.heap.size w w' := by
  have c1 : ∀ w : World, Hid (Calls Try.prog 70 #[.pointer none, .int .i64 n] w fun e w' => e = .returned (.bool false) ∧ w = w') := fun w => has_nil n w
  go_enter Try.func19, Try.ntmps19
  go_wp2_with fail
  refine Calls.mono (c1 _).out ?_
  rintro e w' ⟨rfl, rfl⟩
  go_wp2_with fail
  exact bodyPost_ret (v := .agg #[.int .i64 0, .int .i64 0, .complex .f64 0 0]) (by simp [results, Try.results19, go_sem]) rfl ⟨rfl, by repeat (first | exact Below.refl _ _ | (refine Below.setCell ?_ (by simp) _) | (refine Below.alloc ?_ (by simp) _))⟩
abbrev zV : Value := .agg #[.int .i64 0, .int .i64 0, .complex .f64 0 0]
theorem push_nil (w : World) : Calls Try.prog 15 #[.pointer none, zV] w fun e w' => (∃ v, e = .returned v) ∧ Below w.heap.size w w' := by
  go_enter Try.func15, Try.ntmps15
  go_wp2
  go_end0
  exact ⟨⟨_, rfl⟩, (Below.refl _ _).alloc (Nat.le_refl _) _⟩
theorem cut_nil (n : Int) (w : World) : Calls Try.prog 16 #[.pointer none, .int .i64 n] w fun e w' => (∃ v, e = .returned v) ∧ w = w' := by
  have c1 : ∀ w : World, Hid (Calls Try.prog 17 #[.pointer none] w fun e w' => e = .returned (.int .i64 0) ∧ w = w') := fun w => len_nil w
  rcases (show n < 0 ∨ 0 ≤ n by omega) with hn | hn
  · have hm : max n 0 = 0 := by omega
    go_enter Try.func16, Try.ntmps16
    go_wp2_with fail
    refine Calls.mono (c1 _).out ?_
    rintro e w' ⟨rfl, rfl⟩
    go_wp2_with fail
    go_end0
    exact ⟨⟨_, rfl⟩, rfl⟩
  · have hm : max n 0 = n := by omega
    have hn' : ¬ n < 0 := by omega
    go_enter Try.func16, Try.ntmps16
    go_wp2_with fail
    refine Calls.mono (c1 _).out ?_
    rintro e w' ⟨rfl, rfl⟩
    go_wp2_with fail
    go_end0
    exact ⟨⟨_, rfl⟩, rfl⟩
theorem set_nil (n : Int) (w : World) : Calls Try.prog 20 #[.pointer none, .int .i64 n, zV] w fun e w' => e = .returned (.bool false) ∧ Below w.heap.size w w' := by
  have c1 : ∀ w : World, Hid (Calls Try.prog 70 #[.pointer none, .int .i64 n] w fun e w' => e = .returned (.bool false) ∧ w = w') := fun w => has_nil n w
  go_enter Try.func20, Try.ntmps20
  go_wp2_with fail
  refine Calls.mono (c1 _).out ?_
  rintro e w' ⟨rfl, rfl⟩
  go_wp2_with fail
  go_ret
  exact ⟨rfl, (Below.refl _ _).alloc (Nat.le_refl _) _⟩
end Go.Proofs.Ytpladpmkpchndaa
