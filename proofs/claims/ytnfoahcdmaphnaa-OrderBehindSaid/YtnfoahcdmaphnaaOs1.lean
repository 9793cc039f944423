/-
  cmp.Compare and cmp.Or at numbers.
-/
import Derived.Test.YtnfoahcdmaphnaaCel
import Derived.Test.YtnfoahcdmaphnaaApp
import Derived.Test.YtnfoahcdmaphnaaHeld
import Derived.BigQuiet
import Derived.OrdersHeld
namespace Go.Proofs.Ytnfoahcdmaphnaa
open Go.RowKit
set_option linter.unusedSimpArgs false
set_option linter.unusedVariables false
theorem isNaN_any (a : Int) (w : World) : Calls Try.prog 41 #[.int .i64 a] w fun e w' => e = .returned (.bool false) ∧ w = w' := by
  have t : (a != a) = false := by simp
  go_enter Try.func41, Try.ntmps41
  go_wp2_with fail
  go_ret
  exact ⟨rfl, rfl⟩
def cmpM (a b : Int) : Int := if a < b then -1 else if b < a then 1 else 0
set_option maxRecDepth 100000 in
theorem cmp_any (a b : Int) (w : World) : Calls Try.prog 35 #[.int .i64 a, .int .i64 b] w fun e w' => e = .returned (.int .i64 (cmpM a b)) ∧ w = w' := by
  have cA := Lib.hid (isNaN_any a w)
  have cB := Lib.hid (isNaN_any b w)
  by_cases h1 : a < b
  · have hv : Hid (cmpM a b = -1) := Lib.hid (by unfold cmpM; rw [if_pos h1])
    go_enter Try.func35, Try.ntmps35
    go_wp2_with fail
    refine cA.out.mono ?_
    rintro e w' ⟨rfl, rfl⟩
    go_wp2_with fail
    refine cB.out.mono ?_
    rintro e w' ⟨rfl, rfl⟩
    go_wp2_with fail
    go_ret
    exact ⟨by rw [hv.out]; rfl, rfl⟩
  · by_cases h2 : b < a
    · have hv : Hid (cmpM a b = 1) := Lib.hid (by unfold cmpM; rw [if_neg h1, if_pos h2])
      go_enter Try.func35, Try.ntmps35
      go_wp2_with fail
      refine cA.out.mono ?_
      rintro e w' ⟨rfl, rfl⟩
      go_wp2_with fail
      refine cB.out.mono ?_
      rintro e w' ⟨rfl, rfl⟩
      go_wp2_with fail
      go_ret
      exact ⟨by rw [hv.out]; rfl, rfl⟩
    · have hv : Hid (cmpM a b = 0) := Lib.hid (by unfold cmpM; rw [if_neg h1, if_neg h2])
      go_enter Try.func35, Try.ntmps35
      go_wp2_with fail
      refine cA.out.mono ?_
      rintro e w' ⟨rfl, rfl⟩
      go_wp2_with fail
      refine cB.out.mono ?_
      rintro e w' ⟨rfl, rfl⟩
      go_wp2_with fail
      go_ret
      exact ⟨by rw [hv.out]; rfl, rfl⟩
def orM (a b : Int) : Int := if a = 0 then b else a
set_option maxRecDepth 100000 in
theorem or_two (g c : Nat) (a b : Int) (w : World) (h : Cells w g [.int .i64 a, .int .i64 b]) : Calls Try.prog 34 #[.slice (some ⟨g, 0, none⟩) 2 c] w fun e w' => e = .returned (.int .i64 (orM a b)) ∧ w = w' := by
  have c0 := h.at_ 0 _ rfl
  have c1 := h.at_ 1 _ rfl
  by_cases ha : a = 0
  · subst ha
    have hv : Hid (orM 0 b = b) := Lib.hid rfl
    by_cases hb : b = 0
    · subst hb
      go_enter Try.func34, Try.ntmps34
      go_wp2_with fail
      refine wp_loop_rounds 3 ?_
      rw [rounds_succ]
      go_wp2_with fail
      rw [rounds_succ]
      go_wp2_with fail
      rw [rounds_succ]
      go_wp2_with fail
      go_ret
      exact ⟨by rw [hv.out]; rfl, rfl⟩
    · have hb1 : (b != 0) = true := by simpa using hb
      go_enter Try.func34, Try.ntmps34
      go_wp2_with fail
      refine wp_loop_rounds 3 ?_
      rw [rounds_succ]
      go_wp2_with fail
      rw [rounds_succ]
      go_wp2_with fail
      go_ret
      exact ⟨by rw [hv.out]; rfl, rfl⟩
  · have ha1 : (a != 0) = true := by simpa using ha
    have hv : Hid (orM a b = a) := Lib.hid (by unfold orM; rw [if_neg ha])
    go_enter Try.func34, Try.ntmps34
    go_wp2_with fail
    refine wp_loop_rounds 3 ?_
    rw [rounds_succ]
    go_wp2_with fail
    go_ret
    exact ⟨by rw [hv.out]; rfl, rfl⟩
end Go.Proofs.Ytnfoahcdmaphnaa
