/-
  The walk of UnwindNext.
-/
import Derived.Test.YtnnpgljmfjemnaaTypes
import Derived.WalkSpells
import Derived.WalkLawsBesides
namespace Go.Proofs.Ytnnpgljmfjemnaa
open Go.RowKit
set_option linter.unusedSimpArgs false
set_option linter.unusedVariables false

set_option maxHeartbeats 400000 in
theorem uw_lives (w : World) :
    Calls Try.prog 15 #[] w fun e w' => e = .returned (.bool true) ∧ Below w.heap.size w w' := by
  go_enter Try.func15, Try.ntmps15
  go_wp2
  go_ret
  exact ⟨rfl, (((Below.refl _ _).alloc (Nat.le_refl _) _))⟩

set_option maxHeartbeats 1000000 in
theorem uw_law0 (A : Option Addr) (c : Nat) (waits : Bool) (node : Int) (w : World) :
    Calls Try.prog 3 #[.slice A 0 c, .bool waits, .int .i64 node] w fun e w' => e = .returned (.bool true) ∧ Below w.heap.size w w' := by
  cases waits <;> by_cases h : 0 < node
  all_goals
    go_enter Try.func3, Try.ntmps3
    go_wp2_with (first | (go_at_call 15; refine (uw_lives _).mono ?_; rintro e w' ⟨rfl, hb⟩) | go_in)
    go_ret
    exact ⟨rfl, hb⟩

set_option maxHeartbeats 1000000 in
theorem uw_law1 (b off : Nat) (n c : Nat) (r : Bool) (waits : Bool) (node : Int) (w : World) (hn : 0 < n) (hm : n ≤ 9223372036854775807) (hc : w.cell? ⟨b, off + (n - 1) * 4 + 2, none⟩ = some (.bool r)) :
    Calls Try.prog 3 #[.slice (some ⟨b, off, none⟩) n c, .bool waits, .int .i64 node] w fun e w' => e = .returned (.bool true) ∧ Below w.heap.size w w' := by
  by_cases h40 : 40 < n
  · go_enter Try.func3, Try.ntmps3
    go_wp2_with (first | (go_at_call 15; refine (uw_lives _).mono ?_; rintro e w' ⟨rfl, hb⟩) | go_in)
    go_ret
    exact ⟨rfl, hb⟩
  · cases r <;> cases waits <;> by_cases h : 0 < node
    all_goals
      go_enter Try.func3, Try.ntmps3
      go_wp2_with (first | (go_at_call 15; refine (uw_lives _).mono ?_; rintro e w' ⟨rfl, hb⟩) | go_in)
      go_ret
      exact ⟨rfl, hb⟩

theorem uw_next (A : Option Addr) (n c : Nat) (xs : List DBlame) (waits : Bool) (node : Int) (W : World) (h : SlR 4 48 RBlame W W.heap.size A n c xs) (_w : (Lit.int .i64 node).wf = true) :
    Calls Try.prog 3 #[.slice A n c, .bool waits, .int .i64 node] W fun e w' => e = .returned (.bool true) ∧ Below W.heap.size W w' := by
  by_cases hn : n = 0
  · subst hn
    exact uw_law0 A c waits node W
  · obtain ⟨b, off, x, cs, rfl, _, _, _, hc, A0, n0, c0, rfl, _⟩ := h.at_ (show n - 1 < n by omega)
    have hm : n ≤ 9223372036854775807 := by have := h.2.1; have := h.2.2.1; unfold maxLen at this; omega
    exact uw_law1 b off n c x.reco waits node W (by omega) hm (hc 2 _ rfl)
end Go.Proofs.Ytnnpgljmfjemnaa
