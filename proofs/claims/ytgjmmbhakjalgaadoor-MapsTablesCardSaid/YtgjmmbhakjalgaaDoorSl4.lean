/-
  Sets of slots: one more slot, or one less, whichever it is.
-/
import Derived.Test.YtgjmmbhakjalgaaDoorSl3
import Derived.Test.YtgjmmbhakjalgaaDoorSl2
namespace Go.Proofs.YtgjmmbhakjalgaaDoor
open Go.RowKit
set_option linter.unusedSimpArgs false
set_option linter.unusedVariables false
def IsW (s : W4) (w : World) (e : Ending) (w' : World) : Prop := e = .returned (aggW s) ∧ Below w.heap.size w w'
set_option maxRecDepth 100000 in
theorem with_out (s : W4) (n : Int) (h : ¬ (0 ≤ n ∧ n < 256)) (w : World) : Calls Tryd.prog 23 #[aggW s, .int .i64 n] w (IsW s w) := by
  have hi := is_out n h
  go_enter Tryd.func23, Tryd.ntmps23
  go_wp2_with fail
  refine (hi _).mono ?_
  rintro e w1 ⟨rfl, rfl⟩
  go_wp2_with fail
  exact bodyPost_ret (v := aggW s) (by simp [results, Tryd.results23, go_sem]) rfl ⟨rfl, by repeat (first | exact Below.refl _ _ | (refine Below.setCell ?_ (by simp) _) | (refine Below.alloc ?_ (by simp) _))⟩
theorem with_any (s : W4) (h : s.Ok) (n : Int) (w : World) : Calls Tryd.prog 23 #[aggW s, .int .i64 n] w (IsW (withM s n) w) := by
  by_cases hn : 0 ≤ n ∧ n < 256
  · obtain ⟨m, rfl⟩ : ∃ m : Nat, n = (m : Int) := ⟨n.toNat, by omega⟩
    have hm : m < 256 := by omega
    rw [withM_in hm]
    have hr : m % 64 < 64 := Nat.mod_lt _ (by decide)
    rcases (show m / 64 = 0 ∨ m / 64 = 1 ∨ m / 64 = 2 ∨ m / 64 = 3 by omega) with hq | hq | hq | hq
    · have c := with_w0 s.a0 s.a1 s.a2 s.a3 (m % 64) hr w
      rw [bits_or_pow h.h0 hr, show 0 + m % 64 = m by omega] at c
      rw [hq]
      exact c
    · have c := with_w1 s.a0 s.a1 s.a2 s.a3 (m % 64) hr w
      rw [bits_or_pow h.h1 hr, show 64 + m % 64 = m by omega] at c
      rw [hq]
      exact c
    · have c := with_w2 s.a0 s.a1 s.a2 s.a3 (m % 64) hr w
      rw [bits_or_pow h.h2 hr, show 128 + m % 64 = m by omega] at c
      rw [hq]
      exact c
    · have c := with_w3 s.a0 s.a1 s.a2 s.a3 (m % 64) hr w
      rw [bits_or_pow h.h3 hr, show 192 + m % 64 = m by omega] at c
      rw [hq]
      exact c
  · rw [withM_out hn]
    exact with_out s n hn w
end Go.Proofs.YtgjmmbhakjalgaaDoor
