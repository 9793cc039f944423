/-
  The flat stack: one that there is: how many, whether a place is there.
-/
import Derived.Test.YtpladpmkpchndaaStackNil1
namespace Go.Proofs.Ytpladpmkpchndaa
open Go.RowKit
set_option linter.unusedSimpArgs false
set_option linter.unusedVariables false
attribute [local go_sem] run_store_cplx

theorem len_box (g : Nat) (A : Option Addr) (n c : Nat) (w : World) (h : w.cell? ⟨g, 0, none⟩ = some (.slice A n c)) (hn : n ≤ 1000) : Calls Try.prog 17 #[.pointer (some ⟨g, 0, none⟩)] w fun e w' => e = .returned (.int .i64 (n : Int)) ∧ w = w' := by
  go_enter Try.func17, Try.ntmps17
  go_wp2
  go_ret
  exact ⟨rfl, rfl⟩
theorem has_box (g : Nat) (A : Option Addr) (n c : Nat) (i : Int) (w : World) (h : w.cell? ⟨g, 0, none⟩ = some (.slice A n c)) (hn : n ≤ 1000) : Calls Try.prog 70 #[.pointer (some ⟨g, 0, none⟩), .int .i64 i] w fun e w' => e = .returned (.bool (decide (0 ≤ i ∧ i < (n : Int)))) ∧ w = w' := by
  have c1 : Hid (Calls Try.prog 17 #[.pointer (some ⟨g, 0, none⟩)] w fun e w' => e = .returned (.int .i64 (n : Int)) ∧ w = w') := len_box g A n c w h hn
  clear h
  by_cases hi : 0 ≤ i
  · have hi' : ¬ i < 0 := by omega
    go_enter Try.func70, Try.ntmps70
    go_wp2_with fail
    refine Calls.mono c1.out ?_
    rintro e w' ⟨rfl, rfl⟩
    go_wp2_with fail
    go_ret
    refine ⟨?_, rfl⟩
    show Ending.returned (Value.bool (decide (i < (n : Int)))) = _
    simp [hi]
  · have hi' : i < 0 := by omega
    go_enter Try.func70, Try.ntmps70
    go_wp2_with fail
    go_ret
    refine ⟨?_, rfl⟩
    simp
    omega
/-- A place that there is not: a zero. -/
theorem get_out (g : Nat) (A : Option Addr) (n c : Nat) (i : Int) (w : World) (h : w.cell? ⟨g, 0, none⟩ = some (.slice A n c)) (hn : n ≤ 1000) (hi : ¬ (0 ≤ i ∧ i < (n : Int))) : Calls Try.prog 19 #[.pointer (some ⟨g, 0, none⟩), .int .i64 i] w fun e w' => e = .returned zV ∧ Below w.heap.size w w' := by
  have c1 : ∀ w' : World, Below w.heap.size w w' → Hid (Calls Try.prog 70 #[.pointer (some ⟨g, 0, none⟩), .int .i64 i] w' fun e w'' => e = .returned (.bool false) ∧ w' = w'') := fun w' hw => by
    have := has_box g A n c i w' ((hw.cell (World.block_lt_of_cell? _ _ h)).trans h) hn
    rw [decide_eq_false hi] at this
    exact this
  clear h hi
  go_enter Try.func19, Try.ntmps19
  go_wp2_with fail
  refine Calls.mono (c1 _ ((Below.refl _ _).alloc (Nat.le_refl _) _)).out ?_
  rintro e w' ⟨rfl, rfl⟩
  go_wp2_with fail
  exact bodyPost_ret (v := zV) (by simp [results, Try.results19, go_sem]) rfl ⟨rfl, by repeat (first | exact Below.refl _ _ | (refine Below.setCell ?_ (by simp) _) | (refine Below.alloc ?_ (by simp) _))⟩
end Go.Proofs.Ytpladpmkpchndaa
