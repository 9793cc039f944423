/-
  The document's cursor: its failure, its next number, what is left.
-/
import Derived.Test.YtiblcodlaeijfaaMt2
import Derived.RegionTactic
namespace Go.Proofs.Ytiblcodlaeijfaa
open Go.RowKit
set_option linter.unusedSimpArgs false
set_option linter.unusedVariables false
def curV (A : Option Addr) (n c : Nat) (e : Nat) : Value := .agg #[.slice A n c, .int .i64 (e : Int)]
theorem ref_fail0 (A : Option Addr) (n c e x : Nat) (w : World) : Calls Try.prog 24 #[curV A n c e, .int .i64 (x : Int)] w fun e' w' => e' = .returned (curV A n c (failM e x)) ∧ Below w.heap.size w w' := by
  unfold failM curV
  by_cases he : e = 0
  · subst he
    rw [if_pos rfl]
    go_enter Try.func24, Try.ntmps24
    go_wp2_with fail
    exact bodyPost_ret (v := .agg #[.slice A n c, .int .i64 (x : Int)]) (by simp [results, Try.results24, go_sem]) rfl ⟨rfl, by repeat (first | exact Below.refl _ _ | (refine Below.setCell ?_ (by simp) _) | (refine Below.alloc ?_ (by simp) _))⟩
  · rw [if_neg he]
    have t0 : ((e : Int) == 0) = false := by simp [he]
    go_enter Try.func24, Try.ntmps24
    go_wp2_with fail
    exact bodyPost_ret (v := .agg #[.slice A n c, .int .i64 (e : Int)]) (by simp [results, Try.results24, go_sem]) rfl ⟨rfl, by repeat (first | exact Below.refl _ _ | (refine Below.setCell ?_ (by simp) _) | (refine Below.alloc ?_ (by simp) _))⟩
theorem ref_left (A : Option Addr) (B n c e : Nat) (l : List Nat) (w : World) (h : SlB w B A n c l) : Calls Try.prog 11 #[curV A n c e] w fun e' w' => e' = .returned (.int .i64 (leftM l e : Nat)) ∧ Below w.heap.size w w' := by
  have hn : l.length = n := h.1.1
  unfold leftM curV
  by_cases he : e = 0
  · subst he
    rw [if_pos rfl, hn]
    clear h
    go_enter Try.func11, Try.ntmps11
    go_wp2_with fail
    go_ret
    exact ⟨rfl, (Below.refl _ _).alloc (Nat.le_refl _) _⟩
  · rw [if_neg he]
    have t0 : ((e : Int) != 0) = true := by simp [he]
    clear h
    go_enter Try.func11, Try.ntmps11
    go_wp2_with fail
    go_ret
    exact ⟨rfl, (Below.refl _ _).alloc (Nat.le_refl _) _⟩
end Go.Proofs.Ytiblcodlaeijfaa
