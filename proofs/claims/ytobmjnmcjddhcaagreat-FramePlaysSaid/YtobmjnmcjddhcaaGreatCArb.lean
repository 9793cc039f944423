import Derived.Test.YtobmjnmcjddhcaaGreatCB1
set_option linter.unusedSimpArgs false
set_option linter.unusedVariables false
namespace Go.Proofs.YtobmjnmcjddhcaaGreat
open Go.RowKit
def upd {α : Type} (f : Nat → α) (a : Nat) (b : α) : Nat → α := fun j => if j = a then b else f j
theorem upd_same {α : Type} (f : Nat → α) (a : Nat) (b : α) : upd f a b a = b := by simp [upd]
theorem upd_other {α : Type} (f : Nat → α) {a j : Nat} (b : α) (h : j ≠ a) : upd f a b j = f j := by simp [upd, h]
def arrB (n : Nat) (f : Nat → Bool) : List Value := (List.range n).map fun i => Value.bool (f i)
theorem arrB_len (n : Nat) (f : Nat → Bool) : (arrB n f).length = n := by simp [arrB]
theorem arrB_at {n i : Nat} (f : Nat → Bool) (hi : i < n) : (arrB n f)[i]? = some (.bool (f i)) := by
 simp [arrB, hi]
theorem arrB_set {n i : Nat} (f : Nat → Bool) (v : Bool) : (arrB n f).set i (.bool v) = arrB n (upd f i v) := by
 apply List.ext_getElem?
 intro j
 by_cases hj : j < n
 ·rw [arrB_at _ hj]
  by_cases e : j = i
  ·subst e
   rw [List.getElem?_set_self (by rw [arrB_len]; exact hj), upd_same]
  ·rw [List.getElem?_set_ne (fun h => e h.symm), arrB_at _ hj, upd_other _ _ e]
 ·rw [List.getElem?_eq_none (by simp [arrB_len]; omega), List.getElem?_eq_none (by simp [arrB_len]; omega)]
theorem info_bool : (Tryz.prog.info? 4).map (fun i => (i.zero, i.size, i.bytes)) = some (some (.bool false), 1, 1) := by kernel_rfl
theorem made_bool (n : Nat) (hn : n ≤ 1000) : ∃ zc : Array Value, zc.toList = arrB n (fun _ => false) ∧ ∀ W, (Instr.makeSlice 176 (.int .i64 (n : Int)) (.int .i64 (n : Int))).run Tryz.prog W = .ok (.slice (some ⟨W.heap.size, 0, none⟩) n n) (W.alloc (.cells zc 4)) := by
 obtain ⟨i0, hi, hz0, hz1, hz2⟩ := info_parts info_bool
 refine ⟨madeCells (Value.bool false).cells (n * i0.size), ?_, fun W => ?_⟩
 ·rw [hz1, Nat.mul_one]
  rw [show (Value.bool false).cells = #[Value.bool false] from rfl, toList_madeCells_one]
  apply List.ext_getElem?
  intro j
  by_cases hj : j < n
  ·rw [arrB_at _ hj]; simp [hj]
  ·rw [List.getElem?_eq_none (by simp; omega), List.getElem?_eq_none (by rw [arrB_len]; omega)]
 ·have := run_make (P := Tryz.prog) W 176 4 i0 _ Tryz.underlying176 hi hz0 .i64 .i64 (n : Int) (n : Int) (by omega) (by omega) (by rw [hz2]; omega) (by omega)
  simpa using this
end Go.Proofs.YtobmjnmcjddhcaaGreat
