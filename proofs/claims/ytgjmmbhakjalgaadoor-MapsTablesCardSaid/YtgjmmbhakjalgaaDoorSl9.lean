/-
  Sets of slots: the slots of a word, the least one first, in plain Lean.
-/
import Derived.Test.YtgjmmbhakjalgaaDoorSl8
import Derived.Lib.TrailingZeros
namespace Go.Proofs.YtgjmmbhakjalgaaDoor
open Go.RowKit
set_option linter.unusedSimpArgs false
set_option linter.unusedVariables false
theorem filter_first (p : Nat → Bool) (k : Nat) (h0 : ∀ j, j < k → p j = false) (h1 : p k = true) : ∀ n, k < n → (List.range n).filter p = k :: (List.range n).filter fun j => p j && decide (j ≠ k) := by
  intro n
  induction n with
  | zero => intro h; omega
  | succ n ih =>
    intro hk
    rw [List.range_succ, List.filter_append, List.filter_append]
    by_cases he : k = n
    · subst he
      have e1 : (List.range k).filter p = [] := List.filter_eq_nil_iff.2 fun j hj => by rw [h0 j (by simpa using hj)]; simp
      have e2 : ((List.range k).filter fun j => p j && decide (j ≠ k)) = [] := List.filter_eq_nil_iff.2 fun j hj => by rw [h0 j (by simpa using hj)]; simp
      rw [e1, e2]
      simp [h1]
    · rw [ih (by omega)]
      have hn : ¬ n = k := fun e => he e.symm
      have hq : (p n && decide (n ≠ k)) = p n := by simp [hn]
      simp only [List.filter_cons, List.filter_nil, hq, List.cons_append]
theorem bit_facts (x : Nat) (hx0 : x ≠ 0) (hx : x < 18446744073709551616) : ∃ k, Lib.ctz 64 x = k ∧ k < 64 ∧ (∀ j, j < k → x.testBit j = false) ∧ x.testBit k = true ∧ ∀ j, (x &&& (x - 1)).testBit j = (x.testBit j && decide (j ≠ k)) := by
  obtain ⟨m, hm, hk⟩ := Lib.ctzFrom_spec 64 x (by omega) hx
  obtain ⟨k, hkd⟩ : ∃ k, Lib.ctzFrom 64 x = k := ⟨_, rfl⟩
  rw [hkd] at hm hk
  have hc : Lib.ctz 64 x = k := by unfold Lib.ctz; rw [if_neg hx0]; exact hkd
  have hp : 0 < 2 ^ k := Nat.two_pow_pos k
  have e1 : x = 2 ^ k * (2 * m + 1) + 0 := by omega
  have e2 : x - 1 = 2 ^ k * (2 * m) + (2 ^ k - 1) := by
    rw [hm, Nat.mul_add, Nat.mul_one]
    omega
  have t1 : ∀ j, x.testBit j = if j < k then false else (2 * m + 1).testBit (j - k) := fun j => by
    rw [e1, Nat.testBit_two_pow_mul_add _ hp]
    simp
  have t2 : ∀ j, (x - 1).testBit j = if j < k then (2 ^ k - 1).testBit j else (2 * m).testBit (j - k) := fun j => by
    rw [e2, Nat.testBit_two_pow_mul_add _ (by omega)]
  refine ⟨k, hc, hk, fun j hj => by rw [t1, if_pos hj], by rw [t1, if_neg (by omega)]; simp, fun j => ?_⟩
  rw [Nat.testBit_and, t1, t2]
  by_cases hj : j < k
  · simp [hj]
  · rw [if_neg hj, if_neg hj]
    by_cases he : j = k
    · subst he; simp
    · obtain ⟨i, hi⟩ : ∃ i, j - k = i + 1 := ⟨j - k - 1, by omega⟩
      rw [hi, Nat.testBit_succ, Nat.testBit_succ]
      have a1 : (2 * m + 1) / 2 = m := by omega
      have a2 : 2 * m / 2 = m := by omega
      rw [a1, a2]
      simp [he]
def bitsL (x : Nat) (base : Int) : List Int := ((List.range 64).filter fun (j : Nat) => x.testBit j).map fun (j : Nat) => base + (j : Int)
theorem bitsL_zero (base : Int) : bitsL 0 base = [] := by unfold bitsL; simp
theorem bitsL_step (x : Nat) (base : Int) (hx0 : x ≠ 0) (hx : x < 18446744073709551616) : bitsL x base = (base + (Lib.ctz 64 x : Int)) :: bitsL (x &&& (x - 1)) base := by
  obtain ⟨k, hc, hk, h0, h1, h2⟩ := bit_facts x hx0 hx
  unfold bitsL
  rw [filter_first (fun j => x.testBit j) k h0 h1 64 hk, List.map_cons, hc]
  congr 2
  apply List.filter_congr
  intro j _
  rw [h2]
theorem bits_lt (x : Nat) (hx : x < 18446744073709551616) : x &&& (x - 1) < 18446744073709551616 := Nat.lt_of_le_of_lt Nat.and_le_left hx
theorem bits_less (x : Nat) (hx0 : x ≠ 0) : x &&& (x - 1) < x := Nat.lt_of_le_of_lt Nat.and_le_right (by omega)
set_option maxRecDepth 100000 in
theorem listM_eq (s : W4) : listM s = bitsL s.a0 0 ++ (bitsL s.a1 64 ++ (bitsL s.a2 128 ++ bitsL s.a3 192)) := by
  have e : List.range 256 = List.range 64 ++ ((List.range 64).map (64 + ·) ++ ((List.range 64).map (128 + ·) ++ (List.range 64).map (192 + ·))) := by decide +kernel
  have f : ∀ (a : Nat) (b : Nat), b + 64 ≤ 256 → b % 64 = 0 → s.get (b / 64) = a → (((List.range 64).map (b + ·)).filter fun (m : Nat) => memM s (m : Int)).map (fun (m : Nat) => (m : Int)) = bitsL a (b : Int) := by
    intro a b hb hb2 ha
    unfold bitsL
    rw [List.filter_map, List.map_map]
    have hf : (List.range 64).filter ((fun (m : Nat) => memM s (m : Int)) ∘ (b + ·)) = (List.range 64).filter fun (j : Nat) => a.testBit j := by
      apply List.filter_congr
      intro j hj
      have hj' : j < 64 := by simpa using hj
      show memM s ((b + j : Nat) : Int) = a.testBit j
      rw [memM_in (by omega), show (b + j) / 64 = b / 64 by omega, show (b + j) % 64 = j by omega, ha]
    rw [hf]
    apply List.map_congr_left
    intro j _
    show ((b + j : Nat) : Int) = (b : Int) + (j : Int)
    omega
  have g0 : ((List.range 64).filter fun (m : Nat) => memM s (m : Int)).map (fun (m : Nat) => (m : Int)) = bitsL s.a0 0 := by
    have := f s.a0 0 (by omega) rfl rfl
    simpa using this
  unfold listM listK
  rw [e, List.filter_append, List.filter_append, List.filter_append, List.map_append, List.map_append, List.map_append, g0, f s.a1 64 (by omega) rfl rfl, f s.a2 128 (by omega) rfl rfl, f s.a3 192 (by omega) rfl rfl]
  rfl
end Go.Proofs.YtgjmmbhakjalgaaDoor
