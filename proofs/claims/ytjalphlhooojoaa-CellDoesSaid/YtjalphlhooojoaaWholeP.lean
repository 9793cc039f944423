/-
  Quotients and rests of whole numbers of 64 bits: plain facts.
-/
import Derived.Test.YtjalphlhooojoaaRows
import Derived.WalkKit
import Derived.IntWalk
namespace Go.Proofs.Ytjalphlhooojoaa
open Go.RowKit

def In64 (a : Int) : Prop := -9223372036854775808 ≤ a ∧ a ≤ 9223372036854775807
theorem in64_of_wf {a : Int} (h : (Lit.int .i64 a).wf = true) : In64 a := by
  simp [Lit.wf, IntKind.min, IntKind.max, IntKind.signed, IntKind.bits] at h
  unfold In64
  omega
theorem wrap_in {a : Int} (h : In64 a) : wrap64 a = a := IntWalk.wrap64_in a h
theorem tdiv_in {a b : Int} (ha : In64 a) (hb : b ≠ 0) (hb1 : b ≠ -1) : In64 (a.tdiv b) := by
  have h := Int.natAbs_tdiv a b
  unfold In64 at *
  by_cases h1 : b.natAbs ≤ 1
  · have : b = 1 := by omega
    subst this
    rw [Int.tdiv_one]
    exact ha
  · have h2 : a.natAbs.div b.natAbs ≤ a.natAbs / 2 := Nat.div_le_div_left (by omega) (by omega)
    have h3 : (a.tdiv b).natAbs ≤ a.natAbs / 2 := by rw [h]; exact h2
    omega
theorem tmod_in {a b : Int} (ha : In64 a) : In64 (a.tmod b) := by
  have h := Int.natAbs_tmod a b
  have h2 : a.natAbs % b.natAbs ≤ a.natAbs := Nat.mod_le _ _
  have hs : (a.tmod b).natAbs ≤ a.natAbs := by rw [h]; exact h2
  have hsg : 0 ≤ a → 0 ≤ a.tmod b := fun h => Int.tmod_nonneg _ h
  unfold In64 at *
  by_cases h0 : 0 ≤ a
  · have := hsg h0; omega
  · have := Int.tmod_nonneg (a := -a) b (by omega)
    rw [Int.neg_tmod] at this
    omega
theorem mul_tdiv_in {a b : Int} (ha : In64 a) : In64 (a.tdiv b * b) := by
  have h := Int.mul_tdiv_add_tmod a b
  have h2 := Int.natAbs_tdiv a b
  have h3 : (a.tdiv b * b).natAbs ≤ a.natAbs := by
    rw [Int.natAbs_mul, h2]
    exact Nat.div_mul_le_self _ _
  unfold In64 at *
  by_cases h0 : 0 ≤ a
  · omega
  · have h4 : a.tmod b ≤ 0 ∨ 0 ≤ a.tmod b := by omega
    have h5 : a.tdiv b * b = a - a.tmod b := by rw [Int.mul_comm]; omega
    have h6 : a.tmod b ≤ 0 := by
      have := Int.tmod_nonneg (a := -a) b (by omega)
      rw [Int.neg_tmod] at this
      omega
    have h7 : (a.tmod b).natAbs ≤ a.natAbs := by rw [Int.natAbs_tmod]; exact Nat.mod_le _ _
    omega
/-- The rest, as the document has it. -/
theorem rest_eq {a b : Int} (ha : In64 a) (hb : b ≠ 0) (hb1 : b ≠ -1) : wrap64 (a - wrap64 (wrap64 (a.tdiv b) * b)) = a.tmod b := by
  rw [wrap_in (tdiv_in ha hb hb1), wrap_in (mul_tdiv_in ha)]
  have h := Int.mul_tdiv_add_tmod a b
  have h5 : a - a.tdiv b * b = a.tmod b := by rw [Int.mul_comm]; omega
  rw [h5, wrap_in (tmod_in ha)]
/-- Quotient times number and rest together. -/
theorem back_eq {a b : Int} (ha : In64 a) : wrap64 (wrap64 (a.tdiv b * b) + a.tmod b) = a := by
  rw [wrap_in (mul_tdiv_in ha)]
  have h := Int.mul_tdiv_add_tmod a b
  have h5 : a.tdiv b * b + a.tmod b = a := by rw [Int.mul_comm]; omega
  rw [h5, wrap_in ha]
theorem tmod_near {a b : Int} (hb : b ≠ 0) : a.tmod b = 0 ∨ (a.tmod b < 0 ↔ a < 0) ∧ (b < 0 ∧ (a.tmod b < 0 ∧ a.tmod b > b ∨ a.tmod b > 0 ∧ b < - a.tmod b) ∨ b > 0 ∧ (a.tmod b > 0 ∧ a.tmod b < b ∨ a.tmod b < 0 ∧ -b < a.tmod b)) := by
  have h := Int.natAbs_tmod a b
  have h2 : (a.tmod b).natAbs < b.natAbs := by rw [h]; exact Nat.mod_lt _ (by omega)
  have h3 : 0 ≤ a → 0 ≤ a.tmod b := fun h => Int.tmod_nonneg _ h
  have h4 : a < 0 → a.tmod b ≤ 0 := by
    intro h0
    have := Int.tmod_nonneg (a := -a) b (by omega)
    rw [Int.neg_tmod] at this
    omega
  by_cases h0 : a.tmod b = 0
  · exact .inl h0
  · right
    by_cases ha : 0 ≤ a
    · have := h3 ha; omega
    · have := h4 (by omega); omega
end Go.Proofs.Ytjalphlhooojoaa
