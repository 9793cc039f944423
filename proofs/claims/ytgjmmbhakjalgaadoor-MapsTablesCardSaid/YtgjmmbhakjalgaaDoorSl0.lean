/-
  Sets of slots as numbers: one more slot, whether a slot is in, in plain Lean.
-/
import Derived.Test.YtgjmmbhakjalgaaDoorSl1
import Derived.Laws.Bits64b
namespace Go.Proofs.YtgjmmbhakjalgaaDoor
open Go.RowKit
set_option linter.unusedSimpArgs false
set_option linter.unusedVariables false
structure W4 where
  a0 : Nat
  a1 : Nat
  a2 : Nat
  a3 : Nat
structure W4.Ok (s : W4) : Prop where
  h0 : s.a0 < 18446744073709551616
  h1 : s.a1 < 18446744073709551616
  h2 : s.a2 < 18446744073709551616
  h3 : s.a3 < 18446744073709551616
abbrev aggW (s : W4) : Value := aggU (s.a0 : Int) (s.a1 : Int) (s.a2 : Int) (s.a3 : Int)
def W4.get (s : W4) (q : Nat) : Nat := if q = 0 then s.a0 else if q = 1 then s.a1 else if q = 2 then s.a2 else s.a3
def W4.put (s : W4) (q v : Nat) : W4 := if q = 0 then { s with a0 := v } else if q = 1 then { s with a1 := v } else if q = 2 then { s with a2 := v } else { s with a3 := v }
def zW : W4 := ⟨0, 0, 0, 0⟩
theorem zW_ok : zW.Ok := by constructor <;> decide
theorem W4.ext4 {s t : W4} (h0 : s.a0 = t.a0) (h1 : s.a1 = t.a1) (h2 : s.a2 = t.a2) (h3 : s.a3 = t.a3) : s = t := by
  cases s; cases t; simp_all
theorem W4.Ok.get {s : W4} (h : s.Ok) (q : Nat) : s.get q < 18446744073709551616 := by
  unfold W4.get; split
  · exact h.h0
  split
  · exact h.h1
  split
  · exact h.h2
  · exact h.h3
theorem W4.Ok.put {s : W4} (h : s.Ok) (q : Nat) {v : Nat} (hv : v < 18446744073709551616) : (s.put q v).Ok := by
  unfold W4.put
  split
  · exact ⟨hv, h.h1, h.h2, h.h3⟩
  split
  · exact ⟨h.h0, hv, h.h2, h.h3⟩
  split
  · exact ⟨h.h0, h.h1, hv, h.h3⟩
  · exact ⟨h.h0, h.h1, h.h2, hv⟩
theorem W4.get_put {s : W4} {q v : Nat} (hq : q < 4) (p : Nat) (hp : p < 4) : (s.put q v).get p = if p = q then v else s.get p := by
  rcases (show q = 0 ∨ q = 1 ∨ q = 2 ∨ q = 3 by omega) with rfl | rfl | rfl | rfl <;> rcases (show p = 0 ∨ p = 1 ∨ p = 2 ∨ p = 3 by omega) with rfl | rfl | rfl | rfl <;> simp [W4.put, W4.get]
theorem W4.eq_of_get {s t : W4} (h : ∀ q, q < 4 → s.get q = t.get q) : s = t := by
  have e0 := h 0 (by omega); have e1 := h 1 (by omega); have e2 := h 2 (by omega); have e3 := h 3 (by omega)
  simp [W4.get] at e0 e1 e2 e3
  exact W4.ext4 e0 e1 e2 e3
/-- Is a slot in? -/
def memM (s : W4) (n : Int) : Bool := decide (0 ≤ n ∧ n < 256) && (s.get (n.toNat / 64)).testBit (n.toNat % 64)
/-- With a slot more. -/
def withM (s : W4) (n : Int) : W4 := if 0 ≤ n ∧ n < 256 then s.put (n.toNat / 64) (s.get (n.toNat / 64) ||| 2 ^ (n.toNat % 64)) else s
theorem pow_lt64 {r : Nat} (hr : r < 64) : 2 ^ r < 18446744073709551616 := by
  calc 2 ^ r < 2 ^ 64 := Nat.pow_lt_pow_right (by decide) hr
    _ = 18446744073709551616 := by decide
theorem or_lt64 {a b : Nat} (ha : a < 18446744073709551616) (hb : b < 18446744073709551616) : a ||| b < 18446744073709551616 := Nat.or_lt_two_pow (n := 64) ha hb
theorem withM_ok {s : W4} (h : s.Ok) (n : Int) : (withM s n).Ok := by
  unfold withM
  split
  · exact h.put _ (or_lt64 (h.get _) (pow_lt64 (Nat.mod_lt _ (by decide))))
  · exact h
/-- What is not there is added as by or. -/
theorem add_or {a r : Nat} (ha : a < 18446744073709551616) (hr : r < 64) (h : a.testBit r = false) : a + 2 ^ r = a ||| 2 ^ r := by
  have hp := pow_lt64 hr
  have hand : a &&& 2 ^ r = 0 := by
    apply Nat.eq_of_testBit_eq
    intro i
    rw [Nat.testBit_and, Nat.testBit_two_pow, Nat.zero_testBit]
    by_cases hi : r = i
    · subst hi; simp [h]
    · simp [hi]
  have hx := BitVec.add_eq_or_of_and_eq_zero (w := 65) (BitVec.ofNat 65 a) (BitVec.ofNat 65 (2 ^ r)) (by
    rw [← BitVec.ofNat_and, hand])
  have hx2 := congrArg BitVec.toNat hx
  rw [BitVec.toNat_add, BitVec.toNat_or, BitVec.toNat_ofNat, BitVec.toNat_ofNat, Nat.mod_eq_of_lt (by omega : a < 2 ^ 65), Nat.mod_eq_of_lt (by omega : 2 ^ r < 2 ^ 65), Nat.mod_eq_of_lt (by omega : a + 2 ^ r < 2 ^ 65)] at hx2
  exact hx2
/-- The test by and. -/
theorem test_and {a r : Nat} (hr : r < 64) : (a &&& 2 ^ r = 0) = (a.testBit r = false) := by
  apply propext
  constructor
  · intro h
    have := congrArg (Nat.testBit · r) h
    simpa [Nat.testBit_and, Nat.testBit_two_pow] using this
  · intro h
    apply Nat.eq_of_testBit_eq
    intro i
    rw [Nat.testBit_and, Nat.testBit_two_pow, Nat.zero_testBit]
    by_cases hi : r = i
    · subst hi; simp [h]
    · simp [hi]
theorem test_shr (a r : Nat) : (a / 2 ^ r % 2 = 1) = (a.testBit r = true) := by
  rw [Nat.testBit_eq_decide_div_mod_eq]
  simp
theorem memM_in {s : W4} {n : Nat} (hn : n < 256) : memM s (n : Int) = (s.get (n / 64)).testBit (n % 64) := by
  unfold memM
  simp
  omega
theorem memM_out {s : W4} {n : Int} (hn : ¬ (0 ≤ n ∧ n < 256)) : memM s n = false := by
  unfold memM
  simp [hn]
theorem withM_in {s : W4} {n : Nat} (hn : n < 256) : withM s (n : Int) = s.put (n / 64) (s.get (n / 64) ||| 2 ^ (n % 64)) := by
  unfold withM
  rw [if_pos (by omega)]
  simp
theorem withM_out {s : W4} {n : Int} (hn : ¬ (0 ≤ n ∧ n < 256)) : withM s n = s := if_neg hn
/-- A slot that is not there: the document's sum is the program's or. -/
theorem withM_add {s : W4} (h : s.Ok) {n : Nat} (hn : n < 256) (hm : memM s (n : Int) = false) : s.put (n / 64) (s.get (n / 64) + 2 ^ (n % 64)) = withM s (n : Int) ∧ s.get (n / 64) + 2 ^ (n % 64) < 18446744073709551616 := by
  rw [memM_in hn] at hm
  have e := add_or (h.get (n / 64)) (Nat.mod_lt n (by decide : 0 < 64)) hm
  rw [withM_in hn, e]
  exact ⟨rfl, or_lt64 (h.get _) (pow_lt64 (Nat.mod_lt _ (by decide)))⟩
theorem withM_mem {s : W4} {n : Int} (h : memM s n = true) : withM s n = s := by
  by_cases hn : 0 ≤ n ∧ n < 256
  · obtain ⟨m, rfl⟩ : ∃ m : Nat, n = (m : Int) := ⟨n.toNat, by omega⟩
    have hm : m < 256 := by omega
    rw [memM_in hm] at h
    rw [withM_in hm]
    have e : s.get (m / 64) ||| 2 ^ (m % 64) = s.get (m / 64) := by
      apply Nat.eq_of_testBit_eq
      intro i
      rw [Nat.testBit_or, Nat.testBit_two_pow]
      by_cases hi : m % 64 = i
      · subst hi; simp [h]
      · simp [hi]
    rw [e]
    apply W4.eq_of_get
    intro p hp
    rw [W4.get_put (by omega) p hp]
    split
    · rename_i e; rw [e]
    · rfl
  · exact withM_out hn
theorem memM_with {s : W4} {n : Nat} (hn : n < 256) (m : Nat) (hm : m < 256) : memM (withM s (n : Int)) (m : Int) = (memM s (m : Int) || decide (m = n)) := by
  rw [memM_in hm, memM_in hm, withM_in hn, W4.get_put (by omega) _ (by omega)]
  by_cases hq : m / 64 = n / 64
  · rw [if_pos hq, Nat.testBit_or, Nat.testBit_two_pow, hq]
    congr 1
    apply decide_eq_decide.2
    omega
  · rw [if_neg hq]
    have : ¬ m = n := fun e => hq (by rw [e])
    simp [this]
end Go.Proofs.YtgjmmbhakjalgaaDoor
