/-
  Numbers as few bytes: the plain law. What is put is got, what is got is put.
-/
import Derived.Test.YtgjmmbhakjalgaaDoorRead
import Derived.Laws.BitsAllLaws
import Derived.Laws.BitsLemmas
import Derived.Laws.Bits64
import Derived.Laws.ShiftsVarLaws
namespace Go.Proofs.YtgjmmbhakjalgaaDoor
open Go.RowKit

/-- The bytes of a number. -/
def putF : Nat → Nat → List Nat
  | 0, n => [n]
  | f + 1, n => if n < 128 then [n] else (n % 128 + 128) :: putF f (n / 128)
def putM (n : Nat) : List Nat := putF 9 n
/-- The number that bytes begin with, at the i-th byte, what came before together. -/
def getG (i acc : Nat) : List Nat → Nat × Nat × Nat
  | [] => (0, 0, 3)
  | c :: r => if i = 9 ∧ 1 < c then (0, 0, 5) else if 128 ≤ c then getG (i + 1) (acc + (c - 128) * 2 ^ (7 * i)) r else if c = 0 ∧ 0 < i then (0, 0, 4) else (acc + c * 2 ^ (7 * i), i + 1, 0)
def getM (l : List Nat) : Nat × Nat × Nat := getG 0 0 l

theorem pow_step (i : Nat) : 2 ^ (7 * (i + 1)) = 128 * 2 ^ (7 * i) := by
  rw [show 7 * (i + 1) = 7 + 7 * i by omega, Nat.pow_add]
theorem putF_len : ∀ f n, 1 ≤ (putF f n).length ∧ (putF f n).length ≤ f + 1
  | 0, n => by simp [putF]
  | f + 1, n => by
    unfold putF
    split
    · simp
    · have := putF_len f (n / 128)
      simp only [List.length_cons]
      omega
theorem putF_byte : ∀ f n, n < 2 * 128 ^ f → ∀ b ∈ putF f n, b < 256
  | 0, n, h, b, hb => by simp [putF] at hb; subst hb; simp at h; omega
  | f + 1, n, h, b, hb => by
    unfold putF at hb
    split at hb
    · simp at hb; omega
    · rcases List.mem_cons.1 hb with rfl | hb
      · omega
      · refine putF_byte f (n / 128) ?_ b hb
        have : n < 128 * (2 * 128 ^ f) := by rw [Nat.pow_succ] at h; omega
        exact Nat.div_lt_of_lt_mul this

theorem get_put : ∀ (f i acc n : Nat) (rest : List Nat), i + f = 9 → n < 2 * 128 ^ f → (0 < i → 1 ≤ n) → getG i acc (putF f n ++ rest) = (acc + n * 2 ^ (7 * i), i + (putF f n).length, 0)
  | 0, i, acc, n, rest, hi, hn, h1 => by
    have : i = 9 := by omega
    subst this
    have h1 := h1 (by omega)
    simp at hn
    simp only [putF, List.cons_append, List.nil_append, getG]
    rw [if_neg (by omega), if_neg (by omega), if_neg (by omega)]
    rfl
  | f + 1, i, acc, n, rest, hi, hn, h1 => by
    unfold putF
    by_cases hlt : n < 128
    · rw [if_pos hlt]
      simp only [List.cons_append, List.nil_append, getG]
      rw [if_neg (by omega), if_neg (by omega), if_neg (by omega)]
      rfl
    · rw [if_neg hlt]
      simp only [List.cons_append, getG]
      rw [if_neg (by omega), if_pos (by omega), get_put f (i + 1) _ (n / 128) rest (by omega) (by
        have : n < 128 * (2 * 128 ^ f) := by rw [Nat.pow_succ] at hn; omega
        exact Nat.div_lt_of_lt_mul this) (by omega)]
      rw [pow_step]
      have e1 : n % 128 + 128 - 128 = n % 128 := by omega
      have e2 : n / 128 * (128 * 2 ^ (7 * i)) = (n / 128 * 128) * 2 ^ (7 * i) := by rw [Nat.mul_assoc]
      have e3 : (n % 128) * 2 ^ (7 * i) + (n / 128 * 128) * 2 ^ (7 * i) = n * 2 ^ (7 * i) := by
        have e4 := Nat.add_mul (n % 128) (n / 128 * 128) (2 ^ (7 * i))
        have e5 : n % 128 + n / 128 * 128 = n := by omega
        rw [e5] at e4
        exact e4.symm
      rw [e1, e2, Nat.add_assoc, e3]
      simp only [List.length_cons, Prod.mk.injEq, true_and, and_true]
      omega

theorem put_get (l : List Nat) : ∀ (i acc n k : Nat), i ≤ 9 → (∀ b ∈ l, b < 256) → getG i acc l = (n, k, 0) →
    ∃ m, n = acc + m * 2 ^ (7 * i) ∧ i < k ∧ k - i ≤ l.length ∧ putF (9 - i) m = l.take (k - i) ∧ m < 2 * 128 ^ (9 - i) ∧ (0 < i → 1 ≤ m) := by
  induction l with
  | nil =>
    intro i acc n k _ _ h
    simp [getG] at h
  | cons c r ih =>
    intro i acc n k hi hb h
    unfold getG at h
    have hc := hb c (by simp)
    split at h
    · simp at h
    · rename_i h9
      split at h
      · rename_i h128
        have hi9 : i < 9 := by omega
        obtain ⟨m, hn, hk, hl, hp, hm, hm1⟩ := ih (i + 1) _ n k (by omega) (fun b hb' => hb b (by simp [hb'])) h
        have hm1 := hm1 (by omega)
        have ef : 9 - i = (9 - (i + 1)) + 1 := by omega
        refine ⟨(c - 128) + 128 * m, ?_, by omega, by simp only [List.length_cons]; omega, ?_, ?_, by omega⟩
        · rw [hn, pow_step, Nat.add_mul, Nat.add_assoc]
          congr 2
          rw [Nat.mul_comm 128 m, Nat.mul_assoc]
        · rw [ef]
          unfold putF
          rw [if_neg (by omega)]
          have e1 : (c - 128 + 128 * m) % 128 + 128 = c := by omega
          have e2 : (c - 128 + 128 * m) / 128 = m := by omega
          rw [e1, e2, hp]
          have e3 : k - i = (k - (i + 1)) + 1 := by omega
          rw [e3, List.take_succ_cons]
        · rw [ef, Nat.pow_succ]
          omega
      · rename_i h128
        split at h
        · simp at h
        · rename_i h0
          simp only [Prod.mk.injEq, and_true] at h
          obtain ⟨rfl, rfl⟩ := h
          have e1 : i + 1 - i = 1 := by omega
          refine ⟨c, rfl, by omega, by simp only [List.length_cons]; omega, ?_, ?_, by omega⟩
          · rw [e1]
            simp only [List.take_succ_cons, List.take_zero]
            by_cases hi9 : i = 9
            · subst hi9; rfl
            · have ef : 9 - i = (9 - (i + 1)) + 1 := by omega
              rw [ef]
              unfold putF
              rw [if_pos (by omega)]
          · by_cases hi9 : i = 9
            · subst hi9; simp; omega
            · have ef : 9 - i = (9 - (i + 1)) + 1 := by omega
              rw [ef, Nat.pow_succ]
              have : 0 < 128 ^ (9 - (i + 1)) := Nat.pos_of_ne_zero (by simp)
              omega

theorem lim9 : 2 * 128 ^ 9 = 18446744073709551616 := by decide
theorem get_back (u : Nat) (rest : List Nat) (h : u < 18446744073709551616) : getM (putM u ++ rest) = (u, (putM u).length, 0) := by
  unfold getM putM
  rw [get_put 9 0 0 u rest rfl (by rw [lim9]; exact h) (by omega)]
  simp
theorem get_just {l : List Nat} {n k : Nat} (hb : ∀ b ∈ l, b < 256) (h : getM l = (n, k, 0)) : 0 < k ∧ k ≤ l.length ∧ putM n = l.take k ∧ n < 18446744073709551616 := by
  obtain ⟨m, hn, hk, hl, hp, hm, _⟩ := put_get l 0 0 n k (by omega) hb h
  have : n = m := by simpa using hn
  subst this
  refine ⟨hk, by simpa using hl, by unfold putM; simpa using hp, by rw [← lim9]; exact hm⟩
/-- Where nothing is got, nought. -/
theorem get_none : ∀ (l : List Nat) (i acc : Nat), (getG i acc l).2.2 ≠ 0 → (getG i acc l).1 = 0 ∧ (getG i acc l).2.1 = 0
  | [], i, acc, _ => ⟨rfl, rfl⟩
  | c :: r, i, acc, h => by
    unfold getG at h ⊢
    split
    · exact ⟨rfl, rfl⟩
    · rename_i h9
      rw [if_neg h9] at h
      split
      · rename_i h128
        rw [if_pos h128] at h
        exact get_none r _ _ h
      · rename_i h128
        rw [if_neg h128] at h
        split
        · exact ⟨rfl, rfl⟩
        · rename_i h0
          rw [if_neg h0] at h
          exact absurd rfl h

/-! The signs. -/
def foldM (n : Int) : Nat := if n < 0 then (2 * (-(n + 1)) + 1).toNat else (2 * n).toNat
def unfoldM (u : Nat) : Int := if u % 2 = 1 then -((u / 2 : Nat) : Int) - 1 else ((u / 2 : Nat) : Int)
theorem unfold_fold (n : Int) : unfoldM (foldM n) = n := by
  unfold unfoldM foldM
  by_cases h : n < 0
  · rw [if_pos h, if_pos (by omega)]; omega
  · rw [if_neg h, if_neg (by omega)]; omega
theorem fold_lt {n : Int} (h : -9223372036854775808 ≤ n ∧ n ≤ 9223372036854775807) : foldM n < 18446744073709551616 := by
  unfold foldM
  split <;> omega
theorem unfold_in {u : Nat} (h : u < 18446744073709551616) : -9223372036854775808 ≤ unfoldM u ∧ unfoldM u ≤ 9223372036854775807 := by
  unfold unfoldM
  split <;> omega

theorem u64w (n : Int) : IntKind.u64.wrap n = n % 18446744073709551616 := IntKind.wrap_u64 n
theorem xor_ones (x : Nat) (h : x < 18446744073709551616) : x ^^^ 18446744073709551615 = 18446744073709551615 - x := by
  have h1 : (BitVec.ofNat 64 x ^^^ BitVec.allOnes 64).toNat = (~~~ BitVec.ofNat 64 x).toNat := by rw [BitVec.xor_allOnes]
  rw [BitVec.toNat_xor, BitVec.toNat_not, BitVec.toNat_ofNat, BitVec.toNat_allOnes, Nat.mod_eq_of_lt h] at h1
  exact h1
/-- The program's Fold. -/
theorem fold_prog {n : Int} (h : -9223372036854775808 ≤ n ∧ n ≤ 9223372036854775807) :
    bits .xor .u64 (IntKind.u64.wrap (IntKind.u64.wrap n * 2)) (IntKind.u64.wrap (n / 9223372036854775808)) = ((foldM n : Nat) : Int) := by
  rw [u64w, u64w, u64w, u64_xor _ _ (by omega) (by omega) (by omega) (by omega)]
  unfold foldM
  by_cases hn : n < 0
  · rw [if_pos hn]
    have e1 : (n / 9223372036854775808 % 18446744073709551616).toNat = 18446744073709551615 := by omega
    have e2 : (n % 18446744073709551616 * 2 % 18446744073709551616).toNat = (2 * n + 18446744073709551616).toNat := by omega
    rw [e1, e2, xor_ones _ (by omega)]
    omega
  · rw [if_neg hn]
    have e1 : (n / 9223372036854775808 % 18446744073709551616).toNat = 0 := by omega
    rw [e1, Nat.xor_zero]
    omega
/-- The document's Fold. -/
theorem fold_ref_neg {n : Int} (h : -9223372036854775808 ≤ n ∧ n ≤ 9223372036854775807) (hn : n < 0) :
    IntKind.u64.wrap (IntKind.u64.wrap (2 * IntKind.u64.wrap (wrap64 (-wrap64 (n + 1)))) + 1) = ((foldM n : Nat) : Int) := by
  rw [u64w, u64w, u64w]
  unfold foldM wrap64
  rw [if_pos hn]
  omega
theorem fold_ref_pos {n : Int} (h : -9223372036854775808 ≤ n ∧ n ≤ 9223372036854775807) (hn : ¬ n < 0) :
    IntKind.u64.wrap (2 * IntKind.u64.wrap n) = ((foldM n : Nat) : Int) := by
  rw [u64w, u64w]
  unfold foldM
  rw [if_neg hn]
  omega
/-- The program's Unfold. -/
theorem unfold_prog {u : Nat} (h : u < 18446744073709551616) :
    bits .xor .i64 (wrap64 ((u : Int) / 2)) (wrap64 (-wrap64 (bits .and .u64 (u : Int) 1))) = unfoldM u := by
  have e0 : bits .and .u64 (u : Int) 1 = ((u % 2 : Nat) : Int) := by
    have := u64_and_nat u 1 h (by omega)
    rw [nat_mask1] at this
    exact this
  rw [e0]
  have e1 : wrap64 ((u : Int) / 2) = ((u / 2 : Nat) : Int) := by unfold wrap64; omega
  rw [e1]
  unfold unfoldM
  by_cases hu : u % 2 = 1
  · rw [if_pos hu, hu]
    have e2 : wrap64 (-wrap64 ((1 : Nat) : Int)) = -1 := by unfold wrap64; omega
    rw [e2]
    show IntKind.i64.wrap ((BitVec.ofInt 64 ((u / 2 : Nat) : Int) ^^^ BitVec.ofInt 64 (-1)).toNat : Int) = _
    rw [show BitVec.ofInt 64 (-1) = BitVec.allOnes 64 from by decide, BitVec.xor_allOnes, BitVec.toNat_not, BitVec.ofInt_natCast, BitVec.toNat_ofNat, IntKind.wrap_i64]
    have e3 : (u / 2) % 2 ^ 64 = u / 2 := Nat.mod_eq_of_lt (by omega)
    rw [e3]
    omega
  · rw [if_neg hu]
    have e2 : u % 2 = 0 := by omega
    rw [e2]
    have e3 : wrap64 (-wrap64 ((0 : Nat) : Int)) = 0 := by unfold wrap64; omega
    rw [e3]
    show IntKind.i64.wrap ((BitVec.ofInt 64 ((u / 2 : Nat) : Int) ^^^ BitVec.ofInt 64 0).toNat : Int) = _
    rw [show BitVec.ofInt 64 0 = 0#64 from by decide, BitVec.xor_zero, BitVec.ofInt_natCast, BitVec.toNat_ofNat, IntKind.wrap_i64]
    have e4 : (u / 2) % 2 ^ 64 = u / 2 := Nat.mod_eq_of_lt (by omega)
    rw [e4]
    omega
/-- The document's Unfold. -/
theorem unfold_ref_odd {u : Nat} (h : u < 18446744073709551616) (hu : u % 2 = 1) :
    wrap64 (wrap64 (-wrap64 (IntKind.u64.wrap ((u : Int).tdiv 2))) - 1) = unfoldM u := by
  rw [u64w, Int.tdiv_eq_ediv_of_nonneg (by omega)]
  unfold unfoldM wrap64
  rw [if_pos hu]
  omega
theorem unfold_ref_even {u : Nat} (h : u < 18446744073709551616) (hu : ¬ u % 2 = 1) :
    wrap64 (IntKind.u64.wrap ((u : Int).tdiv 2)) = unfoldM u := by
  rw [u64w, Int.tdiv_eq_ediv_of_nonneg (by omega)]
  unfold unfoldM wrap64
  rw [if_neg hu]
  omega

/-! One byte more, the program's way: the bits of it at their place. -/
theorem or_step {acc c k : Nat} (hc1 : 128 ≤ c) (hc2 : c < 256) (hk : k ≤ 8) (ha : acc < 2 ^ (7 * k)) :
    bits .or .u64 (acc : Int) (IntKind.u64.wrap (IntKind.u64.wrap (bits .andNot .u8 (c : Int) 128) * 2 ^ (7 * k))) = ((acc + (c - 128) * 2 ^ (7 * k) : Nat) : Int) ∧ acc + (c - 128) * 2 ^ (7 * k) < 2 ^ (7 * (k + 1)) := by
  have hp : 2 ^ (7 * k) ≤ 2 ^ 56 := Nat.pow_le_pow_right (by omega) (by omega)
  have hs : acc + (c - 128) * 2 ^ (7 * k) < 2 ^ (7 * (k + 1)) := by
    rw [pow_step]
    have : (c - 128) * 2 ^ (7 * k) ≤ 127 * 2 ^ (7 * k) := Nat.mul_le_mul_right _ (by omega)
    omega
  refine ⟨?_, hs⟩
  have hm : (c - 128) * 2 ^ (7 * k) ≤ 127 * 2 ^ 56 := Nat.mul_le_mul (by omega) hp
  have e0 : bits .andNot .u8 (c : Int) 128 = ((c - 128 : Nat) : Int) := by
    have h1 := u8_andNot_nat c 128 hc2 (by omega)
    have h2 : c &&& (255 - 128) = c - 128 := by
      show c &&& 127 = _
      rw [nat_mask7]
      omega
    rw [h2] at h1
    exact h1
  have e1 : IntKind.u64.wrap (((c - 128 : Nat) : Int)) = ((c - 128 : Nat) : Int) := by rw [u64w]; omega
  have e2 : IntKind.u64.wrap (((c - 128 : Nat) : Int) * 2 ^ (7 * k)) = (((c - 128) * 2 ^ (7 * k) : Nat) : Int) := by
    rw [u64w]
    have : (((c - 128 : Nat) : Int) * 2 ^ (7 * k)) = (((c - 128) * 2 ^ (7 * k) : Nat) : Int) := by
      rw [Int.natCast_mul, Int.natCast_pow]; rfl
    rw [this]
    omega
  rw [e0, e1, e2, u64_or_nat _ _ (by omega) (by omega), Nat.or_comm, nat_join (7 * k) _ _ (Nat.mul_mod_left _ _) ha, Nat.add_comm]
theorem or_last {acc c k : Nat} (hc2 : c < 128) (hk : k ≤ 9) (h9 : k = 9 → c ≤ 1) (ha : acc < 2 ^ (7 * k)) :
    bits .or .u64 (acc : Int) (IntKind.u64.wrap ((c : Int) * 2 ^ (7 * k))) = ((acc + c * 2 ^ (7 * k) : Nat) : Int) := by
  have hm : c * 2 ^ (7 * k) < 18446744073709551616 := by
    by_cases h : k = 9
    · subst h
      have := h9 rfl
      have h2 : c * 2 ^ (7 * 9) ≤ 1 * 2 ^ (7 * 9) := Nat.mul_le_mul_right _ this
      omega
    · have hp : 2 ^ (7 * k) ≤ 2 ^ 56 := Nat.pow_le_pow_right (by omega) (by omega)
      have h2 : c * 2 ^ (7 * k) ≤ 127 * 2 ^ 56 := Nat.mul_le_mul (by omega) hp
      omega
  have hp2 : 2 ^ (7 * k) ≤ 2 ^ 63 := Nat.pow_le_pow_right (by omega) (by omega)
  have e2 : IntKind.u64.wrap ((c : Int) * 2 ^ (7 * k)) = ((c * 2 ^ (7 * k) : Nat) : Int) := by
    rw [u64w]
    have : ((c : Int) * 2 ^ (7 * k)) = ((c * 2 ^ (7 * k) : Nat) : Int) := by
      rw [Int.natCast_mul, Int.natCast_pow]; rfl
    rw [this]
    omega
  rw [e2, u64_or_nat _ _ (by omega) hm, Nat.or_comm, nat_join (7 * k) _ _ (Nat.mul_mod_left _ _) ha, Nat.add_comm]
theorem or_nine {acc : Nat} (ha : acc < 2 ^ (7 * 9)) : bits .or .u64 (acc : Int) 9223372036854775808 = ((acc + 1 * 2 ^ (7 * 9) : Nat) : Int) := by
  have h := or_last (c := 1) (k := 9) (by omega) (by omega) (by omega) ha
  have e : IntKind.u64.wrap (((1 : Nat) : Int) * 2 ^ (7 * 9)) = 9223372036854775808 := by decide
  rw [e] at h
  exact h
end Go.Proofs.YtgjmmbhakjalgaaDoor
