/-
  The bytes of a number, by the document (out of r1's texts).
-/
import Derived.Test.YtiblcodlaeijfaaUvar
namespace Go.Proofs.Ytiblcodlaeijfaa
open Go.RowKit
set_option linter.unusedSimpArgs false
set_option linter.unusedVariables false
theorem getG_bounds (l : List Nat) : ∀ (i acc : Nat), i ≤ 9 → acc < 2 ^ (7 * i) → (∀ b ∈ l, b < 256) → (getG i acc l).1 < 18446744073709551616 := by
  induction l with
  | nil => intro i acc _ _ _; simp [getG]
  | cons c r ih =>
    intro i acc hi ha hb
    have hc := hb c (by simp)
    unfold getG
    split
    · simp
    · rename_i h9
      split
      · rename_i h128
        refine ih (i + 1) _ (by omega) (or_step h128 hc (by omega) ha).2 (fun b hb' => hb b (by simp [hb']))
      · rename_i h128
        split
        · simp
        · have h := or_last (acc := acc) (c := c) (k := i) (by omega) hi (by omega) ha
          show acc + c * 2 ^ (7 * i) < _
          by_cases h9' : i = 9
          · subst h9'
            have : c * 2 ^ (7 * 9) ≤ 1 * 2 ^ (7 * 9) := Nat.mul_le_mul_right _ (by omega)
            omega
          · have hp : 2 ^ (7 * i) ≤ 2 ^ 56 := Nat.pow_le_pow_right (by omega) (by omega)
            have h2 : c * 2 ^ (7 * i) ≤ 127 * 2 ^ 56 := Nat.mul_le_mul (by omega) hp
            omega
theorem getM_lt {l : List Nat} (h : ∀ b ∈ l, b < 256) : (getM l).1 < 18446744073709551616 := getG_bounds l 0 0 (by omega) (by simp) h
theorem ref_step {acc c k : Nat} (hc : c < 256) (hk : k ≤ 9) (h9 : k = 9 → c ≤ 1) (ha : acc < 2 ^ (7 * k)) :
    IntKind.u64.wrap ((acc : Int) + IntKind.u64.wrap (((c : Int) % 128) * ((2 ^ (7 * k) : Nat) : Int))) = ((acc + (c % 128) * 2 ^ (7 * k) : Nat) : Int) := by
  have hm : (c % 128) * 2 ^ (7 * k) + acc < 18446744073709551616 := by
    by_cases h : k = 9
    · subst h
      have := h9 rfl
      have h2 : (c % 128) * 2 ^ (7 * 9) ≤ 1 * 2 ^ (7 * 9) := Nat.mul_le_mul_right _ (by omega)
      omega
    · have hp : 2 ^ (7 * k) ≤ 2 ^ 56 := Nat.pow_le_pow_right (by omega) (by omega)
      have h2 : (c % 128) * 2 ^ (7 * k) ≤ 127 * 2 ^ 56 := Nat.mul_le_mul (by omega) hp
      omega
  have e : ((c : Int) % 128) * ((2 ^ (7 * k) : Nat) : Int) = (((c % 128) * 2 ^ (7 * k) : Nat) : Int) := by
    rw [Int.natCast_mul]; rfl
  rw [e, u64w, u64w]
  omega
theorem ref_pow {k : Nat} (hk : k ≤ 8) : IntKind.u64.wrap (((2 ^ (7 * k) : Nat) : Int) * 128) = ((2 ^ (7 * (k + 1)) : Nat) : Int) := by
  have hp : 2 ^ (7 * k) ≤ 2 ^ 56 := Nat.pow_le_pow_right (by omega) (by omega)
  rw [pow_step, u64w]
  omega
set_option maxRecDepth 100000 in
set_option maxHeartbeats 2000000 in
theorem ref_Get_any (B : Nat) (A : Option Addr) (n c : Nat) (l : List Nat) (w : World) (hs : SlB w B A n c l) :
    Calls Try.prog 23 #[.slice A n c] w fun e w' => e = .returned (getV l) ∧ w = w' := by
  obtain ⟨hsl, hby⟩ := hs
  have hm : n ≤ 9223372036854775807 := by have := hsl.2.1; have := hsl.2.2.1; unfold maxLen at this; omega
  have hln : l.length = n := hsl.1
  have HS := Lib.hid hsl
  have HB := Lib.hid hby
  have HL := Lib.hid hln
  clear hsl hby hln
  go_enter Try.func23, Try.ntmps23
  go_wp2
  go_loop [5, 6, 7] (fun nn st i => ∃ k acc p : Nat, k ≤ 9 ∧ k ≤ n ∧ i = .int .i64 k ∧ nn = .int .u64 acc ∧ st = .int .u64 p ∧ 2 ^ (7 * k) = p ∧ GetAt l k acc) (fun _ _ i => n - (intOf i).toNat)
  case atStart => exact ⟨0, 0, 1, by omega, by omega, rfl, rfl, rfl, rfl, GetAt.start l⟩
  case round =>
    obtain ⟨k, acc, p, hk9, hkn, rfl, rfl, rfl, hp, hat⟩ := hrel
    have HT := Lib.hid hat
    have HP := Lib.hid hp
    clear hat hp
    by_cases hlt : k < n
    · obtain ⟨b, off, x, rfl, _, hx, hc⟩ := SlR.cell1 (f := fun b : Nat => Value.int .u8 (b : Int)) HS.out hlt
      have hx256 : x < 256 := HB.out x (List.mem_of_getElem? hx)
      have HX := Lib.hid hx
      clear hx
      by_cases h9 : k = 9 ∧ 1 < x
      · have hv : Hid (getV l = .tuple #[.int .u64 0, .int .i64 0, .int .i64 5]) := HT.out.many HX.out h9
        obtain ⟨rfl, h1x⟩ := h9
        have h1x' : (1 : Int) < (x : Int) := by omega
        go_wp2
        go_ret3
        exact ⟨by rw [hv.out]; rfl, rfl⟩
      · have hst := ref_step (acc := acc) (c := x) (k := k) hx256 hk9 (by omega) HT.out.2
        rw [HP.out] at hst
        have HO := Lib.hid hst
        clear hst
        by_cases h128 : 128 ≤ x
        · have hk8 : k ≤ 8 := by omega
          have hk9' : ((k : Int) == 9) = false := by rw [beq_eq_false_iff_ne]; omega
          have hnext := HT.out.step HX.out h9 h128 (or_step h128 hx256 hk8 HT.out.2).2
          have HN := Lib.hid hnext
          have hpw := ref_pow hk8
          rw [HP.out] at hpw
          have HW := Lib.hid hpw
          have hge : (128 : Int) ≤ (x : Int) := by omega
          clear hnext h9 hpw
          go_wp2
          go_round
          case rel =>
            refine ⟨k + 1, acc + (x - 128) * 2 ^ (7 * k), 2 ^ (7 * (k + 1)), by omega, by omega, by go_num, ?_, by rw [HW.out], rfl, HN.out⟩
            rw [HO.out, ← HP.out]
            have : x % 128 = x - 128 := by omega
            rw [this]
          case measure => simp [intOf]; omega
        · have h128' : (x : Int) < 128 := by omega
          have hmod : x % 128 = x := by omega
          rw [hmod] at HO
          by_cases h0 : x = 0 ∧ 0 < k
          · have hv : Hid (getV l = .tuple #[.int .u64 0, .int .i64 0, .int .i64 4]) := HT.out.long HX.out h9 h128 h0
            obtain ⟨rfl, hk0⟩ := h0
            have hk0' : (0 : Int) < (k : Int) := by omega
            clear h9
            by_cases hk9' : k = 9
            · subst hk9'
              go_wp2
              go_ret3
              exact ⟨by rw [hv.out]; rfl, rfl⟩
            · have hk9'' : ((k : Int) == 9) = false := by rw [beq_eq_false_iff_ne]; omega
              clear hk9'
              go_wp2
              go_ret3
              exact ⟨by rw [hv.out]; rfl, rfl⟩
          · have hv : Hid (getV l = .tuple #[.int .u64 ((acc + x * 2 ^ (7 * k) : Nat) : Int), .int .i64 ((k + 1 : Nat) : Int), .int .i64 0]) := HT.out.form HX.out h9 h128 h0
            rw [HP.out] at hv
            clear hmod
            by_cases hk9' : k = 9
            · have hk9'' : ((k : Int) == 9) = true := by rw [beq_iff_eq]; omega
              have hx1 : (x : Int) ≤ 1 := by omega
              have hx1' : decide ((1 : Int) < (x : Int)) = false := by simp; omega
              have hx0 : ((x : Int) == 0) = false := by rw [beq_eq_false_iff_ne]; omega
              clear h0 h9 hk9'
              go_wp2
              go_ret3
              exact ⟨by rw [hv.out, ← HO.out]; rfl, rfl⟩
            · have hk9'' : ((k : Int) == 9) = false := by rw [beq_eq_false_iff_ne]; omega
              clear hk9' h9
              by_cases hx0 : x = 0
              · have hx0t : ((x : Int) == 0) = true := by rw [beq_iff_eq]; omega
                have hk0f : decide ((0 : Int) < (k : Int)) = false := by simp; omega
                have hk0g : ¬ ((0 : Int) < (k : Int)) := by omega
                clear hx0 h0
                go_wp2
                go_ret3
                exact ⟨by rw [hv.out, ← HO.out]; rfl, rfl⟩
              · have hx0' : ((x : Int) == 0) = false := by rw [beq_eq_false_iff_ne]; omega
                clear hx0 h0
                go_wp2
                go_ret3
                exact ⟨by rw [hv.out, ← HO.out]; rfl, rfl⟩
    · have hv : Hid (getV l = .tuple #[.int .u64 0, .int .i64 0, .int .i64 3]) := HT.out.short (by rw [HL.out]; omega)
      go_wp2
      go_ret3
      exact ⟨by rw [hv.out]; rfl, rfl⟩
end Go.Proofs.Ytiblcodlaeijfaa
