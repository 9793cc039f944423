/-
  Numbers as few bytes: the walks of Get, Fold, Unfold, GetInt, the program's and the document's.
-/
import Derived.Test.YtiblcodlaeijfaaUvarP
import Derived.WalkSpells
import Derived.WalkLawsBesides
import Derived.Outline
import Derived.Lib.Hide
namespace Go.Proofs.Ytiblcodlaeijfaa
open Go.RowKit
set_option linter.unusedSimpArgs false
set_option linter.unusedVariables false

/-- A slice of bytes. -/
abbrev SlB (w : World) (B : Nat) (A : Option Addr) (n c : Nat) (l : List Nat) : Prop := SlR 1 0 (RC fun b : Nat => [.int .u8 (b : Int)]) w B A n c l ∧ ∀ b ∈ l, b < 256
theorem slb_of {w : World} {B : Nat} {A : Option Addr} {n c : Nat} {xs : List Int} (h : SlR 1 1 (RInt .u8) w B A n c xs) : ∃ l : List Nat, SlB w B A n c l := by
  have hx : ∀ (i : Nat) (x : Int), xs[i]? = some x → (Lit.int .u8 x).wf = true := by
    intro i x hi
    obtain ⟨h1, h2, h3, h4, h5⟩ := h
    have hlt := (List.getElem?_eq_some_iff.1 hi).1
    obtain ⟨b, off, hA, hb, hx⟩ := h5 (by omega)
    obtain ⟨cs, _, _, hr⟩ := hx i x hi
    exact hr.2
  have hw : ∀ x ∈ xs, 0 ≤ x ∧ x ≤ 255 := by
    intro x hm
    obtain ⟨i, hi, rfl⟩ := List.getElem_of_mem hm
    have := hx i xs[i] (List.getElem?_eq_getElem hi)
    simp [Lit.wf, IntKind.min, IntKind.max, IntKind.signed, IntKind.bits] at this
    omega
  refine ⟨xs.map Int.toNat, ⟨by simpa using h.1, h.2.1, h.2.2.1, by simp, fun hn => ?_⟩, ?_⟩
  · obtain ⟨b, off, hA, hb, hx'⟩ := h.2.2.2.2 hn
    refine ⟨b, off, hA, hb, fun i x hi => ?_⟩
    rw [List.getElem?_map] at hi
    cases hxi : xs[i]? with
    | none => rw [hxi] at hi; cases hi
    | some y =>
      rw [hxi] at hi
      simp at hi
      subst hi
      obtain ⟨cs, h1, h2, h3⟩ := hx' i y hxi
      have := hw y (List.mem_of_getElem? hxi)
      refine ⟨cs, h1, h2, ?_⟩
      rw [h3.1]
      show [Value.int .u8 y] = [Value.int .u8 ((y.toNat : Nat) : Int)]
      rw [Int.toNat_of_nonneg this.1]
  · intro b hb
    obtain ⟨x, hx1, rfl⟩ := List.mem_map.1 hb
    have := hw x hx1
    omega

def getV (l : List Nat) : Value := .tuple #[.int .u64 ((getM l).1 : Int), .int .i64 ((getM l).2.1 : Int), .int .i64 ((getM l).2.2 : Int)]
/-- At byte k, after acc: the rest tells. -/
def GetAt (l : List Nat) (k acc : Nat) : Prop := getM l = getG k acc (l.drop k) ∧ acc < 2 ^ (7 * k)
theorem GetAt.start (l : List Nat) : GetAt l 0 0 := ⟨by simp [getM], by simp⟩
theorem GetAt.step {l : List Nat} {k acc c : Nat} (h : GetAt l k acc) (hc : l[k]? = some c) (h9 : ¬ (k = 9 ∧ 1 < c)) (h128 : 128 ≤ c) (hl : acc + (c - 128) * 2 ^ (7 * k) < 2 ^ (7 * (k + 1))) : GetAt l (k + 1) (acc + (c - 128) * 2 ^ (7 * k)) := by
  refine ⟨?_, hl⟩
  rw [h.1, List.drop_eq_getElem_cons (List.getElem?_eq_some_iff.1 hc).1, (List.getElem?_eq_some_iff.1 hc).2]
  simp only [getG]
  rw [if_neg h9, if_pos h128]
theorem GetAt.form {l : List Nat} {k acc c : Nat} (h : GetAt l k acc) (hc : l[k]? = some c) : ¬ (k = 9 ∧ 1 < c) → ¬ 128 ≤ c → ¬ (c = 0 ∧ 0 < k) → getV l = .tuple #[.int .u64 ((acc + c * 2 ^ (7 * k) : Nat) : Int), .int .i64 ((k + 1 : Nat) : Int), .int .i64 0] := by
  intro h1 h2 h3
  unfold getV
  rw [h.1, List.drop_eq_getElem_cons (List.getElem?_eq_some_iff.1 hc).1, (List.getElem?_eq_some_iff.1 hc).2]
  simp only [getG]
  rw [if_neg h1, if_neg h2, if_neg h3]
  rfl
theorem GetAt.many {l : List Nat} {k acc c : Nat} (h : GetAt l k acc) (hc : l[k]? = some c) (h1 : k = 9 ∧ 1 < c) : getV l = .tuple #[.int .u64 0, .int .i64 0, .int .i64 5] := by
  unfold getV
  rw [h.1, List.drop_eq_getElem_cons (List.getElem?_eq_some_iff.1 hc).1, (List.getElem?_eq_some_iff.1 hc).2]
  simp only [getG]
  rw [if_pos h1]
  rfl
theorem GetAt.long {l : List Nat} {k acc c : Nat} (h : GetAt l k acc) (hc : l[k]? = some c) (h1 : ¬ (k = 9 ∧ 1 < c)) (h2 : ¬ 128 ≤ c) (h3 : c = 0 ∧ 0 < k) : getV l = .tuple #[.int .u64 0, .int .i64 0, .int .i64 4] := by
  unfold getV
  rw [h.1, List.drop_eq_getElem_cons (List.getElem?_eq_some_iff.1 hc).1, (List.getElem?_eq_some_iff.1 hc).2]
  simp only [getG]
  rw [if_neg h1, if_neg h2, if_pos h3]
  rfl
theorem GetAt.short {l : List Nat} {k acc : Nat} (h : GetAt l k acc) (hk : l.length ≤ k) : getV l = .tuple #[.int .u64 0, .int .i64 0, .int .i64 3] := by
  unfold getV
  rw [h.1, List.drop_eq_nil_of_le hk]
  rfl

set_option maxRecDepth 100000 in
set_option maxHeartbeats 2000000 in
theorem uvar_Get_any (B : Nat) (A : Option Addr) (n c : Nat) (l : List Nat) (w : World) (hs : SlB w B A n c l) :
    Calls Try.prog 35 #[.slice A n c] w fun e w' => e = .returned (getV l) ∧ w = w' := by
  obtain ⟨hsl, hby⟩ := hs
  have hm : n ≤ 9223372036854775807 := by have := hsl.2.1; have := hsl.2.2.1; unfold maxLen at this; omega
  have hln : l.length = n := hsl.1
  have HS := Lib.hid hsl
  have HB := Lib.hid hby
  have HL := Lib.hid hln
  clear hsl hby hln
  go_enter Try.func35, Try.ntmps35
  go_wp2
  go_step3
  go_wp2
  go_step3
  go_wp2
  go_loop [5, 6, 7, 12] (fun nn e at_ i => ∃ k acc : Nat, k ≤ 9 ∧ k ≤ n ∧ i = .int .i64 k ∧ nn = .int .u64 acc ∧ e = .int .i64 3 ∧ at_ = .int .i64 0 ∧ GetAt l k acc) (fun _ _ _ i => n - (intOf i).toNat)
  case atStart => exact ⟨0, 0, by omega, by omega, rfl, rfl, rfl, rfl, GetAt.start l⟩
  case round =>
    obtain ⟨k, acc, hk9, hkn, rfl, rfl, rfl, rfl, hat⟩ := hrel
    have HT := Lib.hid hat
    clear hat
    by_cases hlt : k < n
    · obtain ⟨b, off, x, rfl, _, hx, hc⟩ := SlR.cell1 (f := fun b : Nat => Value.int .u8 (b : Int)) HS.out hlt
      have hx256 : x < 256 := HB.out x (List.mem_of_getElem? hx)
      have HX := Lib.hid hx
      clear hx
      by_cases h9 : k = 9 ∧ 1 < x
      · have hv : Hid (getV l = .tuple #[.int .u64 0, .int .i64 0, .int .i64 5]) := HT.out.many HX.out h9
        obtain ⟨rfl, h1x⟩ := h9
        have h1x' : (1 : Int) < (x : Int) := by omega
        go_wp2
        go_ret3
        exact ⟨by rw [hv.out]; rfl, rfl⟩
      · by_cases h128 : 128 ≤ x
        · have hk8 : k ≤ 8 := by omega
          have hk9' : ((k : Int) == 9) = false := by rw [beq_eq_false_iff_ne]; omega
          obtain ⟨ho, hb2⟩ := or_step h128 hx256 hk8 HT.out.2
          have hnext := HT.out.step HX.out h9 h128 hb2
          have HN := Lib.hid hnext
          have HO := Lib.hid ho
          have h128' : (128 : Int) ≤ (x : Int) := by omega
          have hsb : (7 * (k : Int)) ≤ 56 := by omega
          clear hnext ho hb2 h9
          go_wp2
          go_round
          case rel => exact ⟨k + 1, _, by omega, by omega, by go_num, by rw [HO.out], rfl, rfl, HN.out⟩
          case measure => simp [intOf]; omega
        · have h128' : (x : Int) < 128 := by omega
          by_cases h0 : x = 0 ∧ 0 < k
          · have hv : Hid (getV l = .tuple #[.int .u64 0, .int .i64 0, .int .i64 4]) := HT.out.long HX.out h9 h128 h0
            obtain ⟨rfl, hk0⟩ := h0
            have hk0' : (0 : Int) < (k : Int) := by omega
            clear h9
            by_cases hk9' : k = 9
            · subst hk9'
              go_wp2
              go_ret3
              exact ⟨by rw [hv.out]; rfl, rfl⟩
            · have hk9'' : ((k : Int) == 9) = false := by rw [beq_eq_false_iff_ne]; omega
              clear hk9'
              go_wp2
              go_ret3
              exact ⟨by rw [hv.out]; rfl, rfl⟩
          · have hv : Hid (getV l = .tuple #[.int .u64 ((acc + x * 2 ^ (7 * k) : Nat) : Int), .int .i64 ((k + 1 : Nat) : Int), .int .i64 0]) := HT.out.form HX.out h9 h128 h0
            have ho := or_last (by omega) hk9 (by omega) HT.out.2 (c := x)
            have HO := Lib.hid ho
            clear ho
            by_cases hk9' : k = 9
            · subst hk9'
              obtain rfl : x = 1 := by omega
              have HO9 := Lib.hid (or_nine HT.out.2)
              clear h0 h9
              go_wp2
              go_ret3
              exact ⟨by rw [hv.out, ← HO9.out]; rfl, rfl⟩
            · have hk9'' : ((k : Int) == 9) = false := by rw [beq_eq_false_iff_ne]; omega
              clear hk9' h9
              by_cases hx0 : x = 0
              · have hk0 : k = 0 := by omega
                have hx0t : ((x : Int) == 0) = true := by rw [beq_iff_eq]; omega
                have hk0f : decide ((0 : Int) < (k : Int)) = false := by simp; omega
                have hk0g : ¬ ((0 : Int) < (k : Int)) := by omega
                clear hx0 hk0 h0
                go_wp2
                go_ret3
                exact ⟨by rw [hv.out, ← HO.out]; rfl, rfl⟩
              · have hx0' : ((x : Int) == 0) = false := by rw [beq_eq_false_iff_ne]; omega
                clear hx0 h0
                go_wp2
                go_ret3
                exact ⟨by rw [hv.out, ← HO.out]; rfl, rfl⟩
    · have hv : Hid (getV l = .tuple #[.int .u64 0, .int .i64 0, .int .i64 3]) := HT.out.short (by rw [HL.out]; omega)
      go_wp2
      go_ret3
      exact ⟨by rw [hv.out]; rfl, rfl⟩
end Go.Proofs.Ytiblcodlaeijfaa
