import Derived.Test.YtobmjnmcjddhcaaGreatCFs0
import Derived.Laws.BitsAllLaws
set_option linter.unusedSimpArgs false
set_option linter.unusedVariables false
set_option maxRecDepth 100000
namespace Go.Proofs.YtobmjnmcjddhcaaGreat
open Go.RowKit
def orW (s t : W4) : W4 := ⟨s.a0 ||| t.a0, s.a1 ||| t.a1, s.a2 ||| t.a2, s.a3 ||| t.a3⟩
def subW (s t : W4) : W4 := ⟨s.a0 &&& (18446744073709551615 - t.a0), s.a1 &&& (18446744073709551615 - t.a1), s.a2 &&& (18446744073709551615 - t.a2), s.a3 &&& (18446744073709551615 - t.a3)⟩
theorem orW_ok {s t : W4} (hs : s.Ok) (ht : t.Ok) : (orW s t).Ok := ⟨or_lt64 hs.h0 ht.h0, or_lt64 hs.h1 ht.h1, or_lt64 hs.h2 ht.h2, or_lt64 hs.h3 ht.h3⟩
theorem subW_ok {s t : W4} (hs : s.Ok) : (subW s t).Ok := ⟨Nat.lt_of_le_of_lt Nat.and_le_left hs.h0, Nat.lt_of_le_of_lt Nat.and_le_left hs.h1, Nat.lt_of_le_of_lt Nat.and_le_left hs.h2, Nat.lt_of_le_of_lt Nat.and_le_left hs.h3⟩
theorem ror_any (s t : W4) (hs : s.Ok) (ht : t.Ok) (w : World) : Calls Tryz.prog 155 #[aggW s, aggW t] w (IsW (orW s t) w) := by
 refine (refOr_any _ _ _ _ _ _ _ _ w).mono ?_
 rintro e w' ⟨rfl, hb⟩
 refine ⟨?_, hb⟩
 unfold oU
 rw [bits_or_u64_nat _ _ hs.h0 ht.h0, bits_or_u64_nat _ _ hs.h1 ht.h1, bits_or_u64_nat _ _ hs.h2 ht.h2, bits_or_u64_nat _ _ hs.h3 ht.h3]
 rfl
theorem rsub_any (s t : W4) (hs : s.Ok) (ht : t.Ok) (w : World) : Calls Tryz.prog 160 #[aggW s, aggW t] w (IsW (subW s t) w) := by
 refine (refSub_any _ _ _ _ _ _ _ _ w).mono ?_
 rintro e w' ⟨rfl, hb⟩
 refine ⟨?_, hb⟩
 unfold fU
 rw [u64_andNot_nat _ _ hs.h0 ht.h0, u64_andNot_nat _ _ hs.h1 ht.h1, u64_andNot_nat _ _ hs.h2 ht.h2, u64_andNot_nat _ _ hs.h3 ht.h3]
 rfl
theorem get_or (s t : W4) (q : Nat) : (orW s t).get q = s.get q ||| t.get q := by
 unfold W4.get orW
 split
 ·rfl
 split
 ·rfl
 split <;> rfl
theorem get_sub (s t : W4) (q : Nat) : (subW s t).get q = s.get q &&& (18446744073709551615 - t.get q) := by
 unfold W4.get subW
 split
 ·rfl
 split
 ·rfl
 split <;> rfl
theorem memM_or (s t : W4) (n : Nat) : memM (orW s t) (n : Int) = (memM s (n : Int) || memM t (n : Int)) := by
 unfold memM
 rw [get_or, Nat.testBit_or]
 cases decide (0 ≤ (n : Int) ∧ (n : Int) < 256) <;> simp
theorem test_not (t r : Nat) (ht : t < 18446744073709551616) (hr : r < 64) : (18446744073709551615 - t).testBit r = !t.testBit r := by
 have h := Nat.testBit_two_pow_sub_succ (x := t) (n := 64) ht r
 have e : 2 ^ 64 - (t + 1) = 18446744073709551615 - t := by
  have : (2 : Nat) ^ 64 = 18446744073709551616 := by decide
  omega
 rw [e] at h
 rw [h]
 simp [hr]
theorem memM_sub (s t : W4) (ht : t.Ok) (n : Nat) : memM (subW s t) (n : Int) = (memM s (n : Int) && !memM t (n : Int)) := by
 unfold memM
 rw [get_sub, Nat.testBit_and, test_not _ _ (ht.get _) (Nat.mod_lt _ (by decide))]
 cases decide (0 ≤ (n : Int) ∧ (n : Int) < 256) <;> simp
theorem memM_zero (n : Int) : memM zW n = false := by
 have h : zW.get (n.toNat / 64) = 0 := by unfold W4.get zW; simp
 unfold memM
 rw [h]
 simp
theorem ext_mem {s t : W4} (hs : s.Ok) (ht : t.Ok) (h : ∀ n : Nat, n < 256 → memM s (n : Int) = memM t (n : Int)) : s = t := by
 refine W4.eq_of_get fun q hq => Nat.eq_of_testBit_eq fun i => ?_
 by_cases hi : i < 64
 ·have h1 := h (64 * q + i) (by omega)
  rw [memM_in (by omega), memM_in (by omega)] at h1
  have e1 : (64 * q + i) / 64 = q := by omega
  have e2 : (64 * q + i) % 64 = i := by omega
  rw [e1, e2] at h1
  exact h1
 ·have hp : (18446744073709551616 : Nat) ≤ 2 ^ i := by
   calc (18446744073709551616 : Nat) = 2 ^ 64 := by decide
    _ ≤ 2 ^ i := Nat.pow_le_pow_right (by decide) (by omega)
  rw [Nat.testBit_lt_two_pow (Nat.lt_of_lt_of_le (hs.get q) hp), Nat.testBit_lt_two_pow (Nat.lt_of_lt_of_le (ht.get q) hp)]
def cntW (s : W4) : Nat := (List.range 256).countP fun n : Nat => memM s (n : Int)
def InW (s t : W4) : Prop := ∀ n : Nat, n < 256 → memM s (n : Int) = true → memM t (n : Int) = true
theorem cntW_le (s : W4) : cntW s ≤ 256 := by
 have := List.countP_le_length (p := fun n : Nat => memM s (n : Int)) (l := List.range 256)
 rw [List.length_range] at this
 exact this
theorem countP_lt {α : Type} (p q : α → Bool) : ∀ l : List α, (∀ x ∈ l, p x = true → q x = true) → (∃ x ∈ l, p x = false ∧ q x = true) → l.countP p < l.countP q
 | [], _, h => by obtain ⟨x, hx, _⟩ := h; cases hx
 | a :: l, h, hx => by
  have hm : l.countP p ≤ l.countP q := List.countP_mono_left fun x hx => h x (List.mem_cons_of_mem _ hx)
  rw [List.countP_cons, List.countP_cons]
  by_cases hl : ∃ x ∈ l, p x = false ∧ q x = true
  ·have h1 := countP_lt p q l (fun x hx => h x (List.mem_cons_of_mem _ hx)) hl
   have h2 := h a (List.mem_cons_self ..)
   cases hp : p a <;> cases hq : q a <;> simp_all <;> omega
  ·obtain ⟨x, hx, hp, hq⟩ := hx
   rcases List.mem_cons.1 hx with rfl | hx
   ·simp [hp, hq]; omega
   ·exact absurd ⟨x, hx, hp, hq⟩ hl
theorem cntW_lt {s t : W4} (hs : s.Ok) (ht : t.Ok) (h : InW s t) (hne : s ≠ t) : cntW s < cntW t := by
 refine countP_lt _ _ _ (fun n hn => h n (List.mem_range.1 hn)) ?_
 refine Classical.byContradiction fun hc => hne (ext_mem hs ht fun n hn => ?_)
 cases hp : memM s (n : Int) with
 | true => rw [h n hn hp]
 | false =>
  cases hq : memM t (n : Int) with
  | true => exact absurd ⟨n, List.mem_range.2 hn, hp, hq⟩ hc
  | false => rfl
def sumW (l : List W4) : Nat := (l.map cntW).sum
theorem sumW_le : ∀ l : List W4, sumW l ≤ 256 * l.length
 | [] => by simp [sumW]
 | a :: l => by
  have h1 := sumW_le l
  have h2 := cntW_le a
  simp only [sumW, List.map_cons, List.sum_cons, List.length_cons] at *
  omega
theorem sumW_set : ∀ (l : List W4) (i : Nat) (t : W4), i < l.length → sumW (l.set i t) + cntW (l.getD i zW) = sumW l + cntW t
 | [], i, t, h => by simp at h
 | a :: l, 0, t, h => by simp [sumW]; omega
 | a :: l, i + 1, t, h => by
  have := sumW_set l i t (by simpa using h)
  simp only [sumW, List.set_cons_succ, List.map_cons, List.sum_cons, List.getD_cons_succ] at *
  omega
structure Ru where
 nx : Nat → List Int
 ct : Nat → List Int
 df : Nat → W4
 us : Nat → W4
 hd : Nat → W4
def ofM (l : List W4) (k : Int) : W4 := if 0 ≤ k ∧ k < (l.length : Int) then l.getD k.toNat zW else zW
def sumOr (l : List W4) (s : W4) (ks : List Int) : W4 := ks.foldl (fun s k => orW s (ofM l k)) s
def ruM (R : Ru) (l : List W4) (pc : Nat) : W4 := orW (orW (sumOr l (subW (sumOr l zW (R.nx pc)) (R.df pc)) (R.ct pc)) (R.us pc)) (R.hd pc)
structure Ru.Ok (R : Ru) : Prop where
 df : ∀ pc, (R.df pc).Ok
 us : ∀ pc, (R.us pc).Ok
 hd : ∀ pc, (R.hd pc).Ok
def AllOk (l : List W4) : Prop := ∀ s ∈ l, s.Ok
theorem ofM_ok {l : List W4} (h : AllOk l) (k : Int) : (ofM l k).Ok := by
 unfold ofM
 split
 ·rename_i hk
  rw [List.getD_eq_getElem?_getD]
  cases hx : l[k.toNat]? with
  | none => exact zW_ok
  | some s => exact h s (List.mem_of_getElem? hx)
 ·exact zW_ok
theorem sumOr_ok {l : List W4} (h : AllOk l) : ∀ (ks : List Int) {s : W4}, s.Ok → (sumOr l s ks).Ok
 | [], _, hs => hs
 | k :: ks, _, hs => sumOr_ok h ks (orW_ok hs (ofM_ok h k))
theorem sumOr_snoc (l : List W4) (s : W4) (ks : List Int) (k : Int) : sumOr l s (ks ++ [k]) = orW (sumOr l s ks) (ofM l k) := by unfold sumOr; rw [List.foldl_append]; rfl
theorem ruM_ok {R : Ru} (hR : R.Ok) {l : List W4} (h : AllOk l) (pc : Nat) : (ruM R l pc).Ok :=
 orW_ok (orW_ok (sumOr_ok h _ (subW_ok (sumOr_ok h _ zW_ok))) (hR.us pc)) (hR.hd pc)
theorem sumOr_mono {l l' : List W4} (h : ∀ k, InW (ofM l k) (ofM l' k)) (ks : List Int) : ∀ {s s' : W4}, InW s s' → InW (sumOr l s ks) (sumOr l' s' ks) := by
 induction ks with
 | nil => exact fun hs => hs
 | cons k ks ih =>
  intro s s' hs
  refine ih (s := orW s (ofM l k)) (s' := orW s' (ofM l' k)) fun n hn hm => ?_
  rw [memM_or, Bool.or_eq_true] at hm ⊢
  rcases hm with hm | hm
  ·exact .inl (hs n hn hm)
  ·exact .inr (h k n hn hm)
theorem ruM_mono {R : Ru} (hR : R.Ok) {l l' : List W4} (h : ∀ k, InW (ofM l k) (ofM l' k)) (pc : Nat) : InW (ruM R l pc) (ruM R l' pc) := by
 have h1 : InW (subW (sumOr l zW (R.nx pc)) (R.df pc)) (subW (sumOr l' zW (R.nx pc)) (R.df pc)) := fun n hn hm => by
  rw [memM_sub _ _ (hR.df pc)] at hm ⊢
  have := sumOr_mono h (R.nx pc) (s := zW) (s' := zW) (fun _ _ h => h) n hn
  cases hx : memM (sumOr l zW (R.nx pc)) (n : Int) with
  | false => rw [hx] at hm; cases hm
  | true => rw [hx] at hm; rw [this hx]; exact hm
 have h2 := sumOr_mono h (R.ct pc) h1
 intro n hn hm
 unfold ruM at hm ⊢
 rw [memM_or, memM_or] at hm ⊢
 cases hx : memM (sumOr l (subW (sumOr l zW (R.nx pc)) (R.df pc)) (R.ct pc)) (n : Int) with
 | true => rw [h2 n hn hx]; rfl
 | false =>
  rw [hx] at hm
  cases hy : memM (R.us pc) (n : Int) with
  | true => simp
  | false => rw [hy] at hm; simp at hm ⊢; exact .inr hm
def Grows (R : Ru) (l : List W4) : Prop := ∀ pc, pc < l.length → InW (l.getD pc zW) (ruM R l pc)
theorem ofM_set {l : List W4} {i : Nat} {t : W4} (hi : i < l.length) (h : InW (l.getD i zW) t) (k : Int) : InW (ofM l k) (ofM (l.set i t) k) := by
 unfold ofM
 rw [List.length_set]
 by_cases hk : 0 ≤ k ∧ k < (l.length : Int)
 ·rw [if_pos hk, if_pos hk, List.getD_eq_getElem?_getD, List.getD_eq_getElem?_getD]
  by_cases e : k.toNat = i
  ·rw [e, List.getElem?_set_self hi]
   rw [List.getD_eq_getElem?_getD] at h
   exact h
  ·rw [List.getElem?_set_ne (Ne.symm e)]
   exact fun _ _ h => h
 ·rw [if_neg hk, if_neg hk]
  exact fun _ _ h => h
theorem Grows.set {R : Ru} (hR : R.Ok) {l : List W4} (h : Grows R l) {i : Nat} (hi : i < l.length) : Grows R (l.set i (ruM R l i)) := fun pc hpc => by
 rw [List.length_set] at hpc
 have hm := ruM_mono hR (ofM_set hi (h i hi)) pc
 rw [List.getD_eq_getElem?_getD]
 by_cases e : pc = i
 ·subst e
  rw [List.getElem?_set_self hi]
  exact hm
 ·rw [List.getElem?_set_ne (Ne.symm e), ← List.getD_eq_getElem?_getD]
  exact fun n hn hx => hm n hn (h pc hpc n hn hx)
theorem AllOk.set {l : List W4} (h : AllOk l) (i : Nat) {t : W4} (ht : t.Ok) : AllOk (l.set i t) := fun s hs => by
 rcases List.mem_or_eq_of_mem_set hs with hs | rfl
 ·exact h s hs
 ·exact ht
theorem AllOk.getD {l : List W4} (h : AllOk l) (i : Nat) : (l.getD i zW).Ok := by
 rw [List.getD_eq_getElem?_getD]
 cases hx : l[i]? with
 | none => exact zW_ok
 | some s => exact h s (List.mem_of_getElem? hx)
theorem sumW_grow {R : Ru} (hR : R.Ok) {l : List W4} (ha : AllOk l) (h : Grows R l) {i : Nat} (hi : i < l.length) (hne : ruM R l i ≠ l.getD i zW) : sumW l < sumW (l.set i (ruM R l i)) := by
 have h1 := sumW_set l i (ruM R l i) hi
 have h2 := cntW_lt (ha.getD i) (ruM_ok hR ha i) (h i hi) (Ne.symm hne)
 omega
theorem grows_zero (R : Ru) (n : Nat) : Grows R (List.replicate n zW) := fun pc hpc => by
 rw [List.length_replicate] at hpc
 rw [List.getD_eq_getElem?_getD, List.getElem?_replicate, if_pos hpc]
 intro k _ hk
 rw [show (some zW).getD zW = zW from rfl, memM_zero] at hk
 cases hk
theorem allOk_zero (n : Nat) : AllOk (List.replicate n zW) := fun s hs => by
 rw [List.mem_replicate] at hs
 rw [hs.2]
 exact zW_ok
end Go.Proofs.YtobmjnmcjddhcaaGreat
