import Derived.Test.YtobmjnmcjddhcaaGreatCSt0
import Derived.Laws.Bits64b
set_option linter.unusedSimpArgs false
set_option linter.unusedVariables false
set_option maxRecDepth 100000
set_option maxHeartbeats 2000000
namespace Go.Proofs.YtobmjnmcjddhcaaGreat
open Go.RowKit
structure W4 where
 a0 : Nat
 a1 : Nat
 a2 : Nat
 a3 : Nat
structure W4.Ok (s : W4) : Prop where
 h0 : s.a0 < 18446744073709551616
 h1 : s.a1 < 18446744073709551616
 h2 : s.a2 < 18446744073709551616
 h3 : s.a3 < 18446744073709551616
abbrev aggW (s : W4) : Value := aggU (s.a0 : Int) (s.a1 : Int) (s.a2 : Int) (s.a3 : Int)
def W4.get (s : W4) (q : Nat) : Nat := if q = 0 then s.a0 else if q = 1 then s.a1 else if q = 2 then s.a2 else s.a3
def W4.put (s : W4) (q v : Nat) : W4 := if q = 0 then { s with a0 := v } else if q = 1 then { s with a1 := v } else if q = 2 then { s with a2 := v } else { s with a3 := v }
def zW : W4 := ⟨0, 0, 0, 0⟩
theorem zW_ok : zW.Ok := by constructor <;> decide
theorem W4.ext4 {s t : W4} (h0 : s.a0 = t.a0) (h1 : s.a1 = t.a1) (h2 : s.a2 = t.a2) (h3 : s.a3 = t.a3) : s = t := by
 cases s; cases t; simp_all
theorem W4.Ok.get {s : W4} (h : s.Ok) (q : Nat) : s.get q < 18446744073709551616 := by
 unfold W4.get; split
 ·exact h.h0
 split
 ·exact h.h1
 split
 ·exact h.h2
 ·exact h.h3
theorem W4.Ok.put {s : W4} (h : s.Ok) (q : Nat) {v : Nat} (hv : v < 18446744073709551616) : (s.put q v).Ok := by
 unfold W4.put
 split
 ·exact ⟨hv, h.h1, h.h2, h.h3⟩
 split
 ·exact ⟨h.h0, hv, h.h2, h.h3⟩
 split
 ·exact ⟨h.h0, h.h1, hv, h.h3⟩
 ·exact ⟨h.h0, h.h1, h.h2, hv⟩
theorem W4.get_put {s : W4} {q v : Nat} (hq : q < 4) (p : Nat) (hp : p < 4) : (s.put q v).get p = if p = q then v else s.get p := by
 rcases (show q = 0 ∨ q = 1 ∨ q = 2 ∨ q = 3 by omega) with rfl | rfl | rfl | rfl <;> rcases (show p = 0 ∨ p = 1 ∨ p = 2 ∨ p = 3 by omega) with rfl | rfl | rfl | rfl <;> simp [W4.put, W4.get]
theorem W4.eq_of_get {s t : W4} (h : ∀ q, q < 4 → s.get q = t.get q) : s = t := by
 have e0 := h 0 (by omega); have e1 := h 1 (by omega); have e2 := h 2 (by omega); have e3 := h 3 (by omega)
 simp [W4.get] at e0 e1 e2 e3
 exact W4.ext4 e0 e1 e2 e3
def memM (s : W4) (n : Int) : Bool := decide (0 ≤ n ∧ n < 256) && (s.get (n.toNat / 64)).testBit (n.toNat % 64)
def withM (s : W4) (n : Int) : W4 := if 0 ≤ n ∧ n < 256 then s.put (n.toNat / 64) (s.get (n.toNat / 64) ||| 2 ^ (n.toNat % 64)) else s
theorem pow_lt64 {r : Nat} (hr : r < 64) : 2 ^ r < 18446744073709551616 := by
 calc 2 ^ r < 2 ^ 64 := Nat.pow_lt_pow_right (by decide) hr
  _ = 18446744073709551616 := by decide
theorem or_lt64 {a b : Nat} (ha : a < 18446744073709551616) (hb : b < 18446744073709551616) : a ||| b < 18446744073709551616 := Nat.or_lt_two_pow (n := 64) ha hb
theorem withM_ok {s : W4} (h : s.Ok) (n : Int) : (withM s n).Ok := by
 unfold withM
 split
 ·exact h.put _ (or_lt64 (h.get _) (pow_lt64 (Nat.mod_lt _ (by decide))))
 ·exact h
theorem add_or {a r : Nat} (ha : a < 18446744073709551616) (hr : r < 64) (h : a.testBit r = false) : a + 2 ^ r = a ||| 2 ^ r := by
 have hp := pow_lt64 hr
 have hand : a &&& 2 ^ r = 0 := by
  apply Nat.eq_of_testBit_eq
  intro i
  rw [Nat.testBit_and, Nat.testBit_two_pow, Nat.zero_testBit]
  by_cases hi : r = i
  ·subst hi; simp [h]
  ·simp [hi]
 have hx := BitVec.add_eq_or_of_and_eq_zero (w := 65) (BitVec.ofNat 65 a) (BitVec.ofNat 65 (2 ^ r)) (by
  rw [← BitVec.ofNat_and, hand])
 have hx2 := congrArg BitVec.toNat hx
 rw [BitVec.toNat_add, BitVec.toNat_or, BitVec.toNat_ofNat, BitVec.toNat_ofNat, Nat.mod_eq_of_lt (by omega : a < 2 ^ 65), Nat.mod_eq_of_lt (by omega : 2 ^ r < 2 ^ 65), Nat.mod_eq_of_lt (by omega : a + 2 ^ r < 2 ^ 65)] at hx2
 exact hx2
theorem test_shr (a r : Nat) : (a / 2 ^ r % 2 = 1) = (a.testBit r = true) := by
 rw [Nat.testBit_eq_decide_div_mod_eq]
 simp
theorem memM_in {s : W4} {n : Nat} (hn : n < 256) : memM s (n : Int) = (s.get (n / 64)).testBit (n % 64) := by
 unfold memM
 simp
 omega
theorem memM_out {s : W4} {n : Int} (hn : ¬ (0 ≤ n ∧ n < 256)) : memM s n = false := by
 unfold memM
 simp [hn]
theorem withM_in {s : W4} {n : Nat} (hn : n < 256) : withM s (n : Int) = s.put (n / 64) (s.get (n / 64) ||| 2 ^ (n % 64)) := by
 unfold withM
 rw [if_pos (by omega)]
 simp
theorem withM_out {s : W4} {n : Int} (hn : ¬ (0 ≤ n ∧ n < 256)) : withM s n = s := if_neg hn
theorem withM_add {s : W4} (h : s.Ok) {n : Nat} (hn : n < 256) (hm : memM s (n : Int) = false) : s.put (n / 64) (s.get (n / 64) + 2 ^ (n % 64)) = withM s (n : Int) ∧ s.get (n / 64) + 2 ^ (n % 64) < 18446744073709551616 := by
 rw [memM_in hn] at hm
 have e := add_or (h.get (n / 64)) (Nat.mod_lt n (by decide : 0 < 64)) hm
 rw [withM_in hn, e]
 exact ⟨rfl, or_lt64 (h.get _) (pow_lt64 (Nat.mod_lt _ (by decide)))⟩
theorem withM_mem {s : W4} {n : Int} (h : memM s n = true) : withM s n = s := by
 by_cases hn : 0 ≤ n ∧ n < 256
 ·obtain ⟨m, rfl⟩ : ∃ m : Nat, n = (m : Int) := ⟨n.toNat, by omega⟩
  have hm : m < 256 := by omega
  rw [memM_in hm] at h
  rw [withM_in hm]
  have e : s.get (m / 64) ||| 2 ^ (m % 64) = s.get (m / 64) := by
   apply Nat.eq_of_testBit_eq
   intro i
   rw [Nat.testBit_or, Nat.testBit_two_pow]
   by_cases hi : m % 64 = i
   ·subst hi; simp [h]
   ·simp [hi]
  rw [e]
  apply W4.eq_of_get
  intro p hp
  rw [W4.get_put (by omega) p hp]
  split
  ·rename_i e; rw [e]
  ·rfl
 ·exact withM_out hn
theorem memM_with {s : W4} {n : Nat} (hn : n < 256) (m : Nat) (hm : m < 256) : memM (withM s (n : Int)) (m : Int) = (memM s (m : Int) || decide (m = n)) := by
 rw [memM_in hm, memM_in hm, withM_in hn, W4.get_put (by omega) _ (by omega)]
 by_cases hq : m / 64 = n / 64
 ·rw [if_pos hq, Nat.testBit_or, Nat.testBit_two_pow, hq]
  congr 1
  apply decide_eq_decide.2
  omega
 ·rw [if_neg hq]
  have : ¬ m = n := fun e => hq (by rw [e])
  simp [this]
theorem below3 {w W : World} {g : Nat} (h : Below w.heap.size w W) (hg : w.heap.size ≤ g) (a b c d : Value) : Below w.heap.size w ((((W.setCell ⟨g, 0, none⟩ a).setCell ⟨g, 1, none⟩ b).setCell ⟨g, 2, none⟩ c).setCell ⟨g, 3, none⟩ d) :=
 (((h.setCell (p := ⟨g, 0, none⟩) hg _).setCell (p := ⟨g, 1, none⟩) hg _).setCell (p := ⟨g, 2, none⟩) hg _).setCell (p := ⟨g, 3, none⟩) hg _
theorem set_new (w : World) (s : W4) (q : Nat) (hq : q < 4) : (w.alloc (.cells #[.int .u64 (s.a0 : Int), .int .u64 (s.a1 : Int), .int .u64 (s.a2 : Int), .int .u64 (s.a3 : Int)] 216)).cell? ⟨w.heap.size, q, none⟩ = some (.int .u64 (s.get q : Int)) := by
 rcases (show q = 0 ∨ q = 1 ∨ q = 2 ∨ q = 3 by omega) with rfl | rfl | rfl | rfl
 all_goals exact (new_cells (Below.refl _ _) _ _ rfl).1
theorem nat_wrap {r : Nat} (hr : r < 64) : IntKind.u64.wrap (2 ^ r) = 2 ^ r := by
 have h1 : 2 ^ r < 18446744073709551616 := pow_lt64 hr
 have h2 : ((2 ^ r : Nat) : Int) = 2 ^ r := by simp
 have h3 : (0 : Int) ≤ 2 ^ r := by rw [← h2]; exact Int.natCast_nonneg _
 have h4 : (2 : Int) ^ r < 18446744073709551616 := by rw [← h2]; exact Int.ofNat_lt.2 h1
 rw [IntKind.wrap_u64]
 exact Int.emod_eq_of_lt h3 h4
def IsW (s : W4) (w : World) (e : Ending) (w' : World) : Prop := e = .returned (aggW s) ∧ Below w.heap.size w w'
structure TwoW (w W : World) (s : W4) : Prop where
 r0 : W.cell? ⟨w.heap.size, 0, none⟩ = some (.int .u64 0)
 r1 : W.cell? ⟨w.heap.size, 1, none⟩ = some (.int .u64 0)
 r2 : W.cell? ⟨w.heap.size, 2, none⟩ = some (.int .u64 0)
 r3 : W.cell? ⟨w.heap.size, 3, none⟩ = some (.int .u64 0)
 fr : ∀ j, W.frozen? ⟨w.heap.size, j, none⟩ = false
 sc : ∀ q, q < 4 → W.cell? ⟨w.heap.size + 1, q, none⟩ = some (.int .u64 (s.get q : Int))
 fs : ∀ j, W.frozen? ⟨w.heap.size + 1, j, none⟩ = false
 bw : Below w.heap.size w W
 sz : w.heap.size + 1 < W.heap.size
 ok : s.Ok
theorem TwoW.s0 {w W : World} {s : W4} (h : TwoW w W s) : W.cell? ⟨w.heap.size + 1, 0, none⟩ = some (.int .u64 (s.a0 : Int)) := h.sc 0 (by omega)
theorem TwoW.s1 {w W : World} {s : W4} (h : TwoW w W s) : W.cell? ⟨w.heap.size + 1, 1, none⟩ = some (.int .u64 (s.a1 : Int)) := h.sc 1 (by omega)
theorem TwoW.s2 {w W : World} {s : W4} (h : TwoW w W s) : W.cell? ⟨w.heap.size + 1, 2, none⟩ = some (.int .u64 (s.a2 : Int)) := h.sc 2 (by omega)
theorem TwoW.s3 {w W : World} {s : W4} (h : TwoW w W s) : W.cell? ⟨w.heap.size + 1, 3, none⟩ = some (.int .u64 (s.a3 : Int)) := h.sc 3 (by omega)
theorem TwoW.start (w : World) : TwoW w ((w.alloc (.cells #[.int .u64 0, .int .u64 0, .int .u64 0, .int .u64 0] 216)).alloc (.cells #[.int .u64 0, .int .u64 0, .int .u64 0, .int .u64 0] 216)) zW := by
 constructor
 case bw => exact ((Below.refl _ _).alloc (Nat.le_refl _) _).alloc (by simp) _
 case sc =>
  intro q hq
  rcases (show q = 0 ∨ q = 1 ∨ q = 2 ∨ q = 3 by omega) with rfl | rfl | rfl | rfl <;> simp [go_sem, zW, W4.get]
 case ok => exact zW_ok
 all_goals simp [go_sem]
theorem TwoW.call {w W W' : World} {s : W4} (h : TwoW w W s) (hb : Below W.heap.size W W') : TwoW w W' s := by
 have hl0 : w.heap.size < W.heap.size := by have := h.sz; omega
 have hl1 := h.sz
 constructor
 case bw => exact h.bw.trans (hb.mono h.bw.size)
 case sz => exact Nat.lt_of_lt_of_le h.sz hb.size
 case fr => intro j; rw [hb.frozen (p := ⟨w.heap.size, j, none⟩) hl0]; exact h.fr j
 case fs => intro j; rw [hb.frozen (p := ⟨w.heap.size + 1, j, none⟩) hl1]; exact h.fs j
 case r0 => exact (hb.cell (p := ⟨w.heap.size, 0, none⟩) hl0).trans h.r0
 case r1 => exact (hb.cell (p := ⟨w.heap.size, 1, none⟩) hl0).trans h.r1
 case r2 => exact (hb.cell (p := ⟨w.heap.size, 2, none⟩) hl0).trans h.r2
 case r3 => exact (hb.cell (p := ⟨w.heap.size, 3, none⟩) hl0).trans h.r3
 case sc => intro q hq; exact (hb.cell (p := ⟨w.heap.size + 1, q, none⟩) hl1).trans (h.sc q hq)
 case ok => exact h.ok
theorem TwoW.put {w W : World} {s : W4} (h : TwoW w W s) (t : W4) (ht : t.Ok) : TwoW w ((((W.setCell ⟨w.heap.size + 1, 0, none⟩ (.int .u64 (t.a0 : Int))).setCell ⟨w.heap.size + 1, 1, none⟩ (.int .u64 (t.a1 : Int))).setCell ⟨w.heap.size + 1, 2, none⟩ (.int .u64 (t.a2 : Int))).setCell ⟨w.heap.size + 1, 3, none⟩ (.int .u64 (t.a3 : Int))) t := by
 have n1 : ¬ w.heap.size + 1 = w.heap.size := by omega
 have s0 := h.s0
 have s1 := h.s1
 have s2 := h.s2
 have s3 := h.s3
 constructor
 case bw => exact below3 h.bw (by omega) _ _ _ _
 case sz => have := h.sz; simpa using this
 case fr => intro j; simpa [go_sem] using h.fr j
 case fs => intro j; simpa [go_sem] using h.fs j
 case sc =>
  intro q hq
  rcases (show q = 0 ∨ q = 1 ∨ q = 2 ∨ q = 3 by omega) with rfl | rfl | rfl | rfl <;> simp [go_sem, s0, s1, s2, s3, W4.get]
 case ok => exact ht
 all_goals simp [go_sem, h.r0, h.r1, h.r2, h.r3, n1]
theorem TwoW.putq {w W : World} {s : W4} (h : TwoW w W s) (q : Nat) (hq : q < 4) (v : Nat) (t : W4) (ht : s.put q v = t) (hv : t.Ok) : TwoW w (W.setCell ⟨w.heap.size + 1, q, none⟩ (.int .u64 (v : Int))) t := by
 have n1 : ¬ w.heap.size + 1 = w.heap.size := by omega
 constructor
 case bw => exact h.bw.setCell (p := ⟨w.heap.size + 1, q, none⟩) (by show w.heap.size ≤ w.heap.size + 1; omega) _
 case sz => have := h.sz; simpa using this
 case fr => intro j; simpa [go_sem] using h.fr j
 case fs => intro j; simpa [go_sem] using h.fs j
 case sc =>
  intro p hp
  rw [← ht, W4.get_put hq p hp]
  by_cases e : p = q
  ·subst e
   rw [if_pos rfl]
   have := h.sc p hp
   simp [go_sem, this]
  ·rw [if_neg e, World.cell?_setCell_other _ _ _ _ (by simp; try omega)]
   exact h.sc p hp
 case ok => exact hv
 all_goals simp [go_sem, h.r0, h.r1, h.r2, h.r3, n1]
def foldW (s : W4) (xs : List Int) : W4 := xs.foldl withM s
theorem foldW_snoc (xs : List Int) (k : Nat) (x : Int) (h : xs[k]? = some x) : foldW zW (xs.take (k + 1)) = withM (foldW zW (xs.take k)) x := by
 rw [← take_snoc' xs k x h]
 unfold foldW
 rw [List.foldl_append]
 rfl
def rangeW (lo : Int) (k : Nat) : W4 := foldW zW ((List.range k).map fun (i : Nat) => lo + (i : Int))
theorem rangeW_succ (lo : Int) (k : Nat) : rangeW lo (k + 1) = withM (rangeW lo k) (lo + (k : Int)) := by
 unfold rangeW foldW
 rw [List.range_succ, List.map_append, List.foldl_append]
 rfl
theorem rangeW_zero (lo : Int) : rangeW lo 0 = zW := rfl
def rangeM (f t : Int) : W4 := rangeW (max f 0) (min t 256 - max f 0).toNat
theorem add_wrap {a r : Nat} (hs : a + 2 ^ r < 18446744073709551616) : IntKind.u64.wrap ((a : Int) + 2 ^ r) = ((a + 2 ^ r : Nat) : Int) := by
 have h2 : ((2 ^ r : Nat) : Int) = 2 ^ r := by simp
 rw [← h2, ← Int.natCast_add, IntKind.wrap_u64]
 exact Int.emod_eq_of_lt (Int.natCast_nonneg _) (Int.ofNat_lt.2 hs)
theorem rangeW_memF (lo : Int) (h0 : 0 ≤ lo) : ∀ k : Nat, lo + (k : Int) ≤ 256 → ∀ m : Nat, m < 256 → memM (rangeW lo k) (m : Int) = decide (lo ≤ (m : Int) ∧ (m : Int) < lo + (k : Int)) := by
 intro k
 induction k with
 | zero =>
  intro _ m hm
  rw [rangeW_zero, memM_in hm]
  have : (zW.get (m / 64)).testBit (m % 64) = false := by
   unfold zW W4.get
   simp
  rw [this]
  simp
  try omega
 | succ k ih =>
  intro hk m hm
  obtain ⟨l, hl⟩ : ∃ l : Nat, (l : Int) = lo + (k : Int) := ⟨(lo + (k : Int)).toNat, by omega⟩
  rw [rangeW_succ, ← hl, memM_with (by omega) m hm, ih (by omega) m hm, ← Bool.decide_or]
  apply decide_eq_decide.2
  omega
theorem rangeW_not (lo : Int) (k : Nat) (h0 : 0 ≤ lo) (h1 : lo + (k : Int) < 256) : memM (rangeW lo k) (lo + (k : Int)) = false := by
 obtain ⟨m, hm⟩ : ∃ m : Nat, (m : Int) = lo + (k : Int) := ⟨(lo + (k : Int)).toNat, by omega⟩
 rw [← hm, rangeW_memF lo h0 k (by omega) m (by omega)]
 simp
 omega
theorem rrange_a (f t : Int) (w : World) (hf : f < 0) (ht : 256 < t) (hb0 : -9223372036854775808 ≤ f) (hb1 : f < 9223372036854775808) : Calls Tryz.prog 157 #[.int .i64 f, .int .i64 t] w (IsW (rangeW (0 : Int) ((256 : Int) - (0 : Int)).toNat) w) := by
 have HS := Lib.hid (TwoW.start w)
 obtain ⟨N, hN⟩ : ∃ N, ((256 : Int) - (0 : Int)).toNat = N := ⟨_, rfl⟩
 rw [hN]
 have hm : max f 0 = 0 := by omega
 go_enter Tryz.func157, Tryz.ntmps157
 go_wp2_with fail
 go_loopw [6] (fun i wr => ∃ k : Nat, i = .int .i64 ((0 : Int) + (k : Int)) ∧ k ≤ N ∧ Hid (TwoW w wr (rangeW (0 : Int) k))) (fun i _ => N - (intOf i - (0 : Int)).toNat)
 case atStart => exact ⟨0, by simp, Nat.zero_le _, HS⟩
 case round =>
  obtain ⟨k, rfl, hk, HT⟩ := hrel
  have s0 := HT.out.s0
  have s1 := HT.out.s1
  have s2 := HT.out.s2
  have s3 := HT.out.s3
  have fs := HT.out.fs
  obtain ⟨i, hi'⟩ : ∃ i : Int, (0 : Int) + (k : Int) = i := ⟨_, rfl⟩
  by_cases hlt : k < N
  ·have hil : i < (256 : Int) := by omega
   have HX : Hid (rangeW (0 : Int) (k + 1) = withM (rangeW (0 : Int) k) i) := Lib.hid (by rw [rangeW_succ, hi'])
   have hok := HT.out.ok
   have hiw : IntKind.i64.wrap (i + 1) = i + 1 := by rw [IntKind.wrap_i64]; omega
   obtain ⟨m, hmt⟩ : ∃ m : Nat, (m : Int) = i := ⟨i.toNat, by omega⟩
   have hm256 : m < 256 := by omega
   have hmem : memM (rangeW (0 : Int) k) (m : Int) = false := by
    rw [hmt, ← hi']
    exact rangeW_not (0 : Int) k (by omega) (by omega)
   rw [hi']
   have HQ := Lib.hid hi'
   generalize rangeW (0 : Int) k = s at *
   have hmi : min t 256 = 256 := by omega
   have q4 : m / 64 < 4 := by omega
   obtain ⟨q, hqd⟩ : ∃ q, m / 64 = q := ⟨_, rfl⟩
   obtain ⟨r, hrd⟩ : ∃ r, m % 64 = r := ⟨_, rfl⟩
   have hadd := withM_add hok (n := m) hm256 hmem
   rw [hqd, hrd] at hadd
   have HP := Lib.hid (fun W (hW : TwoW w W s) => hW.putq q (by omega) (s.get q + 2 ^ r) (withM s (m : Int)) hadd.1 (withM_ok hok _))
   have hr : r < 64 := by omega
   have hq4 : q < 4 := by omega
   have hsq := fun W (hW : TwoW w W s) => hW.sc q hq4
   have hwadd := add_wrap hadd.2
   have hp := nat_wrap hr
   have hq : i.tdiv 64 = (q : Int) := by rw [Int.tdiv_eq_ediv_of_nonneg (by omega)]; omega
   have hmd : i.tmod 64 = (r : Int) := by rw [Int.tmod_eq_emod_of_nonneg (by omega)]; omega
   have hw : IntKind.i64.wrap (r : Int) = r := by rw [IntKind.wrap_i64]; omega
   have hw1 : IntKind.i64.wrap (q : Int) = q := by rw [IntKind.wrap_i64]; omega
   rw [hmt] at HP
   have z0 := hsq wr HT.out
   have HT2 := Lib.hid (HP.out wr HT.out)
   generalize s.get q = a at *
   clear hok hmem hadd hqd hrd hmt hm256 q4 hsq HP hi'
   go_wp2_with fail
   go_roundw
   case rel => exact ⟨k + 1, by have := HQ.out; congr 1; omega, by omega, Lib.hid (by rw [HX.out]; exact HT2.out)⟩
   case measure => have := HQ.out; simp [intOf]; omega
  ·have hkn : k = N := by omega
   subst hkn
   have hil : ¬ i < (256 : Int) := by omega
   have r0 := HT.out.r0
   have r1 := HT.out.r1
   have r2 := HT.out.r2
   have r3 := HT.out.r3
   have fr := HT.out.fr
   rw [hi']
   generalize rangeW (0 : Int) k = s at *
   have hne : ¬ w.heap.size = w.heap.size + 1 := by omega
   have hne' : ¬ w.heap.size + 1 = w.heap.size := by omega
   have hmi : min t 256 = 256 := by omega
   clear hi'
   go_wp2_with fail
   refine bodyPost_ret (v := aggW s) (by simp [results, Tryz.results157, go_sem, r0, r1, r2, r3, fr, s0, s1, s2, s3, hne, hne']) rfl ⟨rfl, ?_⟩
   exact below3 HT.out.bw (Nat.le_refl _) _ _ _ _
theorem rrange_b (f t : Int) (w : World) (hf : f < 0) (ht : t ≤ 256) (hb0 : -9223372036854775808 ≤ f) (hb1 : f < 9223372036854775808) : Calls Tryz.prog 157 #[.int .i64 f, .int .i64 t] w (IsW (rangeW (0 : Int) (t - (0 : Int)).toNat) w) := by
 have HS := Lib.hid (TwoW.start w)
 obtain ⟨N, hN⟩ : ∃ N, (t - (0 : Int)).toNat = N := ⟨_, rfl⟩
 rw [hN]
 have hm : max f 0 = 0 := by omega
 go_enter Tryz.func157, Tryz.ntmps157
 go_wp2_with fail
 go_loopw [6] (fun i wr => ∃ k : Nat, i = .int .i64 ((0 : Int) + (k : Int)) ∧ k ≤ N ∧ Hid (TwoW w wr (rangeW (0 : Int) k))) (fun i _ => N - (intOf i - (0 : Int)).toNat)
 case atStart => exact ⟨0, by simp, Nat.zero_le _, HS⟩
 case round =>
  obtain ⟨k, rfl, hk, HT⟩ := hrel
  have s0 := HT.out.s0
  have s1 := HT.out.s1
  have s2 := HT.out.s2
  have s3 := HT.out.s3
  have fs := HT.out.fs
  obtain ⟨i, hi'⟩ : ∃ i : Int, (0 : Int) + (k : Int) = i := ⟨_, rfl⟩
  by_cases hlt : k < N
  ·have hil : i < t := by omega
   have HX : Hid (rangeW (0 : Int) (k + 1) = withM (rangeW (0 : Int) k) i) := Lib.hid (by rw [rangeW_succ, hi'])
   have hok := HT.out.ok
   have hiw : IntKind.i64.wrap (i + 1) = i + 1 := by rw [IntKind.wrap_i64]; omega
   obtain ⟨m, hmt⟩ : ∃ m : Nat, (m : Int) = i := ⟨i.toNat, by omega⟩
   have hm256 : m < 256 := by omega
   have hmem : memM (rangeW (0 : Int) k) (m : Int) = false := by
    rw [hmt, ← hi']
    exact rangeW_not (0 : Int) k (by omega) (by omega)
   rw [hi']
   have HQ := Lib.hid hi'
   generalize rangeW (0 : Int) k = s at *
   have hmi : min t 256 = t := by omega
   have hnt : ¬ 256 < t := by omega
   have q4 : m / 64 < 4 := by omega
   obtain ⟨q, hqd⟩ : ∃ q, m / 64 = q := ⟨_, rfl⟩
   obtain ⟨r, hrd⟩ : ∃ r, m % 64 = r := ⟨_, rfl⟩
   have hadd := withM_add hok (n := m) hm256 hmem
   rw [hqd, hrd] at hadd
   have HP := Lib.hid (fun W (hW : TwoW w W s) => hW.putq q (by omega) (s.get q + 2 ^ r) (withM s (m : Int)) hadd.1 (withM_ok hok _))
   have hr : r < 64 := by omega
   have hq4 : q < 4 := by omega
   have hsq := fun W (hW : TwoW w W s) => hW.sc q hq4
   have hwadd := add_wrap hadd.2
   have hp := nat_wrap hr
   have hq : i.tdiv 64 = (q : Int) := by rw [Int.tdiv_eq_ediv_of_nonneg (by omega)]; omega
   have hmd : i.tmod 64 = (r : Int) := by rw [Int.tmod_eq_emod_of_nonneg (by omega)]; omega
   have hw : IntKind.i64.wrap (r : Int) = r := by rw [IntKind.wrap_i64]; omega
   have hw1 : IntKind.i64.wrap (q : Int) = q := by rw [IntKind.wrap_i64]; omega
   rw [hmt] at HP
   have z0 := hsq wr HT.out
   have HT2 := Lib.hid (HP.out wr HT.out)
   generalize s.get q = a at *
   clear hok hmem hadd hqd hrd hmt hm256 q4 hsq HP hi'
   go_wp2_with fail
   go_roundw
   case rel => exact ⟨k + 1, by have := HQ.out; congr 1; omega, by omega, Lib.hid (by rw [HX.out]; exact HT2.out)⟩
   case measure => have := HQ.out; simp [intOf]; omega
  ·have hkn : k = N := by omega
   subst hkn
   have hil : ¬ i < t := by omega
   have r0 := HT.out.r0
   have r1 := HT.out.r1
   have r2 := HT.out.r2
   have r3 := HT.out.r3
   have fr := HT.out.fr
   rw [hi']
   generalize rangeW (0 : Int) k = s at *
   have hne : ¬ w.heap.size = w.heap.size + 1 := by omega
   have hne' : ¬ w.heap.size + 1 = w.heap.size := by omega
   have hmi : min t 256 = t := by omega
   have hnt : ¬ 256 < t := by omega
   clear hi'
   go_wp2_with fail
   refine bodyPost_ret (v := aggW s) (by simp [results, Tryz.results157, go_sem, r0, r1, r2, r3, fr, s0, s1, s2, s3, hne, hne']) rfl ⟨rfl, ?_⟩
   exact below3 HT.out.bw (Nat.le_refl _) _ _ _ _
theorem rrange_c (f t : Int) (w : World) (hf : 0 ≤ f) (ht : 256 < t) (hb0 : -9223372036854775808 ≤ f) (hb1 : f < 9223372036854775808) : Calls Tryz.prog 157 #[.int .i64 f, .int .i64 t] w (IsW (rangeW f ((256 : Int) - f).toNat) w) := by
 have HS := Lib.hid (TwoW.start w)
 obtain ⟨N, hN⟩ : ∃ N, ((256 : Int) - f).toNat = N := ⟨_, rfl⟩
 rw [hN]
 have hm : max f 0 = f := by omega
 have hnf : ¬ f < 0 := by omega
 go_enter Tryz.func157, Tryz.ntmps157
 go_wp2_with fail
 go_loopw [6] (fun i wr => ∃ k : Nat, i = .int .i64 (f + (k : Int)) ∧ k ≤ N ∧ Hid (TwoW w wr (rangeW f k))) (fun i _ => N - (intOf i - f).toNat)
 case atStart => exact ⟨0, by simp, Nat.zero_le _, HS⟩
 case round =>
  obtain ⟨k, rfl, hk, HT⟩ := hrel
  have s0 := HT.out.s0
  have s1 := HT.out.s1
  have s2 := HT.out.s2
  have s3 := HT.out.s3
  have fs := HT.out.fs
  obtain ⟨i, hi'⟩ : ∃ i : Int, f + (k : Int) = i := ⟨_, rfl⟩
  by_cases hlt : k < N
  ·have hil : i < (256 : Int) := by omega
   have HX : Hid (rangeW f (k + 1) = withM (rangeW f k) i) := Lib.hid (by rw [rangeW_succ, hi'])
   have hok := HT.out.ok
   have hiw : IntKind.i64.wrap (i + 1) = i + 1 := by rw [IntKind.wrap_i64]; omega
   obtain ⟨m, hmt⟩ : ∃ m : Nat, (m : Int) = i := ⟨i.toNat, by omega⟩
   have hm256 : m < 256 := by omega
   have hmem : memM (rangeW f k) (m : Int) = false := by
    rw [hmt, ← hi']
    exact rangeW_not f k (by omega) (by omega)
   rw [hi']
   have HQ := Lib.hid hi'
   generalize rangeW f k = s at *
   have hmi : min t 256 = 256 := by omega
   have q4 : m / 64 < 4 := by omega
   obtain ⟨q, hqd⟩ : ∃ q, m / 64 = q := ⟨_, rfl⟩
   obtain ⟨r, hrd⟩ : ∃ r, m % 64 = r := ⟨_, rfl⟩
   have hadd := withM_add hok (n := m) hm256 hmem
   rw [hqd, hrd] at hadd
   have HP := Lib.hid (fun W (hW : TwoW w W s) => hW.putq q (by omega) (s.get q + 2 ^ r) (withM s (m : Int)) hadd.1 (withM_ok hok _))
   have hr : r < 64 := by omega
   have hq4 : q < 4 := by omega
   have hsq := fun W (hW : TwoW w W s) => hW.sc q hq4
   have hwadd := add_wrap hadd.2
   have hp := nat_wrap hr
   have hq : i.tdiv 64 = (q : Int) := by rw [Int.tdiv_eq_ediv_of_nonneg (by omega)]; omega
   have hmd : i.tmod 64 = (r : Int) := by rw [Int.tmod_eq_emod_of_nonneg (by omega)]; omega
   have hw : IntKind.i64.wrap (r : Int) = r := by rw [IntKind.wrap_i64]; omega
   have hw1 : IntKind.i64.wrap (q : Int) = q := by rw [IntKind.wrap_i64]; omega
   rw [hmt] at HP
   have z0 := hsq wr HT.out
   have HT2 := Lib.hid (HP.out wr HT.out)
   generalize s.get q = a at *
   clear hok hmem hadd hqd hrd hmt hm256 q4 hsq HP hi'
   go_wp2_with fail
   go_roundw
   case rel => exact ⟨k + 1, by have := HQ.out; congr 1; omega, by omega, Lib.hid (by rw [HX.out]; exact HT2.out)⟩
   case measure => have := HQ.out; simp [intOf]; omega
  ·have hkn : k = N := by omega
   subst hkn
   have hil : ¬ i < (256 : Int) := by omega
   have r0 := HT.out.r0
   have r1 := HT.out.r1
   have r2 := HT.out.r2
   have r3 := HT.out.r3
   have fr := HT.out.fr
   rw [hi']
   generalize rangeW f k = s at *
   have hne : ¬ w.heap.size = w.heap.size + 1 := by omega
   have hne' : ¬ w.heap.size + 1 = w.heap.size := by omega
   have hmi : min t 256 = 256 := by omega
   clear hi'
   go_wp2_with fail
   refine bodyPost_ret (v := aggW s) (by simp [results, Tryz.results157, go_sem, r0, r1, r2, r3, fr, s0, s1, s2, s3, hne, hne']) rfl ⟨rfl, ?_⟩
   exact below3 HT.out.bw (Nat.le_refl _) _ _ _ _
theorem rrange_d (f t : Int) (w : World) (hf : 0 ≤ f) (ht : t ≤ 256) (hb0 : -9223372036854775808 ≤ f) (hb1 : f < 9223372036854775808) : Calls Tryz.prog 157 #[.int .i64 f, .int .i64 t] w (IsW (rangeW f (t - f).toNat) w) := by
 have HS := Lib.hid (TwoW.start w)
 obtain ⟨N, hN⟩ : ∃ N, (t - f).toNat = N := ⟨_, rfl⟩
 rw [hN]
 have hm : max f 0 = f := by omega
 have hnf : ¬ f < 0 := by omega
 go_enter Tryz.func157, Tryz.ntmps157
 go_wp2_with fail
 go_loopw [6] (fun i wr => ∃ k : Nat, i = .int .i64 (f + (k : Int)) ∧ k ≤ N ∧ Hid (TwoW w wr (rangeW f k))) (fun i _ => N - (intOf i - f).toNat)
 case atStart => exact ⟨0, by simp, Nat.zero_le _, HS⟩
 case round =>
  obtain ⟨k, rfl, hk, HT⟩ := hrel
  have s0 := HT.out.s0
  have s1 := HT.out.s1
  have s2 := HT.out.s2
  have s3 := HT.out.s3
  have fs := HT.out.fs
  obtain ⟨i, hi'⟩ : ∃ i : Int, f + (k : Int) = i := ⟨_, rfl⟩
  by_cases hlt : k < N
  ·have hil : i < t := by omega
   have HX : Hid (rangeW f (k + 1) = withM (rangeW f k) i) := Lib.hid (by rw [rangeW_succ, hi'])
   have hok := HT.out.ok
   have hiw : IntKind.i64.wrap (i + 1) = i + 1 := by rw [IntKind.wrap_i64]; omega
   obtain ⟨m, hmt⟩ : ∃ m : Nat, (m : Int) = i := ⟨i.toNat, by omega⟩
   have hm256 : m < 256 := by omega
   have hmem : memM (rangeW f k) (m : Int) = false := by
    rw [hmt, ← hi']
    exact rangeW_not f k (by omega) (by omega)
   rw [hi']
   have HQ := Lib.hid hi'
   generalize rangeW f k = s at *
   have hmi : min t 256 = t := by omega
   have hnt : ¬ 256 < t := by omega
   have q4 : m / 64 < 4 := by omega
   obtain ⟨q, hqd⟩ : ∃ q, m / 64 = q := ⟨_, rfl⟩
   obtain ⟨r, hrd⟩ : ∃ r, m % 64 = r := ⟨_, rfl⟩
   have hadd := withM_add hok (n := m) hm256 hmem
   rw [hqd, hrd] at hadd
   have HP := Lib.hid (fun W (hW : TwoW w W s) => hW.putq q (by omega) (s.get q + 2 ^ r) (withM s (m : Int)) hadd.1 (withM_ok hok _))
   have hr : r < 64 := by omega
   have hq4 : q < 4 := by omega
   have hsq := fun W (hW : TwoW w W s) => hW.sc q hq4
   have hwadd := add_wrap hadd.2
   have hp := nat_wrap hr
   have hq : i.tdiv 64 = (q : Int) := by rw [Int.tdiv_eq_ediv_of_nonneg (by omega)]; omega
   have hmd : i.tmod 64 = (r : Int) := by rw [Int.tmod_eq_emod_of_nonneg (by omega)]; omega
   have hw : IntKind.i64.wrap (r : Int) = r := by rw [IntKind.wrap_i64]; omega
   have hw1 : IntKind.i64.wrap (q : Int) = q := by rw [IntKind.wrap_i64]; omega
   rw [hmt] at HP
   have z0 := hsq wr HT.out
   have HT2 := Lib.hid (HP.out wr HT.out)
   generalize s.get q = a at *
   clear hok hmem hadd hqd hrd hmt hm256 q4 hsq HP hi'
   go_wp2_with fail
   go_roundw
   case rel => exact ⟨k + 1, by have := HQ.out; congr 1; omega, by omega, Lib.hid (by rw [HX.out]; exact HT2.out)⟩
   case measure => have := HQ.out; simp [intOf]; omega
  ·have hkn : k = N := by omega
   subst hkn
   have hil : ¬ i < t := by omega
   have r0 := HT.out.r0
   have r1 := HT.out.r1
   have r2 := HT.out.r2
   have r3 := HT.out.r3
   have fr := HT.out.fr
   rw [hi']
   generalize rangeW f k = s at *
   have hne : ¬ w.heap.size = w.heap.size + 1 := by omega
   have hne' : ¬ w.heap.size + 1 = w.heap.size := by omega
   have hmi : min t 256 = t := by omega
   have hnt : ¬ 256 < t := by omega
   clear hi'
   go_wp2_with fail
   refine bodyPost_ret (v := aggW s) (by simp [results, Tryz.results157, go_sem, r0, r1, r2, r3, fr, s0, s1, s2, s3, hne, hne']) rfl ⟨rfl, ?_⟩
   exact below3 HT.out.bw (Nat.le_refl _) _ _ _ _
theorem rrange_any (f t : Int) (w : World) (hb0 : -9223372036854775808 ≤ f) (hb1 : f < 9223372036854775808) : Calls Tryz.prog 157 #[.int .i64 f, .int .i64 t] w (IsW (rangeM f t) w) := by
 unfold rangeM
 by_cases hf : f < 0
 ·rw [show max f 0 = 0 by omega]
  by_cases ht : 256 < t
  ·rw [show min t 256 = 256 by omega]; exact rrange_a f t w hf ht hb0 hb1
  ·rw [show min t 256 = t by omega]; exact rrange_b f t w hf (by omega) hb0 hb1
 ·rw [show max f 0 = f by omega]
  by_cases ht : 256 < t
  ·rw [show min t 256 = 256 by omega]; exact rrange_c f t w (by omega) ht hb0 hb1
  ·rw [show min t 256 = t by omega]; exact rrange_d f t w (by omega) (by omega) hb0 hb1
end Go.Proofs.YtobmjnmcjddhcaaGreat
