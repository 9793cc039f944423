import Derived.Test.YtobmjnmcjddhcaaGreatRg18
import Derived.IntWalk
import Derived.WalkSpells
import Derived.WalkLawsBesides
import Derived.Outline
import Derived.Lib.Hide
import Derived.BigQuiet
import Derived.Deep.QuietTactic
import Derived.Deep.DeepMust
import Derived.Laws.FloatArith
set_option linter.unusedSimpArgs false
set_option linter.unusedVariables false
namespace Go.Proofs.YtobmjnmcjddhcaaGreat
section
set_option maxRecDepth 100000
set_option maxHeartbeats 2000000
open Go.RowKit
def truthM (b : Bool) : Int := if b then 1 else 0
def twoM (op a b : Int) : Int × Bool :=
 if op = 6 then (wrap64 (a + b), true) else if op = 7 then (wrap64 (a - b), true) else if op = 8 then (wrap64 (a * b), true)
 else if op = 9 then (if b = 0 then (0, false) else if b = -1 then (wrap64 (-a), true) else (wrap64 (a.tdiv b), true))
 else if op = 10 then (if b = 0 then (0, false) else if b = -1 then (0, true) else (a.tmod b, true))
 else if op = 12 then (truthM (decide (a < b)), true) else if op = 13 then (truthM (a == b), true) else (0, false)
def twoV (op a b : Int) : Value := .tuple #[.int .i64 (twoM op a b).1, .bool (twoM op a b).2]
def Pure (v : Value) (w : World) (e : Ending) (w' : World) : Prop := e = .returned v ∧ ∃ n, w' = w.drewN n
def OtherTwo (op : Int) : Prop := (op == 6) = false ∧ (op == 7) = false ∧ (op == 8) = false ∧ (op == 9) = false ∧ (op == 10) = false ∧ (op == 12) = false ∧ (op == 13) = false
theorem op_two (op : Int) : op = 6 ∨ op = 7 ∨ op = 8 ∨ op = 9 ∨ op = 10 ∨ op = 12 ∨ op = 13 ∨ OtherTwo op := by
 unfold OtherTwo
 simp only [beq_eq_false_iff_ne]
 omega
theorem twoV_other {op : Int} (h : OtherTwo op) (a b : Int) : twoV op a b = .tuple #[.int .i64 0, .bool false] := by
 unfold OtherTwo at h
 simp only [beq_eq_false_iff_ne] at h
 obtain ⟨h1, h2, h3, h4, h5, h6, h7⟩ := h
 simp [twoV, twoM, h1, h2, h3, h4, h5, h6, h7]
theorem quotient_any (a b : Int) (hb : b ≠ 0) (hb1 : b ≠ -1) (w : World) :
  Calls Tryz.prog 206 #[.int .i64 a, .int .i64 b] w (Pure (.tuple #[.int .i64 (wrap64 (a.tdiv b)), .int .i64 (a.tmod b)]) w) := by
 have h0 : (b == 0) = false := by rw [beq_eq_false_iff_ne]; exact hb
 have h1 : (b == -1) = false := by rw [beq_eq_false_iff_ne]; exact hb1
 go_in
 go_wp2
 go_quiet (fail)
 go_wp2
 go_ret2
 exact ⟨rfl, _, rfl⟩
theorem whole_Two_any (op a b : Int) (w : World) :
  Calls Tryz.prog 202 #[.int .i64 op, .int .i64 a, .int .i64 b] w (Pure (twoV op a b) w) := by
 rcases op_two op with rfl | rfl | rfl | rfl | rfl | rfl | rfl | h
 ·go_in
  go_wp2
  go_ret2
  exact ⟨rfl, 0, rfl⟩
 ·go_in
  go_wp2
  go_ret2
  exact ⟨rfl, 0, rfl⟩
 ·go_in
  go_wp2
  go_ret2
  exact ⟨rfl, 0, rfl⟩
 ·by_cases hb : b = 0
  ·subst hb
   go_in
   go_wp2
   go_ret2
   exact ⟨rfl, 0, rfl⟩
  ·by_cases hb1 : b = -1
   ·subst hb1
    go_in
    go_wp2
    go_ret2
    exact ⟨rfl, 0, rfl⟩
   ·have h0 : (b == 0) = false := by rw [beq_eq_false_iff_ne]; exact hb
    have hv : Hid (twoV 9 a b = .tuple #[.int .i64 (wrap64 (a.tdiv b)), .bool true]) := by
     show twoV 9 a b = _
     simp [twoV, twoM, hb, hb1]
    go_in
    go_wp2_with (first | (go_at_call 206; refine (quotient_any _ _ hb hb1 _).mono ?_; rintro e w' ⟨rfl, n, rfl⟩) | go_in)
    go_ret2
    exact ⟨by rw [hv.out]; rfl, _, rfl⟩
 ·by_cases hb : b = 0
  ·subst hb
   go_in
   go_wp2
   go_ret2
   exact ⟨rfl, 0, rfl⟩
  ·by_cases hb1 : b = -1
   ·subst hb1
    go_in
    go_wp2
    go_ret2
    exact ⟨rfl, 0, rfl⟩
   ·have h0 : (b == 0) = false := by rw [beq_eq_false_iff_ne]; exact hb
    have hv : Hid (twoV 10 a b = .tuple #[.int .i64 (a.tmod b), .bool true]) := by
     show twoV 10 a b = _
     simp [twoV, twoM, hb, hb1]
    go_in
    go_wp2_with (first | (go_at_call 206; refine (quotient_any _ _ hb hb1 _).mono ?_; rintro e w' ⟨rfl, n, rfl⟩) | go_in)
    go_ret2
    exact ⟨by rw [hv.out]; rfl, _, rfl⟩
 ·have hv : Hid (∀ t, decide (a < b) = t → twoV 12 a b = .tuple #[.int .i64 (truthM t), .bool true]) := by
   intro t ht; subst ht; rfl
  by_cases hab : a < b
  all_goals
   go_in
   go_wp2
   go_ret2
   exact ⟨by first | (rw [hv.out true (by simpa using hab)]; rfl) | (rw [hv.out false (by simpa using hab)]; rfl), 0, rfl⟩
 ·have hv : Hid (∀ t, (a == b) = t → twoV 13 a b = .tuple #[.int .i64 (truthM t), .bool true]) := by
   intro t ht; subst ht; rfl
  cases hab : (a == b)
  all_goals
   go_in
   go_wp2
   go_ret2
   exact ⟨by rw [hv.out _ hab]; rfl, 0, rfl⟩
 ·have hv : Hid (twoV op a b = .tuple #[.int .i64 0, .bool false]) := twoV_other h a b
  obtain ⟨h1, h2, h3, h4, h5, h6, h7⟩ := h
  go_in
  go_wp2
  go_ret2
  exact ⟨by rw [hv.out]; rfl, 0, rfl⟩
end
section
set_option maxRecDepth 100000
set_option maxHeartbeats 2000000
open Go.RowKit
def oneM (op a : Int) : Int := if op = 11 then wrap64 (-a) else if op = 14 then truthM (a == 0) else 0
theorem op_one (op : Int) : op = 11 ∨ op = 14 ∨ ((op == 11) = false ∧ (op == 14) = false) := by
 simp only [beq_eq_false_iff_ne]
 omega
theorem whole_One_any (op a : Int) (w : World) : Calls Tryz.prog 201 #[.int .i64 op, .int .i64 a] w fun e w' => e = .returned (.int .i64 (oneM op a)) ∧ w = w' := by
 rcases op_one op with rfl | rfl | ⟨h1, h2⟩
 ·go_in
  go_wp2
  go_ret
  exact ⟨rfl, rfl⟩
 ·have hv : Hid (∀ t, (a == 0) = t → oneM 14 a = truthM t) := by intro t ht; subst ht; rfl
  cases hab : (a == 0)
  all_goals
   go_in
   go_wp2
   go_ret
   exact ⟨by rw [hv.out _ hab]; rfl, rfl⟩
 ·have hv : Hid (oneM op a = 0) := by
   show oneM op a = 0
   simp only [beq_eq_false_iff_ne] at h1 h2
   simp [oneM, h1, h2]
  go_in
  go_wp2
  go_ret
  exact ⟨by rw [hv.out]; rfl, rfl⟩
def takesNM (op : Int) : Int := if op = 6 ∨ op = 7 ∨ op = 8 ∨ op = 9 ∨ op = 10 ∨ op = 12 ∨ op = 13 then 2 else if op = 11 ∨ op = 14 then 1 else 0
theorem op_takes (op : Int) : (op = 6 ∨ op = 7 ∨ op = 8 ∨ op = 9 ∨ op = 10 ∨ op = 12 ∨ op = 13 ∨ op = 11 ∨ op = 14) ∨ op < 6 ∨ 14 < op := by omega
theorem whole_Takes_any (op : Int) (w : World) : Calls Tryz.prog 188 #[.int .i64 op] w fun e w' => e = .returned (.int .i64 (takesNM op)) ∧ w = w' := by
 rcases op_takes op with h | h
 ·rcases h with rfl | rfl | rfl | rfl | rfl | rfl | rfl | rfl | rfl
  all_goals
   go_in
   go_wp2
   go_ret
   exact ⟨rfl, rfl⟩
 ·have hv : Hid (takesNM op = 0) := by
   show takesNM op = 0
   unfold takesNM
   rw [if_neg (by omega), if_neg (by omega)]
  rcases h with h | h
  all_goals
   go_in
   go_wp2
   go_ret
   exact ⟨by rw [hv.out]; rfl, rfl⟩
end
section
open Go.RowKit
open Ieee (Datum)
theorem isN_rd {x : Nat} (h : isN x = true) : ∃ s t, Ieee.double.read x = .nan s t := by
 unfold isN at h
 cases hr : Ieee.double.read x with
 | nan s t => exact ⟨s, t, rfl⟩
 | number s m p => rw [hr] at h; simp [Datum.isNaN] at h
 | infinity s => rw [hr] at h; simp [Datum.isNaN] at h
theorem fb_nan_l {op : BinOp} (ho : op = .add ∨ op = .sub ∨ op = .mul) {x : Nat} (y : Nat) (h : isN x = true) : floatBits op .f64 x y = none := by
 obtain ⟨s, t, hr⟩ := isN_rd h
 rcases ho with rfl | rfl | rfl
 ·show Ieee.double.add x y = none
  unfold Ieee.Format.add
  rw [hr]
  cases Ieee.double.read y <;> rfl
 ·show Ieee.double.sub x y = none
  unfold Ieee.Format.sub
  rw [hr]
  cases Ieee.double.read y <;> rfl
 ·show Ieee.double.mul x y = none
  unfold Ieee.Format.mul
  rw [hr]
  cases Ieee.double.read y <;> rfl
theorem fb_nan_r {op : BinOp} (ho : op = .add ∨ op = .sub ∨ op = .mul) (x : Nat) {y : Nat} (h : isN y = true) : floatBits op .f64 x y = none := by
 obtain ⟨s, t, hr⟩ := isN_rd h
 rcases ho with rfl | rfl | rfl
 ·show Ieee.double.add x y = none
  unfold Ieee.Format.add
  rw [hr]
  cases Ieee.double.read x <;> rfl
 ·show Ieee.double.sub x y = none
  unfold Ieee.Format.sub
  rw [hr]
  cases Ieee.double.read x <;> rfl
 ·show Ieee.double.mul x y = none
  unfold Ieee.Format.mul
  rw [hr]
  cases Ieee.double.read x <;> rfl
theorem sw_eq : Ieee.double.signWeight = 9223372036854775808 := by decide
theorem bin_eq : Ieee.double.binade = 4503599627370496 := by decide
theorem inf_eq : Ieee.double.infRung = 9218868437227405312 := by decide
theorem isN_drawn (t : Nat) : isN ((t % 2) * 2 ^ 63 + 0x7ff0000000000000 + 1 + (t / 2) % (2 ^ 52 - 1)) = true := by
 have h1 : (t / 2) % (2 ^ 52 - 1) < 2 ^ 52 - 1 := Nat.mod_lt _ (by decide)
 generalize (t / 2) % (2 ^ 52 - 1) = r at *
 have h2 : ((t % 2) * 2 ^ 63 + 0x7ff0000000000000 + 1 + r) % 9223372036854775808 = 9218868437227405313 + r := by omega
 unfold isN Ieee.Format.read
 simp only [sw_eq, bin_eq, inf_eq, h2]
 rw [if_neg (by omega), if_neg (by omega), if_neg (by omega)]
 rfl
def FlR (op : BinOp) (x y r : Nat) : Prop := floatBits op .f64 x y = some r ∨ (floatBits op .f64 x y = none ∧ isN r = true)
def fop (op : BinOp) (x y : Nat) (w : World) : Nat := match floatBits op .f64 x y with
 | some r => r
 | none => (Question.nanBits .f64 x y).cut (w.tape w.drawn (.nanBits .f64 x y))
def fq (op : BinOp) (x y : Nat) : Nat := match floatBits op .f64 x y with
 | some _ => 0
 | none => 1
theorem fop_flr (op : BinOp) (x y : Nat) (w : World) : FlR op x y (fop op x y w) := by
 unfold FlR fop
 cases h : floatBits op .f64 x y with
 | some r => exact .inl rfl
 | none => exact .inr ⟨rfl, isN_drawn _⟩
theorem run_arith (P : Program) (w : World) (op : BinOp) (ho : op = .add ∨ op = .sub ∨ op = .mul) (x y : Nat) : (Op.floatArith op .f64 x y).run P w = .ok (.float .f64 (fop op x y w)) (w.drewN (fq op x y)) := by
 unfold fop fq
 cases h : floatBits op .f64 x y with
 | some r =>
  unfold floatBits at h
  rcases ho with rfl | rfl | rfl
  all_goals
   simp only at h
   simp [Op.floatArith, h, World.drewN_zero]
 | none =>
  unfold floatBits at h
  rcases ho with rfl | rfl | rfl
  all_goals
   simp only at h
   simp [Op.floatArith, h, Question.forced]
   rfl
theorem run_fop (P : Program) (w : World) (op : BinOp) (ho : op = .add ∨ op = .sub ∨ op = .mul) (t : TypeId) (x y : Nat) : (binOp op t (.float .f64 x) (.float .f64 y)).run P w = .ok (.float .f64 (fop op x y w)) (w.drewN (fq op x y)) := by
 have h := run_arith P w op ho x y
 rcases ho with rfl | rfl | rfl <;> simpa [binOp] using h
theorem run_cplx (P : Program) (w : World) (op : BinOp) (ho : op = .add ∨ op = .sub) (t : TypeId) (a b c d : Nat) : (binOp op t (.complex .f64 a b) (.complex .f64 c d)).run P w = .ok (.complex .f64 (fop op a c w) (fop op b d (w.drewN (fq op a c)))) (w.drewN (fq op a c + fq op b d)) := by
 rcases ho with rfl | rfl
 ·have h1 := fun w => run_arith P w .add (.inl rfl) a c
  have h2 := fun w => run_arith P w .add (.inl rfl) b d
  simp [binOp, Op.complexOp, Op.Complex.arith, h1, h2]
 ·have h1 := fun w => run_arith P w .sub (.inr (.inl rfl)) a c
  have h2 := fun w => run_arith P w .sub (.inr (.inl rfl)) b d
  simp [binOp, Op.complexOp, Op.Complex.arith, h1, h2]
def hiB : Nat := 0x43D0000000000000
def loB : Nat := 0xC3D0000000000000
theorem read_hi : Ieee.double.read hiB = .number false 4503599627370496 10 := by decide
theorem read_lo : Ieee.double.read loB = .number true 4503599627370496 10 := by decide
def inB (x : Nat) : Bool := (Ieee.double.order x loB == some .gt) && (Ieee.double.order x hiB == some .lt)
def partB (x : Nat) : Int := if inB x = true then ((Ieee.double.read x).toInt .zero).getD 0 else 0
theorem cmp_lt {a b : Int} (h : compare a b = .lt) : a < b := by
 change compareOfLessAndEq a b = .lt at h
 unfold compareOfLessAndEq at h
 split at h
 ·assumption
 ·split at h <;> cases h
theorem cmp_gt {a b : Int} (h : compare a b = .gt) : b < a := by
 change compareOfLessAndEq a b = .gt at h
 unfold compareOfLessAndEq at h
 split at h
 ·cases h
 ·split at h
  ·cases h
  ·omega
theorem signed_abs (s : Bool) (m up : Nat) : (Ieee.signed s m up).natAbs = m * 2 ^ up := by
 unfold Ieee.signed
 rw [Nat.shiftLeft_eq]
 cases s
 ·exact Int.natAbs_natCast _
 ·rw [if_pos rfl, Int.natAbs_neg]
  exact Int.natAbs_natCast _
theorem cut_le (s : Bool) (n drop : Nat) : Ieee.Toward.cut .zero s n drop ≤ n / 2 ^ drop := by
 unfold Ieee.Toward.cut
 simp only [Nat.shiftLeft_eq, Nat.one_mul, Bool.toNat_false, Nat.add_zero]
 rcases Nat.le_total drop (n.log2 + 2) with h | h
 ·rw [Nat.min_eq_left h]
  exact Nat.le_refl _
 ·rw [Nat.min_eq_right h]
  have : n < 2 ^ (n.log2 + 2) := Nat.lt_trans (Nat.lt_log2_self) (Nat.pow_lt_pow_right (by omega) (by omega))
  rw [Nat.div_eq_of_lt this]
  exact Nat.zero_le _
theorem toInt_some {x : Nat} (h : inB x = true) : ∃ n, (Ieee.double.read x).toInt .zero = some n ∧ -4611686018427387904 < n ∧ n < 4611686018427387904 := by
 unfold inB at h
 rw [Bool.and_eq_true, beq_iff_eq, beq_iff_eq] at h
 obtain ⟨hl, hh⟩ := h
 unfold Ieee.Format.order at hl hh
 rw [read_lo] at hl
 rw [read_hi] at hh
 cases hr : Ieee.double.read x with
 | nan s t => rw [hr] at hl; cases hl
 | infinity s => rw [hr] at hl hh; cases s <;> simp [Datum.order] at hl hh
 | number s m i =>
  rw [hr] at hl hh
  simp only [Datum.order, Option.some.injEq] at hl hh
  have hl := cmp_gt hl
  have hh := cmp_lt hh
  refine ⟨Ieee.signed s (Ieee.Toward.cut .zero s (m <<< i.toNat) (-i).toNat) 0, rfl, ?_⟩
  have hc := cut_le s (m <<< i.toNat) (-i).toNat
  rw [Nat.shiftLeft_eq] at hc
  have key : m * 2 ^ i.toNat / 2 ^ (-i).toNat < 4611686018427387904 := by
   rcases Int.le_total i 0 with hi | hi
   ·-- a fraction
    obtain ⟨k, rfl⟩ : ∃ k : Nat, i = -(k : Int) := ⟨(-i).toNat, by omega⟩
    have e1 : (-(k : Int)).toNat = 0 := by omega
    have e2 : (- -(k : Int)).toNat = k := by omega
    rw [e1, e2, Nat.pow_zero, Nat.mul_one]
    have e3 : min (-(k : Int)) 10 = -(k : Int) := by omega
    rw [e3] at hl hh
    have e4 : (-(k : Int) - -(k : Int)).toNat = 0 := by omega
    have e5 : (10 - -(k : Int)).toNat = k + 10 := by omega
    rw [e4, e5] at hl hh
    have hm : m < 4611686018427387904 * 2 ^ k := by
     have hp : (4503599627370496 : Nat) * 2 ^ (k + 10) = 4611686018427387904 * 2 ^ k := by
      rw [Nat.pow_add, Nat.mul_comm (2 ^ k), ← Nat.mul_assoc]
     unfold Ieee.signed at hl hh
     simp only [Nat.shiftLeft_eq, Nat.pow_zero, Nat.mul_one, hp] at hl hh
     cases s
     ·simp only [Bool.false_eq_true, if_false] at hh
      exact Int.ofNat_lt.1 hh
     ·simp only [if_true] at hl
      exact Int.ofNat_lt.1 (Int.lt_of_neg_lt_neg hl)
    exact (Nat.div_lt_iff_lt_mul (Nat.two_pow_pos _)).2 hm
   ·obtain ⟨k, rfl⟩ : ∃ k : Nat, i = (k : Int) := ⟨i.toNat, by omega⟩
    have e1 : ((k : Int)).toNat = k := by omega
    have e2 : (-(k : Int)).toNat = 0 := by omega
    rw [e1, e2, Nat.pow_zero, Nat.div_one]
    rcases Nat.le_total k 10 with hk | hk
    ·have e3 : min (k : Int) 10 = (k : Int) := by omega
     rw [e3] at hl hh
     have e4 : ((k : Int) - (k : Int)).toNat = 0 := by omega
     obtain ⟨d, hd⟩ : ∃ d, 10 = k + d := ⟨10 - k, by omega⟩
     have e5 : (10 - (k : Int)).toNat = d := by omega
     rw [e4, e5] at hl hh
     have hm : m < 4503599627370496 * 2 ^ d := by
      unfold Ieee.signed at hl hh
      simp only [Nat.shiftLeft_eq, Nat.pow_zero, Nat.mul_one] at hl hh
      cases s
      ·simp only [Bool.false_eq_true, if_false] at hh
       exact Int.ofNat_lt.1 hh
      ·simp only [if_true] at hl
       exact Int.ofNat_lt.1 (Int.lt_of_neg_lt_neg hl)
     have h1 : m * 2 ^ k < 4503599627370496 * 2 ^ d * 2 ^ k := Nat.mul_lt_mul_of_pos_right hm (Nat.two_pow_pos _)
     have h2 : 4503599627370496 * 2 ^ d * 2 ^ k = 4611686018427387904 := by
      rw [Nat.mul_assoc, ← Nat.pow_add, Nat.add_comm d k, ← hd]
     omega
    ·have e3 : min (k : Int) 10 = 10 := by omega
     rw [e3] at hl hh
     obtain ⟨d, rfl⟩ : ∃ d, k = 10 + d := ⟨k - 10, by omega⟩
     have e4 : (((10 + d : Nat) : Int) - 10).toNat = d := by omega
     have e5 : ((10 : Int) - 10).toNat = 0 := by omega
     rw [e4, e5] at hl hh
     have hm : m * 2 ^ d < 4503599627370496 := by
      unfold Ieee.signed at hl hh
      simp only [Nat.shiftLeft_eq, Nat.pow_zero, Nat.mul_one] at hl hh
      cases s
      ·simp only [Bool.false_eq_true, if_false] at hh; omega
      ·simp only [if_true] at hl; omega
     rw [Nat.pow_add, Nat.mul_comm (2 ^ 10), ← Nat.mul_assoc]
     omega
  have hlt := Nat.lt_of_le_of_lt hc key
  have ha := signed_abs s (Ieee.Toward.cut .zero s (m <<< i.toNat) (-i).toNat) 0
  rw [Nat.shiftLeft_eq] at ha ⊢
  rw [Nat.pow_zero, Nat.mul_one] at ha
  omega
theorem toIntVal {x : Nat} (h : inB x = true) : floatToIntVal .f64 x .i64 = some (partB x) := by
 obtain ⟨n, hn, h1, h2⟩ := toInt_some h
 unfold floatToIntVal partB
 rw [if_pos h]
 show (match (Ieee.double.read x).toInt .zero with
  | some n => if IntKind.i64.min ≤ n ∧ n ≤ IntKind.i64.max then some n else none
  | none => none) = _
 rw [hn]
 simp only [Option.getD_some]
 rw [if_pos (by simp [IntKind.min, IntKind.max, IntKind.signed, IntKind.bits]; omega)]
end
section
set_option maxRecDepth 100000
open Go.RowKit
theorem fl_add (w : World) (t : TypeId) (x y : Nat) : (binOp .add t (.float .f64 x) (.float .f64 y)).run Tryz.prog w = .ok (.float .f64 (fop .add x y w)) (w.drewN (fq .add x y)) := run_fop _ w .add (.inl rfl) t x y
theorem fl_sub (w : World) (t : TypeId) (x y : Nat) : (binOp .sub t (.float .f64 x) (.float .f64 y)).run Tryz.prog w = .ok (.float .f64 (fop .sub x y w)) (w.drewN (fq .sub x y)) := run_fop _ w .sub (.inr (.inl rfl)) t x y
theorem fl_mul (w : World) (t : TypeId) (x y : Nat) : (binOp .mul t (.float .f64 x) (.float .f64 y)).run Tryz.prog w = .ok (.float .f64 (fop .mul x y w)) (w.drewN (fq .mul x y)) := run_fop _ w .mul (.inr (.inr rfl)) t x y
theorem cx_add (w : World) (t : TypeId) (a b c d : Nat) : (binOp .add t (.complex .f64 a b) (.complex .f64 c d)).run Tryz.prog w = .ok (.complex .f64 (fop .add a c w) (fop .add b d (w.drewN (fq .add a c)))) (w.drewN (fq .add a c + fq .add b d)) := run_cplx _ w .add (.inl rfl) t a b c d
theorem cx_sub (w : World) (t : TypeId) (a b c d : Nat) : (binOp .sub t (.complex .f64 a b) (.complex .f64 c d)).run Tryz.prog w = .ok (.complex .f64 (fop .sub a c w) (fop .sub b d (w.drewN (fq .sub a c)))) (w.drewN (fq .sub a c + fq .sub b d)) := run_cplx _ w .sub (.inr rfl) t a b c d
attribute [local go_sem] fl_add fl_sub fl_mul cx_add cx_sub
def TwoR (op : Int) (a b c d r i : Nat) : Prop :=
 (op = 16 → FlR .add a c r ∧ FlR .add b d i) ∧ (op = 17 → FlR .sub a c r ∧ FlR .sub b d i) ∧
 (op = 18 → ∃ p q u v, FlR .mul a c p ∧ FlR .mul b d q ∧ FlR .sub p q r ∧ FlR .mul a d u ∧ FlR .mul b c v ∧ FlR .add u v i) ∧
 (op ≠ 16 → op ≠ 17 → op ≠ 18 → r = 0 ∧ i = 0)
def IsTwoC (op : Int) (a b c d : Nat) (w : World) (e : Ending) (w' : World) : Prop := ∃ r i n, e = .returned (.complex .f64 r i) ∧ TwoR op a b c d r i ∧ w' = w.drewN n
theorem pair_any (a b : Int) (w : World) : Calls Tryz.prog 191 #[.int .i64 a, .int .i64 b] w fun e w' => e = .returned (.complex .f64 (FloatKind.f64.nearest a) (FloatKind.f64.nearest b)) ∧ w = w' := by
 go_in
 go_wp2
 go_ret
 exact ⟨rfl, rfl⟩
def IsTimes (a b c d : Nat) (w : World) (e : Ending) (w' : World) : Prop := ∃ r i n, e = .returned (.complex .f64 r i) ∧ (∃ p q u v, FlR .mul a c p ∧ FlR .mul b d q ∧ FlR .sub p q r ∧ FlR .mul a d u ∧ FlR .mul b c v ∧ FlR .add u v i) ∧ w' = w.drewN n
theorem times_any (a b c d : Nat) (w : World) : Calls Tryz.prog 199 #[.complex .f64 a b, .complex .f64 c d] w (IsTimes a b c d w) := by
 go_in
 go_wp2
 go_ret
 exact ⟨_, _, _, rfl, ⟨_, _, _, _, fop_flr _ _ _ _, fop_flr _ _ _ _, fop_flr _ _ _ _, fop_flr _ _ _ _, fop_flr _ _ _ _, fop_flr _ _ _ _⟩, rfl⟩
end
section
set_option maxRecDepth 100000
open Go.RowKit
attribute [local go_sem] fl_add fl_sub fl_mul cx_add cx_sub
theorem two_any (op : Int) (a b c d : Nat) (w : World) : Calls Tryz.prog 192 #[.int .i64 op, .complex .f64 a b, .complex .f64 c d] w (IsTwoC op a b c d w) := by
 rcases (show op = 16 ∨ op = 17 ∨ op = 18 ∨ (¬ op = 16 ∧ ¬ op = 17 ∧ ¬ op = 18) by omega) with rfl | rfl | rfl | ⟨h1, h2, h3⟩
 ·go_in
  go_wp2
  go_ret
  exact ⟨_, _, _, rfl, ⟨fun _ => ⟨fop_flr _ _ _ _, fop_flr _ _ _ _⟩, fun h => absurd h (by decide), fun h => absurd h (by decide), fun h => absurd rfl h⟩, rfl⟩
 ·go_in
  go_wp2
  go_ret
  exact ⟨_, _, _, rfl, ⟨fun h => absurd h (by decide), fun _ => ⟨fop_flr _ _ _ _, fop_flr _ _ _ _⟩, fun h => absurd h (by decide), fun _ h => absurd rfl h⟩, rfl⟩
 ·go_in
  go_wp2_with fail
  refine (times_any _ _ _ _ _).mono ?_
  rintro e w' ⟨r, i, n, rfl, ht, rfl⟩
  have H := Hd ht
  clear ht
  go_wp2_with fail
  go_ret
  exact ⟨_, _, _, rfl, ⟨fun h => absurd h (by decide), fun h => absurd h (by decide), fun _ => H.out, fun _ _ h => absurd rfl h⟩, rfl⟩
 ·have t1 : (op == 16) = false := by simpa using h1
  have t2 : (op == 17) = false := by simpa using h2
  have t3 : (op == 18) = false := by simpa using h3
  go_in
  go_wp2
  go_ret
  exact ⟨_, _, 0, rfl, ⟨fun h => absurd h h1, fun h => absurd h h2, fun h => absurd h h3, fun _ _ _ => ⟨rfl, rfl⟩⟩, rfl⟩
theorem inB_cases (x : Nat) : (FloatKind.f64.format.order x 14109777632551763968 == some .gt) = false ∨ ((FloatKind.f64.format.order x 14109777632551763968 == some .gt) = true ∧ (FloatKind.f64.format.order x 4886405595696988160 == some .lt) = false) ∨
  ((FloatKind.f64.format.order x 14109777632551763968 == some .gt) = true ∧ (FloatKind.f64.format.order x 4886405595696988160 == some .lt) = true) := by
 cases (FloatKind.f64.format.order x 14109777632551763968 == some .gt) <;> cases (FloatKind.f64.format.order x 4886405595696988160 == some .lt) <;> simp
theorem inB_is (x : Nat) : inB x = ((FloatKind.f64.format.order x 14109777632551763968 == some .gt) && (FloatKind.f64.format.order x 4886405595696988160 == some .lt)) := rfl
theorem conv_part {x : Nat} (h : inB x = true) (w : World) : (convert 144 3 (.float .f64 x)).run Tryz.prog w = .ok (.int .i64 (partB x)) w :=
 run_convert_float_int w _ _ .f64 .i64 x _ (by simp [Tryz.underlying144]) Tryz.underlying3 (toIntVal h)
theorem round_any (x : Nat) (w : World) : Calls Tryz.prog 200 #[.float .f64 x] w fun e w' => e = .returned (.int .i64 (partB x)) ∧ w = w' := by
 rcases inB_cases x with h | ⟨h, k⟩ | ⟨h, k⟩
 ·have hz : Hid (partB x = 0) := by
   show partB x = 0
   unfold partB
   rw [inB_is, h]
   rfl
  go_in
  go_wp2
  go_ret
  exact ⟨by rw [hz.out]; rfl, rfl⟩
 ·have hz : Hid (partB x = 0) := by
   show partB x = 0
   unfold partB
   rw [inB_is, h, k]
   rfl
  go_in
  go_wp2
  go_ret
  exact ⟨by rw [hz.out]; rfl, rfl⟩
 ·have hc := conv_part (x := x) (by rw [inB_is, h, k]; rfl)
  generalize partB x = p at *
  go_in
  go_wp2
  go_ret
  exact ⟨rfl, rfl⟩
def partOf (op : Int) (a b : Nat) : Int := if op = 19 then partB a else if op = 20 then partB b else 0
theorem part_any (op : Int) (a b : Nat) (w : World) : Calls Tryz.prog 193 #[.int .i64 op, .complex .f64 a b] w fun e w' => e = .returned (.int .i64 (partOf op a b)) ∧ w = w' := by
 rcases (show op = 19 ∨ op = 20 ∨ (¬ op = 19 ∧ ¬ op = 20) by omega) with rfl | rfl | ⟨h1, h2⟩
 ·have hp : partOf 19 a b = partB a := rfl
  rw [hp]
  clear hp
  go_in
  go_wp2_with fail
  refine (round_any _ _).mono ?_
  rintro e w' ⟨rfl, rfl⟩
  go_wp2_with fail
  go_ret
  exact ⟨rfl, rfl⟩
 ·have hp : partOf 20 a b = partB b := rfl
  rw [hp]
  clear hp
  go_in
  go_wp2_with fail
  refine (round_any _ _).mono ?_
  rintro e w' ⟨rfl, rfl⟩
  go_wp2_with fail
  go_ret
  exact ⟨rfl, rfl⟩
 ·have hp : partOf op a b = 0 := by unfold partOf; rw [if_neg h1, if_neg h2]
  rw [hp]
  have t1 : (op == 19) = false := by simpa using h1
  have t2 : (op == 20) = false := by simpa using h2
  clear hp
  go_in
  go_wp2
  go_ret
  exact ⟨rfl, rfl⟩
end
end Go.Proofs.YtobmjnmcjddhcaaGreat
