/-
  Floats of 64 bits, plain: numbers that are none, what operations give, whole numbers that are exact. No program.
-/
import Derived.Test.YthddhipmmhihlaaGen
import Derived.Laws.FloatArith
namespace Go.Proofs.Ythddhipmmhihlaa
open Ieee (Datum)
set_option linter.unusedSimpArgs false
set_option linter.unusedVariables false

/-- No number. -/
def isN (x : Nat) : Bool := (Ieee.double.read x).isNaN
/-- The same, or both none. -/
def FE (x y : Nat) : Prop := x = y ∨ (isN x = true ∧ isN y = true)
theorem FE.rfl' (x : Nat) : FE x x := .inl rfl
theorem isN_read {x : Nat} (h : isN x = true) : ∃ s t, Ieee.double.read x = .nan s t := by
  unfold isN at h
  cases hr : Ieee.double.read x with
  | nan s t => exact ⟨s, t, rfl⟩
  | number s m p => rw [hr] at h; simp [Datum.isNaN] at h
  | infinity s => rw [hr] at h; simp [Datum.isNaN] at h
theorem fb_nan_l {op : BinOp} (ho : op = .add ∨ op = .sub ∨ op = .mul) {x : Nat} (y : Nat) (h : isN x = true) : floatBits op .f64 x y = none := by
  obtain ⟨s, t, hr⟩ := isN_read h
  rcases ho with rfl | rfl | rfl
  · show Ieee.double.add x y = none
    unfold Ieee.Format.add
    rw [hr]
    cases Ieee.double.read y <;> rfl
  · show Ieee.double.sub x y = none
    unfold Ieee.Format.sub
    rw [hr]
    cases Ieee.double.read y <;> rfl
  · show Ieee.double.mul x y = none
    unfold Ieee.Format.mul
    rw [hr]
    cases Ieee.double.read y <;> rfl
theorem fb_nan_r {op : BinOp} (ho : op = .add ∨ op = .sub ∨ op = .mul) (x : Nat) {y : Nat} (h : isN y = true) : floatBits op .f64 x y = none := by
  obtain ⟨s, t, hr⟩ := isN_read h
  rcases ho with rfl | rfl | rfl
  · show Ieee.double.add x y = none
    unfold Ieee.Format.add
    rw [hr]
    cases Ieee.double.read x <;> rfl
  · show Ieee.double.sub x y = none
    unfold Ieee.Format.sub
    rw [hr]
    cases Ieee.double.read x <;> rfl
  · show Ieee.double.mul x y = none
    unfold Ieee.Format.mul
    rw [hr]
    cases Ieee.double.read x <;> rfl

theorem sw_eq : Ieee.double.signWeight = 9223372036854775808 := by decide
theorem bin_eq : Ieee.double.binade = 4503599627370496 := by decide
theorem inf_eq : Ieee.double.infRung = 9218868437227405312 := by decide
theorem lp_eq : Ieee.double.leastPlace = -1074 := by decide
theorem isN_drawn (t : Nat) : isN ((t % 2) * 2 ^ 63 + 0x7ff0000000000000 + 1 + (t / 2) % (2 ^ 52 - 1)) = true := by
  have h1 : (t / 2) % (2 ^ 52 - 1) < 2 ^ 52 - 1 := Nat.mod_lt _ (by decide)
  generalize (t / 2) % (2 ^ 52 - 1) = r at *
  have h2 : ((t % 2) * 2 ^ 63 + 0x7ff0000000000000 + 1 + r) % 9223372036854775808 = 9218868437227405313 + r := by omega
  unfold isN Ieee.Format.read
  simp only [sw_eq, bin_eq, inf_eq, h2]
  rw [if_neg (by omega), if_neg (by omega), if_neg (by omega)]
  rfl

/-- What an operation gives: its bits, or some none. -/
def FlR (op : BinOp) (x y r : Nat) : Prop := floatBits op .f64 x y = some r ∨ (floatBits op .f64 x y = none ∧ isN r = true)
theorem FlR.same {op : BinOp} (ho : op = .add ∨ op = .sub ∨ op = .mul) {x y x' y' r r' : Nat} (hx : FE x x') (hy : FE y y') (h : FlR op x y r) (h' : FlR op x' y' r') : FE r r' := by
  rcases hx with rfl | ⟨hx, hx'⟩
  · rcases hy with rfl | ⟨hy, hy'⟩
    · rcases h with h | ⟨h, hn⟩ <;> rcases h' with h' | ⟨h', hn'⟩
      · rw [h] at h'; injection h' with h'; exact .inl h'
      · rw [h] at h'; cases h'
      · rw [h] at h'; cases h'
      · exact .inr ⟨hn, hn'⟩
    · have e := fb_nan_r ho x hy
      have e' := fb_nan_r ho x hy'
      rcases h with h | ⟨h, hn⟩
      · rw [e] at h; cases h
      · rcases h' with h' | ⟨h', hn'⟩
        · rw [e'] at h'; cases h'
        · exact .inr ⟨hn, hn'⟩
  · have e := fb_nan_l ho y hx
    have e' := fb_nan_l ho y' hx'
    rcases h with h | ⟨h, hn⟩
    · rw [e] at h; cases h
    · rcases h' with h' | ⟨h', hn'⟩
      · rw [e'] at h'; cases h'
      · exact .inr ⟨hn, hn'⟩

/-- An operation's bits, in a world that may be asked for a none. -/
def fop (op : BinOp) (x y : Nat) (w : World) : Nat := match floatBits op .f64 x y with
  | some r => r
  | none => (Question.nanBits .f64 x y).cut (w.tape w.drawn (.nanBits .f64 x y))
def fq (op : BinOp) (x y : Nat) : Nat := match floatBits op .f64 x y with
  | some _ => 0
  | none => 1
theorem fop_flr (op : BinOp) (x y : Nat) (w : World) : FlR op x y (fop op x y w) := by
  unfold FlR fop
  cases h : floatBits op .f64 x y with
  | some r => exact .inl rfl
  | none => exact .inr ⟨rfl, isN_drawn _⟩
theorem run_arith (P : Program) (w : World) (op : BinOp) (ho : op = .add ∨ op = .sub ∨ op = .mul) (x y : Nat) : (Op.floatArith op .f64 x y).run P w = .ok (.float .f64 (fop op x y w)) (w.drewN (fq op x y)) := by
  unfold fop fq
  cases h : floatBits op .f64 x y with
  | some r =>
    unfold floatBits at h
    rcases ho with rfl | rfl | rfl
    all_goals
      simp only at h
      simp [Op.floatArith, h, World.drewN_zero]
  | none =>
    unfold floatBits at h
    rcases ho with rfl | rfl | rfl
    all_goals
      simp only at h
      simp [Op.floatArith, h, Question.forced]
      rfl
theorem run_fop (P : Program) (w : World) (op : BinOp) (ho : op = .add ∨ op = .sub ∨ op = .mul) (t : TypeId) (x y : Nat) : (binOp op t (.float .f64 x) (.float .f64 y)).run P w = .ok (.float .f64 (fop op x y w)) (w.drewN (fq op x y)) := by
  have h := run_arith P w op ho x y
  rcases ho with rfl | rfl | rfl <;> simpa [binOp] using h
theorem run_cplx (P : Program) (w : World) (op : BinOp) (ho : op = .add ∨ op = .sub) (t : TypeId) (a b c d : Nat) : (binOp op t (.complex .f64 a b) (.complex .f64 c d)).run P w = .ok (.complex .f64 (fop op a c w) (fop op b d (w.drewN (fq op a c)))) (w.drewN (fq op a c + fq op b d)) := by
  rcases ho with rfl | rfl
  · have h1 := fun w => run_arith P w .add (.inl rfl) a c
    have h2 := fun w => run_arith P w .add (.inl rfl) b d
    simp [binOp, Op.complexOp, Op.Complex.arith, h1, h2]
  · have h1 := fun w => run_arith P w .sub (.inr (.inl rfl)) a c
    have h2 := fun w => run_arith P w .sub (.inr (.inl rfl)) b d
    simp [binOp, Op.complexOp, Op.Complex.arith, h1, h2]

/-! The parts as whole numbers. -/
def hiB : Nat := 0x43D0000000000000
def loB : Nat := 0xC3D0000000000000
theorem read_hi : Ieee.double.read hiB = .number false 4503599627370496 10 := by decide
theorem read_lo : Ieee.double.read loB = .number true 4503599627370496 10 := by decide
def inB (x : Nat) : Bool := (Ieee.double.order x loB == some .gt) && (Ieee.double.order x hiB == some .lt)
def partB (x : Nat) : Int := if inB x = true then ((Ieee.double.read x).toInt .zero).getD 0 else 0
theorem cmp_lt {a b : Int} (h : compare a b = .lt) : a < b := by
  change compareOfLessAndEq a b = .lt at h
  unfold compareOfLessAndEq at h
  split at h
  · assumption
  · split at h <;> cases h
theorem cmp_gt {a b : Int} (h : compare a b = .gt) : b < a := by
  change compareOfLessAndEq a b = .gt at h
  unfold compareOfLessAndEq at h
  split at h
  · cases h
  · split at h
    · cases h
    · omega
theorem cmp_lt' {a b : Int} (h : a < b) : compare a b = .lt := by
  change compareOfLessAndEq a b = .lt
  unfold compareOfLessAndEq
  rw [if_pos h]
theorem cmp_gt' {a b : Int} (h : b < a) : compare a b = .gt := by
  change compareOfLessAndEq a b = .gt
  unfold compareOfLessAndEq
  rw [if_neg (by omega), if_neg (by omega)]
theorem cmp_eq' (a : Int) : compare a a = .eq := by
  change compareOfLessAndEq a a = .eq
  unfold compareOfLessAndEq
  rw [if_neg (by omega), if_pos rfl]
theorem signed_abs (s : Bool) (m up : Nat) : (Ieee.signed s m up).natAbs = m * 2 ^ up := by
  unfold Ieee.signed
  rw [Nat.shiftLeft_eq]
  cases s
  · exact Int.natAbs_natCast _
  · rw [if_pos rfl, Int.natAbs_neg]
    exact Int.natAbs_natCast _
theorem cut_le (s : Bool) (n drop : Nat) : Ieee.Toward.cut .zero s n drop ≤ n / 2 ^ drop := by
  unfold Ieee.Toward.cut
  simp only [Nat.shiftLeft_eq, Nat.one_mul, Bool.toNat_false, Nat.add_zero]
  rcases Nat.le_total drop (n.log2 + 2) with h | h
  · rw [Nat.min_eq_left h]
    exact Nat.le_refl _
  · rw [Nat.min_eq_right h]
    have : n < 2 ^ (n.log2 + 2) := Nat.lt_trans (Nat.lt_log2_self) (Nat.pow_lt_pow_right (by omega) (by omega))
    rw [Nat.div_eq_of_lt this]
    exact Nat.zero_le _
theorem toInt_some {x : Nat} (h : inB x = true) : ∃ n, (Ieee.double.read x).toInt .zero = some n ∧ -4611686018427387904 < n ∧ n < 4611686018427387904 := by
  unfold inB at h
  rw [Bool.and_eq_true, beq_iff_eq, beq_iff_eq] at h
  obtain ⟨hl, hh⟩ := h
  unfold Ieee.Format.order at hl hh
  rw [read_lo] at hl
  rw [read_hi] at hh
  cases hr : Ieee.double.read x with
  | nan s t => rw [hr] at hl; cases hl
  | infinity s => rw [hr] at hl hh; cases s <;> simp [Datum.order] at hl hh
  | number s m i =>
    rw [hr] at hl hh
    simp only [Datum.order, Option.some.injEq] at hl hh
    have hl := cmp_gt hl
    have hh := cmp_lt hh
    refine ⟨Ieee.signed s (Ieee.Toward.cut .zero s (m <<< i.toNat) (-i).toNat) 0, rfl, ?_⟩
    have hc := cut_le s (m <<< i.toNat) (-i).toNat
    rw [Nat.shiftLeft_eq] at hc
    have key : m * 2 ^ i.toNat / 2 ^ (-i).toNat < 4611686018427387904 := by
      rcases Int.le_total i 0 with hi | hi
      · -- a fraction
        obtain ⟨k, rfl⟩ : ∃ k : Nat, i = -(k : Int) := ⟨(-i).toNat, by omega⟩
        have e1 : (-(k : Int)).toNat = 0 := by omega
        have e2 : (- -(k : Int)).toNat = k := by omega
        rw [e1, e2, Nat.pow_zero, Nat.mul_one]
        have e3 : min (-(k : Int)) 10 = -(k : Int) := by omega
        rw [e3] at hl hh
        have e4 : (-(k : Int) - -(k : Int)).toNat = 0 := by omega
        have e5 : (10 - -(k : Int)).toNat = k + 10 := by omega
        rw [e4, e5] at hl hh
        have hm : m < 4611686018427387904 * 2 ^ k := by
          have hp : (4503599627370496 : Nat) * 2 ^ (k + 10) = 4611686018427387904 * 2 ^ k := by
            rw [Nat.pow_add, Nat.mul_comm (2 ^ k), ← Nat.mul_assoc]
          unfold Ieee.signed at hl hh
          simp only [Nat.shiftLeft_eq, Nat.pow_zero, Nat.mul_one, hp] at hl hh
          cases s
          · simp only [Bool.false_eq_true, if_false] at hh
            exact Int.ofNat_lt.1 hh
          · simp only [if_true] at hl
            exact Int.ofNat_lt.1 (Int.lt_of_neg_lt_neg hl)
        exact (Nat.div_lt_iff_lt_mul (Nat.two_pow_pos _)).2 hm
      · obtain ⟨k, rfl⟩ : ∃ k : Nat, i = (k : Int) := ⟨i.toNat, by omega⟩
        have e1 : ((k : Int)).toNat = k := by omega
        have e2 : (-(k : Int)).toNat = 0 := by omega
        rw [e1, e2, Nat.pow_zero, Nat.div_one]
        rcases Nat.le_total k 10 with hk | hk
        · have e3 : min (k : Int) 10 = (k : Int) := by omega
          rw [e3] at hl hh
          have e4 : ((k : Int) - (k : Int)).toNat = 0 := by omega
          obtain ⟨d, hd⟩ : ∃ d, 10 = k + d := ⟨10 - k, by omega⟩
          have e5 : (10 - (k : Int)).toNat = d := by omega
          rw [e4, e5] at hl hh
          have hm : m < 4503599627370496 * 2 ^ d := by
            unfold Ieee.signed at hl hh
            simp only [Nat.shiftLeft_eq, Nat.pow_zero, Nat.mul_one] at hl hh
            cases s
            · simp only [Bool.false_eq_true, if_false] at hh
              exact Int.ofNat_lt.1 hh
            · simp only [if_true] at hl
              exact Int.ofNat_lt.1 (Int.lt_of_neg_lt_neg hl)
          have h1 : m * 2 ^ k < 4503599627370496 * 2 ^ d * 2 ^ k := Nat.mul_lt_mul_of_pos_right hm (Nat.two_pow_pos _)
          have h2 : 4503599627370496 * 2 ^ d * 2 ^ k = 4611686018427387904 := by
            rw [Nat.mul_assoc, ← Nat.pow_add, Nat.add_comm d k, ← hd]
          omega
        · have e3 : min (k : Int) 10 = 10 := by omega
          rw [e3] at hl hh
          obtain ⟨d, rfl⟩ : ∃ d, k = 10 + d := ⟨k - 10, by omega⟩
          have e4 : (((10 + d : Nat) : Int) - 10).toNat = d := by omega
          have e5 : ((10 : Int) - 10).toNat = 0 := by omega
          rw [e4, e5] at hl hh
          have hm : m * 2 ^ d < 4503599627370496 := by
            unfold Ieee.signed at hl hh
            simp only [Nat.shiftLeft_eq, Nat.pow_zero, Nat.mul_one] at hl hh
            cases s
            · simp only [Bool.false_eq_true, if_false] at hh; omega
            · simp only [if_true] at hl; omega
          rw [Nat.pow_add, Nat.mul_comm (2 ^ 10), ← Nat.mul_assoc]
          omega
    have hlt := Nat.lt_of_le_of_lt hc key
    have ha := signed_abs s (Ieee.Toward.cut .zero s (m <<< i.toNat) (-i).toNat) 0
    rw [Nat.shiftLeft_eq] at ha ⊢
    rw [Nat.pow_zero, Nat.mul_one] at ha
    omega
theorem toIntVal {x : Nat} (h : inB x = true) : floatToIntVal .f64 x .i64 = some (partB x) := by
  obtain ⟨n, hn, h1, h2⟩ := toInt_some h
  unfold floatToIntVal partB
  rw [if_pos h]
  show (match (Ieee.double.read x).toInt .zero with
    | some n => if IntKind.i64.min ≤ n ∧ n ≤ IntKind.i64.max then some n else none
    | none => none) = _
  rw [hn]
  simp only [Option.getD_some]
  rw [if_pos (by simp [IntKind.min, IntKind.max, IntKind.signed, IntKind.bits]; omega)]
theorem inB_nan {x : Nat} (h : isN x = true) : inB x = false := by
  obtain ⟨s, t, hr⟩ := isN_read h
  unfold inB Ieee.Format.order
  rw [hr, read_lo, read_hi]
  rfl
theorem partB_nan {x : Nat} (h : isN x = true) : partB x = 0 := by
  unfold partB
  rw [inB_nan h]
  rfl
theorem FE.part {x y : Nat} (h : FE x y) : partB x = partB y := by
  rcases h with rfl | ⟨hx, hy⟩
  · rfl
  · rw [partB_nan hx, partB_nan hy]
theorem partB_bd (x : Nat) : -4611686018427387904 < partB x ∧ partB x < 4611686018427387904 := by
  by_cases h : inB x = true
  · obtain ⟨n, hn, h1, h2⟩ := toInt_some h
    unfold partB
    rw [if_pos h, hn]
    exact ⟨h1, h2⟩
  · unfold partB
    rw [if_neg h]
    omega

/-! Whether two are the same. -/
def eqF (a b : Nat) : Bool := Ieee.double.order a b == some .eq
theorem eqF_self (a : Nat) : eqF a a = !isN a := by
  unfold eqF isN Ieee.Format.order
  cases Ieee.double.read a with
  | nan s t => rfl
  | infinity s => cases s <;> rfl
  | number s m i =>
    simp only [Datum.order, cmp_eq']
    rfl
theorem eqF_nan_l {a : Nat} (b : Nat) (h : isN a = true) : eqF a b = false := by
  obtain ⟨s, t, hr⟩ := isN_read h
  unfold eqF Ieee.Format.order
  rw [hr]
  cases Ieee.double.read b <;> rfl
theorem eqF_nan_r (a : Nat) {b : Nat} (h : isN b = true) : eqF a b = false := by
  obtain ⟨s, t, hr⟩ := isN_read h
  unfold eqF Ieee.Format.order
  rw [hr]
  cases Ieee.double.read a <;> rfl
def alikeB (a b : Nat) : Bool := eqF a b || (isN a && isN b)
theorem FE.alike {a b : Nat} (h : FE a b) : alikeB a b = true := by
  unfold alikeB
  rcases h with rfl | ⟨ha, hb⟩
  · rw [eqF_self]
    cases isN a <;> rfl
  · rw [ha, hb]
    simp
theorem FE.alikes {a b a' b' : Nat} (h : FE a a') (k : FE b b') : alikeB a b = alikeB a' b' := by
  unfold alikeB
  rcases h with rfl | ⟨ha, ha'⟩ <;> rcases k with rfl | ⟨hb, hb'⟩
  · rfl
  · rw [eqF_nan_r _ hb, eqF_nan_r _ hb', hb, hb']
  · rw [eqF_nan_l _ ha, eqF_nan_l _ ha', ha, ha']
  · rw [eqF_nan_l _ ha, eqF_nan_l _ ha', ha, ha', hb, hb']

/-! Whole numbers. -/
/-- A datum is the whole number n. -/
def ExD (d : Datum) (n : Int) : Prop := ∃ (s : Bool) (k : Nat), d = .number s (n.natAbs * 2 ^ k) (-(k : Int)) ∧ (n < 0 → s = true) ∧ (0 < n → s = false)
def Ex (x : Nat) (n : Int) : Prop := ExD (Ieee.double.read x) n
theorem signed_ex {s : Bool} {n : Int} (h1 : n < 0 → s = true) (h2 : 0 < n → s = false) (k up : Nat) : Ieee.signed s (n.natAbs * 2 ^ k) up = n * 2 ^ (k + up) := by
  unfold Ieee.signed
  rw [Nat.shiftLeft_eq, Nat.mul_assoc, ← Nat.pow_add]
  have hc : ((n.natAbs * 2 ^ (k + up) : Nat) : Int) = (n.natAbs : Int) * 2 ^ (k + up) := by simp
  rw [hc]
  rcases Int.lt_trichotomy n 0 with h | h | h
  · rw [h1 h, if_pos rfl, ← Int.neg_mul]
    congr 1
    omega
  · subst h
    cases s <;> simp
  · rw [h2 h]
    simp only [Bool.false_eq_true, if_false]
    congr 1
    omega
theorem read_word (s : Bool) {rung : Nat} (h : rung < 9223372036854775808) : Ieee.double.read (Ieee.double.word s rung) =
    if rung < 4503599627370496 then .number s rung (-1074) else if rung < 9218868437227405312 then .number s (4503599627370496 + rung % 4503599627370496) (-1074 + (rung / 4503599627370496 - 1 : Nat)) else if rung = 9218868437227405312 then .infinity s else .nan s (rung - 9218868437227405312) := by
  unfold Ieee.Format.read Ieee.Format.word
  simp only [sw_eq, bin_eq, inf_eq, lp_eq]
  cases s
  · simp only [Bool.false_eq_true, if_false]
    have e1 : rung / 9223372036854775808 % 2 = 0 := by omega
    have e2 : rung % 9223372036854775808 = rung := by omega
    rw [e1, e2]
    rfl
  · simp only [if_true]
    have e1 : (9223372036854775808 + rung) / 9223372036854775808 % 2 = 1 := by omega
    have e2 : (9223372036854775808 + rung) % 9223372036854775808 = rung := by omega
    rw [e1, e2]
    rfl
theorem log2_mul_pow {N : Nat} (hN : 0 < N) (k : Nat) : (N * 2 ^ k).log2 = N.log2 + k := by
  have h0 : N * 2 ^ k ≠ 0 := by have := Nat.mul_pos hN (Nat.two_pow_pos k); omega
  rw [Nat.log2_eq_iff h0]
  obtain ⟨h1, h2⟩ := (Nat.log2_eq_iff (by omega : N ≠ 0)).1 rfl
  constructor
  · rw [Nat.pow_add]; exact Nat.mul_le_mul_right _ h1
  · rw [show N.log2 + k + 1 = (N.log2 + 1) + k by omega, Nat.pow_add]; exact Nat.mul_lt_mul_of_pos_right h2 (Nat.two_pow_pos _)
theorem cut_exact (way : Ieee.Toward) (s : Bool) {M d : Nat} (hM : 0 < M) : way.cut s (M * 2 ^ d) d = M := by
  unfold Ieee.Toward.cut
  have hl : d ≤ (M * 2 ^ d).log2 + 2 := by rw [log2_mul_pow hM]; omega
  rw [Nat.min_eq_left hl, Nat.shiftLeft_eq, Nat.one_mul]
  have hp := Nat.two_pow_pos d
  have e1 : M * 2 ^ d / 2 ^ d = M := Nat.mul_div_cancel _ hp
  have e2 : M * 2 ^ d % 2 ^ d = 0 := Nat.mul_mod_left _ _
  simp only [e1, e2]
  have h3 : ¬ (2 ^ d < 2 * 0) := by omega
  have h4 : (2 ^ d == 2 * 0) = false := by simp
  cases way <;> simp
theorem read_norm (s : Bool) (q r : Nat) (hq : q ≤ 1074) (hr : r < 4503599627370496) : Ieee.double.read (Ieee.double.word s (min (q * 4503599627370496 + (4503599627370496 + r)) 9218868437227405312)) = .number s (4503599627370496 + r) (-1074 + (q : Int)) := by
  have h1 : q * 4503599627370496 ≤ 1074 * 4503599627370496 := Nat.mul_le_mul_right _ hq
  have e0 : q * 4503599627370496 + (4503599627370496 + r) = r + (q + 1) * 4503599627370496 := by rw [Nat.succ_mul]; omega
  have hlt : r + (q + 1) * 4503599627370496 < 9218868437227405312 := by rw [Nat.succ_mul]; omega
  have hge : ¬ r + (q + 1) * 4503599627370496 < 4503599627370496 := by rw [Nat.succ_mul]; omega
  rw [e0, Nat.min_eq_left (Nat.le_of_lt hlt), read_word s (Nat.lt_trans hlt (by decide)), if_neg hge, if_pos hlt, Nat.add_mul_mod_self_right, Nat.mod_eq_of_lt hr, Nat.add_mul_div_right _ _ (by decide), Nat.div_eq_of_lt hr, Nat.zero_add, Nat.add_sub_cancel]
theorem near_ex (s : Bool) (N k : Nat) (hN : N < 9007199254740992) : ∃ j : Nat, Ieee.double.read (Ieee.double.nearest s (N * 2 ^ k) (-(k : Int))) = .number s (N * 2 ^ j) (-(j : Int)) := by
  rcases Nat.eq_zero_or_pos N with h0 | hpos
  · subst h0
    obtain ⟨J, hJ⟩ : ∃ J : Nat, (J : Int) = 1074 := ⟨1074, rfl⟩
    refine ⟨J, ?_⟩
    unfold Ieee.Format.nearest
    rw [Nat.zero_mul, if_pos rfl, read_word s (by decide), if_pos (by decide), hJ, Nat.zero_mul]
  · have hL := (Nat.log2_eq_iff (by omega : N ≠ 0)).1 rfl
    have hlog := log2_mul_pow hpos k
    generalize N.log2 = L at *
    have hL52 : L ≤ 52 := by
      rcases Nat.lt_or_ge 52 L with h | h
      · have : 2 ^ 53 ≤ 2 ^ L := Nat.pow_le_pow_right (by omega) (by omega)
        omega
      · exact h
    obtain ⟨j, hj⟩ : ∃ j, 52 = L + j := ⟨52 - L, by omega⟩
    refine ⟨j, ?_⟩
    have hK1 : 4503599627370496 ≤ N * 2 ^ j := by
      have h1 : 2 ^ L * 2 ^ j ≤ N * 2 ^ j := Nat.mul_le_mul_right _ hL.1
      rw [← Nat.pow_add, ← hj] at h1
      omega
    have hK2 : N * 2 ^ j < 9007199254740992 := by
      have h1 : N * 2 ^ j < 2 ^ (L + 1) * 2 ^ j := Nat.mul_lt_mul_of_pos_right hL.2 (Nat.two_pow_pos _)
      rw [← Nat.pow_add, show L + 1 + j = 53 by omega] at h1
      omega
    unfold Ieee.Format.nearest
    have hm0 : N * 2 ^ k ≠ 0 := by have := Nat.mul_pos hpos (Nat.two_pow_pos k); omega
    rw [if_neg hm0]
    simp only [hlog, lp_eq, bin_eq, inf_eq]
    have efb : Ieee.double.fractionBits = 52 := rfl
    rw [efb]
    have elast : max (-(k : Int) + ((L + k : Nat) : Int) - ((52 : Nat) : Int)) (-1074) = -(j : Int) := by omega
    rw [elast]
    have ekept : Ieee.Toward.even.cut s ((N * 2 ^ k) <<< (-(k : Int) - -(j : Int)).toNat) (-(j : Int) - -(k : Int)).toNat = N * 2 ^ j := by
      rcases Nat.le_total k j with h | h
      · obtain ⟨d, rfl⟩ : ∃ d, j = k + d := ⟨j - k, by omega⟩
        rw [show (-(k : Int) - -((k + d : Nat) : Int)).toNat = d by omega, show (-((k + d : Nat) : Int) - -(k : Int)).toNat = 0 by omega, Nat.shiftLeft_eq]
        have := cut_exact .even s (M := N * 2 ^ (k + d)) (d := 0) (Nat.mul_pos hpos (Nat.two_pow_pos _))
        rw [Nat.pow_zero, Nat.mul_one] at this
        rw [Nat.mul_assoc, ← Nat.pow_add]
        exact this
      · obtain ⟨d, rfl⟩ : ∃ d, k = j + d := ⟨k - j, by omega⟩
        rw [show (-((j + d : Nat) : Int) - -(j : Int)).toNat = 0 by omega, show (-(j : Int) - -((j + d : Nat) : Int)).toNat = d by omega, Nat.shiftLeft_eq, Nat.pow_zero, Nat.mul_one, Nat.pow_add, ← Nat.mul_assoc]
        exact cut_exact .even s (Nat.mul_pos hpos (Nat.two_pow_pos _))
    rw [ekept]
    have e3 : (-(j : Int) - -1074).toNat = 1074 - j := by omega
    rw [e3]
    obtain ⟨q, hq⟩ : ∃ q, 1074 = j + q := ⟨1074 - j, by omega⟩
    obtain ⟨r, hr⟩ : ∃ r, N * 2 ^ j = 4503599627370496 + r := ⟨N * 2 ^ j - 4503599627370496, by omega⟩
    rw [hr] at hK1 hK2
    rw [hr, show 1074 - j = q by omega, read_norm s q r (by omega) (by omega)]
    have e8 : (-1074 : Int) + (q : Int) = -(j : Int) := by omega
    rw [e8]
theorem write_ex {d : Datum} {n : Int} (h : ExD d n) (h1 : -9007199254740992 < n) (h2 : n < 9007199254740992) : Ex (Ieee.double.write d) n := by
  obtain ⟨s, k, rfl, hs1, hs2⟩ := h
  obtain ⟨j, hj⟩ := near_ex s n.natAbs k (by omega)
  exact ⟨s, j, hj, hs1, hs2⟩
theorem int_ex (n : Int) (h1 : -9007199254740992 < n) (h2 : n < 9007199254740992) : Ex (FloatKind.f64.nearest n) n := by
  refine write_ex (d := .number (decide (n < 0)) n.natAbs 0) ⟨decide (n < 0), 0, by simp, fun h => by simpa using h, fun h => by simp; omega⟩ h1 h2
theorem ExD.opp {d : Datum} {n : Int} (h : ExD d n) : ExD d.opposite (-n) := by
  obtain ⟨s, k, rfl, h1, h2⟩ := h
  refine ⟨!s, k, by simp [Datum.opposite], fun h => by rw [h2 (by omega)]; rfl, fun h => by rw [h1 (by omega)]; rfl⟩
theorem ExD.add {d e : Datum} {a b : Int} (h : ExD d a) (g : ExD e b) : ∃ f, d.sum e = some f ∧ ExD f (a + b) := by
  obtain ⟨s, k, rfl, h1, h2⟩ := h
  obtain ⟨t, l, rfl, g1, g2⟩ := g
  have hkl : ∃ K u v : Nat, K = k + u ∧ K = l + v ∧ min (-(k : Int)) (-(l : Int)) = -(K : Int) := by
    rcases Nat.le_total k l with h | h
    · exact ⟨l, l - k, 0, by omega, by omega, by omega⟩
    · exact ⟨k, 0, k - l, by omega, by omega, by omega⟩
  obtain ⟨K, u, v, hu, hv, hmin⟩ := hkl
  refine ⟨_, rfl, ?_⟩
  simp only [hmin]
  rw [show (-(k : Int) - -(K : Int)).toNat = u by omega, show (-(l : Int) - -(K : Int)).toNat = v by omega, signed_ex h1 h2, signed_ex g1 g2, ← hu, ← hv, ← Int.add_mul]
  have hp : (0 : Int) < 2 ^ K := Int.pow_pos (by omega)
  have hab : ((a + b) * 2 ^ K).natAbs = (a + b).natAbs * 2 ^ K := by
    rw [Int.natAbs_mul]
    congr 1
  rw [hab]
  refine ⟨_, K, rfl, ?_, ?_⟩
  · intro hn
    have hne : (a + b) * 2 ^ K < 0 := Int.mul_neg_of_neg_of_pos hn hp
    rw [if_neg (by omega)]
    exact decide_eq_true hne
  · intro hn
    have hne : 0 < (a + b) * 2 ^ K := Int.mul_pos hn hp
    rw [if_neg (by omega)]
    exact decide_eq_false (by omega)
theorem ExD.mul {d e : Datum} {a b : Int} (h : ExD d a) (g : ExD e b) : ∃ f, d.product e = some f ∧ ExD f (a * b) := by
  obtain ⟨s, k, rfl, h1, h2⟩ := h
  obtain ⟨t, l, rfl, g1, g2⟩ := g
  refine ⟨_, rfl, s ^^ t, k + l, ?_, ?_, ?_⟩
  · have e1 : a.natAbs * 2 ^ k * (b.natAbs * 2 ^ l) = (a * b).natAbs * 2 ^ (k + l) := by
      rw [Int.natAbs_mul, Nat.pow_add]
      rw [Nat.mul_assoc, Nat.mul_assoc, Nat.mul_left_comm (2 ^ k)]
    have e2 : -(k : Int) + -(l : Int) = -((k + l : Nat) : Int) := by omega
    rw [e1, e2]
  · intro hn
    rcases Int.lt_trichotomy a 0 with ha | ha | ha
    · have hb : 0 < b := by
        rcases Int.lt_or_le 0 b with hb | hb
        · exact hb
        · exact absurd (Int.mul_nonneg_of_nonpos_of_nonpos (Int.le_of_lt ha) hb) (by omega)
      rw [h1 ha, g2 hb]; rfl
    · subst ha; simp at hn
    · have hb : b < 0 := by
        rcases Int.lt_or_le b 0 with hb | hb
        · exact hb
        · exact absurd (Int.mul_nonneg (Int.le_of_lt ha) hb) (by omega)
      rw [h2 ha, g1 hb]; rfl
  · intro hn
    rcases Int.lt_trichotomy a 0 with ha | ha | ha
    · have hb : b < 0 := by
        rcases Int.lt_or_le b 0 with hb | hb
        · exact hb
        · exact absurd (Int.mul_nonpos_of_nonpos_of_nonneg (Int.le_of_lt ha) hb) (by omega)
      rw [h1 ha, g1 hb]; rfl
    · subst ha; simp at hn
    · have hb : 0 < b := by
        rcases Int.lt_or_le 0 b with hb | hb
        · exact hb
        · exact absurd (Int.mul_nonpos_of_nonneg_of_nonpos (Int.le_of_lt ha) hb) (by omega)
      rw [h2 ha, g2 hb]; rfl
theorem FlR.of_some {op : BinOp} {x y r z : Nat} (h : FlR op x y r) (e : floatBits op .f64 x y = some z) : r = z := by
  rcases h with h | ⟨h, _⟩
  · rw [e] at h; injection h with h; exact h.symm
  · rw [e] at h; cases h
theorem FlR.add_ex {x y r : Nat} {a b : Int} (h : FlR .add x y r) (hx : Ex x a) (hy : Ex y b) (h1 : -9007199254740992 < a + b) (h2 : a + b < 9007199254740992) : Ex r (a + b) := by
  obtain ⟨f, hf, he⟩ := ExD.add hx hy
  have e : floatBits .add .f64 x y = some (Ieee.double.write f) := by
    show Ieee.double.add x y = _
    unfold Ieee.Format.add
    rw [hf]
    rfl
  rw [h.of_some e]
  exact write_ex he h1 h2
theorem FlR.sub_ex {x y r : Nat} {a b : Int} (h : FlR .sub x y r) (hx : Ex x a) (hy : Ex y b) (h1 : -9007199254740992 < a - b) (h2 : a - b < 9007199254740992) : Ex r (a - b) := by
  obtain ⟨f, hf, he⟩ := ExD.add hx hy.opp
  have e : floatBits .sub .f64 x y = some (Ieee.double.write f) := by
    show Ieee.double.sub x y = _
    unfold Ieee.Format.sub
    rw [hf]
    rfl
  rw [h.of_some e]
  exact write_ex he (by omega) (by omega)
theorem FlR.mul_ex {x y r : Nat} {a b : Int} (h : FlR .mul x y r) (hx : Ex x a) (hy : Ex y b) (h1 : -9007199254740992 < a * b) (h2 : a * b < 9007199254740992) : Ex r (a * b) := by
  obtain ⟨f, hf, he⟩ := ExD.mul hx hy
  have e : floatBits .mul .f64 x y = some (Ieee.double.write f) := by
    show Ieee.double.mul x y = _
    unfold Ieee.Format.mul
    rw [hf]
    rfl
  rw [h.of_some e]
  exact write_ex he h1 h2
theorem Ex.part {x : Nat} {n : Int} (h : Ex x n) (h1 : -9007199254740992 < n) (h2 : n < 9007199254740992) : partB x = n := by
  obtain ⟨s, k, hr, hs1, hs2⟩ := h
  have hp : (0 : Int) < 2 ^ k := Int.pow_pos (by omega)
  have hin : inB x = true := by
    unfold inB Ieee.Format.order
    rw [hr, read_lo, read_hi]
    simp only [Datum.order]
    have e3 : min (-(k : Int)) 10 = -(k : Int) := by omega
    rw [e3, show (-(k : Int) - -(k : Int)).toNat = 0 by omega, show (10 - -(k : Int)).toNat = 10 + k by omega, signed_ex hs1 hs2, Nat.add_zero]
    have ehi : Ieee.signed false 4503599627370496 (10 + k) = 4611686018427387904 * 2 ^ k := by
      unfold Ieee.signed
      rw [Nat.shiftLeft_eq, Nat.pow_add]
      simp
      rw [← Int.mul_assoc]
      rfl
    have elo : Ieee.signed true 4503599627370496 (10 + k) = -4611686018427387904 * 2 ^ k := by
      unfold Ieee.signed
      rw [Nat.shiftLeft_eq, Nat.pow_add]
      simp
      rw [← Int.mul_assoc, Int.neg_mul]
      rfl
    rw [ehi, elo, cmp_gt' (Int.mul_lt_mul_of_pos_right (by omega) hp), cmp_lt' (Int.mul_lt_mul_of_pos_right (by omega) hp)]
    rfl
  unfold partB
  rw [if_pos hin, hr]
  unfold Datum.toInt Datum.integral
  simp only [Option.getD_some]
  rw [show (-(k : Int)).toNat = 0 by omega, show (- -(k : Int)).toNat = k by omega, Nat.shiftLeft_eq, Nat.pow_zero, Nat.mul_one]
  rcases Nat.eq_zero_or_pos n.natAbs with h0 | h0
  · have hn : n = 0 := by omega
    subst hn
    have : Ieee.Toward.zero.cut s ((0 : Int).natAbs * 2 ^ k) k = 0 := by
      have := cut_le s (0 * 2 ^ k) k
      rw [Nat.zero_mul, Nat.zero_div] at this
      have e : (0 : Int).natAbs * 2 ^ k = 0 := by simp
      rw [e]
      omega
    rw [this]
    cases s <;> rfl
  · rw [cut_exact .zero s h0]
    have := signed_ex hs1 hs2 0 0
    rw [Nat.pow_zero, Nat.mul_one] at this
    rw [this]
    simp
theorem Ex.notN {x : Nat} {n : Int} (h : Ex x n) : isN x = false := by
  obtain ⟨s, k, hr, _⟩ := h
  unfold isN
  rw [hr]
  rfl
end Go.Proofs.Ythddhipmmhihlaa
