/-
  Complex numbers: what each function makes of them.
-/
import Derived.Test.YtjalphlhooojoaaPl0
import Derived.WalkSpells
import Derived.WalkLawsBesides
import Derived.Outline
import Derived.Deep.QuietTactic
import Derived.BigQuiet
import Derived.Deep.DeepMust
namespace Go.Proofs.Ytjalphlhooojoaa
open Go.RowKit
set_option linter.unusedSimpArgs false
set_option linter.unusedVariables false

theorem fl_add (w : World) (t : TypeId) (x y : Nat) : (binOp .add t (.float .f64 x) (.float .f64 y)).run Try.prog w = .ok (.float .f64 (fop .add x y w)) (w.drewN (fq .add x y)) := run_fop _ w .add (.inl rfl) t x y
theorem fl_sub (w : World) (t : TypeId) (x y : Nat) : (binOp .sub t (.float .f64 x) (.float .f64 y)).run Try.prog w = .ok (.float .f64 (fop .sub x y w)) (w.drewN (fq .sub x y)) := run_fop _ w .sub (.inr (.inl rfl)) t x y
theorem fl_mul (w : World) (t : TypeId) (x y : Nat) : (binOp .mul t (.float .f64 x) (.float .f64 y)).run Try.prog w = .ok (.float .f64 (fop .mul x y w)) (w.drewN (fq .mul x y)) := run_fop _ w .mul (.inr (.inr rfl)) t x y
theorem cx_add (w : World) (t : TypeId) (a b c d : Nat) : (binOp .add t (.complex .f64 a b) (.complex .f64 c d)).run Try.prog w = .ok (.complex .f64 (fop .add a c w) (fop .add b d (w.drewN (fq .add a c)))) (w.drewN (fq .add a c + fq .add b d)) := run_cplx _ w .add (.inl rfl) t a b c d
theorem cx_sub (w : World) (t : TypeId) (a b c d : Nat) : (binOp .sub t (.complex .f64 a b) (.complex .f64 c d)).run Try.prog w = .ok (.complex .f64 (fop .sub a c w) (fop .sub b d (w.drewN (fq .sub a c)))) (w.drewN (fq .sub a c + fq .sub b d)) := run_cplx _ w .sub (.inr rfl) t a b c d
attribute [local go_sem] fl_add fl_sub fl_mul cx_add cx_sub

def TwoR (op : Int) (a b c d r i : Nat) : Prop :=
  (op = 16 → FlR .add a c r ∧ FlR .add b d i) ∧ (op = 17 → FlR .sub a c r ∧ FlR .sub b d i) ∧
  (op = 18 → ∃ p q u v, FlR .mul a c p ∧ FlR .mul b d q ∧ FlR .sub p q r ∧ FlR .mul a d u ∧ FlR .mul b c v ∧ FlR .add u v i) ∧
  (op ≠ 16 → op ≠ 17 → op ≠ 18 → r = 0 ∧ i = 0)
def IsTwo (op : Int) (a b c d : Nat) (w : World) (e : Ending) (w' : World) : Prop := ∃ r i n, e = .returned (.complex .f64 r i) ∧ TwoR op a b c d r i ∧ w' = w.drewN n

set_option maxRecDepth 100000 in
theorem pair_any (a b : Int) (w : World) : Calls Try.prog 33 #[.int .i64 a, .int .i64 b] w fun e w' => e = .returned (.complex .f64 (FloatKind.f64.nearest a) (FloatKind.f64.nearest b)) ∧ w = w' := by
  go_enter Try.func33, Try.ntmps33
  go_wp2
  go_ret
  exact ⟨rfl, rfl⟩
set_option maxRecDepth 100000 in
theorem refPair_any (a b : Int) (w : World) : Calls Try.prog 17 #[.int .i64 a, .int .i64 b] w fun e w' => e = .returned (.complex .f64 (FloatKind.f64.nearest a) (FloatKind.f64.nearest b)) ∧ w = w' := by
  go_enter Try.func17, Try.ntmps17
  go_wp2
  go_ret
  exact ⟨rfl, rfl⟩
def IsTimes (a b c d : Nat) (w : World) (e : Ending) (w' : World) : Prop := ∃ r i n, e = .returned (.complex .f64 r i) ∧ (∃ p q u v, FlR .mul a c p ∧ FlR .mul b d q ∧ FlR .sub p q r ∧ FlR .mul a d u ∧ FlR .mul b c v ∧ FlR .add u v i) ∧ w' = w.drewN n
set_option maxRecDepth 100000 in
theorem times_any (a b c d : Nat) (w : World) : Calls Try.prog 43 #[.complex .f64 a b, .complex .f64 c d] w (IsTimes a b c d w) := by
  go_enter Try.func43, Try.ntmps43
  go_wp2
  go_ret
  exact ⟨_, _, _, rfl, ⟨_, _, _, _, fop_flr _ _ _ _, fop_flr _ _ _ _, fop_flr _ _ _ _, fop_flr _ _ _ _, fop_flr _ _ _ _, fop_flr _ _ _ _⟩, rfl⟩
end Go.Proofs.Ytjalphlhooojoaa
