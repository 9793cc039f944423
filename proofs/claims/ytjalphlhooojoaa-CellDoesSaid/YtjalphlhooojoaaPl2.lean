/-
  Complex numbers: two of them, their parts, whether two are the same.
-/
import Derived.Test.YtjalphlhooojoaaPl1
namespace Go.Proofs.Ytjalphlhooojoaa
open Go.RowKit
set_option linter.unusedSimpArgs false
set_option linter.unusedVariables false
attribute [local go_sem] fl_add fl_sub fl_mul cx_add cx_sub

set_option maxRecDepth 100000 in
theorem two_any (op : Int) (a b c d : Nat) (w : World) : Calls Try.prog 34 #[.int .i64 op, .complex .f64 a b, .complex .f64 c d] w (IsTwo op a b c d w) := by
  rcases (show op = 16 ∨ op = 17 ∨ op = 18 ∨ (¬ op = 16 ∧ ¬ op = 17 ∧ ¬ op = 18) by omega) with rfl | rfl | rfl | ⟨h1, h2, h3⟩
  · go_enter Try.func34, Try.ntmps34
    go_wp2
    go_ret
    exact ⟨_, _, _, rfl, ⟨fun _ => ⟨fop_flr _ _ _ _, fop_flr _ _ _ _⟩, fun h => absurd h (by decide), fun h => absurd h (by decide), fun h => absurd rfl h⟩, rfl⟩
  · go_enter Try.func34, Try.ntmps34
    go_wp2
    go_ret
    exact ⟨_, _, _, rfl, ⟨fun h => absurd h (by decide), fun _ => ⟨fop_flr _ _ _ _, fop_flr _ _ _ _⟩, fun h => absurd h (by decide), fun _ h => absurd rfl h⟩, rfl⟩
  · go_enter Try.func34, Try.ntmps34
    go_wp2_with fail
    refine (times_any _ _ _ _ _).mono ?_
    rintro e w' ⟨r, i, n, rfl, ht, rfl⟩
    have H := Lib.hid ht
    clear ht
    go_wp2_with fail
    go_ret
    exact ⟨_, _, _, rfl, ⟨fun h => absurd h (by decide), fun h => absurd h (by decide), fun _ => H.out, fun _ _ h => absurd rfl h⟩, rfl⟩
  · have t1 : (op == 16) = false := by simpa using h1
    have t2 : (op == 17) = false := by simpa using h2
    have t3 : (op == 18) = false := by simpa using h3
    go_enter Try.func34, Try.ntmps34
    go_wp2
    go_ret
    exact ⟨_, _, 0, rfl, ⟨fun h => absurd h h1, fun h => absurd h h2, fun h => absurd h h3, fun _ _ _ => ⟨rfl, rfl⟩⟩, rfl⟩
set_option maxRecDepth 100000 in
theorem refTwo_any (op : Int) (a b c d : Nat) (w : World) : Calls Try.prog 21 #[.int .i64 op, .complex .f64 a b, .complex .f64 c d] w (IsTwo op a b c d w) := by
  rcases (show op = 16 ∨ op = 17 ∨ op = 18 ∨ (¬ op = 16 ∧ ¬ op = 17 ∧ ¬ op = 18) by omega) with rfl | rfl | rfl | ⟨h1, h2, h3⟩
  · go_enter Try.func21, Try.ntmps21
    go_wp2
    go_ret
    exact ⟨_, _, _, rfl, ⟨fun _ => ⟨fop_flr _ _ _ _, fop_flr _ _ _ _⟩, fun h => absurd h (by decide), fun h => absurd h (by decide), fun h => absurd rfl h⟩, rfl⟩
  · go_enter Try.func21, Try.ntmps21
    go_wp2
    go_ret
    exact ⟨_, _, _, rfl, ⟨fun h => absurd h (by decide), fun _ => ⟨fop_flr _ _ _ _, fop_flr _ _ _ _⟩, fun h => absurd h (by decide), fun _ h => absurd rfl h⟩, rfl⟩
  · go_enter Try.func21, Try.ntmps21
    go_wp2
    go_ret
    exact ⟨_, _, _, rfl, ⟨fun h => absurd h (by decide), fun h => absurd h (by decide), fun _ => ⟨_, _, _, _, fop_flr _ _ _ _, fop_flr _ _ _ _, fop_flr _ _ _ _, fop_flr _ _ _ _, fop_flr _ _ _ _, fop_flr _ _ _ _⟩, fun _ _ h => absurd rfl h⟩, rfl⟩
  · have t1 : (op == 16) = false := by simpa using h1
    have t2 : (op == 17) = false := by simpa using h2
    have t3 : (op == 18) = false := by simpa using h3
    go_enter Try.func21, Try.ntmps21
    go_wp2
    go_ret
    exact ⟨_, _, 0, rfl, ⟨fun h => absurd h h1, fun h => absurd h h2, fun h => absurd h h3, fun _ _ _ => ⟨rfl, rfl⟩⟩, rfl⟩

/-- The two tests of a part's bounds, in the walk's own spelling. -/
theorem inB_cases (x : Nat) : (FloatKind.f64.format.order x 14109777632551763968 == some .gt) = false ∨ ((FloatKind.f64.format.order x 14109777632551763968 == some .gt) = true ∧ (FloatKind.f64.format.order x 4886405595696988160 == some .lt) = false) ∨
    ((FloatKind.f64.format.order x 14109777632551763968 == some .gt) = true ∧ (FloatKind.f64.format.order x 4886405595696988160 == some .lt) = true) := by
  cases (FloatKind.f64.format.order x 14109777632551763968 == some .gt) <;> cases (FloatKind.f64.format.order x 4886405595696988160 == some .lt) <;> simp
theorem inB_is (x : Nat) : inB x = ((FloatKind.f64.format.order x 14109777632551763968 == some .gt) && (FloatKind.f64.format.order x 4886405595696988160 == some .lt)) := rfl
theorem conv_part {x : Nat} (h : inB x = true) (w : World) : (convert 62 3 (.float .f64 x)).run Try.prog w = .ok (.int .i64 (partB x)) w :=
  run_convert_float_int w _ _ .f64 .i64 x _ (by simp [Try.underlying62]) Try.underlying3 (toIntVal h)

set_option maxRecDepth 100000 in
theorem round_any (x : Nat) (w : World) : Calls Try.prog 40 #[.float .f64 x] w fun e w' => e = .returned (.int .i64 (partB x)) ∧ w = w' := by
  rcases inB_cases x with h | ⟨h, k⟩ | ⟨h, k⟩
  · have hz : Hid (partB x = 0) := by
      show partB x = 0
      unfold partB
      rw [inB_is, h]
      rfl
    go_enter Try.func40, Try.ntmps40
    go_wp2
    go_ret
    exact ⟨by rw [hz.out]; rfl, rfl⟩
  · have hz : Hid (partB x = 0) := by
      show partB x = 0
      unfold partB
      rw [inB_is, h, k]
      rfl
    go_enter Try.func40, Try.ntmps40
    go_wp2
    go_ret
    exact ⟨by rw [hz.out]; rfl, rfl⟩
  · have hc := conv_part (x := x) (by rw [inB_is, h, k]; rfl)
    generalize partB x = p at *
    go_enter Try.func40, Try.ntmps40
    go_wp2
    go_ret
    exact ⟨rfl, rfl⟩
/-- A part by an operation. -/
def partOf (op : Int) (a b : Nat) : Int := if op = 19 then partB a else if op = 20 then partB b else 0
set_option maxRecDepth 100000 in
theorem part_any (op : Int) (a b : Nat) (w : World) : Calls Try.prog 29 #[.int .i64 op, .complex .f64 a b] w fun e w' => e = .returned (.int .i64 (partOf op a b)) ∧ w = w' := by
  rcases (show op = 19 ∨ op = 20 ∨ (¬ op = 19 ∧ ¬ op = 20) by omega) with rfl | rfl | ⟨h1, h2⟩
  · have hp : partOf 19 a b = partB a := rfl
    rw [hp]
    clear hp
    go_enter Try.func29, Try.ntmps29
    go_wp2_with fail
    refine (round_any _ _).mono ?_
    rintro e w' ⟨rfl, rfl⟩
    go_wp2_with fail
    go_ret
    exact ⟨rfl, rfl⟩
  · have hp : partOf 20 a b = partB b := rfl
    rw [hp]
    clear hp
    go_enter Try.func29, Try.ntmps29
    go_wp2_with fail
    refine (round_any _ _).mono ?_
    rintro e w' ⟨rfl, rfl⟩
    go_wp2_with fail
    go_ret
    exact ⟨rfl, rfl⟩
  · have hp : partOf op a b = 0 := by unfold partOf; rw [if_neg h1, if_neg h2]
    rw [hp]
    have t1 : (op == 19) = false := by simpa using h1
    have t2 : (op == 20) = false := by simpa using h2
    clear hp
    go_enter Try.func29, Try.ntmps29
    go_wp2
    go_ret
    exact ⟨rfl, rfl⟩
set_option maxRecDepth 100000 in
theorem refPart_one (op : Int) (a b x : Nat) (w : World) (hx : (op = 19 ∧ x = a) ∨ (op = 20 ∧ x = b)) : Calls Try.prog 20 #[.int .i64 op, .complex .f64 a b] w fun e w' => e = .returned (.int .i64 (partB x)) ∧ w = w' := by
  rcases inB_cases x with h | ⟨h, k⟩ | ⟨h, k⟩
  · have hz : Hid (partB x = 0) := by
      show partB x = 0
      unfold partB
      rw [inB_is, h]
      rfl
    rcases hx with ⟨rfl, rfl⟩ | ⟨rfl, rfl⟩
    all_goals
      go_enter Try.func20, Try.ntmps20
      go_wp2
      go_ret
      exact ⟨by rw [hz.out]; rfl, rfl⟩
  · have hz : Hid (partB x = 0) := by
      show partB x = 0
      unfold partB
      rw [inB_is, h, k]
      rfl
    rcases hx with ⟨rfl, rfl⟩ | ⟨rfl, rfl⟩
    all_goals
      go_enter Try.func20, Try.ntmps20
      go_wp2
      go_ret
      exact ⟨by rw [hz.out]; rfl, rfl⟩
  · have hc := conv_part (x := x) (by rw [inB_is, h, k]; rfl)
    generalize partB x = p at *
    rcases hx with ⟨rfl, rfl⟩ | ⟨rfl, rfl⟩
    all_goals
      go_enter Try.func20, Try.ntmps20
      go_wp2
      go_ret
      exact ⟨rfl, rfl⟩
theorem partB_zero : partB 0 = 0 := by decide
set_option maxRecDepth 100000 in
theorem refPart_any (op : Int) (a b : Nat) (w : World) : Calls Try.prog 20 #[.int .i64 op, .complex .f64 a b] w fun e w' => e = .returned (.int .i64 (partOf op a b)) ∧ w = w' := by
  rcases (show op = 19 ∨ op = 20 ∨ (¬ op = 19 ∧ ¬ op = 20) by omega) with rfl | rfl | ⟨h1, h2⟩
  · exact refPart_one 19 a b a w (.inl ⟨rfl, rfl⟩)
  · exact refPart_one 20 a b b w (.inr ⟨rfl, rfl⟩)
  · have hp : partOf op a b = 0 := by unfold partOf; rw [if_neg h1, if_neg h2]
    rw [hp]
    have t1 : (op == 19) = false := by simpa using h1
    have t2 : (op == 20) = false := by simpa using h2
    have h : (FloatKind.f64.format.order 0 14109777632551763968 == some .gt) = true := by decide
    have k : (FloatKind.f64.format.order 0 4886405595696988160 == some .lt) = true := by decide
    have hc := conv_part (x := 0) (by rw [inB_is, h, k]; rfl)
    rw [partB_zero] at hc
    clear hp
    go_enter Try.func20, Try.ntmps20
    go_wp2
    go_ret
    exact ⟨rfl, rfl⟩

theorem ne_is (x : Nat) : (FloatKind.f64.format.order x x != some .eq) = isN x := by
  have h := eqF_self x
  unfold eqF at h
  show (!(Ieee.double.order x x == some .eq)) = isN x
  rw [h]
  simp
set_option maxRecDepth 100000 in
theorem none_any (x : Nat) (w : World) : Calls Try.prog 47 #[.float .f64 x] w fun e w' => e = .returned (.bool (isN x)) ∧ w = w' := by
  have H := Lib.hid (ne_is x)
  go_enter Try.func47, Try.ntmps47
  go_wp2
  go_ret
  exact ⟨by rw [← H.out]; rfl, rfl⟩
set_option maxRecDepth 100000 in
theorem alike_any (x y : Nat) (w : World) : Calls Try.prog 38 #[.float .f64 x, .float .f64 y] w fun e w' => e = .returned (.bool (alikeB x y)) ∧ w = w' := by
  have c1 : ∀ w : World, Hid (Calls Try.prog 47 #[.float .f64 x] w fun e w' => e = .returned (.bool (isN x)) ∧ w = w') := fun w => none_any x w
  have c2 : ∀ w : World, Hid (Calls Try.prog 47 #[.float .f64 y] w fun e w' => e = .returned (.bool (isN y)) ∧ w = w') := fun w => none_any y w
  have hfin : Hid (∀ p q, isN x = p → isN y = q → alikeB x y = if p || q then p && q else eqF x y) := by
    intro p q hp hq
    unfold alikeB
    rcases Bool.eq_false_or_eq_true (isN x) with h | h
    · rw [eqF_nan_l y h, ← hp, ← hq, h]; simp
    · rcases Bool.eq_false_or_eq_true (isN y) with k | k
      · rw [eqF_nan_r x k, ← hp, ← hq, h, k]; simp
      · rw [← hp, ← hq, h, k]; simp
  have hf := Lib.hid (fun p q hp hq => hfin.out p q hp hq)
  obtain ⟨p, hp⟩ : ∃ p, isN x = p := ⟨_, rfl⟩
  obtain ⟨q, hq⟩ : ∃ q, isN y = q := ⟨_, rfl⟩
  have hres := Lib.hid (hfin.out p q hp hq)
  rw [hp] at c1
  rw [hq] at c2
  clear hp hq hf hfin
  cases p <;> cases q
  all_goals
    go_enter Try.func38, Try.ntmps38
    go_wp2_with fail
    refine Calls.mono (c1 _).out ?_
    rintro e w' ⟨rfl, rfl⟩
    go_wp2_with (first | (refine Calls.mono (c1 _).out ?_; rintro e w' ⟨rfl, rfl⟩) | (refine Calls.mono (c2 _).out ?_; rintro e w' ⟨rfl, rfl⟩))
    go_ret
    exact ⟨by rw [hres.out]; rfl, rfl⟩
set_option maxRecDepth 100000 in
theorem refAlike_any (x y : Nat) (w : World) : Calls Try.prog 46 #[.float .f64 x, .float .f64 y] w fun e w' => e = .returned (.bool (alikeB x y)) ∧ w = w' := by
  have h1 : ∃ p, (FloatKind.f64.format.order x y == some .eq) = p := ⟨_, rfl⟩
  have h2 : ∃ q, (FloatKind.f64.format.order x x != some .eq) = q := ⟨_, rfl⟩
  have h3 : ∃ r, (FloatKind.f64.format.order y y != some .eq) = r := ⟨_, rfl⟩
  obtain ⟨p, hp⟩ := h1
  obtain ⟨q, hq⟩ := h2
  obtain ⟨r, hr⟩ := h3
  have hres : Hid (alikeB x y = (p || (q && r))) := by
    show alikeB x y = _
    unfold alikeB eqF
    rw [← ne_is x, ← ne_is y, hq, hr, ← hp]
    rfl
  cases p <;> cases q <;> cases r
  all_goals
    go_enter Try.func46, Try.ntmps46
    go_wp2
    go_ret
    exact ⟨by rw [hres.out]; rfl, rfl⟩
def sameB (a b c d : Nat) : Bool := alikeB a c && alikeB b d
set_option maxRecDepth 100000 in
theorem same_any (a b c d : Nat) (w : World) : Calls Try.prog 27 #[.complex .f64 a b, .complex .f64 c d] w fun e w' => e = .returned (.bool (sameB a b c d)) ∧ w = w' := by
  have c1 : ∀ w : World, Hid (Calls Try.prog 38 #[.float .f64 a, .float .f64 c] w fun e w' => e = .returned (.bool (alikeB a c)) ∧ w = w') := fun w => alike_any a c w
  have c2 : ∀ w : World, Hid (Calls Try.prog 38 #[.float .f64 b, .float .f64 d] w fun e w' => e = .returned (.bool (alikeB b d)) ∧ w = w') := fun w => alike_any b d w
  unfold sameB
  generalize alikeB a c = p at *
  generalize alikeB b d = q at *
  cases p
  all_goals
    go_enter Try.func27, Try.ntmps27
    go_wp2_with fail
    refine Calls.mono (c1 _).out ?_
    rintro e w' ⟨rfl, rfl⟩
    go_wp2_with (refine Calls.mono (c2 _).out ?_; rintro e w' ⟨rfl, rfl⟩)
    go_ret
    exact ⟨rfl, rfl⟩
set_option maxRecDepth 100000 in
theorem refSame_any (a b c d : Nat) (w : World) : Calls Try.prog 37 #[.complex .f64 a b, .complex .f64 c d] w fun e w' => e = .returned (.bool (sameB a b c d)) ∧ w = w' := by
  have c1 : ∀ w : World, Hid (Calls Try.prog 46 #[.float .f64 a, .float .f64 c] w fun e w' => e = .returned (.bool (alikeB a c)) ∧ w = w') := fun w => refAlike_any a c w
  have c2 : ∀ w : World, Hid (Calls Try.prog 46 #[.float .f64 b, .float .f64 d] w fun e w' => e = .returned (.bool (alikeB b d)) ∧ w = w') := fun w => refAlike_any b d w
  unfold sameB
  generalize alikeB a c = p at *
  generalize alikeB b d = q at *
  cases p
  all_goals
    go_enter Try.func37, Try.ntmps37
    go_wp2_with fail
    refine Calls.mono (c1 _).out ?_
    rintro e w' ⟨rfl, rfl⟩
    go_wp2_with (refine Calls.mono (c2 _).out ?_; rintro e w' ⟨rfl, rfl⟩)
    go_ret
    exact ⟨rfl, rfl⟩
end Go.Proofs.Ytjalphlhooojoaa
