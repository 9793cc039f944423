/-
  Values: what one holds, numbers, complex ones, zeros, whether two are the same.
-/
import Derived.Test.YtjalphlhooojoaaPl2
import Derived.Test.YtjalphlhooojoaaKp
import Derived.Deep.RegionHeld
namespace Go.Proofs.Ytjalphlhooojoaa
open Go.RowKit
set_option linter.unusedSimpArgs false
set_option linter.unusedVariables false
theorem run_store_cplx {P : Program} {w : World} {a : Addr} {m : Mode} (k : FloatKind) (x y : Nat) : (store a (.complex k x y) m).run P w = stored P w a (.complex k x y) m := run_store P w a _ m rfl
attribute [local go_sem] run_store_cplx
abbrev vV (kd nn : Int) (x y : Nat) : Value := .agg #[.int .i64 kd, .int .i64 nn, .complex .f64 x y]
abbrev zV : Value := vV 0 0 0 0
theorem new_cells {w w1 : World} {cs : Array Value} {t : TypeId} (hb : Below (w.alloc (.cells cs t)).heap.size (w.alloc (.cells cs t)) w1) (i : Nat) (v : Value) (hv : cs[i]? = some v) : w1.cell? ⟨w.heap.size, i, none⟩ = some v ∧ w1.frozen? ⟨w.heap.size, i, none⟩ = false := by
  refine ⟨?_, ?_⟩
  · rw [hb.cell (by simp), cell_of_row _ w.heap.size i cs t (0, 0) (heap_alloc_new w _)]
    exact hv
  · rw [hb.frozen (by simp)]
    simp
def thingV (kd nn : Int) (x y : Nat) : Value := if kd = 1 then .iface 58 (.int .i64 nn) else if kd = 2 then .iface 59 (.complex .f64 x y) else .nilIface
theorem kinds (kd : Int) : kd = 1 ∨ kd = 2 ∨ (¬ kd = 1 ∧ ¬ kd = 2) := by omega
set_option maxRecDepth 100000 in
theorem of_any (kd nn : Int) (x y : Nat) (w : World) : Calls Try.prog 25 #[vV kd nn x y] w fun e w' => e = .returned (thingV kd nn x y) ∧ Below w.heap.size w w' := by
  rcases kinds kd with rfl | rfl | ⟨h1, h2⟩
  · go_enter Try.func25, Try.ntmps25
    go_wp2_with fail
    go_ret
    exact ⟨rfl, (Below.refl _ _).alloc (Nat.le_refl _) _⟩
  · go_enter Try.func25, Try.ntmps25
    go_wp2_with fail
    go_ret
    exact ⟨rfl, (Below.refl _ _).alloc (Nat.le_refl _) _⟩
  · have e : thingV kd nn x y = .nilIface := by unfold thingV; rw [if_neg h1, if_neg h2]
    rw [e]
    have t1 : (kd == 1) = false := by simpa using h1
    have t2 : (kd == 2) = false := by simpa using h2
    go_enter Try.func25, Try.ntmps25
    go_wp2_with fail
    go_ret
    exact ⟨rfl, (Below.refl _ _).alloc (Nat.le_refl _) _⟩
set_option maxRecDepth 100000 in
theorem nval_any (n : Int) (w : World) : Calls Try.prog 26 #[.int .i64 n] w fun e w' => e = .returned (vV 1 n 0 0) ∧ Below w.heap.size w w' := by
  go_enter Try.func26, Try.ntmps26
  go_wp2_with fail
  exact bodyPost_ret (v := vV 1 n 0 0) (by simp [results, Try.results26, go_sem]) rfl ⟨rfl, by repeat (first | exact Below.refl _ _ | (refine Below.setCell ?_ (by simp) _) | (refine Below.alloc ?_ (by simp) _))⟩
set_option maxRecDepth 100000 in
theorem pval_any (x y : Nat) (w : World) : Calls Try.prog 30 #[.complex .f64 x y] w fun e w' => e = .returned (vV 2 0 x y) ∧ Below w.heap.size w w' := by
  go_enter Try.func30, Try.ntmps30
  go_wp2_with fail
  exact bodyPost_ret (v := vV 2 0 x y) (by simp [results, Try.results30, go_sem]) rfl ⟨rfl, by repeat (first | exact Below.refl _ _ | (refine Below.setCell ?_ (by simp) _) | (refine Below.alloc ?_ (by simp) _))⟩
set_option maxRecDepth 100000 in
theorem num_any (n : Int) (w : World) : Calls Try.prog 13 #[.int .i64 n] w fun e w' => e = .returned (vV 1 n 0 0) ∧ Below w.heap.size w w' := by
  go_enter Try.func13, Try.ntmps13
  go_wp2_with fail
  refine (nval_any _ _).mono ?_
  rintro e w2 ⟨rfl, hb⟩
  obtain ⟨q0, f0⟩ := new_cells hb 0 (.int .i64 0) rfl
  obtain ⟨q1, f1⟩ := new_cells hb 1 (.int .i64 0) rfl
  obtain ⟨q2, f2⟩ := new_cells hb 2 (.complex .f64 0 0) rfl
  have hbw : Below w.heap.size w w2 := ((Below.refl _ _).alloc (Nat.le_refl _) _).trans (hb.mono (by simp))
  clear hb
  go_wp2_with fail
  exact bodyPost_ret (v := vV 1 n 0 0) (by simp [results, Try.results13, go_sem, q0, q1, q2]) rfl ⟨rfl, by repeat (first | exact hbw | (refine Below.setCell ?_ (by simp) _))⟩
set_option maxRecDepth 100000 in
theorem point_any (x y : Nat) (w : World) : Calls Try.prog 16 #[.complex .f64 x y] w fun e w' => e = .returned (vV 2 0 x y) ∧ Below w.heap.size w w' := by
  go_enter Try.func16, Try.ntmps16
  go_wp2_with fail
  refine (pval_any _ _ _).mono ?_
  rintro e w2 ⟨rfl, hb⟩
  obtain ⟨q0, f0⟩ := new_cells hb 0 (.int .i64 0) rfl
  obtain ⟨q1, f1⟩ := new_cells hb 1 (.int .i64 0) rfl
  obtain ⟨q2, f2⟩ := new_cells hb 2 (.complex .f64 0 0) rfl
  have hbw : Below w.heap.size w w2 := ((Below.refl _ _).alloc (Nat.le_refl _) _).trans (hb.mono (by simp))
  clear hb
  go_wp2_with fail
  exact bodyPost_ret (v := vV 2 0 x y) (by simp [results, Try.results16, go_sem, q0, q1, q2]) rfl ⟨rfl, by repeat (first | exact hbw | (refine Below.setCell ?_ (by simp) _))⟩
def zeroM (t : Int) : Int := if t = 1 ∨ t = 2 then t else 0
theorem meth_n (n : Int) : ∀ w, (method 193 58 (.int .i64 n) "inlay/cell.value").run Try.prog w = .ok (26, .int .i64 n) w := fun _ => by kernel_rfl
theorem meth_p (x y : Nat) : ∀ w, (method 193 59 (.complex .f64 x y) "inlay/cell.value").run Try.prog w = .ok (30, .complex .f64 x y) w := fun _ => by kernel_rfl
set_option maxRecDepth 100000 in
theorem zero_any (t : Int) (w : World) : Calls Try.prog 12 #[.int .i64 t] w fun e w' => e = .returned (vV (zeroM t) 0 0 0) ∧ Below w.heap.size w w' := by
  rcases kinds t with rfl | rfl | ⟨h1, h2⟩
  · have hm := meth_n 0
    have c : Hid (∀ w : World, Calls Try.prog 25 #[vV 1 0 0 0] w fun e w' => e = .returned (.iface 58 (.int .i64 0)) ∧ Below w.heap.size w w') := Lib.hid fun w => of_any 1 0 0 0 w
    go_enter Try.func12, Try.ntmps12
    go_wp2_with fail
    refine (c.out _).mono ?_
    rintro e w1 ⟨rfl, hb⟩
    have HB := Lib.hid hb
    clear hb
    go_wp2_with fail
    refine (nval_any _ _).mono ?_
    rintro e w2 ⟨rfl, hb2⟩
    have hb := bl_trans HB.out HB.out.size hb2
    obtain ⟨q0, f0⟩ := new_cells hb 0 (.int .i64 0) rfl
    obtain ⟨q1, f1⟩ := new_cells hb 1 (.int .i64 0) rfl
    obtain ⟨q2, f2⟩ := new_cells hb 2 (.complex .f64 0 0) rfl
    have hbw : Below w.heap.size w w2 := ((Below.refl _ _).alloc (Nat.le_refl _) _).trans (hb.mono (by simp))
    clear hb hb2 HB
    go_wp2_with fail
    exact bodyPost_ret (v := vV 1 0 0 0) (by simp [results, Try.results12, go_sem, q0, q1, q2]) rfl ⟨rfl, by repeat (first | exact hbw | (refine Below.setCell ?_ (by simp) _))⟩
  · have hm := meth_p 0 0
    have c : Hid (∀ w : World, Calls Try.prog 25 #[vV 2 0 0 0] w fun e w' => e = .returned (.iface 59 (.complex .f64 0 0)) ∧ Below w.heap.size w w') := Lib.hid fun w => of_any 2 0 0 0 w
    go_enter Try.func12, Try.ntmps12
    go_wp2_with fail
    refine (c.out _).mono ?_
    rintro e w1 ⟨rfl, hb⟩
    have HB := Lib.hid hb
    clear hb
    go_wp2_with fail
    refine (pval_any _ _ _).mono ?_
    rintro e w2 ⟨rfl, hb2⟩
    have hb := bl_trans HB.out HB.out.size hb2
    obtain ⟨q0, f0⟩ := new_cells hb 0 (.int .i64 0) rfl
    obtain ⟨q1, f1⟩ := new_cells hb 1 (.int .i64 0) rfl
    obtain ⟨q2, f2⟩ := new_cells hb 2 (.complex .f64 0 0) rfl
    have hbw : Below w.heap.size w w2 := ((Below.refl _ _).alloc (Nat.le_refl _) _).trans (hb.mono (by simp))
    clear hb hb2 HB
    go_wp2_with fail
    exact bodyPost_ret (v := vV 2 0 0 0) (by simp [results, Try.results12, go_sem, q0, q1, q2]) rfl ⟨rfl, by repeat (first | exact hbw | (refine Below.setCell ?_ (by simp) _))⟩
  · have e : zeroM t = 0 := by unfold zeroM; rw [if_neg (by omega)]
    rw [e]
    have c : Hid (∀ w : World, Calls Try.prog 25 #[vV t 0 0 0] w fun e w' => e = .returned .nilIface ∧ Below w.heap.size w w') := Lib.hid fun w => by
      have := of_any t 0 0 0 w
      unfold thingV at this
      rw [if_neg h1, if_neg h2] at this
      exact this
    clear h1 h2
    go_enter Try.func12, Try.ntmps12
    go_wp2_with fail
    refine (c.out _).mono ?_
    rintro e w1 ⟨rfl, hb⟩
    obtain ⟨q0, f0⟩ := new_cells hb 0 (.int .i64 0) rfl
    obtain ⟨q1, f1⟩ := new_cells hb 1 (.int .i64 0) rfl
    obtain ⟨q2, f2⟩ := new_cells hb 2 (.complex .f64 0 0) rfl
    have hbw : Below w.heap.size w w1 := ((Below.refl _ _).alloc (Nat.le_refl _) _).trans (hb.mono (by simp))
    clear hb
    go_wp2_with fail
    exact bodyPost_ret (v := zV) (by simp [results, Try.results12, go_sem, q0, q1, q2]) rfl ⟨rfl, by repeat (first | exact hbw | (refine Below.setCell ?_ (by simp) _))⟩
set_option maxRecDepth 100000 in
theorem refZero_any (t : Int) (w : World) : Calls Try.prog 11 #[.int .i64 t] w fun e w' => e = .returned (vV (zeroM t) 0 0 0) ∧ Below w.heap.size w w' := by
  rcases kinds t with rfl | rfl | ⟨h1, h2⟩
  · go_enter Try.func11, Try.ntmps11
    go_wp2_with fail
    exact bodyPost_ret (v := vV 1 0 0 0) (by simp [results, Try.results11, go_sem]) rfl ⟨rfl, by repeat (first | exact Below.refl _ _ | (refine Below.setCell ?_ (by simp) _) | (refine Below.alloc ?_ (by simp) _))⟩
  · go_enter Try.func11, Try.ntmps11
    go_wp2_with fail
    exact bodyPost_ret (v := vV 2 0 0 0) (by simp [results, Try.results11, go_sem]) rfl ⟨rfl, by repeat (first | exact Below.refl _ _ | (refine Below.setCell ?_ (by simp) _) | (refine Below.alloc ?_ (by simp) _))⟩
  · have e : zeroM t = 0 := by unfold zeroM; rw [if_neg (by omega)]
    rw [e]
    have t1 : (t == 1) = false := by simpa using h1
    have t2 : (t == 2) = false := by simpa using h2
    go_enter Try.func11, Try.ntmps11
    go_wp2_with fail
    exact bodyPost_ret (v := zV) (by simp [results, Try.results11, go_sem]) rfl ⟨rfl, by repeat (first | exact Below.refl _ _ | (refine Below.setCell ?_ (by simp) _) | (refine Below.alloc ?_ (by simp) _))⟩
theorem alike_self (x : Nat) : alikeB x x = true := (FE.rfl' x).alike
end Go.Proofs.Ytjalphlhooojoaa
