/-
  Values: what one holds, zeros, a row of zeros (chosen out of r13's text).
-/
import Derived.Test.YtafcggibhmkgkaaKp
import Derived.Deep.RegionHeld
import Derived.WalkSpells
import Derived.WalkLawsBesides
import Derived.Outline
import Derived.Deep.QuietTactic
import Derived.BigQuiet
import Derived.Deep.DeepMust
namespace Go.Proofs.Ytafcggibhmkgkaa
open Go.RowKit
set_option linter.unusedSimpArgs false
set_option linter.unusedVariables false
theorem run_store_cplx {P : Program} {w : World} {a : Addr} {m : Mode} (k : FloatKind) (x y : Nat) : (store a (.complex k x y) m).run P w = stored P w a (.complex k x y) m := run_store P w a _ m rfl
attribute [local go_sem] run_store_cplx
abbrev vV (kd nn : Int) (x y : Nat) : Value := .agg #[.int .i64 kd, .int .i64 nn, .complex .f64 x y]
abbrev zV : Value := vV 0 0 0 0
theorem new_cells {w w1 : World} {cs : Array Value} {t : TypeId} (hb : Below (w.alloc (.cells cs t)).heap.size (w.alloc (.cells cs t)) w1) (i : Nat) (v : Value) (hv : cs[i]? = some v) : w1.cell? ⟨w.heap.size, i, none⟩ = some v ∧ w1.frozen? ⟨w.heap.size, i, none⟩ = false := by
  refine ⟨?_, ?_⟩
  · rw [hb.cell (by simp), cell_of_row _ w.heap.size i cs t (0, 0) (heap_alloc_new w _)]
    exact hv
  · rw [hb.frozen (by simp)]
    simp
def thingV (kd nn : Int) (x y : Nat) : Value := if kd = 1 then .iface 87 (.int .i64 nn) else if kd = 2 then .iface 88 (.complex .f64 x y) else .nilIface
theorem kinds (kd : Int) : kd = 1 ∨ kd = 2 ∨ (¬ kd = 1 ∧ ¬ kd = 2) := by omega
set_option maxRecDepth 100000 in
theorem of_any (kd nn : Int) (x y : Nat) (w : World) : Calls Try.prog 39 #[vV kd nn x y] w fun e w' => e = .returned (thingV kd nn x y) ∧ Below w.heap.size w w' := by
  rcases kinds kd with rfl | rfl | ⟨h1, h2⟩
  · go_enter Try.func39, Try.ntmps39
    go_wp2_with fail
    go_ret
    exact ⟨rfl, (Below.refl _ _).alloc (Nat.le_refl _) _⟩
  · go_enter Try.func39, Try.ntmps39
    go_wp2_with fail
    go_ret
    exact ⟨rfl, (Below.refl _ _).alloc (Nat.le_refl _) _⟩
  · have e : thingV kd nn x y = .nilIface := by unfold thingV; rw [if_neg h1, if_neg h2]
    rw [e]
    have t1 : (kd == 1) = false := by simpa using h1
    have t2 : (kd == 2) = false := by simpa using h2
    go_enter Try.func39, Try.ntmps39
    go_wp2_with fail
    go_ret
    exact ⟨rfl, (Below.refl _ _).alloc (Nat.le_refl _) _⟩
set_option maxRecDepth 100000 in
theorem nval_any (n : Int) (w : World) : Calls Try.prog 55 #[.int .i64 n] w fun e w' => e = .returned (vV 1 n 0 0) ∧ Below w.heap.size w w' := by
  go_enter Try.func55, Try.ntmps55
  go_wp2_with fail
  exact bodyPost_ret (v := vV 1 n 0 0) (by simp [results, Try.results55, go_sem]) rfl ⟨rfl, by repeat (first | exact Below.refl _ _ | (refine Below.setCell ?_ (by simp) _) | (refine Below.alloc ?_ (by simp) _))⟩
set_option maxRecDepth 100000 in
theorem pval_any (x y : Nat) (w : World) : Calls Try.prog 56 #[.complex .f64 x y] w fun e w' => e = .returned (vV 2 0 x y) ∧ Below w.heap.size w w' := by
  go_enter Try.func56, Try.ntmps56
  go_wp2_with fail
  exact bodyPost_ret (v := vV 2 0 x y) (by simp [results, Try.results56, go_sem]) rfl ⟨rfl, by repeat (first | exact Below.refl _ _ | (refine Below.setCell ?_ (by simp) _) | (refine Below.alloc ?_ (by simp) _))⟩
def zeroM (t : Int) : Int := if t = 1 ∨ t = 2 then t else 0
theorem meth_n (n : Int) : ∀ w, (method 210 87 (.int .i64 n) "inlay/cell.value").run Try.prog w = .ok (55, .int .i64 n) w := fun _ => by kernel_rfl
theorem meth_p (x y : Nat) : ∀ w, (method 210 88 (.complex .f64 x y) "inlay/cell.value").run Try.prog w = .ok (56, .complex .f64 x y) w := fun _ => by kernel_rfl
set_option maxRecDepth 100000 in
theorem zero_any (t : Int) (w : World) : Calls Try.prog 37 #[.int .i64 t] w fun e w' => e = .returned (vV (zeroM t) 0 0 0) ∧ Below w.heap.size w w' := by
  rcases kinds t with rfl | rfl | ⟨h1, h2⟩
  · have hm := meth_n 0
    have c : Hid (∀ w : World, Calls Try.prog 39 #[vV 1 0 0 0] w fun e w' => e = .returned (.iface 87 (.int .i64 0)) ∧ Below w.heap.size w w') := Lib.hid fun w => of_any 1 0 0 0 w
    go_enter Try.func37, Try.ntmps37
    go_wp2_with fail
    refine (c.out _).mono ?_
    rintro e w1 ⟨rfl, hb⟩
    have HB := Lib.hid hb
    clear hb
    go_wp2_with fail
    refine (nval_any _ _).mono ?_
    rintro e w2 ⟨rfl, hb2⟩
    have hb := bl_trans HB.out HB.out.size hb2
    obtain ⟨q0, f0⟩ := new_cells hb 0 (.int .i64 0) rfl
    obtain ⟨q1, f1⟩ := new_cells hb 1 (.int .i64 0) rfl
    obtain ⟨q2, f2⟩ := new_cells hb 2 (.complex .f64 0 0) rfl
    have hbw : Below w.heap.size w w2 := ((Below.refl _ _).alloc (Nat.le_refl _) _).trans (hb.mono (by simp))
    clear hb hb2 HB
    go_wp2_with fail
    exact bodyPost_ret (v := vV 1 0 0 0) (by simp [results, Try.results37, go_sem, q0, q1, q2]) rfl ⟨rfl, by repeat (first | exact hbw | (refine Below.setCell ?_ (by simp) _))⟩
  · have hm := meth_p 0 0
    have c : Hid (∀ w : World, Calls Try.prog 39 #[vV 2 0 0 0] w fun e w' => e = .returned (.iface 88 (.complex .f64 0 0)) ∧ Below w.heap.size w w') := Lib.hid fun w => of_any 2 0 0 0 w
    go_enter Try.func37, Try.ntmps37
    go_wp2_with fail
    refine (c.out _).mono ?_
    rintro e w1 ⟨rfl, hb⟩
    have HB := Lib.hid hb
    clear hb
    go_wp2_with fail
    refine (pval_any _ _ _).mono ?_
    rintro e w2 ⟨rfl, hb2⟩
    have hb := bl_trans HB.out HB.out.size hb2
    obtain ⟨q0, f0⟩ := new_cells hb 0 (.int .i64 0) rfl
    obtain ⟨q1, f1⟩ := new_cells hb 1 (.int .i64 0) rfl
    obtain ⟨q2, f2⟩ := new_cells hb 2 (.complex .f64 0 0) rfl
    have hbw : Below w.heap.size w w2 := ((Below.refl _ _).alloc (Nat.le_refl _) _).trans (hb.mono (by simp))
    clear hb hb2 HB
    go_wp2_with fail
    exact bodyPost_ret (v := vV 2 0 0 0) (by simp [results, Try.results37, go_sem, q0, q1, q2]) rfl ⟨rfl, by repeat (first | exact hbw | (refine Below.setCell ?_ (by simp) _))⟩
  · have e : zeroM t = 0 := by unfold zeroM; rw [if_neg (by omega)]
    rw [e]
    have c : Hid (∀ w : World, Calls Try.prog 39 #[vV t 0 0 0] w fun e w' => e = .returned .nilIface ∧ Below w.heap.size w w') := Lib.hid fun w => by
      have := of_any t 0 0 0 w
      unfold thingV at this
      rw [if_neg h1, if_neg h2] at this
      exact this
    clear h1 h2
    go_enter Try.func37, Try.ntmps37
    go_wp2_with fail
    refine (c.out _).mono ?_
    rintro e w1 ⟨rfl, hb⟩
    obtain ⟨q0, f0⟩ := new_cells hb 0 (.int .i64 0) rfl
    obtain ⟨q1, f1⟩ := new_cells hb 1 (.int .i64 0) rfl
    obtain ⟨q2, f2⟩ := new_cells hb 2 (.complex .f64 0 0) rfl
    have hbw : Below w.heap.size w w1 := ((Below.refl _ _).alloc (Nat.le_refl _) _).trans (hb.mono (by simp))
    clear hb
    go_wp2_with fail
    exact bodyPost_ret (v := zV) (by simp [results, Try.results37, go_sem, q0, q1, q2]) rfl ⟨rfl, by repeat (first | exact hbw | (refine Below.setCell ?_ (by simp) _))⟩
structure DV where
  k : Int
  n : Int
  x : Nat
  y : Nat
def cellsV (v : DV) : List Value := [.int .i64 v.k, .int .i64 v.n, .complex .f64 v.x v.y]
def aggV (v : DV) : Value := vV v.k v.n v.x v.y
theorem info_val : (Try.prog.info? 27).map (fun i => (i.zero, i.size, i.bytes)) = some (some (.agg #[.int .i64 0, .int .i64 0, .complex .f64 0 0]), 3, 32) := by kernel_rfl
theorem int_at {w : World} {B : Nat} {A : Option Addr} {n c : Nat} {xs : List Int} (h : SlR 1 8 (RInt .i64) w B A n c xs) {k : Nat} (hk : k < n) : ∃ b off v, A = some ⟨b, off, none⟩ ∧ b < B ∧ xs[k]? = some v ∧ w.cell? ⟨b, off + k, none⟩ = some (.int .i64 v) := by
  obtain ⟨b, off, x, cs, hA, hb, hx, _, hc, hr⟩ := h.at_ hk
  obtain ⟨rfl, _⟩ := hr
  exact ⟨b, off, x, hA, hb, hx, by simpa using hc 0 _ rfl⟩
theorem app1 {w w1 w3 : World} {o : Obj} {k c : Nat} {A : Option Addr} {ys : List Value} {v' : Value} (hb : Below w.heap.size w w1) (hown' : w3.ownsRow w.heap.size 27 3 v' (k + 1) ys) (hgrow : (w1.alloc o).grownBy w3 (Value.slice A k c).ownBlock) (hlt : ∀ j, (Value.slice A k c).ownBlock = some j → w.heap.size ≤ j) :
    ∃ A' c', v' = .slice A' (k + 1) c' ∧ w3.ownsRow w.heap.size 27 3 (.slice A' (k + 1) c') (k + 1) ys ∧ Below w.heap.size w w3 := by
  obtain ⟨A', c', hv, _⟩ := own_form hown'
  subst hv
  exact ⟨A', c', rfl, hown', Below.grown (hb.alloc hb.size _) hgrow (by have := hb.size; simp; omega) hlt⟩
theorem own_on {w w' : World} {base : Nat} {e : TypeId} {size : Nat} {v : Value} {n : Nat} {xs : List Value} (h : w.ownsRow base e size v n xs) (hb : Below w.heap.size w w') : w'.ownsRow base e size v n xs :=
  (Kp.belowOf hb).own h fun k hk => by have := (h.lt k hk).2; omega
def zf (t : Int) : List Value := [.int .i64 (zeroM t), .int .i64 0, .complex .f64 0 0]
def IsVRow (n : Nat) (cells : List Value) (w : World) (e : Ending) (w' : World) : Prop := ∃ A c, e = .returned (.slice A n c) ∧ w'.ownsRow w.heap.size 27 3 (.slice A n c) n cells ∧ Below w.heap.size w w'
theorem src_v (W : World) (k n : Int) (x y : Nat) : SrcCells (W.alloc (.cells #[.int .i64 k, .int .i64 n, .complex .f64 x y] 27)) (some ⟨W.heap.size, 0, none⟩) 1 3 [.int .i64 k, .int .i64 n, .complex .f64 x y] :=
  own_src (World.ownsRow_lit (base := W.heap.size) (e := 27) (size := 3) W #[.int .i64 k, .int .i64 n, .complex .f64 x y] 1 (Nat.le_refl _) (by unfold maxLen; omega) rfl)
theorem one_v (k n : Int) (x y : Nat) : ∀ u ∈ [Value.int .i64 k, .int .i64 n, .complex .f64 x y], u.oneCell' = true := by
  intro u hu
  simp at hu
  rcases hu with rfl | rfl | rfl <;> rfl
set_option maxRecDepth 100000 in
set_option maxHeartbeats 2000000 in
theorem row_any (A : Option Addr) (n c B : Nat) (xs : List Int) (w : World) (h : SlR 1 8 (RInt .i64) w B A n c xs) (hB : B ≤ w.heap.size) (hn : n ≤ 1000) :
    Calls Try.prog 30 #[.slice A n c] w (IsVRow n (xs.flatMap zf) w) := by
  obtain ⟨i0, hi, hz0, hz1, hz2⟩ := info_parts info_val
  have H := Lib.hid h
  have HL : Hid (xs.length = n) := h.1
  have HB := Lib.hid hB
  clear h hB
  go_enter Try.func30, Try.ntmps30
  go_wp2
  go_loopw [3, 8] (fun o i wr => ∃ (k : Nat) (A1 : Option Addr) (cc : Nat), o = .slice A1 k cc ∧ i = .int .i64 k ∧ k ≤ n ∧ Hid (wr.ownsRow w.heap.size 27 3 (.slice A1 k cc) k ((xs.take k).flatMap zf)) ∧ Hid (Below w.heap.size w wr)) (fun _ i _ => n - (intOf i).toNat)
  case atStart => exact ⟨0, none, 0, rfl, rfl, Nat.zero_le _, World.ownsRow_nil _ _ _ _, Below.refl _ _⟩
  case round =>
    obtain ⟨k, A1, cc, rfl, rfl, hk, HO, HW⟩ := hrel
    by_cases hlt : k < n
    · obtain ⟨b, off, t, rfl, hb, hx, q⟩ := int_at H.out hlt
      have q0 : wr.cell? ⟨b, off + k, none⟩ = some (.int .i64 t) := (HW.out.cell (by have := HB.out; show b < _; omega)).trans q
      have HX := Lib.hid hx
      clear q hx hb
      go_wp2_with fail
      refine (zero_any t _).mono ?_
      rintro e w1 ⟨rfl, hb1⟩
      have HW1 : Hid (Below w.heap.size w w1) := Lib.hid (HW.out.trans (hb1.mono HW.out.size))
      have HO1 := Lib.hid (own_on HO.out hb1)
      clear hb1
      have hsz : w.heap.size ≤ (w1.alloc (.cells #[.int .i64 (zeroM t), .int .i64 0, .complex .f64 0 0] 27)).heap.size := by have := HW1.out.size; simp; omega
      have hsrc := Lib.hid (src_v w1 (zeroM t) 0 0 0)
      have hone := Lib.hid (one_v (zeroM t) 0 0 0)
      have HF : Hid ((xs.take k).flatMap zf ++ [.int .i64 (zeroM t), .int .i64 0, .complex .f64 0 0] = (xs.take (k + 1)).flatMap zf) := Lib.hid (flatMap_snoc zf xs k t HX.out)
      go_wp2_with (first
        | (at_builtin; go_must (refine wpList_append_src _ rfl _ _ 31 rfl w.heap.size 27 i0 (.agg #[.int .i64 0, .int .i64 0, .complex .f64 0 0]) 3 32 Try.underlying31 hi hz0 hz1 hz2 rfl (by decide) _ _ _ rfl (HO1.out.alloc _) (some ⟨w1.heap.size, 0, none⟩) 1 1 [.int .i64 (zeroM t), .int .i64 0, .complex .f64 0 0] rfl hsrc.out hone.out (by unfold maxLen; omega) (by omega) hsz ?_)
           intro v' w3 hown' hgrow3 hat3
           rw [HF.out] at hown'
           obtain ⟨A', c', rfl, o3, b3⟩ := app1 HW1.out hown' hgrow3 (fun j hj => (HO1.out.lt j hj).1)
           have O3 := Lib.hid o3
           have B3 := Lib.hid b3
           clear hown' hgrow3 hat3 o3 b3))
      go_roundw
      case rel => exact ⟨k + 1, A', c', rfl, by go_num, by omega, O3, B3⟩
      case measure => simp [intOf]; omega
    · have hkn : k = n := by omega
      subst hkn
      have HO2 : Hid (wr.ownsRow w.heap.size 27 3 (.slice A1 k cc) k (xs.flatMap zf)) := Lib.hid (by
        have := HO.out
        rw [List.take_of_length_le (by rw [HL.out]; exact Nat.le_refl _)] at this
        exact this)
      go_wp2_with fail
      go_ret
      exact ⟨_, _, rfl, HO2.out, HW.out⟩
end Go.Proofs.Ytafcggibhmkgkaa
