/-
  Values: what one holds, zeros, a row of zeros, whether two are the same, a value out of four numbers (chosen out of r12's texts).
-/
import Derived.Test.YthddhipmmhihlaaPl0
import Derived.Test.YthddhipmmhihlaaKp
import Derived.Deep.RegionHeld
import Derived.WalkSpells
import Derived.WalkLawsBesides
import Derived.Outline
import Derived.Deep.QuietTactic
import Derived.BigQuiet
import Derived.Deep.DeepMust
namespace Go.Proofs.Ythddhipmmhihlaa
open Go.RowKit
set_option linter.unusedSimpArgs false
set_option linter.unusedVariables false
theorem run_store_cplx {P : Program} {w : World} {a : Addr} {m : Mode} (k : FloatKind) (x y : Nat) : (store a (.complex k x y) m).run P w = stored P w a (.complex k x y) m := run_store P w a _ m rfl
attribute [local go_sem] run_store_cplx
abbrev vV (kd nn : Int) (x y : Nat) : Value := .agg #[.int .i64 kd, .int .i64 nn, .complex .f64 x y]
abbrev zV : Value := vV 0 0 0 0
theorem new_cells {w w1 : World} {cs : Array Value} {t : TypeId} (hb : Below (w.alloc (.cells cs t)).heap.size (w.alloc (.cells cs t)) w1) (i : Nat) (v : Value) (hv : cs[i]? = some v) : w1.cell? ⟨w.heap.size, i, none⟩ = some v ∧ w1.frozen? ⟨w.heap.size, i, none⟩ = false := by
  refine ⟨?_, ?_⟩
  · rw [hb.cell (by simp), cell_of_row _ w.heap.size i cs t (0, 0) (heap_alloc_new w _)]
    exact hv
  · rw [hb.frozen (by simp)]
    simp
def thingV (kd nn : Int) (x y : Nat) : Value := if kd = 1 then .iface 80 (.int .i64 nn) else if kd = 2 then .iface 81 (.complex .f64 x y) else .nilIface
theorem kinds (kd : Int) : kd = 1 ∨ kd = 2 ∨ (¬ kd = 1 ∧ ¬ kd = 2) := by omega
set_option maxRecDepth 100000 in
theorem of_any (kd nn : Int) (x y : Nat) (w : World) : Calls Try.prog 36 #[vV kd nn x y] w fun e w' => e = .returned (thingV kd nn x y) ∧ Below w.heap.size w w' := by
  rcases kinds kd with rfl | rfl | ⟨h1, h2⟩
  · go_enter Try.func36, Try.ntmps36
    go_wp2_with fail
    go_ret
    exact ⟨rfl, (Below.refl _ _).alloc (Nat.le_refl _) _⟩
  · go_enter Try.func36, Try.ntmps36
    go_wp2_with fail
    go_ret
    exact ⟨rfl, (Below.refl _ _).alloc (Nat.le_refl _) _⟩
  · have e : thingV kd nn x y = .nilIface := by unfold thingV; rw [if_neg h1, if_neg h2]
    rw [e]
    have t1 : (kd == 1) = false := by simpa using h1
    have t2 : (kd == 2) = false := by simpa using h2
    go_enter Try.func36, Try.ntmps36
    go_wp2_with fail
    go_ret
    exact ⟨rfl, (Below.refl _ _).alloc (Nat.le_refl _) _⟩
set_option maxRecDepth 100000 in
theorem nval_any (n : Int) (w : World) : Calls Try.prog 52 #[.int .i64 n] w fun e w' => e = .returned (vV 1 n 0 0) ∧ Below w.heap.size w w' := by
  go_enter Try.func52, Try.ntmps52
  go_wp2_with fail
  exact bodyPost_ret (v := vV 1 n 0 0) (by simp [results, Try.results52, go_sem]) rfl ⟨rfl, by repeat (first | exact Below.refl _ _ | (refine Below.setCell ?_ (by simp) _) | (refine Below.alloc ?_ (by simp) _))⟩
set_option maxRecDepth 100000 in
theorem pval_any (x y : Nat) (w : World) : Calls Try.prog 53 #[.complex .f64 x y] w fun e w' => e = .returned (vV 2 0 x y) ∧ Below w.heap.size w w' := by
  go_enter Try.func53, Try.ntmps53
  go_wp2_with fail
  exact bodyPost_ret (v := vV 2 0 x y) (by simp [results, Try.results53, go_sem]) rfl ⟨rfl, by repeat (first | exact Below.refl _ _ | (refine Below.setCell ?_ (by simp) _) | (refine Below.alloc ?_ (by simp) _))⟩
def zeroM (t : Int) : Int := if t = 1 ∨ t = 2 then t else 0
theorem meth_n (n : Int) : ∀ w, (method 198 80 (.int .i64 n) "inlay/cell.value").run Try.prog w = .ok (52, .int .i64 n) w := fun _ => by kernel_rfl
theorem meth_p (x y : Nat) : ∀ w, (method 198 81 (.complex .f64 x y) "inlay/cell.value").run Try.prog w = .ok (53, .complex .f64 x y) w := fun _ => by kernel_rfl
set_option maxRecDepth 100000 in
theorem zero_any (t : Int) (w : World) : Calls Try.prog 35 #[.int .i64 t] w fun e w' => e = .returned (vV (zeroM t) 0 0 0) ∧ Below w.heap.size w w' := by
  rcases kinds t with rfl | rfl | ⟨h1, h2⟩
  · have hm := meth_n 0
    have c : Hid (∀ w : World, Calls Try.prog 36 #[vV 1 0 0 0] w fun e w' => e = .returned (.iface 80 (.int .i64 0)) ∧ Below w.heap.size w w') := Lib.hid fun w => of_any 1 0 0 0 w
    go_enter Try.func35, Try.ntmps35
    go_wp2_with fail
    refine (c.out _).mono ?_
    rintro e w1 ⟨rfl, hb⟩
    have HB := Lib.hid hb
    clear hb
    go_wp2_with fail
    refine (nval_any _ _).mono ?_
    rintro e w2 ⟨rfl, hb2⟩
    have hb := bl_trans HB.out HB.out.size hb2
    obtain ⟨q0, f0⟩ := new_cells hb 0 (.int .i64 0) rfl
    obtain ⟨q1, f1⟩ := new_cells hb 1 (.int .i64 0) rfl
    obtain ⟨q2, f2⟩ := new_cells hb 2 (.complex .f64 0 0) rfl
    have hbw : Below w.heap.size w w2 := ((Below.refl _ _).alloc (Nat.le_refl _) _).trans (hb.mono (by simp))
    clear hb hb2 HB
    go_wp2_with fail
    exact bodyPost_ret (v := vV 1 0 0 0) (by simp [results, Try.results35, go_sem, q0, q1, q2]) rfl ⟨rfl, by repeat (first | exact hbw | (refine Below.setCell ?_ (by simp) _))⟩
  · have hm := meth_p 0 0
    have c : Hid (∀ w : World, Calls Try.prog 36 #[vV 2 0 0 0] w fun e w' => e = .returned (.iface 81 (.complex .f64 0 0)) ∧ Below w.heap.size w w') := Lib.hid fun w => of_any 2 0 0 0 w
    go_enter Try.func35, Try.ntmps35
    go_wp2_with fail
    refine (c.out _).mono ?_
    rintro e w1 ⟨rfl, hb⟩
    have HB := Lib.hid hb
    clear hb
    go_wp2_with fail
    refine (pval_any _ _ _).mono ?_
    rintro e w2 ⟨rfl, hb2⟩
    have hb := bl_trans HB.out HB.out.size hb2
    obtain ⟨q0, f0⟩ := new_cells hb 0 (.int .i64 0) rfl
    obtain ⟨q1, f1⟩ := new_cells hb 1 (.int .i64 0) rfl
    obtain ⟨q2, f2⟩ := new_cells hb 2 (.complex .f64 0 0) rfl
    have hbw : Below w.heap.size w w2 := ((Below.refl _ _).alloc (Nat.le_refl _) _).trans (hb.mono (by simp))
    clear hb hb2 HB
    go_wp2_with fail
    exact bodyPost_ret (v := vV 2 0 0 0) (by simp [results, Try.results35, go_sem, q0, q1, q2]) rfl ⟨rfl, by repeat (first | exact hbw | (refine Below.setCell ?_ (by simp) _))⟩
  · have e : zeroM t = 0 := by unfold zeroM; rw [if_neg (by omega)]
    rw [e]
    have c : Hid (∀ w : World, Calls Try.prog 36 #[vV t 0 0 0] w fun e w' => e = .returned .nilIface ∧ Below w.heap.size w w') := Lib.hid fun w => by
      have := of_any t 0 0 0 w
      unfold thingV at this
      rw [if_neg h1, if_neg h2] at this
      exact this
    clear h1 h2
    go_enter Try.func35, Try.ntmps35
    go_wp2_with fail
    refine (c.out _).mono ?_
    rintro e w1 ⟨rfl, hb⟩
    obtain ⟨q0, f0⟩ := new_cells hb 0 (.int .i64 0) rfl
    obtain ⟨q1, f1⟩ := new_cells hb 1 (.int .i64 0) rfl
    obtain ⟨q2, f2⟩ := new_cells hb 2 (.complex .f64 0 0) rfl
    have hbw : Below w.heap.size w w1 := ((Below.refl _ _).alloc (Nat.le_refl _) _).trans (hb.mono (by simp))
    clear hb
    go_wp2_with fail
    exact bodyPost_ret (v := zV) (by simp [results, Try.results35, go_sem, q0, q1, q2]) rfl ⟨rfl, by repeat (first | exact hbw | (refine Below.setCell ?_ (by simp) _))⟩
set_option maxRecDepth 100000 in
theorem refZero_any (t : Int) (w : World) : Calls Try.prog 27 #[.int .i64 t] w fun e w' => e = .returned (vV (zeroM t) 0 0 0) ∧ Below w.heap.size w w' := by
  rcases kinds t with rfl | rfl | ⟨h1, h2⟩
  · go_enter Try.func27, Try.ntmps27
    go_wp2_with fail
    exact bodyPost_ret (v := vV 1 0 0 0) (by simp [results, Try.results27, go_sem]) rfl ⟨rfl, by repeat (first | exact Below.refl _ _ | (refine Below.setCell ?_ (by simp) _) | (refine Below.alloc ?_ (by simp) _))⟩
  · go_enter Try.func27, Try.ntmps27
    go_wp2_with fail
    exact bodyPost_ret (v := vV 2 0 0 0) (by simp [results, Try.results27, go_sem]) rfl ⟨rfl, by repeat (first | exact Below.refl _ _ | (refine Below.setCell ?_ (by simp) _) | (refine Below.alloc ?_ (by simp) _))⟩
  · have e : zeroM t = 0 := by unfold zeroM; rw [if_neg (by omega)]
    rw [e]
    have t1 : (t == 1) = false := by simpa using h1
    have t2 : (t == 2) = false := by simpa using h2
    go_enter Try.func27, Try.ntmps27
    go_wp2_with fail
    exact bodyPost_ret (v := zV) (by simp [results, Try.results27, go_sem]) rfl ⟨rfl, by repeat (first | exact Below.refl _ _ | (refine Below.setCell ?_ (by simp) _) | (refine Below.alloc ?_ (by simp) _))⟩
theorem alike_self (x : Nat) : alikeB x x = true := (FE.rfl' x).alike
set_option maxRecDepth 100000 in
theorem refPair_any (a b : Int) (w : World) : Calls Try.prog 22 #[.int .i64 a, .int .i64 b] w fun e w' => e = .returned (.complex .f64 (FloatKind.f64.nearest a) (FloatKind.f64.nearest b)) ∧ w = w' := by
  go_enter Try.func22, Try.ntmps22
  go_wp2
  go_ret
  exact ⟨rfl, rfl⟩
theorem ne_is (x : Nat) : (FloatKind.f64.format.order x x != some .eq) = isN x := by
  have h := eqF_self x
  unfold eqF at h
  show (!(Ieee.double.order x x == some .eq)) = isN x
  rw [h]
  simp
set_option maxRecDepth 100000 in
theorem refAlike_any (x y : Nat) (w : World) : Calls Try.prog 34 #[.float .f64 x, .float .f64 y] w fun e w' => e = .returned (.bool (alikeB x y)) ∧ w = w' := by
  have h1 : ∃ p, (FloatKind.f64.format.order x y == some .eq) = p := ⟨_, rfl⟩
  have h2 : ∃ q, (FloatKind.f64.format.order x x != some .eq) = q := ⟨_, rfl⟩
  have h3 : ∃ r, (FloatKind.f64.format.order y y != some .eq) = r := ⟨_, rfl⟩
  obtain ⟨p, hp⟩ := h1
  obtain ⟨q, hq⟩ := h2
  obtain ⟨r, hr⟩ := h3
  have hres : Hid (alikeB x y = (p || (q && r))) := by
    show alikeB x y = _
    unfold alikeB eqF
    rw [← ne_is x, ← ne_is y, hq, hr, ← hp]
    rfl
  cases p <;> cases q <;> cases r
  all_goals
    go_enter Try.func34, Try.ntmps34
    go_wp2
    go_ret
    exact ⟨by rw [hres.out]; rfl, rfl⟩
def sameB (a b c d : Nat) : Bool := alikeB a c && alikeB b d
set_option maxRecDepth 100000 in
theorem refSame_any (a b c d : Nat) (w : World) : Calls Try.prog 31 #[.complex .f64 a b, .complex .f64 c d] w fun e w' => e = .returned (.bool (sameB a b c d)) ∧ w = w' := by
  have c1 : ∀ w : World, Hid (Calls Try.prog 34 #[.float .f64 a, .float .f64 c] w fun e w' => e = .returned (.bool (alikeB a c)) ∧ w = w') := fun w => refAlike_any a c w
  have c2 : ∀ w : World, Hid (Calls Try.prog 34 #[.float .f64 b, .float .f64 d] w fun e w' => e = .returned (.bool (alikeB b d)) ∧ w = w') := fun w => refAlike_any b d w
  unfold sameB
  generalize alikeB a c = p at *
  generalize alikeB b d = q at *
  cases p
  all_goals
    go_enter Try.func31, Try.ntmps31
    go_wp2_with fail
    refine Calls.mono (c1 _).out ?_
    rintro e w' ⟨rfl, rfl⟩
    go_wp2_with (refine Calls.mono (c2 _).out ?_; rintro e w' ⟨rfl, rfl⟩)
    go_ret
    exact ⟨rfl, rfl⟩
structure DV where
  k : Int
  n : Int
  x : Nat
  y : Nat
def cellsV (v : DV) : List Value := [.int .i64 v.k, .int .i64 v.n, .complex .f64 v.x v.y]
def aggV (v : DV) : Value := vV v.k v.n v.x v.y
abbrev SlV (w : World) (B : Nat) (A : Option Addr) (n c : Nat) (xs : List DV) : Prop := SlR 3 32 (RC cellsV) w B A n c xs
theorem slv_at {w : World} {B : Nat} {A : Option Addr} {n c : Nat} {xs : List DV} (h : SlV w B A n c xs) {k : Nat} (hk : k < n) : ∃ b off v, A = some ⟨b, off, none⟩ ∧ b < B ∧ xs[k]? = some v ∧ w.cell? ⟨b, off + k * 3, none⟩ = some (.int .i64 v.k) ∧ w.cell? ⟨b, off + k * 3 + 1, none⟩ = some (.int .i64 v.n) ∧ w.cell? ⟨b, off + k * 3 + 2, none⟩ = some (.complex .f64 v.x v.y) := by
  obtain ⟨b, off, x, cs, hA, hb, hx, _, hc, hr⟩ := h.at_ hk
  unfold RC at hr
  subst hr
  exact ⟨b, off, x, hA, hb, hx, by simpa using hc 0 _ rfl, by simpa [Nat.add_assoc] using hc 1 _ rfl, by simpa [Nat.add_assoc] using hc 2 _ rfl⟩
theorem SlV.on {w w' : World} {B : Nat} {A : Option Addr} {n c : Nat} {xs : List DV} (h : SlV w B A n c xs) (hb : Below B w w') : SlV w' B A n c xs := SlR.keep (stable_rc _) h fun p hp => hb.cell hp
theorem info_val : (Try.prog.info? 45).map (fun i => (i.zero, i.size, i.bytes)) = some (some (.agg #[.int .i64 0, .int .i64 0, .complex .f64 0 0]), 3, 32) := by kernel_rfl
theorem int_at {w : World} {B : Nat} {A : Option Addr} {n c : Nat} {xs : List Int} (h : SlR 1 8 (RInt .i64) w B A n c xs) {k : Nat} (hk : k < n) : ∃ b off v, A = some ⟨b, off, none⟩ ∧ b < B ∧ xs[k]? = some v ∧ w.cell? ⟨b, off + k, none⟩ = some (.int .i64 v) := by
  obtain ⟨b, off, x, cs, hA, hb, hx, _, hc, hr⟩ := h.at_ hk
  obtain ⟨rfl, _⟩ := hr
  exact ⟨b, off, x, hA, hb, hx, by simpa using hc 0 _ rfl⟩
theorem app1 {w w1 w3 : World} {o : Obj} {k c : Nat} {A : Option Addr} {ys : List Value} {v' : Value} (hb : Below w.heap.size w w1) (hown' : w3.ownsRow w.heap.size 45 3 v' (k + 1) ys) (hgrow : (w1.alloc o).grownBy w3 (Value.slice A k c).ownBlock) (hlt : ∀ j, (Value.slice A k c).ownBlock = some j → w.heap.size ≤ j) :
    ∃ A' c', v' = .slice A' (k + 1) c' ∧ w3.ownsRow w.heap.size 45 3 (.slice A' (k + 1) c') (k + 1) ys ∧ Below w.heap.size w w3 := by
  obtain ⟨A', c', hv, _⟩ := own_form hown'
  subst hv
  exact ⟨A', c', rfl, hown', Below.grown (hb.alloc hb.size _) hgrow (by have := hb.size; simp; omega) hlt⟩
theorem own_on {w w' : World} {base : Nat} {e : TypeId} {size : Nat} {v : Value} {n : Nat} {xs : List Value} (h : w.ownsRow base e size v n xs) (hb : Below w.heap.size w w') : w'.ownsRow base e size v n xs :=
  (Kp.belowOf hb).own h fun k hk => by have := (h.lt k hk).2; omega
def zf (t : Int) : List Value := [.int .i64 (zeroM t), .int .i64 0, .complex .f64 0 0]
def IsVRow (n : Nat) (cells : List Value) (w : World) (e : Ending) (w' : World) : Prop := ∃ A c, e = .returned (.slice A n c) ∧ w'.ownsRow w.heap.size 45 3 (.slice A n c) n cells ∧ Below w.heap.size w w'
theorem src_v (W : World) (k n : Int) (x y : Nat) : SrcCells (W.alloc (.cells #[.int .i64 k, .int .i64 n, .complex .f64 x y] 45)) (some ⟨W.heap.size, 0, none⟩) 1 3 [.int .i64 k, .int .i64 n, .complex .f64 x y] :=
  own_src (World.ownsRow_lit (base := W.heap.size) (e := 45) (size := 3) W #[.int .i64 k, .int .i64 n, .complex .f64 x y] 1 (Nat.le_refl _) (by unfold maxLen; omega) rfl)
theorem one_v (k n : Int) (x y : Nat) : ∀ u ∈ [Value.int .i64 k, .int .i64 n, .complex .f64 x y], u.oneCell' = true := by
  intro u hu
  simp at hu
  rcases hu with rfl | rfl | rfl <;> rfl
set_option maxRecDepth 100000 in
set_option maxHeartbeats 2000000 in
theorem row_any (A : Option Addr) (n c B : Nat) (xs : List Int) (w : World) (h : SlR 1 8 (RInt .i64) w B A n c xs) (hB : B ≤ w.heap.size) (hn : n ≤ 1000) :
    Calls Try.prog 33 #[.slice A n c] w (IsVRow n (xs.flatMap zf) w) := by
  obtain ⟨i0, hi, hz0, hz1, hz2⟩ := info_parts info_val
  have H := Lib.hid h
  have HL : Hid (xs.length = n) := h.1
  have HB := Lib.hid hB
  clear h hB
  go_enter Try.func33, Try.ntmps33
  go_wp2
  go_loopw [3, 8] (fun o i wr => ∃ (k : Nat) (A1 : Option Addr) (cc : Nat), o = .slice A1 k cc ∧ i = .int .i64 k ∧ k ≤ n ∧ Hid (wr.ownsRow w.heap.size 45 3 (.slice A1 k cc) k ((xs.take k).flatMap zf)) ∧ Hid (Below w.heap.size w wr)) (fun _ i _ => n - (intOf i).toNat)
  case atStart => exact ⟨0, none, 0, rfl, rfl, Nat.zero_le _, World.ownsRow_nil _ _ _ _, Below.refl _ _⟩
  case round =>
    obtain ⟨k, A1, cc, rfl, rfl, hk, HO, HW⟩ := hrel
    by_cases hlt : k < n
    · obtain ⟨b, off, t, rfl, hb, hx, q⟩ := int_at H.out hlt
      have q0 : wr.cell? ⟨b, off + k, none⟩ = some (.int .i64 t) := (HW.out.cell (by have := HB.out; show b < _; omega)).trans q
      have HX := Lib.hid hx
      clear q hx hb
      go_wp2_with fail
      refine (zero_any t _).mono ?_
      rintro e w1 ⟨rfl, hb1⟩
      have HW1 : Hid (Below w.heap.size w w1) := Lib.hid (HW.out.trans (hb1.mono HW.out.size))
      have HO1 := Lib.hid (own_on HO.out hb1)
      clear hb1
      have hsz : w.heap.size ≤ (w1.alloc (.cells #[.int .i64 (zeroM t), .int .i64 0, .complex .f64 0 0] 45)).heap.size := by have := HW1.out.size; simp; omega
      have hsrc := Lib.hid (src_v w1 (zeroM t) 0 0 0)
      have hone := Lib.hid (one_v (zeroM t) 0 0 0)
      have HF : Hid ((xs.take k).flatMap zf ++ [.int .i64 (zeroM t), .int .i64 0, .complex .f64 0 0] = (xs.take (k + 1)).flatMap zf) := Lib.hid (flatMap_snoc zf xs k t HX.out)
      go_wp2_with (first
        | (at_builtin; go_must (refine wpList_append_src _ rfl _ _ 24 rfl w.heap.size 45 i0 (.agg #[.int .i64 0, .int .i64 0, .complex .f64 0 0]) 3 32 Try.underlying24 hi hz0 hz1 hz2 rfl (by decide) _ _ _ rfl (HO1.out.alloc _) (some ⟨w1.heap.size, 0, none⟩) 1 1 [.int .i64 (zeroM t), .int .i64 0, .complex .f64 0 0] rfl hsrc.out hone.out (by unfold maxLen; omega) (by omega) hsz ?_)
           intro v' w3 hown' hgrow3 hat3
           rw [HF.out] at hown'
           obtain ⟨A', c', rfl, o3, b3⟩ := app1 HW1.out hown' hgrow3 (fun j hj => (HO1.out.lt j hj).1)
           have O3 := Lib.hid o3
           have B3 := Lib.hid b3
           clear hown' hgrow3 hat3 o3 b3))
      go_roundw
      case rel => exact ⟨k + 1, A', c', rfl, by go_num, by omega, O3, B3⟩
      case measure => simp [intOf]; omega
    · have hkn : k = n := by omega
      subst hkn
      have HO2 : Hid (wr.ownsRow w.heap.size 45 3 (.slice A1 k cc) k (xs.flatMap zf)) := Lib.hid (by
        have := HO.out
        rw [List.take_of_length_le (by rw [HL.out]; exact Nat.le_refl _)] at this
        exact this)
      go_wp2_with fail
      go_ret
      exact ⟨_, _, rfl, HO2.out, HW.out⟩
def sameV (a b : DV) : Bool := if a.k = b.k then (if a.k = 2 then sameB a.x a.y b.x b.y else a.n == b.n) else false
theorem sameV_refl (a : DV) : sameV a a = true := by
  unfold sameV
  rw [if_pos rfl]
  split
  · unfold sameB; rw [alike_self, alike_self]; rfl
  · simp
set_option maxRecDepth 100000 in
theorem refSameV_any (a b : DV) (w : World) : Calls Try.prog 16 #[aggV a, aggV b] w fun e w' => e = .returned (.bool (sameV a b)) ∧ Below w.heap.size w w' := by
  obtain ⟨k, n, x, y⟩ := a
  obtain ⟨k2, n2, x2, y2⟩ := b
  show Calls _ _ #[vV k n x y, vV k2 n2 x2 y2] w _
  by_cases hk : k = k2
  · subst hk
    by_cases h2 : k = 2
    · subst h2
      have c1 : Hid (∀ w : World, Calls Try.prog 31 #[.complex .f64 x y, .complex .f64 x2 y2] w fun e w' => e = .returned (.bool (sameB x y x2 y2)) ∧ w = w') := Lib.hid fun w => refSame_any x y x2 y2 w
      have hr : Hid (sameV ⟨2, n, x, y⟩ ⟨2, n2, x2, y2⟩ = sameB x y x2 y2) := Lib.hid rfl
      go_enter Try.func16, Try.ntmps16
      go_wp2_with fail
      refine (c1.out _).mono ?_
      rintro e w1 ⟨rfl, rfl⟩
      go_wp2_with fail
      go_ret
      exact ⟨by rw [hr.out]; rfl, by repeat (first | exact Below.refl _ _ | (refine Below.setCell ?_ (by simp) _) | (refine Below.alloc ?_ (by simp) _))⟩
    · have hr : Hid (sameV ⟨k, n, x, y⟩ ⟨k, n2, x2, y2⟩ = (n == n2)) := Lib.hid (by unfold sameV; rw [if_pos rfl, if_neg h2])
      have t2 : (k == 2) = false := by simpa using h2
      have t0 : (k != k) = false := by simp
      go_enter Try.func16, Try.ntmps16
      go_wp2_with fail
      go_ret
      exact ⟨by rw [hr.out]; rfl, by repeat (first | exact Below.refl _ _ | (refine Below.setCell ?_ (by simp) _) | (refine Below.alloc ?_ (by simp) _))⟩
  · have hr : Hid (sameV ⟨k, n, x, y⟩ ⟨k2, n2, x2, y2⟩ = false) := Lib.hid (by unfold sameV; rw [if_neg hk])
    have t0 : (k != k2) = true := by simpa using hk
    go_enter Try.func16, Try.ntmps16
    go_wp2_with fail
    go_ret
    exact ⟨by rw [hr.out]; rfl, by repeat (first | exact Below.refl _ _ | (refine Below.setCell ?_ (by simp) _) | (refine Below.alloc ?_ (by simp) _))⟩
abbrev nr (n : Int) : Nat := FloatKind.f64.nearest n
structure BX (w : World) (vb : Nat) (W : World) : Prop where
  bw : Below w.heap.size w W
  c0 : ∃ u, W.cell? ⟨vb, 0, none⟩ = some u
  c1 : ∃ u, W.cell? ⟨vb, 1, none⟩ = some u
  c2 : ∃ u, W.cell? ⟨vb, 2, none⟩ = some u
  f0 : W.frozen? ⟨vb, 0, none⟩ = false
  f1 : W.frozen? ⟨vb, 1, none⟩ = false
  f2 : W.frozen? ⟨vb, 2, none⟩ = false
theorem BX.drew {w : World} {vb : Nat} {W : World} (h : BX w vb W) : BX w vb W.drew := ⟨h.bw.drew, h.c0, h.c1, h.c2, h.f0, h.f1, h.f2⟩
theorem BX.drewN {w : World} {vb : Nat} {W : World} (h : BX w vb W) (n : Nat) : BX w vb (W.drewN n) := ⟨(Below.trans h.bw ⟨rfl, rfl, rfl, Nat.le_refl _, fun _ _ => rfl⟩), h.c0, h.c1, h.c2, h.f0, h.f1, h.f2⟩
theorem BX.on {w : World} {vb : Nat} {W W' : World} (h : BX w vb W) (hb : Below W.heap.size W W') : BX w vb W' := by
  obtain ⟨u0, e0⟩ := h.c0
  obtain ⟨u1, e1⟩ := h.c1
  obtain ⟨u2, e2⟩ := h.c2
  have hlt := World.block_lt_of_cell? _ _ e0
  have k : ∀ j, W'.cell? ⟨vb, j, none⟩ = W.cell? ⟨vb, j, none⟩ := fun j => hb.cell hlt
  have g : ∀ j, W'.frozen? ⟨vb, j, none⟩ = W.frozen? ⟨vb, j, none⟩ := fun j => hb.frozen hlt
  exact ⟨h.bw.trans (hb.mono h.bw.size), ⟨u0, (k 0).trans e0⟩, ⟨u1, (k 1).trans e1⟩, ⟨u2, (k 2).trans e2⟩, (g 0).trans h.f0, (g 1).trans h.f1, (g 2).trans h.f2⟩
theorem BX.of {w W : World} (h : Below (w.alloc (.cells #[.int .i64 0, .int .i64 0, .complex .f64 0 0] 45)).heap.size (w.alloc (.cells #[.int .i64 0, .int .i64 0, .complex .f64 0 0] 45)) W) : BX w w.heap.size W := by
  obtain ⟨q0, f0⟩ := new_cells h 0 (.int .i64 0) rfl
  obtain ⟨q1, f1⟩ := new_cells h 1 (.int .i64 0) rfl
  obtain ⟨q2, f2⟩ := new_cells h 2 (.complex .f64 0 0) rfl
  exact ⟨((Below.refl _ _).alloc (Nat.le_refl _) _).trans (h.mono (by simp)), ⟨_, q0⟩, ⟨_, q1⟩, ⟨_, q2⟩, f0, f1, f2⟩
theorem BX.put3 {w : World} {W : World} (h : BX w w.heap.size W) (a b c : Value) : BX w w.heap.size (((W.setCell ⟨w.heap.size, 0, none⟩ a).setCell ⟨w.heap.size, 1, none⟩ b).setCell ⟨w.heap.size, 2, none⟩ c) := by
  obtain ⟨u0, e0⟩ := h.c0
  obtain ⟨u1, e1⟩ := h.c1
  obtain ⟨u2, e2⟩ := h.c2
  refine ⟨((h.bw.setCell (p := ⟨w.heap.size, 0, none⟩) (Nat.le_refl _) _).setCell (p := ⟨w.heap.size, 1, none⟩) (Nat.le_refl _) _).setCell (p := ⟨w.heap.size, 2, none⟩) (Nat.le_refl _) _, ⟨a, ?_⟩, ⟨b, ?_⟩, ⟨c, ?_⟩, ?_, ?_, ?_⟩
  all_goals simp [go_sem, e0, e1, e2, h.f0, h.f1, h.f2]
theorem slv_lit (W : World) (k n : Int) (x y : Nat) : SlV (W.alloc (.cells #[.int .i64 k, .int .i64 n, .complex .f64 x y] 45)) (W.alloc (.cells #[.int .i64 k, .int .i64 n, .complex .f64 x y] 45)).heap.size (some ⟨W.heap.size, 0, none⟩) 1 1 [⟨k, n, x, y⟩] :=
  SlR.of_ownN (base := W.heap.size) (e := 45) (f := cellsV) (fun _ => rfl) (by decide) (World.ownsRow_lit (base := W.heap.size) (e := 45) (size := 3) W #[.int .i64 k, .int .i64 n, .complex .f64 x y] 1 (Nat.le_refl _) (by unfold maxLen; omega) rfl) (by unfold reachBytes; omega)
set_option maxRecDepth 100000 in
set_option maxHeartbeats 1000000 in
theorem refValues_true (A1 A2 : Option Addr) (n c1 c2 B : Nat) (xs ys : List DV) (w : World) (h1 : SlV w B A1 n c1 xs) (h2 : SlV w B A2 n c2 ys) (hB : B ≤ w.heap.size) (hs : ∀ (i : Nat) x y, xs[i]? = some x → ys[i]? = some y → sameV x y = true) :
    Calls Try.prog 13 #[.slice A1 n c1, .slice A2 n c2] w fun e w' => e = .returned (.bool true) ∧ Below w.heap.size w w' := by
  have hm : n ≤ 9223372036854775807 := by have := h1.2.1; have := h1.2.2.1; unfold maxLen at this; omega
  have H1 := Lib.hid h1
  have H2 := Lib.hid h2
  have HB := Lib.hid hB
  have HS := Lib.hid hs
  have hne : ((n : Int) != n) = false := by simp
  clear h1 h2 hB hs
  go_enter Try.func13, Try.ntmps13
  go_wp2
  go_loopw [5] (fun i wr => ∃ k : Nat, i = .int .i64 k ∧ k ≤ n ∧ Hid (Below w.heap.size w wr)) (fun i _ => n - (intOf i).toNat)
  case atStart => exact ⟨0, rfl, Nat.zero_le _, Below.refl _ _⟩
  case round =>
    obtain ⟨k, rfl, hk, HW⟩ := hrel
    by_cases hlt : k < n
    · obtain ⟨b, off, v, rfl, hb, hx, p0, p1, p2⟩ := slv_at H1.out hlt
      obtain ⟨b2, off2, v2, rfl, hb2, hx2, s0, s1, s2⟩ := slv_at H2.out hlt
      have hb' : b < w.heap.size := by have := HB.out; omega
      have hb2' : b2 < w.heap.size := by have := HB.out; omega
      have hsm := HS.out k v v2 hx hx2
      obtain ⟨vk, vn, vx, vy⟩ := v
      obtain ⟨uk, un, ux, uy⟩ := v2
      have HQ : Hid (∀ W : World, Below wr.heap.size wr W → W.cell? ⟨b, off + k * 3, none⟩ = some (.int .i64 vk) ∧ W.cell? ⟨b, off + k * 3 + 1, none⟩ = some (.int .i64 vn) ∧ W.cell? ⟨b, off + k * 3 + 2, none⟩ = some (.complex .f64 vx vy) ∧ W.cell? ⟨b2, off2 + k * 3, none⟩ = some (.int .i64 uk) ∧ W.cell? ⟨b2, off2 + k * 3 + 1, none⟩ = some (.int .i64 un) ∧ W.cell? ⟨b2, off2 + k * 3 + 2, none⟩ = some (.complex .f64 ux uy)) := Lib.hid fun W hW => by
        have hW' := bl_trans HW.out HW.out.size hW
        exact ⟨(hW'.cell hb').trans p0, (hW'.cell hb').trans p1, (hW'.cell hb').trans p2, (hW'.cell hb2').trans s0, (hW'.cell hb2').trans s1, (hW'.cell hb2').trans s2⟩
      have cS : Hid (∀ W : World, Calls Try.prog 16 #[vV vk vn vx vy, vV uk un ux uy] W fun e w' => e = .returned (.bool true) ∧ Below W.heap.size W w') := Lib.hid fun W => by
        have := refSameV_any ⟨vk, vn, vx, vy⟩ ⟨uk, un, ux, uy⟩ W
        rw [hsm] at this
        exact this
      clear p0 p1 p2 s0 s1 s2 hx hx2 hb hb2 hb' hb2' hsm
      go_wp2_with fail
      refine wp_region_held (S := fun W => Below wr.heap.size wr W) (by kernel_rfl) ?_
      change wpAnyH _ _ _ _ _ _ _ _ (World.drew _)
      have hS0 : Below wr.heap.size wr wr.drew := (Below.refl _ _).drew
      refine wpAnyH_take (i := 0) (v := .slice (some ⟨b, off, none⟩) n c1) rfl (by kernel_rfl) (by kernel_rfl) (by kernel_rfl) (fun _ _ _ h => h) (Or.inl ⟨by rfl, by intro W hW; go_simp; try (first | (with_reducible rfl) | omega)⟩) hS0 ?_
      refine wpAnyH_take (i := 1) (v := .int .i64 k) rfl (by kernel_rfl) (by kernel_rfl) (by kernel_rfl) (fun _ _ _ h => h) (Or.inl ⟨by rfl, by intro W hW; go_simp; try (first | (with_reducible rfl) | omega)⟩) hS0 ?_
      refine wpAnyH_take (i := 2) (v := .pointer (some ⟨b, off + k * 3, none⟩)) rfl (by kernel_rfl) (by kernel_rfl) (by kernel_rfl) (fun _ _ _ h => h) (Or.inl ⟨by rfl, by intro W hW; go_simp; try (first | (with_reducible rfl) | omega)⟩) hS0 ?_
      refine wpAnyH_take (i := 3) (v := vV vk vn vx vy) rfl (by kernel_rfl) (by kernel_rfl) (by kernel_rfl) (fun _ _ _ h => h) (Or.inl ⟨by rfl, by intro W hW; obtain ⟨g0, g1, g2, g3, g4, g5⟩ := HQ.out W hW; go_simp; try (first | (with_reducible rfl) | omega)⟩) hS0 ?_
      refine wpAnyH_take (i := 4) (v := .slice (some ⟨b2, off2, none⟩) n c2) rfl (by kernel_rfl) (by kernel_rfl) (by kernel_rfl) (fun _ _ _ h => h) (Or.inl ⟨by rfl, by intro W hW; go_simp; try (first | (with_reducible rfl) | omega)⟩) hS0 ?_
      refine wpAnyH_take (i := 5) (v := .int .i64 k) rfl (by kernel_rfl) (by kernel_rfl) (by kernel_rfl) (fun _ _ _ h => h) (Or.inl ⟨by rfl, by intro W hW; go_simp; try (first | (with_reducible rfl) | omega)⟩) hS0 ?_
      refine wpAnyH_take (i := 6) (v := .pointer (some ⟨b2, off2 + k * 3, none⟩)) rfl (by kernel_rfl) (by kernel_rfl) (by kernel_rfl) (fun _ _ _ h => h) (Or.inl ⟨by rfl, by intro W hW; go_simp; try (first | (with_reducible rfl) | omega)⟩) hS0 ?_
      refine wpAnyH_take (i := 7) (v := vV uk un ux uy) rfl (by kernel_rfl) (by kernel_rfl) (by kernel_rfl) (fun _ _ _ h => h) (Or.inl ⟨by rfl, by intro W hW; obtain ⟨g0, g1, g2, g3, g4, g5⟩ := HQ.out W hW; go_simp; try (first | (with_reducible rfl) | omega)⟩) hS0 ?_
      refine wpAnyH_one (i := 8) (by kernel_rfl) rfl (fun K hK => ?_)
      go_simp
      refine Calls.mono (Lib.hid (cS.out _)).out ?_
      rintro e w4 ⟨rfl, hb4⟩
      have hS4 := bl_trans hS0 hS0.size hb4
      go_simp
      refine hK _ _ ⟨hS4, ?_⟩; clear hK K
      refine wpAnyH_take (i := 9) (v := .bool false) rfl (by kernel_rfl) (by kernel_rfl) (by kernel_rfl) (fun _ _ _ h => h) (Or.inl ⟨by rfl, by intro W hW; go_simp; try (first | (with_reducible rfl) | omega)⟩) hS4 ?_
      refine wpAnyH_done (by kernel_rfl) ?_ _
      go_wp2_with fail
      go_roundw
      case rel => exact ⟨k + 1, by go_num, by omega, Lib.hid (bl_trans HW.out HW.out.size hS4)⟩
      case measure => simp [intOf]; omega
    · have hkn : k = n := by omega
      subst hkn
      go_wp2_with fail
      go_ret
      exact ⟨rfl, HW.out⟩
set_option maxRecDepth 100000 in
set_option maxHeartbeats 1000000 in
theorem value_any (k n re im : Int) (w : World) : Calls Try.prog 11 #[.agg #[.int .i64 k, .int .i64 n, .int .i64 re, .int .i64 im]] w fun e w' => e = .returned (vV k n (nr re) (nr im)) ∧ Below w.heap.size w w' := by
  obtain ⟨w0, hw0⟩ : ∃ w0, w.alloc (.cells #[.int .i64 k, .int .i64 n, .int .i64 re, .int .i64 im] 40) = w0 := ⟨_, rfl⟩
  have hz0 : w0.heap.size = w.heap.size + 1 := by rw [← hw0]; simp
  have cl : ∀ j u, #[Value.int .i64 k, .int .i64 n, .int .i64 re, .int .i64 im][j]? = some u → w0.cell? ⟨w.heap.size, j, none⟩ = some u := fun j u hu => by
    rw [← hw0, cell_of_row _ w.heap.size j _ _ (0, 0) (heap_alloc_new w _)]
    exact hu
  obtain ⟨w1, hw1⟩ : ∃ w1, w0.alloc (.cells #[.int .i64 0, .int .i64 0, .complex .f64 0 0] 45) = w1 := ⟨_, rfl⟩
  have hbx : BX w0 w0.heap.size w1 := by rw [← hw1]; exact BX.of (Below.refl _ _)
  have HQ : Hid (∀ W : World, BX w0 w0.heap.size W → W.cell? ⟨w.heap.size, 0, none⟩ = some (.int .i64 k) ∧ W.cell? ⟨w.heap.size, 1, none⟩ = some (.int .i64 n) ∧ W.cell? ⟨w.heap.size, 2, none⟩ = some (.int .i64 re) ∧ W.cell? ⟨w.heap.size, 3, none⟩ = some (.int .i64 im)) := Lib.hid fun W hW => by
    have hl : w.heap.size < w0.heap.size := by omega
    exact ⟨(hW.bw.cell hl).trans (cl 0 _ rfl), (hW.bw.cell hl).trans (cl 1 _ rfl), (hW.bw.cell hl).trans (cl 2 _ rfl), (hW.bw.cell hl).trans (cl 3 _ rfl)⟩
  have HE0 := Lib.hid hw0
  have HE1 := Lib.hid hw1
  have HBX := Lib.hid hbx
  have HZ := Lib.hid hz0
  have HBW : Hid (∀ W, Below w0.heap.size w0 W → Below w.heap.size w W) := Lib.hid fun W hW => by
    have : Below w.heap.size w w0 := by rw [← hw0]; exact (Below.refl _ _).alloc (Nat.le_refl _) _
    exact this.trans (hW.mono this.size)
  clear cl hw0 hw1 hbx
  go_enter Try.func11, Try.ntmps11
  go_wp2_with fail
  rw [← hz0, HE0.out, HE1.out]
  clear hz0
  refine wp_region_held (S := fun W => BX w0 w0.heap.size W) (by kernel_rfl) ?_
  change wpAnyH _ _ _ _ _ _ _ _ (World.drew _)
  have hS0 : BX w0 w0.heap.size w1.drew := HBX.out.drew
  generalize w1.drew = w3 at hS0 ⊢
  refine wpAnyH_take (i := 0) (v := .pointer (some ⟨w.heap.size, 0, none⟩)) rfl (by kernel_rfl) (by kernel_rfl) (by kernel_rfl) (fun _ _ _ h => h) (Or.inl ⟨by rfl, by intro W hW; go_simp; try (first | (with_reducible rfl) | omega)⟩) hS0 ?_
  refine wpAnyH_take (i := 1) (v := .int .i64 k) rfl (by kernel_rfl) (by kernel_rfl) (by kernel_rfl) (fun _ _ _ h => h) (Or.inl ⟨by rfl, by intro W hW; obtain ⟨g0, g1, g2, g3⟩ := HQ.out W hW; go_simp; try (first | (with_reducible rfl) | omega)⟩) hS0 ?_
  refine wpAnyH_take (i := 2) (v := .pointer (some ⟨w.heap.size, 1, none⟩)) rfl (by kernel_rfl) (by kernel_rfl) (by kernel_rfl) (fun _ _ _ h => h) (Or.inl ⟨by rfl, by intro W hW; go_simp; try (first | (with_reducible rfl) | omega)⟩) hS0 ?_
  refine wpAnyH_take (i := 3) (v := .int .i64 n) rfl (by kernel_rfl) (by kernel_rfl) (by kernel_rfl) (fun _ _ _ h => h) (Or.inl ⟨by rfl, by intro W hW; obtain ⟨g0, g1, g2, g3⟩ := HQ.out W hW; go_simp; try (first | (with_reducible rfl) | omega)⟩) hS0 ?_
  refine wpAnyH_take (i := 4) (v := .pointer (some ⟨w.heap.size, 2, none⟩)) rfl (by kernel_rfl) (by kernel_rfl) (by kernel_rfl) (fun _ _ _ h => h) (Or.inl ⟨by rfl, by intro W hW; go_simp; try (first | (with_reducible rfl) | omega)⟩) hS0 ?_
  refine wpAnyH_take (i := 5) (v := .int .i64 re) rfl (by kernel_rfl) (by kernel_rfl) (by kernel_rfl) (fun _ _ _ h => h) (Or.inl ⟨by rfl, by intro W hW; obtain ⟨g0, g1, g2, g3⟩ := HQ.out W hW; go_simp; try (first | (with_reducible rfl) | omega)⟩) hS0 ?_
  refine wpAnyH_take (i := 6) (v := .pointer (some ⟨w.heap.size, 3, none⟩)) rfl (by kernel_rfl) (by kernel_rfl) (by kernel_rfl) (fun _ _ _ h => h) (Or.inl ⟨by rfl, by intro W hW; go_simp; try (first | (with_reducible rfl) | omega)⟩) hS0 ?_
  refine wpAnyH_take (i := 7) (v := .int .i64 im) rfl (by kernel_rfl) (by kernel_rfl) (by kernel_rfl) (fun _ _ _ h => h) (Or.inl ⟨by rfl, by intro W hW; obtain ⟨g0, g1, g2, g3⟩ := HQ.out W hW; go_simp; try (first | (with_reducible rfl) | omega)⟩) hS0 ?_
  refine wpAnyH_one (i := 8) (by kernel_rfl) rfl (fun K hK => ?_)
  go_simp
  refine Calls.mono (Lib.hid (refPair_any re im _)).out ?_
  rintro e w9 ⟨rfl, rfl⟩
  go_simp
  refine hK _ _ ⟨hS0, ?_⟩; clear hK K
  refine wpAnyH_take (i := 9) (v := vV k n (nr re) (nr im)) rfl (by kernel_rfl) (by kernel_rfl) (by kernel_rfl) (fun _ _ _ h => h) (Or.inl ⟨by rfl, by intro W hW; go_simp; try (first | (with_reducible rfl) | omega)⟩) hS0 ?_
  refine wpAnyH_one (i := 10) (by kernel_rfl) rfl (fun K hK => ?_)
  obtain ⟨u0, e0⟩ := hS0.c0
  obtain ⟨u1, e1⟩ := hS0.c1
  obtain ⟨u2, e2⟩ := hS0.c2
  have f0 := hS0.f0
  have f1 := hS0.f1
  have f2 := hS0.f2
  go_simp
  refine hK _ _ ⟨hS0.put3 _ _ _, ?_⟩; clear hK K
  refine wpAnyH_done (by kernel_rfl) ?_ _
  go_wp2_with fail
  exact bodyPost_ret (v := vV k n (nr re) (nr im)) (by simp [results, Try.results11, go_sem, e0, e1, e2]) rfl ⟨rfl, HBW.out _ (hS0.put3 _ _ _).bw⟩
end Go.Proofs.Ythddhipmmhihlaa
