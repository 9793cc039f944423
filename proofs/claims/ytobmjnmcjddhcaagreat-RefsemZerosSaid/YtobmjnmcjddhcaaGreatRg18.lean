import Derived.Test.YtobmjnmcjddhcaaGreatRg2
import Derived.Test.YtobmjnmcjddhcaaGreatRg1
import Derived.Deep.RegionHeld
import Derived.WalkSpells
import Derived.WalkLawsBesides
import Derived.Outline
import Derived.Deep.QuietTactic
import Derived.BigQuiet
import Derived.Deep.DeepMust
import Derived.Laws.FloatArith
import Derived.Test.YtobmjnmcjddhcaaGreatRg17
import Derived.OrdersHeld
set_option linter.unusedSimpArgs false
set_option linter.unusedVariables false
set_option maxRecDepth 100000
set_option maxHeartbeats 4000000
namespace Go.Proofs.YtobmjnmcjddhcaaGreat
open Go.RowKit
theorem run_store_cplx {P : Program} {w : World} {a : Addr} {m : Mode} (k : FloatKind) (x y : Nat) : (store a (.complex k x y) m).run P w = stored P w a (.complex k x y) m := run_store P w a _ m rfl
attribute [local go_sem] run_store_cplx
abbrev vV (kd nn : Int) (x y : Nat) : Value := .agg #[.int .i64 kd, .int .i64 nn, .complex .f64 x y]
abbrev zV : Value := vV 0 0 0 0
def thingV (kd nn : Int) (x y : Nat) : Value := if kd = 1 then .iface 218 (.int .i64 nn) else if kd = 2 then .iface 219 (.complex .f64 x y) else .nilIface
theorem kinds (kd : Int) : kd = 1 ∨ kd = 2 ∨ (¬ kd = 1 ∧ ¬ kd = 2) := by omega
theorem of_any (kd nn : Int) (x y : Nat) (w : World) : Calls Tryz.prog 97 #[vV kd nn x y] w fun e w' => e = .returned (thingV kd nn x y) ∧ Below w.heap.size w w' := by
 rcases kinds kd with rfl | rfl | ⟨h1, h2⟩
 ·go_in
  go_wp2_with fail
  go_ret
  exact ⟨rfl, (Below.refl _ _).alloc (Nat.le_refl _) _⟩
 ·go_in
  go_wp2_with fail
  go_ret
  exact ⟨rfl, (Below.refl _ _).alloc (Nat.le_refl _) _⟩
 ·have e : thingV kd nn x y = .nilIface := by unfold thingV; rw [if_neg h1, if_neg h2]
  rw [e]
  have t1 : (kd == 1) = false := by simpa using h1
  have t2 : (kd == 2) = false := by simpa using h2
  go_in
  go_wp2_with fail
  go_ret
  exact ⟨rfl, (Below.refl _ _).alloc (Nat.le_refl _) _⟩
theorem nval_any (n : Int) (w : World) : Calls Tryz.prog 136 #[.int .i64 n] w fun e w' => e = .returned (vV 1 n 0 0) ∧ Below w.heap.size w w' := by
 go_in
 go_wp2_with fail
 exact bodyPost_ret (v := vV 1 n 0 0) (by simp [results, Tryz.results136, go_sem]) rfl ⟨rfl, by repeat (first | exact Below.refl _ _ | (refine Below.setCell ?_ (by simp) _) | (refine Below.alloc ?_ (by simp) _))⟩
theorem pval_any (x y : Nat) (w : World) : Calls Tryz.prog 198 #[.complex .f64 x y] w fun e w' => e = .returned (vV 2 0 x y) ∧ Below w.heap.size w w' := by
 go_in
 go_wp2_with fail
 exact bodyPost_ret (v := vV 2 0 x y) (by simp [results, Tryz.results198, go_sem]) rfl ⟨rfl, by repeat (first | exact Below.refl _ _ | (refine Below.setCell ?_ (by simp) _) | (refine Below.alloc ?_ (by simp) _))⟩
def zeroM (t : Int) : Int := if t = 1 ∨ t = 2 then t else 0
theorem meth_n (n : Int) : ∀ w, (method 210 218 (.int .i64 n) "inlay/cell.value").run Tryz.prog w = .ok (136, .int .i64 n) w := fun _ => by kernel_rfl
theorem meth_p (x y : Nat) : ∀ w, (method 210 219 (.complex .f64 x y) "inlay/cell.value").run Tryz.prog w = .ok (198, .complex .f64 x y) w := fun _ => by kernel_rfl
theorem zero_any (t : Int) (w : World) : Calls Tryz.prog 68 #[.int .i64 t] w fun e w' => e = .returned (vV (zeroM t) 0 0 0) ∧ Below w.heap.size w w' := by
 rcases kinds t with rfl | rfl | ⟨h1, h2⟩
 ·have hm := meth_n 0
  have c : Hid (∀ w : World, Calls Tryz.prog 97 #[vV 1 0 0 0] w fun e w' => e = .returned (.iface 218 (.int .i64 0)) ∧ Below w.heap.size w w') := Hd fun w => of_any 1 0 0 0 w
  go_in
  go_wp2_with fail
  refine (c.out _).mono ?_
  rintro e w1 ⟨rfl, hb⟩
  have HB := Hd hb
  clear hb
  go_wp2_with fail
  refine (nval_any _ _).mono ?_
  rintro e w2 ⟨rfl, hb2⟩
  have hb := bl_trans HB.out HB.out.size hb2
  obtain ⟨q0, f0⟩ := new_cells hb 0 (.int .i64 0) rfl
  obtain ⟨q1, f1⟩ := new_cells hb 1 (.int .i64 0) rfl
  obtain ⟨q2, f2⟩ := new_cells hb 2 (.complex .f64 0 0) rfl
  have hbw : Below w.heap.size w w2 := ((Below.refl _ _).alloc (Nat.le_refl _) _).trans (hb.mono (by simp))
  clear hb hb2 HB
  go_wp2_with fail
  exact bodyPost_ret (v := vV 1 0 0 0) (by simp [results, Tryz.results68, go_sem, q0, q1, q2]) rfl ⟨rfl, by repeat (first | exact hbw | (refine Below.setCell ?_ (by simp) _))⟩
 ·have hm := meth_p 0 0
  have c : Hid (∀ w : World, Calls Tryz.prog 97 #[vV 2 0 0 0] w fun e w' => e = .returned (.iface 219 (.complex .f64 0 0)) ∧ Below w.heap.size w w') := Hd fun w => of_any 2 0 0 0 w
  go_in
  go_wp2_with fail
  refine (c.out _).mono ?_
  rintro e w1 ⟨rfl, hb⟩
  have HB := Hd hb
  clear hb
  go_wp2_with fail
  refine (pval_any _ _ _).mono ?_
  rintro e w2 ⟨rfl, hb2⟩
  have hb := bl_trans HB.out HB.out.size hb2
  obtain ⟨q0, f0⟩ := new_cells hb 0 (.int .i64 0) rfl
  obtain ⟨q1, f1⟩ := new_cells hb 1 (.int .i64 0) rfl
  obtain ⟨q2, f2⟩ := new_cells hb 2 (.complex .f64 0 0) rfl
  have hbw : Below w.heap.size w w2 := ((Below.refl _ _).alloc (Nat.le_refl _) _).trans (hb.mono (by simp))
  clear hb hb2 HB
  go_wp2_with fail
  exact bodyPost_ret (v := vV 2 0 0 0) (by simp [results, Tryz.results68, go_sem, q0, q1, q2]) rfl ⟨rfl, by repeat (first | exact hbw | (refine Below.setCell ?_ (by simp) _))⟩
 ·have e : zeroM t = 0 := by unfold zeroM; rw [if_neg (by omega)]
  rw [e]
  have c : Hid (∀ w : World, Calls Tryz.prog 97 #[vV t 0 0 0] w fun e w' => e = .returned .nilIface ∧ Below w.heap.size w w') := Hd fun w => by
   have := of_any t 0 0 0 w
   unfold thingV at this
   rw [if_neg h1, if_neg h2] at this
   exact this
  clear h1 h2
  go_in
  go_wp2_with fail
  refine (c.out _).mono ?_
  rintro e w1 ⟨rfl, hb⟩
  obtain ⟨q0, f0⟩ := new_cells hb 0 (.int .i64 0) rfl
  obtain ⟨q1, f1⟩ := new_cells hb 1 (.int .i64 0) rfl
  obtain ⟨q2, f2⟩ := new_cells hb 2 (.complex .f64 0 0) rfl
  have hbw : Below w.heap.size w w1 := ((Below.refl _ _).alloc (Nat.le_refl _) _).trans (hb.mono (by simp))
  clear hb
  go_wp2_with fail
  exact bodyPost_ret (v := zV) (by simp [results, Tryz.results68, go_sem, q0, q1, q2]) rfl ⟨rfl, by repeat (first | exact hbw | (refine Below.setCell ?_ (by simp) _))⟩
structure DV where
 k : Int
 n : Int
 x : Nat
 y : Nat
theorem info_val : (Tryz.prog.info? 43).map (fun i => (i.zero, i.size, i.bytes)) = some (some (.agg #[.int .i64 0, .int .i64 0, .complex .f64 0 0]), 3, 32) := by kernel_rfl
theorem app1 {w w1 w3 : World} {o : Obj} {k c : Nat} {A : Option Addr} {ys : List Value} {v' : Value} (hb : Below w.heap.size w w1) (hown' : w3.ownsRow w.heap.size 43 3 v' (k + 1) ys) (hgrow : (w1.alloc o).grownBy w3 (Value.slice A k c).ownBlock) (hlt : ∀ j, (Value.slice A k c).ownBlock = some j → w.heap.size ≤ j) :
  ∃ A' c', v' = .slice A' (k + 1) c' ∧ w3.ownsRow w.heap.size 43 3 (.slice A' (k + 1) c') (k + 1) ys ∧ Below w.heap.size w w3 := by
 obtain ⟨A', c', hv, _⟩ := own_form hown'
 subst hv
 exact ⟨A', c', rfl, hown', Below.grown (hb.alloc hb.size _) hgrow (by have := hb.size; simp; omega) hlt⟩
theorem own_on {w w' : World} {base : Nat} {e : TypeId} {size : Nat} {v : Value} {n : Nat} {xs : List Value} (h : w.ownsRow base e size v n xs) (hb : Below w.heap.size w w') : w'.ownsRow base e size v n xs :=
 (Kp.belowOf hb).own h fun k hk => by have := (h.lt k hk).2; omega
def zf (t : Int) : List Value := [.int .i64 (zeroM t), .int .i64 0, .complex .f64 0 0]
def IsVRow (n : Nat) (cells : List Value) (w : World) (e : Ending) (w' : World) : Prop := ∃ A c, e = .returned (.slice A n c) ∧ w'.ownsRow w.heap.size 43 3 (.slice A n c) n cells ∧ Below w.heap.size w w'
theorem src_v (W : World) (k n : Int) (x y : Nat) : SrcCells (W.alloc (.cells #[.int .i64 k, .int .i64 n, .complex .f64 x y] 43)) (some ⟨W.heap.size, 0, none⟩) 1 3 [.int .i64 k, .int .i64 n, .complex .f64 x y] :=
 own_src (World.ownsRow_lit (base := W.heap.size) (e := 43) (size := 3) W #[.int .i64 k, .int .i64 n, .complex .f64 x y] 1 (Nat.le_refl _) (by unfold maxLen; omega) rfl)
theorem one_v (k n : Int) (x y : Nat) : ∀ u ∈ [Value.int .i64 k, .int .i64 n, .complex .f64 x y], u.oneCell' = true := by
 intro u hu
 simp at hu
 rcases hu with rfl | rfl | rfl <;> rfl
theorem row_any (A : Option Addr) (n c B : Nat) (xs : List Int) (w : World) (h : SlI w B A n c xs) (hB : B ≤ w.heap.size) (hn : n ≤ 1000) :
  Calls Tryz.prog 40 #[.slice A n c] w (IsVRow n (xs.flatMap zf) w) := by
 obtain ⟨i0, hi, hz0, hz1, hz2⟩ := info_parts info_val
 have H := Hd h
 have HL : Hid (xs.length = n) := h.1
 have HB := Hd hB
 clear h hB
 go_in
 go_wp2
 go_loopw [3, 8] (fun o i wr => ∃ (k : Nat) (A1 : Option Addr) (cc : Nat), o = .slice A1 k cc ∧ i = .int .i64 k ∧ k ≤ n ∧ Hid (wr.ownsRow w.heap.size 43 3 (.slice A1 k cc) k ((xs.take k).flatMap zf)) ∧ Hid (Below w.heap.size w wr)) (fun _ i _ => n - (intOf i).toNat)
 case atStart => exact ⟨0, none, 0, rfl, rfl, Nat.zero_le _, World.ownsRow_nil _ _ _ _, Below.refl _ _⟩
 case round =>
  obtain ⟨k, A1, cc, rfl, rfl, hk, HO, HW⟩ := hrel
  by_cases hlt : k < n
  ·obtain ⟨b, off, t, rfl, hb, hx, q⟩ := SlR.cell1 (f := Value.int .i64) H.out hlt
   have q0 : wr.cell? ⟨b, off + k, none⟩ = some (.int .i64 t) := (HW.out.cell (by have := HB.out; show b < _; omega)).trans q
   have HX := Hd hx
   clear q hx hb
   go_wp2_with fail
   refine (zero_any t _).mono ?_
   rintro e w1 ⟨rfl, hb1⟩
   have HW1 : Hid (Below w.heap.size w w1) := Hd (HW.out.trans (hb1.mono HW.out.size))
   have HO1 := Hd (own_on HO.out hb1)
   clear hb1
   have hsz : w.heap.size ≤ (w1.alloc (.cells #[.int .i64 (zeroM t), .int .i64 0, .complex .f64 0 0] 43)).heap.size := by have := HW1.out.size; simp; omega
   have hsrc := Hd (src_v w1 (zeroM t) 0 0 0)
   have hone := Hd (one_v (zeroM t) 0 0 0)
   have HF : Hid ((xs.take k).flatMap zf ++ [.int .i64 (zeroM t), .int .i64 0, .complex .f64 0 0] = (xs.take (k + 1)).flatMap zf) := Hd (flatMap_snoc zf xs k t HX.out)
   go_wp2_with (first
     | (at_builtin; go_must (refine wpList_append_src _ rfl _ _ 39 rfl w.heap.size 43 i0 (.agg #[.int .i64 0, .int .i64 0, .complex .f64 0 0]) 3 32 Tryz.underlying39 hi hz0 hz1 hz2 rfl (by decide) _ _ _ rfl (HO1.out.alloc _) (some ⟨w1.heap.size, 0, none⟩) 1 1 [.int .i64 (zeroM t), .int .i64 0, .complex .f64 0 0] rfl hsrc.out hone.out (by unfold maxLen; omega) (by omega) hsz ?_)
        intro v' w3 hown' hgrow3 hat3
        rw [HF.out] at hown'
        obtain ⟨A', c', rfl, o3, b3⟩ := app1 HW1.out hown' hgrow3 (fun j hj => (HO1.out.lt j hj).1)
        have O3 := Hd o3
        have B3 := Hd b3
        clear hown' hgrow3 hat3 o3 b3))
   go_roundw
   case rel => exact ⟨k + 1, A', c', rfl, by go_num, by omega, O3, B3⟩
   case measure => simp [intOf]; omega
  ·have hkn : k = n := by omega
   subst hkn
   have HO2 : Hid (wr.ownsRow w.heap.size 43 3 (.slice A1 k cc) k (xs.flatMap zf)) := Hd (by
    have := HO.out
    rw [List.take_of_length_le (by rw [HL.out]; exact Nat.le_refl _)] at this
    exact this)
   go_wp2_with fail
   go_ret
   exact ⟨_, _, rfl, HO2.out, HW.out⟩
end Go.Proofs.YtobmjnmcjddhcaaGreat
namespace Go.Proofs.YtobmjnmcjddhcaaGreat
open Go.RowKit
attribute [local go_sem] run_store_cplx
theorem ffunc_any (g : Nat) (n : Int) (w : World) (h : w.cell? ⟨g, 11, none⟩ = some (.int .i64 n)) :
  Calls Tryz.prog 21 #[.pointer (some ⟨g, 0, none⟩)] w fun e w' => e = .returned (.int .i64 n) ∧ Below w.heap.size w w' := by
 have hb := Below.refl w.heap.size w
 go_in
 go_wp2_with fail
 go_ret
 exact ⟨rfl, hb⟩
theorem fpc_any (g : Nat) (n : Int) (w : World) (h : w.cell? ⟨g, 12, none⟩ = some (.int .i64 n)) :
  Calls Tryz.prog 18 #[.pointer (some ⟨g, 0, none⟩)] w fun e w' => e = .returned (.int .i64 n) ∧ Below w.heap.size w w' := by
 have hb := Below.refl w.heap.size w
 go_in
 go_wp2_with fail
 go_ret
 exact ⟨rfl, hb⟩
theorem fgo_any (g : Nat) (u : Value) (n : Int) (w : World) (h : w.cell? ⟨g, 12, none⟩ = some u) (hf : w.frozen? ⟨g, 12, none⟩ = false) :
  Calls Tryz.prog 45 #[.pointer (some ⟨g, 0, none⟩), .int .i64 n] w fun e w' => (∃ v, e = .returned v) ∧ w' = w.setCell ⟨g, 12, none⟩ (.int .i64 n) := by
 go_in
 go_wp2_with fail
 go_end0
 exact ⟨⟨_, rfl⟩, rfl⟩
theorem fhas_any (g : Nat) (A : Option Addr) (m c : Nat) (n : Int) (w : World) (h : w.cell? ⟨g, 13, none⟩ = some (.slice A m c)) :
  Calls Tryz.prog 52 #[.pointer (some ⟨g, 0, none⟩), .int .i64 n] w fun e w' => e = .returned (.bool (decide (0 ≤ n ∧ n < (m : Int)))) ∧ w' = w := by
 have hb := Below.refl w.heap.size w
 by_cases h0 : n < 0
 ·have t1 : decide (0 ≤ n) = false := dcF (by omega)
  have tr : decide (0 ≤ n ∧ n < (m : Int)) = false := dcF (by omega)
  rw [tr]
  go_in
  go_wp2_with fail
  go_ret
  exact ⟨rfl, rfl⟩
 ·have t1 : decide (0 ≤ n) = true := dcT (by omega)
  by_cases h1 : n < (m : Int)
  ·have t2 : decide (n < (m : Int)) = true := dcT (by omega)
   have tr : decide (0 ≤ n ∧ n < (m : Int)) = true := dcT (by omega)
   rw [tr]
   go_in
   go_wp2_with fail
   go_ret
   exact ⟨rfl, rfl⟩
  ·have t2 : decide (n < (m : Int)) = false := dcF (by omega)
   have tr : decide (0 ≤ n ∧ n < (m : Int)) = false := dcF (by omega)
   rw [tr]
   go_in
   go_wp2_with fail
   go_ret
   exact ⟨rfl, rfl⟩
end Go.Proofs.YtobmjnmcjddhcaaGreat
namespace Go.Proofs.YtobmjnmcjddhcaaGreat
open Go.RowKit
attribute [local go_sem] run_store_cplx
def DV.v (a : DV) : Value := vV a.k a.n a.x a.y
def DV.c (a : DV) : List Value := [.int .i64 a.k, .int .i64 a.n, .complex .f64 a.x a.y]
theorem DV.len (a : DV) : a.c.length = 3 := rfl
def z0 : DV := ⟨0, 0, 0, 0⟩
abbrev rowVl (l : List DV) : List Value := l.flatMap DV.c
abbrev RowV (w : World) (base : Nat) (A : Option Addr) (n c : Nat) (l : List DV) : Prop := RowF w base 43 3 A n c (rowVl l)
theorem RowV.len {w : World} {base : Nat} {A : Option Addr} {n c : Nat} {l : List DV} (h : RowV w base A n c l) : l.length = n := by
 have h1 := h.1
 rw [flatMap_len DV.c DV.len] at h1
 omega
theorem RowV.at_ {w : World} {base : Nat} {A : Option Addr} {n c : Nat} {l : List DV} (h : RowV w base A n c l) {i : Nat} {a : DV} (hi : l[i]? = some a) : ∃ b, A = some ⟨b, 0, none⟩ ∧ base ≤ b ∧ b < w.heap.size ∧ w.cell? ⟨b, i * 3, none⟩ = some (.int .i64 a.k) ∧ w.cell? ⟨b, i * 3 + 1, none⟩ = some (.int .i64 a.n) ∧ w.cell? ⟨b, i * 3 + 2, none⟩ = some (.complex .f64 a.x a.y) ∧ ∀ j, w.frozen? ⟨b, j, none⟩ = false := by
 rcases h.form with ⟨rfl, rfl, rfl⟩ | ⟨r, rfl, hb, hr⟩
 ·have := h.len
  have := (List.getElem?_eq_some_iff.1 hi).1
  omega
 ·obtain ⟨_, _, hc, hf⟩ := RowF.cells h
  exact ⟨r, rfl, hb, hr, hc _ _ (flatMap_at DV.c DV.len l i 0 a _ (by omega) hi rfl), hc _ _ (flatMap_at DV.c DV.len l i 1 a _ (by omega) hi rfl), hc _ _ (flatMap_at DV.c DV.len l i 2 a _ (by omega) hi rfl), hf⟩
def slotM (l : List DV) (n : Int) : DV := if 0 ≤ n ∧ n < (l.length : Int) then l.getD n.toNat z0 else z0
theorem fslot_any (g base : Nat) (A : Option Addr) (m c : Nat) (l : List DV) (n : Int) (w : World) (h : w.cell? ⟨g, 13, none⟩ = some (.slice A m c)) (hr : RowV w base A m c l) :
  Calls Tryz.prog 26 #[.pointer (some ⟨g, 0, none⟩), .int .i64 n] w fun e w' => e = .returned (slotM l n).v ∧ Below w.heap.size w w' := by
 have hg := World.block_lt_of_cell? _ _ h
 have hl := hr.len
 obtain ⟨w1, hw1⟩ : ∃ X, w.alloc (.cells #[.int .i64 0, .int .i64 0, .complex .f64 0 0] 43) = X := ⟨_, rfl⟩
 obtain ⟨z, hz⟩ : ∃ z, w.heap.size = z := ⟨_, rfl⟩
 have hb1 : Below w.heap.size w w1 := by rw [← hw1]; exact bl_one _
 have hs1 : w1.heap.size = z + 1 := by rw [← hw1, ← hz]; simp
 have N : ∀ i v, (#[.int .i64 0, .int .i64 0, .complex .f64 0 0] : Array Value)[i]? = some v → w1.cell? ⟨z, i, none⟩ = some v ∧ w1.frozen? ⟨z, i, none⟩ = false := fun i v hv => by
  rw [← hz, ← hw1]
  exact new_cells (w := w) (t := 43) (Below.refl _ _) i v hv
 obtain ⟨q0, f0⟩ := N 0 _ rfl
 obtain ⟨q1, f1⟩ := N 1 _ rfl
 obtain ⟨q2, f2⟩ := N 2 _ rfl
 have h1 : w1.cell? ⟨g, 13, none⟩ = some (.slice A m c) := (hb1.cell hg).trans h
 have cH := fhas_any g A m c n w1 h1
 clear N
 by_cases hn : 0 ≤ n ∧ n < (m : Int)
 ·obtain ⟨i, rfl⟩ : ∃ i : Nat, n = (i : Int) := ⟨n.toNat, by omega⟩
  have hi : i < m := by omega
  obtain ⟨a, ha⟩ : ∃ a, l[i]? = some a := ⟨l[i], List.getElem?_eq_getElem (by omega)⟩
  have hv : slotM l i = a := by
   unfold slotM
   rw [if_pos (by omega), List.getD_eq_getElem?_getD]
   simp [ha]
  rw [hv]
  obtain ⟨b, rfl, hbb, hbw, e0, e1, e2, _⟩ := hr.at_ ha
  have E0 := (hb1.cell (p := ⟨b, i * 3, none⟩) hbw).trans e0
  have E1 := (hb1.cell (p := ⟨b, i * 3 + 1, none⟩) hbw).trans e1
  have E2 := (hb1.cell (p := ⟨b, i * 3 + 2, none⟩) hbw).trans e2
  have tr : decide (0 ≤ (i : Int) ∧ (i : Int) < (m : Int)) = true := dcT (by omega)
  have hi2 : (i : Int) < (m : Int) := by omega
  rw [tr] at cH
  have cH := Hd cH
  have HB := Hd hb1
  obtain ⟨av, av1, av2, av3⟩ := a
  clear hr tr hn hl hv ha e0 e1 e2 hbb
  go_in
  go_wp2_with fail
  refine cH.out.mono ?_
  rintro e w3 ⟨rfl, rfl⟩
  clear h cH hb1
  go_wp2_with fail
  exact bodyPost_ret (v := vV av av1 av2 av3) (by simp [results, Tryz.results26, go_sem, q0, q1, q2, f0, f1, f2]) rfl ⟨rfl, by
   rw [hz] at HB ⊢
   exact ((HB.out.setCell (by simp) _).setCell (by simp) _).setCell (by simp) _⟩
 ·have hv : slotM l n = z0 := by
   unfold slotM
   rw [if_neg (by omega)]
  rw [hv]
  have tr : decide (0 ≤ n ∧ n < (m : Int)) = false := dcF hn
  rw [tr] at cH
  have cH := Hd cH
  have HB := Hd hb1
  clear hr tr hn hl hv
  go_in
  go_wp2_with fail
  refine cH.out.mono ?_
  rintro e w3 ⟨rfl, rfl⟩
  clear h cH hb1
  go_wp2_with fail
  exact bodyPost_ret (v := vV 0 0 0 0) (by simp [results, Tryz.results26, go_sem, q0, q1, q2, f0, f1, f2]) rfl ⟨rfl, by
   rw [hz] at HB ⊢
   exact ((HB.out.setCell (by simp) _).setCell (by simp) _).setCell (by simp) _⟩
end Go.Proofs.YtobmjnmcjddhcaaGreat
namespace Go.Proofs.YtobmjnmcjddhcaaGreat
open Go.RowKit
attribute [local go_sem] run_store_cplx
theorem rowVl_set : ∀ (l : List DV) (i : Nat) (a : DV), (((rowVl l).set (i * 3) (.int .i64 a.k)).set (i * 3 + 1) (.int .i64 a.n)).set (i * 3 + 2) (.complex .f64 a.x a.y) = if i < l.length then rowVl (l.set i a) else rowVl l
 | [], i, a => by simp [rowVl]
 | b :: l, 0, a => by simp [rowVl, DV.c]
 | b :: l, i + 1, a => by
  have e0 : (i + 1) * 3 = i * 3 + 3 := by omega
  have ih := rowVl_set l i a
  have e : rowVl (b :: l) = .int .i64 b.k :: .int .i64 b.n :: .complex .f64 b.x b.y :: rowVl l := rfl
  rw [e, e0, show i * 3 + 3 + 1 = (i * 3 + 1) + 3 from rfl, show i * 3 + 3 + 2 = (i * 3 + 2) + 3 from rfl]
  simp only [List.set_cons_succ]
  rw [ih]
  by_cases hi : i < l.length
  ·rw [if_pos hi, if_pos (by simp; omega)]
   rfl
  ·rw [if_neg hi, if_neg (by simp; omega)]
theorem RowV.put {w : World} {base b n c : Nat} {l : List DV} (h : RowV w base (some ⟨b, 0, none⟩) n c l) (i : Nat) (hi : i < n) (a : DV) : RowV (((w.setCell ⟨b, i * 3, none⟩ (.int .i64 a.k)).setCell ⟨b, i * 3 + 1, none⟩ (.int .i64 a.n)).setCell ⟨b, i * 3 + 2, none⟩ (.complex .f64 a.x a.y)) base (some ⟨b, 0, none⟩) n c (l.set i a) := by
 have hl := h.len
 obtain ⟨h1, h2, h3, h4 | ⟨r, cur, e, hb, hh, ht, hc⟩⟩ := h
 ·cases h4.1
 ·injection e with e
  injection e with e
  subst e
  refine ⟨by rw [flatMap_len DV.c DV.len] at h1 ⊢; simpa using h1, h2, h3, .inr ⟨b, _, rfl, hb, heap_setCell_same _ _ _ _ _ _ (heap_setCell_same _ _ _ _ _ _ (heap_setCell_same _ _ _ _ _ _ hh)), ?_, fun hlt => by simpa using hc hlt⟩⟩
  simp only [Array.toList_setIfInBounds, List.take_set]
  rw [ht, rowVl_set, if_pos (by omega)]
def setM (l : List DV) (n : Int) (a : DV) : List DV := if 0 ≤ n ∧ n < (l.length : Int) then l.set n.toNat a else l
theorem fsetslot_any (g base : Nat) (A : Option Addr) (m c : Nat) (l : List DV) (n : Int) (a : DV) (w : World) (h : w.cell? ⟨g, 13, none⟩ = some (.slice A m c)) (hr : RowV w base A m c l) (hg : g < base) :
  Calls Tryz.prog 43 #[.pointer (some ⟨g, 0, none⟩), .int .i64 n, a.v] w fun e w' => (∃ v, e = .returned v) ∧ RowV w' base A m c (setM l n a) ∧ Kp (fun j => A = some ⟨j, 0, none⟩) w w' := by
 have hl := hr.len
 obtain ⟨av, av1, av2, av3⟩ := a
 rw [show (⟨av, av1, av2, av3⟩ : DV).v = .agg #[.int .i64 av, .int .i64 av1, .complex .f64 av2 av3] from rfl]
 obtain ⟨w1, hw1⟩ : ∃ X, w.alloc (.cells #[.int .i64 av, .int .i64 av1, .complex .f64 av2 av3] 43) = X := ⟨_, rfl⟩
 obtain ⟨z, hz⟩ : ∃ z, w.heap.size = z := ⟨_, rfl⟩
 have hb1 : Below w.heap.size w w1 := by rw [← hw1]; exact bl_one _
 have hs1 : w1.heap.size = z + 1 := by rw [← hw1, ← hz]; simp
 have N : ∀ i v, (#[.int .i64 av, .int .i64 av1, .complex .f64 av2 av3] : Array Value)[i]? = some v → w1.cell? ⟨z, i, none⟩ = some v ∧ w1.frozen? ⟨z, i, none⟩ = false := fun i v hv => by
  rw [← hz, ← hw1]
  exact new_cells (w := w) (t := 43) (Below.refl _ _) i v hv
 obtain ⟨q0, f0⟩ := N 0 _ rfl
 obtain ⟨q1, f1⟩ := N 1 _ rfl
 obtain ⟨q2, f2⟩ := N 2 _ rfl
 have h1 : w1.cell? ⟨g, 13, none⟩ = some (.slice A m c) := (hb1.cell (World.block_lt_of_cell? _ _ h)).trans h
 have hr1 : RowV w1 base A m c l := RowF.kp hr ((Kp.refl (fun _ => False) w).ofBelow hb1) (fun _ _ h => h)
 have hk1 : Kp (fun j => A = some ⟨j, 0, none⟩) w w1 := (Kp.refl _ w).ofBelow hb1
 have cH := fhas_any g A m c n w1 h1
 clear N
 by_cases hn : 0 ≤ n ∧ n < (m : Int)
 ·obtain ⟨i, rfl⟩ : ∃ i : Nat, n = (i : Int) := ⟨n.toNat, by omega⟩
  have hi : i < m := by omega
  obtain ⟨a, ha⟩ : ∃ a, l[i]? = some a := ⟨l[i], List.getElem?_eq_getElem (by omega)⟩
  have hv : setM l i ⟨av, av1, av2, av3⟩ = l.set i ⟨av, av1, av2, av3⟩ := by
   unfold setM
   rw [if_pos (by omega)]
   simp
  rw [hv]
  obtain ⟨b, rfl, hbb, hbw, e0, e1, e2, hf⟩ := hr1.at_ ha
  have F0 := hf (i * 3)
  have F1 := hf (i * 3 + 1)
  have F2 := hf (i * 3 + 2)
  have tr : decide (0 ≤ (i : Int) ∧ (i : Int) < (m : Int)) = true := dcT (by omega)
  have hi2 : (i : Int) < (m : Int) := by omega
  rw [tr] at cH
  have cH := Hd cH
  have HK := Hd hk1
  have HR := Hd hr1
  clear hr tr hn hl hv hf hr1 hk1 hb1 ha
  go_in
  go_wp2_with fail
  refine cH.out.mono ?_
  rintro e w3 ⟨rfl, rfl⟩
  clear h cH
  go_wp2_with fail
  go_region
  go_end0
  have hp := RowV.put HR.out i hi ⟨av, av1, av2, av3⟩
  refine ⟨⟨_, rfl⟩, RowF.kp hp (Kp.refl (fun _ => False) _).drew (fun _ _ h => h), ?_⟩
  exact (((HK.out.setCell (fun _ => rfl) _).setCell (fun _ => rfl) _).setCell (fun _ => rfl) _).drew
 ·have hv : setM l n ⟨av, av1, av2, av3⟩ = l := by
   unfold setM
   rw [if_neg (by omega)]
  rw [hv]
  have tr : decide (0 ≤ n ∧ n < (m : Int)) = false := dcF hn
  rw [tr] at cH
  have cH := Hd cH
  have HK := Hd hk1
  have HR := Hd hr1
  clear hr tr hn hl hv hr1 hk1
  go_in
  go_wp2_with fail
  refine cH.out.mono ?_
  rintro e w3 ⟨rfl, rfl⟩
  clear h cH hb1
  go_wp2_with fail
  go_end0
  exact ⟨⟨_, rfl⟩, HR.out, HK.out⟩
end Go.Proofs.YtobmjnmcjddhcaaGreat
namespace Go.Proofs.YtobmjnmcjddhcaaGreat
open Go.RowKit
attribute [local go_sem] run_store_cplx
open Ieee (Datum)
def isN (x : Nat) : Bool := (Ieee.double.read x).isNaN
abbrev nr (n : Int) : Nat := FloatKind.f64.nearest n
abbrev SlV (w : World) (B : Nat) (A : Option Addr) (n c : Nat) (xs : List DV) : Prop := SlR 3 32 (RC DV.c) w B A n c xs
theorem slv_at {w : World} {B : Nat} {A : Option Addr} {n c : Nat} {xs : List DV} (h : SlV w B A n c xs) {k : Nat} (hk : k < n) : ∃ b off v, A = some ⟨b, off, none⟩ ∧ b < B ∧ xs[k]? = some v ∧ w.cell? ⟨b, off + k * 3, none⟩ = some (.int .i64 v.k) ∧ w.cell? ⟨b, off + k * 3 + 1, none⟩ = some (.int .i64 v.n) ∧ w.cell? ⟨b, off + k * 3 + 2, none⟩ = some (.complex .f64 v.x v.y) := by
 obtain ⟨b, off, x, cs, hA, hb, hx, _, hc, hr⟩ := h.at_ hk
 unfold RC at hr
 subst hr
 exact ⟨b, off, x, hA, hb, hx, by simpa using hc 0 _ rfl, by simpa [Nat.add_assoc] using hc 1 _ rfl, by simpa [Nat.add_assoc] using hc 2 _ rfl⟩
theorem SlV.on {w w' : World} {B : Nat} {A : Option Addr} {n c : Nat} {xs : List DV} (h : SlV w B A n c xs) (hb : Below B w w') : SlV w' B A n c xs := SlR.keep (stable_rc _) h fun p hp => hb.cell hp
structure BX (w : World) (vb : Nat) (W : World) : Prop where
 bw : Below w.heap.size w W
 c0 : ∃ u, W.cell? ⟨vb, 0, none⟩ = some u
 c1 : ∃ u, W.cell? ⟨vb, 1, none⟩ = some u
 c2 : ∃ u, W.cell? ⟨vb, 2, none⟩ = some u
 f0 : W.frozen? ⟨vb, 0, none⟩ = false
 f1 : W.frozen? ⟨vb, 1, none⟩ = false
 f2 : W.frozen? ⟨vb, 2, none⟩ = false
theorem BX.drew {w : World} {vb : Nat} {W : World} (h : BX w vb W) : BX w vb W.drew := ⟨h.bw.drew, h.c0, h.c1, h.c2, h.f0, h.f1, h.f2⟩
theorem BX.drewN {w : World} {vb : Nat} {W : World} (h : BX w vb W) (n : Nat) : BX w vb (W.drewN n) := ⟨(Below.trans h.bw ⟨rfl, rfl, rfl, Nat.le_refl _, fun _ _ => rfl⟩), h.c0, h.c1, h.c2, h.f0, h.f1, h.f2⟩
theorem BX.on {w : World} {vb : Nat} {W W' : World} (h : BX w vb W) (hb : Below W.heap.size W W') : BX w vb W' := by
 obtain ⟨u0, e0⟩ := h.c0
 obtain ⟨u1, e1⟩ := h.c1
 obtain ⟨u2, e2⟩ := h.c2
 have hlt := World.block_lt_of_cell? _ _ e0
 have k : ∀ j, W'.cell? ⟨vb, j, none⟩ = W.cell? ⟨vb, j, none⟩ := fun j => hb.cell hlt
 have g : ∀ j, W'.frozen? ⟨vb, j, none⟩ = W.frozen? ⟨vb, j, none⟩ := fun j => hb.frozen hlt
 exact ⟨h.bw.trans (hb.mono h.bw.size), ⟨u0, (k 0).trans e0⟩, ⟨u1, (k 1).trans e1⟩, ⟨u2, (k 2).trans e2⟩, (g 0).trans h.f0, (g 1).trans h.f1, (g 2).trans h.f2⟩
theorem BX.of {w W : World} (h : Below (w.alloc (.cells #[.int .i64 0, .int .i64 0, .complex .f64 0 0] 43)).heap.size (w.alloc (.cells #[.int .i64 0, .int .i64 0, .complex .f64 0 0] 43)) W) : BX w w.heap.size W := by
 obtain ⟨q0, f0⟩ := new_cells h 0 (.int .i64 0) rfl
 obtain ⟨q1, f1⟩ := new_cells h 1 (.int .i64 0) rfl
 obtain ⟨q2, f2⟩ := new_cells h 2 (.complex .f64 0 0) rfl
 exact ⟨((Below.refl _ _).alloc (Nat.le_refl _) _).trans (h.mono (by simp)), ⟨_, q0⟩, ⟨_, q1⟩, ⟨_, q2⟩, f0, f1, f2⟩
theorem BX.put3 {w : World} {W : World} (h : BX w w.heap.size W) (a b c : Value) : BX w w.heap.size (((W.setCell ⟨w.heap.size, 0, none⟩ a).setCell ⟨w.heap.size, 1, none⟩ b).setCell ⟨w.heap.size, 2, none⟩ c) := by
 obtain ⟨u0, e0⟩ := h.c0
 obtain ⟨u1, e1⟩ := h.c1
 obtain ⟨u2, e2⟩ := h.c2
 refine ⟨((h.bw.setCell (p := ⟨w.heap.size, 0, none⟩) (Nat.le_refl _) _).setCell (p := ⟨w.heap.size, 1, none⟩) (Nat.le_refl _) _).setCell (p := ⟨w.heap.size, 2, none⟩) (Nat.le_refl _) _, ⟨a, ?_⟩, ⟨b, ?_⟩, ⟨c, ?_⟩, ?_, ?_, ?_⟩
 all_goals simp [go_sem, e0, e1, e2, h.f0, h.f1, h.f2]
end Go.Proofs.YtobmjnmcjddhcaaGreat
namespace Go.Proofs.YtobmjnmcjddhcaaGreat
open Go.RowKit
attribute [local go_sem] run_store_cplx
theorem sfirst_any (s : ByteArray) (b : Bool) (A0 : Option Addr) (n0 c0 : Nat) (A1 : Option Addr) (n1 c1 : Nat) (A2 : Option Addr) (n2 c2 : Nat) (A3 : Option Addr) (n3 c3 : Nat) (A4 : Option Addr) (n4 c4 : Nat) (A5 : Option Addr) (n5 c5 : Nat) (A6 : Option Addr) (n6 c6 : Nat) (A7 : Option Addr) (n7 c7 : Nat) (A8 : Option Addr) (n8 c8 : Nat) (w : World) :
  Calls Tryz.prog 49 #[.agg #[.string s, .bool b, .slice A0 n0 c0, .slice A1 n1 c1, .slice A2 n2 c2, .slice A3 n3 c3, .slice A4 n4 c4, .slice A5 n5 c5, .slice A6 n6 c6, .slice A7 n7 c7, .slice A8 n8 c8]] w fun e w' => e = .returned (.int .i64 (n1 : Int)) ∧ Below w.heap.size w w' := by
 obtain ⟨w1, hw1⟩ : ∃ X, w.alloc (.cells #[.string s, .bool b, .slice A0 n0 c0, .slice A1 n1 c1, .slice A2 n2 c2, .slice A3 n3 c3, .slice A4 n4 c4, .slice A5 n5 c5, .slice A6 n6 c6, .slice A7 n7 c7, .slice A8 n8 c8] 38) = X := ⟨_, rfl⟩
 obtain ⟨z, hz⟩ : ∃ z, w.heap.size = z := ⟨_, rfl⟩
 have hb1 : Below w.heap.size w w1 := by rw [← hw1]; exact bl_one _
 have q0 : w1.cell? ⟨z, 3, none⟩ = some (.slice A1 n1 c1) := by
  rw [← hz, ← hw1]
  exact (new_cells (w := w) (t := 38) (Below.refl _ _) 3 _ rfl).1
 have HB := Hd hb1
 clear hb1
 go_in
 go_wp2_with fail
 go_ret
 exact ⟨rfl, HB.out⟩
structure FnC (w : World) (g : Nat) (s : ByteArray) (b : Bool) (A0 : Option Addr) (n0 c0 : Nat) (A1 : Option Addr) (n1 c1 : Nat) (A2 : Option Addr) (n2 c2 : Nat) (A3 : Option Addr) (n3 c3 : Nat) (A4 : Option Addr) (n4 c4 : Nat) (A5 : Option Addr) (n5 c5 : Nat) (A6 : Option Addr) (n6 c6 : Nat) (A7 : Option Addr) (n7 c7 : Nat) (A8 : Option Addr) (n8 c8 : Nat) : Prop where
 e0 : w.cell? ⟨g, 0, none⟩ = some (.string s)
 e1 : w.cell? ⟨g, 1, none⟩ = some (.bool b)
 e2 : w.cell? ⟨g, 2, none⟩ = some (.slice A0 n0 c0)
 e3 : w.cell? ⟨g, 3, none⟩ = some (.slice A1 n1 c1)
 e4 : w.cell? ⟨g, 4, none⟩ = some (.slice A2 n2 c2)
 e5 : w.cell? ⟨g, 5, none⟩ = some (.slice A3 n3 c3)
 e6 : w.cell? ⟨g, 6, none⟩ = some (.slice A4 n4 c4)
 e7 : w.cell? ⟨g, 7, none⟩ = some (.slice A5 n5 c5)
 e8 : w.cell? ⟨g, 8, none⟩ = some (.slice A6 n6 c6)
 e9 : w.cell? ⟨g, 9, none⟩ = some (.slice A7 n7 c7)
 e10 : w.cell? ⟨g, 10, none⟩ = some (.slice A8 n8 c8)
theorem FnC.kp {S : Nat → Prop} {w w' : World} {g : Nat} {s : ByteArray} {b : Bool} {A0 : Option Addr} {n0 c0 : Nat} {A1 : Option Addr} {n1 c1 : Nat} {A2 : Option Addr} {n2 c2 : Nat} {A3 : Option Addr} {n3 c3 : Nat} {A4 : Option Addr} {n4 c4 : Nat} {A5 : Option Addr} {n5 c5 : Nat} {A6 : Option Addr} {n6 c6 : Nat} {A7 : Option Addr} {n7 c7 : Nat} {A8 : Option Addr} {n8 c8 : Nat} (h : FnC w g s b A0 n0 c0 A1 n1 c1 A2 n2 c2 A3 n3 c3 A4 n4 c4 A5 n5 c5 A6 n6 c6 A7 n7 c7 A8 n8 c8) (hk : Kp S w w') (hs : ¬ S g) : FnC w' g s b A0 n0 c0 A1 n1 c1 A2 n2 c2 A3 n3 c3 A4 n4 c4 A5 n5 c5 A6 n6 c6 A7 n7 c7 A8 n8 c8 := ⟨hk.cellv h.e0 hs, hk.cellv h.e1 hs, hk.cellv h.e2 hs, hk.cellv h.e3 hs, hk.cellv h.e4 hs, hk.cellv h.e5 hs, hk.cellv h.e6 hs, hk.cellv h.e7 hs, hk.cellv h.e8 hs, hk.cellv h.e9 hs, hk.cellv h.e10 hs⟩
def fresM (np nr : Nat) (n : Int) : Int := if 0 ≤ n ∧ n < (nr : Int) then (np : Int) + n else -1
theorem fresult_any (g : Nat) (s : ByteArray) (b : Bool) (A0 : Option Addr) (n0 c0 : Nat) (A1 : Option Addr) (n1 c1 : Nat) (A2 : Option Addr) (n2 c2 : Nat) (A3 : Option Addr) (n3 c3 : Nat) (A4 : Option Addr) (n4 c4 : Nat) (A5 : Option Addr) (n5 c5 : Nat) (A6 : Option Addr) (n6 c6 : Nat) (A7 : Option Addr) (n7 c7 : Nat) (A8 : Option Addr) (n8 c8 : Nat) (n : Int) (w : World) (h : FnC w g s b A0 n0 c0 A1 n1 c1 A2 n2 c2 A3 n3 c3 A4 n4 c4 A5 n5 c5 A6 n6 c6 A7 n7 c7 A8 n8 c8) (hn1 : n1 ≤ 100000) (hn2 : n2 ≤ 100000) :
  Calls Tryz.prog 71 #[.pointer (some ⟨g, 0, none⟩), .int .i64 n] w fun e w' => e = .returned (.int .i64 (fresM n1 n2 n)) ∧ Below w.heap.size w w' := by
 have hb := Below.refl w.heap.size w
 obtain ⟨h20, h21, h22, h23, h24, h25, h26, h27, h28, h29, h30⟩ := h
 have cF := Hd (sfirst_any s b A0 n0 c0 A1 n1 c1 A2 n2 c2 A3 n3 c3 A4 n4 c4 A5 n5 c5 A6 n6 c6 A7 n7 c7 A8 n8 c8 w)
 by_cases h0 : n < 0
 ·have t1 : decide (n < 0) = true := dcT (by omega)
  have tr : fresM n1 n2 n = -1 := by unfold fresM; rw [if_neg (by omega)]
  rw [tr]
  go_in
  go_wp2_with fail
  go_ret
  exact ⟨rfl, hb⟩
 ·have t1 : decide (n < 0) = false := dcF (by omega)
  by_cases h1 : n < (n2 : Int)
  ·have t2 : decide (n ≥ (n2 : Int)) = false := dcF (by omega)
   have tr : fresM n1 n2 n = (n1 : Int) + n := by unfold fresM; rw [if_pos (by omega)]
   have wr : IntKind.i64.wrap ((n1 : Int) + n) = (n1 : Int) + n := by rw [IntKind.wrap_i64]; omega
   rw [tr]
   obtain ⟨i, rfl⟩ : ∃ i : Nat, n = (i : Int) := ⟨n.toNat, by omega⟩
   have hi : i < n2 := by omega
   have t2b : decide (n2 ≤ i) = false := dcF (by omega)
   go_in
   go_wp2_with fail
   refine cF.out.mono ?_
   rintro e w3 ⟨rfl, hb3⟩
   go_wp2_with fail
   go_ret
   exact ⟨rfl, hb3⟩
  ·have t2 : decide (n ≥ (n2 : Int)) = true := dcT (by omega)
   have tr : fresM n1 n2 n = -1 := by unfold fresM; rw [if_neg (by omega)]
   rw [tr]
   obtain ⟨i, rfl⟩ : ∃ i : Nat, n = (i : Int) := ⟨n.toNat, by omega⟩
   have t2b : decide (n2 ≤ i) = true := dcT (by omega)
   go_in
   go_wp2_with fail
   go_ret
   exact ⟨rfl, hb⟩
theorem fsetresult_any (g base : Nat) (s : ByteArray) (b : Bool) (A0 : Option Addr) (n0 c0 : Nat) (A1 : Option Addr) (n1 c1 : Nat) (A2 : Option Addr) (n2 c2 : Nat) (A3 : Option Addr) (n3 c3 : Nat) (A4 : Option Addr) (n4 c4 : Nat) (A5 : Option Addr) (n5 c5 : Nat) (A6 : Option Addr) (n6 c6 : Nat) (A7 : Option Addr) (n7 c7 : Nat) (A8 : Option Addr) (n8 c8 : Nat) (A : Option Addr) (m c : Nat) (l : List DV) (n : Int) (a : DV) (w : World) (h : FnC w g s b A0 n0 c0 A1 n1 c1 A2 n2 c2 A3 n3 c3 A4 n4 c4 A5 n5 c5 A6 n6 c6 A7 n7 c7 A8 n8 c8) (h13 : w.cell? ⟨g, 13, none⟩ = some (.slice A m c)) (hr : RowV w base A m c l) (hg : g < base) (hn1 : n1 ≤ 100000) (hn2 : n2 ≤ 100000) :
  Calls Tryz.prog 44 #[.pointer (some ⟨g, 0, none⟩), .int .i64 n, a.v] w fun e w' => (∃ v, e = .returned v) ∧ RowV w' base A m c (setM l (fresM n1 n2 n) a) ∧ Kp (fun j => A = some ⟨j, 0, none⟩) w w' := by
 obtain ⟨r, hrr⟩ : ∃ r, fresM n1 n2 n = r := ⟨_, rfl⟩
 have cR : ∀ W, Below w.heap.size w W → Calls Tryz.prog 71 #[.pointer (some ⟨g, 0, none⟩), .int .i64 n] W fun e w' => e = .returned (.int .i64 r) ∧ Below W.heap.size W w' := fun W hW => by
  rw [← hrr]
  exact fresult_any g s b A0 n0 c0 A1 n1 c1 A2 n2 c2 A3 n3 c3 A4 n4 c4 A5 n5 c5 A6 n6 c6 A7 n7 c7 A8 n8 c8 n W (h.kp ((Kp.refl (fun _ => False) w).ofBelow hW) (fun h => h)) hn1 hn2
 rw [hrr]
 have cS : ∀ W, Below w.heap.size w W → Calls Tryz.prog 43 #[.pointer (some ⟨g, 0, none⟩), .int .i64 r, a.v] W fun e w' => (∃ v, e = .returned v) ∧ RowV w' base A m c (setM l r a) ∧ Kp (fun j => A = some ⟨j, 0, none⟩) W w' := fun W hW =>
  fsetslot_any g base A m c l r a W ((hW.cell (World.block_lt_of_cell? _ _ h13)).trans h13) (RowF.kp hr ((Kp.refl (fun _ => False) w).ofBelow hW) (fun _ _ h => h)) hg
 obtain ⟨av, av1, av2, av3⟩ := a
 rw [show (⟨av, av1, av2, av3⟩ : DV).v = .agg #[.int .i64 av, .int .i64 av1, .complex .f64 av2 av3] from rfl] at cS ⊢
 obtain ⟨w1, hw1⟩ : ∃ X, w.alloc (.cells #[.int .i64 av, .int .i64 av1, .complex .f64 av2 av3] 43) = X := ⟨_, rfl⟩
 obtain ⟨z, hz⟩ : ∃ z, w.heap.size = z := ⟨_, rfl⟩
 have hb1 : Below w.heap.size w w1 := by rw [← hw1]; exact bl_one _
 have hs1 : w1.heap.size = z + 1 := by rw [← hw1, ← hz]; simp
 have hAz : ∀ j, A = some ⟨j, 0, none⟩ → j < z := fun j hj => by
  rcases hr.form with ⟨rfl, _⟩ | ⟨r, rfl, _, h⟩
  ·cases hj
  ·injection hj with hj
   injection hj with hj
   omega
 have N : ∀ W, Kp (fun j => A = some ⟨j, 0, none⟩) w1 W → W.cell? ⟨z, 0, none⟩ = some (.int .i64 av) ∧ W.cell? ⟨z, 1, none⟩ = some (.int .i64 av1) ∧ W.cell? ⟨z, 2, none⟩ = some (.complex .f64 av2 av3) := fun W hW => by
  have M : ∀ i v, (#[.int .i64 av, .int .i64 av1, .complex .f64 av2 av3] : Array Value)[i]? = some v → W.cell? ⟨z, i, none⟩ = some v := fun i v hv => by
   refine hW.cellv ?_ (fun hj => by have := hAz _ hj; dsimp at this; omega)
   rw [← hz, ← hw1]
   exact (new_cells (w := w) (t := 43) (Below.refl _ _) i v hv).1
  exact ⟨M 0 _ rfl, M 1 _ rfl, M 2 _ rfl⟩
 have CR := Hd fun W (hW : Below w1.heap.size w1 W) => cR W (hb1.trans (hW.mono hb1.size))
 have CS := Hd fun W (hW : Below w1.heap.size w1 W) => cS W (hb1.trans (hW.mono hb1.size))
 have HBM := Hd hb1
 obtain ⟨q0, q1, q2⟩ := N w1 (Kp.refl _ _)
 have N := Hd N
 have B1 := Hd (Below.refl w1.heap.size w1)
 clear cR cS h hr h13 hb1
 go_in
 go_wp2_with fail
 refine wp_region_held (S := fun W => Kp (fun j => A = some ⟨j, 0, none⟩) w1 W) (by kernel_rfl) ?_
 change wpAnyH _ _ _ _ _ _ _ _ (World.drew _)
 have hS0 : Kp (fun j => A = some ⟨j, 0, none⟩) w1 w1.drew := (Kp.refl _ _).drew
 refine tkH 0 rfl (by intro W hW; go_simp; first | done | rfl) hS0 ?_
 try go_simp
 refine tkH 1 rfl (by intro W hW; go_simp; first | done | rfl) hS0 ?_
 try go_simp
 refine tkH 2 rfl (by intro W hW; go_simp; first | done | rfl) hS0 ?_
 try go_simp
 refine tkH 4 rfl (by intro W hW; obtain ⟨q0, q1, q2⟩ := N.out W hW; go_simp; first | done | rfl) hS0 ?_
 try go_simp
 refine wpAnyH_one (i := 3) (by kernel_rfl) rfl (fun K hK => ?_)
 go_simp
 refine (CR.out _ B1.out.drew).mono ?_
 rintro e w3 ⟨rfl, hb3⟩
 have B3 : Below w1.heap.size w1 w3 := B1.out.drew.trans hb3
 have hS3 : Kp (fun j => A = some ⟨j, 0, none⟩) w1 w3 := (Kp.refl _ _).ofBelow B3
 have B3 := Hd B3
 clear hb3
 go_simp
 refine hK _ _ ⟨hS3, ?_⟩; clear hK K
 try go_simp
 refine wpAnyH_one (i := 5) (by kernel_rfl) rfl (fun K hK => ?_)
 go_simp
 refine (CS.out _ B3.out).mono ?_
 rintro e w4 ⟨⟨v, rfl⟩, hr4, hk4⟩
 have hS4 := hS3.trans hk4
 have HR4 := Hd hr4
 have HK4 : Hid (Kp (fun j => A = some ⟨j, 0, none⟩) w w4) := Hd (((Kp.refl _ w).ofBelow HBM.out).trans hS4)
 clear hr4 hk4
 go_simp
 refine hK _ _ ⟨hS4, ?_⟩; clear hK K
 try go_simp
 refine wpAnyH_done (by kernel_rfl) ?_ _
 try go_simp
 go_wp2_with fail
 go_end0
 exact ⟨⟨_, rfl⟩, HR4.out, HK4.out⟩
end Go.Proofs.YtobmjnmcjddhcaaGreat
namespace Go.Proofs.YtobmjnmcjddhcaaGreat
open Go.RowKit
attribute [local go_sem] run_store_cplx
theorem one_vl (l : List DV) : ∀ u ∈ rowVl l, u.oneCell' = true := by
 intro u hu
 obtain ⟨x, _, hx⟩ := List.mem_flatMap.1 hu
 simp [DV.c] at hx
 rcases hx with rfl | rfl | rfl <;> rfl
structure SrcV (w : World) (A : Option Addr) (n : Nat) (l : List DV) : Prop where
 len : l.length = n
 nil_ : A = none → n = 0
 src : SrcCells w A n 3 (rowVl l)
def IsRowV (l : List DV) (w : World) (e : Ending) (w' : World) : Prop := ∃ A n c, e = .returned (.slice A n c) ∧ w'.ownsRow w.heap.size 43 3 (.slice A n c) n (rowVl l) ∧ Below w.heap.size w w'
theorem clonev_fin {w w3 : World} {n : Nat} {l : List Value} {v' : Value}
  (hown : w3.ownsRow w.heap.size 43 3 v' (0 + n) ((#[] : Array Value).toList ++ l)) (hgrow : (w.alloc (.cells #[] 43)).grownBy w3 (Value.slice (some ⟨w.heap.size, 0, none⟩) 0 0).ownBlock) :
  ∃ A c, v' = .slice A n c ∧ w3.ownsRow w.heap.size 43 3 (.slice A n c) n l ∧ Below w.heap.size w w3 := by
 rw [Nat.zero_add] at hown
 obtain ⟨A', c', hv, _, hat⟩ := own_form hown
 rw [hv] at hown
 exact ⟨A', c', hv, by simpa using hown, Below.grown ((Below.refl _ _).alloc (Nat.le_refl _) _) hgrow (by simp) (fun j hj => by simp [Value.ownBlock] at hj; omega)⟩
theorem clonev_any (A : Option Addr) (n c : Nat) (l : List DV) (w : World) (h : SrcV w A n l) (hn : n ≤ 100000) :
  Calls Tryz.prog 50 #[.slice A n c] w (IsRowV l w) := by
 obtain ⟨i0, hi, hz0, hz1, hz2⟩ := info_parts info_val
 have hnil := fun w => Lib.run_eql_slice_nil (P := Tryz.prog) w 39 43 A n c 0 0 Tryz.underlying39
 obtain ⟨hl, hz, hsrc⟩ := h
 cases A with
 | none =>
  have hn0 := hz rfl
  subst hn0
  have he := List.eq_nil_of_length_eq_zero hl
  subst he
  clear hsrc hz
  go_in
  go_wp2
  go_ret
  exact ⟨none, 0, 0, rfl, World.ownsRow_nil _ _ _ _, Below.refl _ _⟩
 | some ad =>
  have hsrc1 : SrcCells (w.alloc (.cells #[] 43)) (some ad) n 3 (rowVl l) := hsrc.keep fun a j u ha hu => (World.cell?_alloc_lt _ _ _ (World.block_lt_of_cell? _ _ hu)).trans hu
  have HO := Hd (one_vl l)
  clear hsrc hz hl
  go_in
  go_wp2_with (first
    | (at_builtin; go_must (refine wpList_append_src _ rfl _ _ 39 rfl w.heap.size 43 i0 zV 3 32 Tryz.underlying39 hi hz0 hz1 hz2 rfl (by decide) _ _ _ rfl (World.ownsRow_lit w #[] 0 (Nat.le_refl _) (by unfold maxLen; omega) rfl) (some ad) n c (rowVl l) rfl hsrc1 HO.out (by unfold maxLen; omega) (by omega) (by simp) ?_)
       intro v' w3 hown' hgrow3 hat3
       have X := Hd (clonev_fin hown' hgrow3)
       clear hown' hgrow3 hat3))
  go_ret
  obtain ⟨A', c', rfl, h1, h2⟩ := X.out
  exact ⟨A', n, c', rfl, h1, h2⟩
def lineZ (xs : List Int) (pc : Int) : Int := if 0 ≤ pc ∧ pc < (xs.length : Int) then xs.getD pc.toNat 0 else 0
theorem zline_any (A : Option Addr) (n c : Nat) (xs : List Int) (pc : Int) (w : World) (h : SlI w w.heap.size A n c xs) :
  Calls Tryz.prog 48 #[.slice A n c, .int .i64 pc] w fun e w' => e = .returned (.int .i64 (lineZ xs pc)) ∧ w = w' := by
 have hl := h.1
 by_cases h0 : pc < 0
 ·have t1 : decide (pc < 0) = true := dcT (by omega)
  have HV : Hid (lineZ xs pc = 0) := Hd (by unfold lineZ; rw [if_neg (by omega)])
  clear h
  go_in
  go_wp2_with fail
  go_ret
  exact ⟨by rw [HV.out]; rfl, rfl⟩
 ·obtain ⟨k, rfl⟩ : ∃ k : Nat, pc = (k : Int) := ⟨pc.toNat, by omega⟩
  have d0 : decide ((k : Int) < 0) = false := by simp
  have p0 : (0 : Int) ≤ (k : Int) := by omega
  by_cases hk : k < n
  ·obtain ⟨b, off, v, rfl, hb, hv, hc⟩ := SlR.cell1 (f := Value.int .i64) h (i := k) hk
   have HV : Hid (lineZ xs (k : Int) = v) := Hd (by unfold lineZ; rw [if_pos (by omega), List.getD_eq_getElem?_getD]; simp [hv])
   have d1 : decide (n ≤ k) = false := by simp; omega
   have hkn : (k : Int) < (n : Int) := by omega
   rw [HV.out]
   clear h hv hk h0
   go_in
   go_wp2_with fail
   go_ret
   exact ⟨rfl, rfl⟩
  ·have d1 : decide (n ≤ k) = true := by simp; omega
   have HV : Hid (lineZ xs (k : Int) = 0) := Hd (by unfold lineZ; rw [if_neg (by omega)])
   clear h
   go_in
   go_wp2_with fail
   go_ret
   exact ⟨by rw [HV.out]; rfl, rfl⟩
end Go.Proofs.YtobmjnmcjddhcaaGreat
namespace Go.Proofs.YtobmjnmcjddhcaaGreat
open Go.RowKit
attribute [local go_sem] run_store_cplx
theorem fline_any (g : Nat) (A : Option Addr) (n c : Nat) (xs : List Int) (pc : Int) (w : World) (h : w.cell? ⟨g, 7, none⟩ = some (.slice A n c)) (h1 : w.cell? ⟨g, 12, none⟩ = some (.int .i64 pc)) (hl : SlI w w.heap.size A n c xs) : Calls Tryz.prog 19 #[.pointer (some ⟨g, 0, none⟩)] w fun e w' => e = .returned (.int .i64 (lineZ xs pc)) ∧ Below w.heap.size w w' := by
 have hk : SlI w.drew w.drew.heap.size A n c xs := SlI.keep hl (Below.refl _ _).drew (Nat.le_refl _)
 have cl1 := Hd (zline_any A n c xs pc w.drew hk)
 have HB := Hd ((Below.refl w.heap.size w).drew)
 obtain ⟨v, hv⟩ : ∃ v, lineZ xs pc = v := ⟨_, rfl⟩
 rw [hv] at cl1 ⊢
 clear hk hl hv
 go_in
 go_wp2_with fail
 go_region_with (first | (go_at_call 48; refine cl1.out.mono ?_; rintro e w9 ⟨rfl, rfl⟩))
 all_goals
  go_wp2_with fail
  go_ret
  exact ⟨rfl, HB.out⟩
theorem RowV.srcv {w : World} {base : Nat} {b n c : Nat} {l : List DV} (h : RowV w base (some ⟨b, 0, none⟩) n c l) {i m : Nat} (hm : i + m ≤ n) : SrcV w (some ⟨b, i * 3, none⟩) m ((l.drop i).take m) := by
 have hl := h.len
 refine ⟨by simp; omega, fun h => (by cases h), ?_, fun h => (by cases h), fun ad had j u hj => ?_⟩
 ·rw [flatMap_len DV.c DV.len]
  simp; omega
 ·injection had with had
  subst had
  obtain ⟨_, _, hc, _⟩ := RowF.cells h
  rw [addr_add]
  apply hc
  have e : rowVl l = rowVl (l.take i) ++ (rowVl ((l.drop i).take m) ++ rowVl ((l.drop i).drop m)) := by
   unfold rowVl
   rw [← List.flatMap_append, ← List.flatMap_append, List.take_append_drop, List.take_append_drop]
  have hlen : (rowVl (l.take i)).length = i * 3 := by
   rw [flatMap_len DV.c DV.len]
   simp; omega
  rw [e, List.getElem?_append_right (by omega), hlen, List.getElem?_append_left]
  ·rw [← hj]; congr 1; omega
  ·have := (List.getElem?_eq_some_iff.1 hj).1
   omega
theorem fresults_any (g base : Nat) (s : ByteArray) (b : Bool) (A0 : Option Addr) (n0 c0 : Nat) (A1 : Option Addr) (n1 c1 : Nat) (A2 : Option Addr) (n2 c2 : Nat) (A3 : Option Addr) (n3 c3 : Nat) (A4 : Option Addr) (n4 c4 : Nat) (A5 : Option Addr) (n5 c5 : Nat) (A6 : Option Addr) (n6 c6 : Nat) (A7 : Option Addr) (n7 c7 : Nat) (A8 : Option Addr) (n8 c8 : Nat) (A : Option Addr) (m c : Nat) (l : List DV) (w : World) (h : FnC w g s b A0 n0 c0 A1 n1 c1 A2 n2 c2 A3 n3 c3 A4 n4 c4 A5 n5 c5 A6 n6 c6 A7 n7 c7 A8 n8 c8) (h13 : w.cell? ⟨g, 13, none⟩ = some (.slice A m c)) (hr : RowV w base A m c l) (hnn : n1 + n2 ≤ m) (hm : m ≤ 100000) :
  Calls Tryz.prog 24 #[.pointer (some ⟨g, 0, none⟩)] w (IsRowV ((l.drop n1).take n2) w) := by
 have hmc := hr.2.1
 have hcm := hr.2.2.1
 have cF := Hd (sfirst_any s b A0 n0 c0 A1 n1 c1 A2 n2 c2 A3 n3 c3 A4 n4 c4 A5 n5 c5 A6 n6 c6 A7 n7 c7 A8 n8 c8 w)
 have wr : IntKind.i64.wrap ((n1 : Int) + (n2 : Int)) = (n1 : Int) + n2 := by rw [IntKind.wrap_i64]; omega
 have HFC : Hid (∀ W, Below w.heap.size w W → FnC W g s b A0 n0 c0 A1 n1 c1 A2 n2 c2 A3 n3 c3 A4 n4 c4 A5 n5 c5 A6 n6 c6 A7 n7 c7 A8 n8 c8) := Hd fun W hW => h.kp ((Kp.refl (fun _ => False) w).ofBelow hW) (fun h => h)
 have H13 : Hid (∀ W, Below w.heap.size w W → W.cell? ⟨g, 13, none⟩ = some (.slice A m c)) := Hd fun W hW => (hW.cell (World.block_lt_of_cell? _ _ h13)).trans h13
 have HR : Hid (∀ W, Below w.heap.size w W → RowV W base A m c l) := Hd fun W hW => RowF.kp hr ((Kp.refl (fun _ => False) w).ofBelow hW) (fun _ _ h => h)
 obtain ⟨h20, h21, h22, h23, h24, h25, h26, h27, h28, h29, h30⟩ := h
 rcases hr.form with ⟨rfl, rfl, rfl⟩ | ⟨rb, rfl, hb0, hb1⟩
 ·obtain rfl : n1 = 0 := by omega
  obtain rfl : n2 = 0 := by omega
  have e0 : (l.drop 0).take 0 = [] := by simp
  rw [e0]
  clear hr h13
  go_in
  go_wp2_with fail
  refine cF.out.mono ?_
  rintro e w3 ⟨rfl, hb3⟩
  have hb3d := hb3.drew
  have h13 := H13.out w3.drew hb3d
  obtain ⟨h20, h21, h22, h23, h24, h25, h26, h27, h28, h29, h30⟩ := HFC.out w3.drew hb3d
  have cC := Hd (clonev_any none 0 0 [] w3.drew ⟨rfl, fun _ => rfl, rfl, fun _ => rfl, fun ad h => (by cases h)⟩ (by omega))
  have HB := Hd hb3d
  clear hb3 hb3d
  go_wp2_with fail
  go_region_with (first | (go_at_call 50; refine cC.out.mono ?_; rintro e w4 ⟨A4', n4', c4', rfl, ho, hb4⟩))
  all_goals
   go_wp2_with fail
   go_ret
   have hb5 := HB.out
   exact ⟨A4', n4', c4', rfl, own_less ho hb5.size, bl_trans hb5 hb5.size hb4⟩
 ·unfold maxLen at hcm
  by_cases hcn : c = n1
  ·obtain rfl : n2 = 0 := by omega
   obtain rfl : c = n1 := hcn
   obtain rfl : m = c := by omega
   have e0 : (l.drop m).take 0 = [] := by simp
   rw [e0]
   clear hr h13
   go_in
   go_wp2_with fail
   refine cF.out.mono ?_
   rintro e w3 ⟨rfl, hb3⟩
   have hb3d := hb3.drew
   have h13 := H13.out w3.drew hb3d
   obtain ⟨h20, h21, h22, h23, h24, h25, h26, h27, h28, h29, h30⟩ := HFC.out w3.drew hb3d
   have cC := Hd (clonev_any (some ⟨rb, 0, none⟩) 0 0 [] w3.drew ⟨rfl, fun _ => rfl, rfl, fun _ => rfl, fun ad _ j u hj => (by simp at hj)⟩ (by omega))
   have HB := Hd hb3d
   have wr2 : IntKind.i64.wrap (m : Int) = (m : Int) := by rw [IntKind.wrap_i64]; omega
   have i1 : (m : Int) ≤ (m : Int) := by omega
   clear wr
   have i2 : (0 : Int) ≤ (m : Int) := by omega
   clear hb3 hb3d
   go_wp2_with fail
   go_region_with (first | (go_at_call 50; refine cC.out.mono ?_; rintro e w4 ⟨A4', n4', c4', rfl, ho, hb4⟩))
   all_goals
    go_wp2_with fail
    go_ret
    have hb5 := HB.out
    exact ⟨A4', n4', c4', rfl, own_less ho hb5.size, bl_trans hb5 hb5.size hb4⟩
  ·clear hr h13
   go_in
   go_wp2_with fail
   refine cF.out.mono ?_
   rintro e w3 ⟨rfl, hb3⟩
   have hb3d := hb3.drew
   have hs3 : SrcV w3.drew (some ⟨rb, n1 * 3, none⟩) n2 ((l.drop n1).take n2) := RowV.srcv (HR.out w3.drew hb3d) hnn
   have h13 := H13.out w3.drew hb3d
   obtain ⟨h20, h21, h22, h23, h24, h25, h26, h27, h28, h29, h30⟩ := HFC.out w3.drew hb3d
   have hs4 : SrcV w3.drew (some ⟨rb, n1 * 3, none⟩) (((n1 : Int) + (n2 : Int)).toNat - n1) ((l.drop n1).take n2) := by
    have e : ((n1 : Int) + (n2 : Int)).toNat - n1 = n2 := by omega
    rw [e]
    exact hs3
   have cC : Calls Tryz.prog 50 #[.slice (some ⟨rb, n1 * 3, none⟩) (((n1 : Int) + (n2 : Int)).toNat - n1) (c - n1)] w3.drew (IsRowV ((l.drop n1).take n2) w3.drew) := clonev_any _ _ _ _ _ hs4 (by omega)
   have cC := Hd cC
   have HB := Hd hb3d
   have i0 : (n1 : Int) ≤ (n1 : Int) + ((n2 : Nat) : Int) := by omega
   have i1 : (n1 : Int) + ((n2 : Nat) : Int) ≤ (c : Int) := by omega
   have i2 : (0 : Int) ≤ (n1 : Int) := by omega
   clear hs3 hs4 hb3 hb3d
   go_wp2_with fail
   go_region_with (first | (go_at_call 50; refine cC.out.mono ?_; rintro e w4 ⟨A4', n4', c4', rfl, ho, hb4⟩))
   all_goals
    go_wp2_with fail
    go_ret
    have hb5 := HB.out
    exact ⟨A4', n4', c4', rfl, own_less ho hb5.size, bl_trans hb5 hb5.size hb4⟩
end Go.Proofs.YtobmjnmcjddhcaaGreat
namespace Go.Proofs.YtobmjnmcjddhcaaGreat
open Go.RowKit
attribute [local go_sem] run_store_cplx
def IsTake (a : Addr) (A : Option Addr) (n c k : Nat) (sz : Nat) (w : World) (e : Ending) (w' : World) : Prop := ∃ X cX q, e = .returned (.slice X k cX) ∧ (X = none → k = 0) ∧ (0 < k → ∃ b, A = some ⟨b, 0, none⟩ ∧ X = some ⟨b, (n - k) * sz, none⟩) ∧ w' = (w.drewN q).setCell a (.slice A (n - k) (n - k))
def topM (n : Nat) (i : Int) : Nat := min (max i 0).toNat n
theorem ptake_some (g b n c : Nat) (i : Int) (w : World) (h : w.cell? ⟨g, 14, none⟩ = some (.slice (some ⟨b, 0, none⟩) n c)) (hf : w.frozen? ⟨g, 14, none⟩ = false) (hc : n ≤ c) (hm : n ≤ 100000000000) :
  Calls Tryz.prog 70 #[.pointer (some ⟨g, 14, none⟩), .int .i64 i] w (IsTake ⟨g, 14, none⟩ (some ⟨b, 0, none⟩) n c (topM n i) 3 w) := by
 have h1 : w.drew.cell? ⟨g, 14, none⟩ = some (.slice (some ⟨b, 0, none⟩) n c) := h
 have hf1 : w.drew.frozen? ⟨g, 14, none⟩ = false := hf
 have c0 : (0 : Int) ≤ (c : Int) := by omega
 by_cases hi : i < 0
 ·have hk : topM n i = 0 := by unfold topM; omega
  rw [hk]
  have n0 : (0 : Int) ≤ (n : Int) := by omega
  have nc : (n : Int) ≤ (c : Int) := by omega
  have wr : IntKind.i64.wrap (n : Int) = (n : Int) := by rw [IntKind.wrap_i64]; omega
  have hmx : max i 0 = 0 := by omega
  have hmn : min (0 : Int) (n : Int) = 0 := by omega
  have hi2 : ¬ 0 < i := by omega
  by_cases hcn : c = n
  ·go_in
   go_wp2_with fail
   go_region
   go_wp2_with fail
   go_ret
   exact ⟨_, _, 1, rfl, fun _ => rfl, fun h => absurd h (by omega), rfl⟩
  ·have hcn2 : ¬ n = c := fun h => hcn h.symm
   go_in
   go_wp2_with fail
   go_region
   go_wp2_with fail
   go_ret
   exact ⟨_, _, 1, rfl, fun _ => rfl, fun h => absurd h (by omega), rfl⟩
 ·obtain ⟨i, rfl⟩ : ∃ k : Nat, i = (k : Int) := ⟨i.toNat, by omega⟩
  have i0 : (0 : Int) ≤ (i : Int) := by omega
  have hmx : max (i : Int) 0 = (i : Int) := by omega
  by_cases hin : i ≤ n
  ·have hk : topM n i = i := by unfold topM; omega
   rw [hk]
   obtain ⟨left, rfl⟩ : ∃ l, n = l + i := ⟨n - i, by omega⟩
   have wr : IntKind.i64.wrap (((left + i : Nat) : Int) - (i : Int)) = (left : Int) := by rw [IntKind.wrap_i64]; omega
   have hmn : min (i : Int) ((left + i : Nat) : Int) = (i : Int) := by omega
   have l0 : (0 : Int) ≤ (left : Int) := by omega
   have lc : (left : Int) ≤ (c : Int) := by omega
   have ln : (left : Int) ≤ (left : Int) + (i : Int) := by omega
   by_cases hcn : c = left
   ·go_in
    go_wp2_with fail
    go_region
    go_wp2_with fail
    go_ret
    exact ⟨_, _, 1, rfl, fun _ => by omega, fun h => absurd h (by omega), by rw [Nat.add_sub_cancel]; rfl⟩
   ·have hcn2 : ¬ left = c := fun h => hcn h.symm
    go_in
    go_wp2_with fail
    go_region
    go_wp2_with fail
    go_ret
    exact ⟨_, _, 1, rfl, fun h => (by cases h), fun _ => ⟨b, rfl, by rw [Nat.add_sub_cancel]⟩, by rw [Nat.add_sub_cancel]; rfl⟩
  ·have hk : topM n i = n := by unfold topM; omega
   rw [hk]
   have hni : ¬ i ≤ n := hin
   have hmn : min (i : Int) (n : Int) = (n : Int) := by omega
   have hni2 : (n : Int) < (i : Int) := by omega
   by_cases hcn : c = 0
   ·go_in
    go_wp2_with fail
    go_region
    go_wp2_with fail
    go_ret
    exact ⟨_, _, 1, rfl, fun _ => by omega, fun h => absurd h (by omega), by rw [Nat.sub_self]; rfl⟩
   ·have hcn2 : ¬ 0 = c := fun h => hcn h.symm
    go_in
    go_wp2_with fail
    go_region
    go_wp2_with fail
    go_ret
    exact ⟨_, _, 1, rfl, fun h => (by cases h), fun _ => ⟨b, rfl, by rw [Nat.sub_self, Nat.zero_mul]⟩, by rw [Nat.sub_self]; rfl⟩
theorem ptake_none (g : Nat) (i : Int) (w : World) (h : w.cell? ⟨g, 14, none⟩ = some (.slice none 0 0)) (hf : w.frozen? ⟨g, 14, none⟩ = false) :
  Calls Tryz.prog 70 #[.pointer (some ⟨g, 14, none⟩), .int .i64 i] w (IsTake ⟨g, 14, none⟩ none 0 0 (topM 0 i) 3 w) := by
 have h1 : w.drew.cell? ⟨g, 14, none⟩ = some (.slice none 0 0) := h
 have hf1 : w.drew.frozen? ⟨g, 14, none⟩ = false := hf
 have hk : topM 0 i = 0 := by unfold topM; omega
 rw [hk]
 by_cases hi : i < 0
 ·have hmx : max i 0 = 0 := by omega
  have hi2 : ¬ 0 < i := by omega
  go_in
  go_wp2_with fail
  go_region
  go_wp2_with fail
  go_ret
  exact ⟨_, _, 1, rfl, fun _ => rfl, fun h => absurd h (by omega), rfl⟩
 ·have hmx : max i 0 = i := by omega
  by_cases h0 : i = 0
  ·subst h0
   go_in
   go_wp2_with fail
   go_region
   go_wp2_with fail
   go_ret
   exact ⟨_, _, 1, rfl, fun _ => rfl, fun h => absurd h (by omega), rfl⟩
  ·have hi2 : 0 < i := by omega
   have hi3 : ¬ i ≤ 0 := by omega
   have hmn : min i 0 = 0 := by omega
   go_in
   go_wp2_with fail
   go_region
   go_wp2_with fail
   go_ret
   exact ⟨_, _, 1, rfl, fun _ => rfl, fun h => absurd h (by omega), rfl⟩
theorem ptake_any (g base : Nat) (e : TypeId) (A : Option Addr) (n c : Nat) (xs : List Value) (i : Int) (w : World) (h : w.cell? ⟨g, 14, none⟩ = some (.slice A n c)) (hf : w.frozen? ⟨g, 14, none⟩ = false) (hr : RowF w base e 3 A n c xs) (hm : n ≤ 100000000000) :
  Calls Tryz.prog 70 #[.pointer (some ⟨g, 14, none⟩), .int .i64 i] w (IsTake ⟨g, 14, none⟩ A n c (topM n i) 3 w) := by
 have hc := hr.2.1
 rcases hr.form with ⟨rfl, rfl, rfl⟩ | ⟨r, rfl, _, _⟩
 ·exact ptake_none g i w h hf
 ·exact ptake_some g r n c i w h hf hc hm
theorem ctake_some (g b n c : Nat) (i : Int) (w : World) (h : w.cell? ⟨g, 15, none⟩ = some (.slice (some ⟨b, 0, none⟩) n c)) (hf : w.frozen? ⟨g, 15, none⟩ = false) (hc : n ≤ c) (hm : n ≤ 100000000000) :
  Calls Tryz.prog 98 #[.pointer (some ⟨g, 15, none⟩), .int .i64 i] w (IsTake ⟨g, 15, none⟩ (some ⟨b, 0, none⟩) n c (topM n i) 2 w) := by
 have h1 : w.drew.cell? ⟨g, 15, none⟩ = some (.slice (some ⟨b, 0, none⟩) n c) := h
 have hf1 : w.drew.frozen? ⟨g, 15, none⟩ = false := hf
 have c0 : (0 : Int) ≤ (c : Int) := by omega
 by_cases hi : i < 0
 ·have hk : topM n i = 0 := by unfold topM; omega
  rw [hk]
  have n0 : (0 : Int) ≤ (n : Int) := by omega
  have nc : (n : Int) ≤ (c : Int) := by omega
  have wr : IntKind.i64.wrap (n : Int) = (n : Int) := by rw [IntKind.wrap_i64]; omega
  have hmx : max i 0 = 0 := by omega
  have hmn : min (0 : Int) (n : Int) = 0 := by omega
  have hi2 : ¬ 0 < i := by omega
  by_cases hcn : c = n
  ·go_in
   go_wp2_with fail
   go_region
   go_wp2_with fail
   go_ret
   exact ⟨_, _, 1, rfl, fun _ => rfl, fun h => absurd h (by omega), rfl⟩
  ·have hcn2 : ¬ n = c := fun h => hcn h.symm
   go_in
   go_wp2_with fail
   go_region
   go_wp2_with fail
   go_ret
   exact ⟨_, _, 1, rfl, fun _ => rfl, fun h => absurd h (by omega), rfl⟩
 ·obtain ⟨i, rfl⟩ : ∃ k : Nat, i = (k : Int) := ⟨i.toNat, by omega⟩
  have i0 : (0 : Int) ≤ (i : Int) := by omega
  have hmx : max (i : Int) 0 = (i : Int) := by omega
  by_cases hin : i ≤ n
  ·have hk : topM n i = i := by unfold topM; omega
   rw [hk]
   obtain ⟨left, rfl⟩ : ∃ l, n = l + i := ⟨n - i, by omega⟩
   have wr : IntKind.i64.wrap (((left + i : Nat) : Int) - (i : Int)) = (left : Int) := by rw [IntKind.wrap_i64]; omega
   have hmn : min (i : Int) ((left + i : Nat) : Int) = (i : Int) := by omega
   have l0 : (0 : Int) ≤ (left : Int) := by omega
   have lc : (left : Int) ≤ (c : Int) := by omega
   have ln : (left : Int) ≤ (left : Int) + (i : Int) := by omega
   by_cases hcn : c = left
   ·go_in
    go_wp2_with fail
    go_region
    go_wp2_with fail
    go_ret
    exact ⟨_, _, 1, rfl, fun _ => by omega, fun h => absurd h (by omega), by rw [Nat.add_sub_cancel]; rfl⟩
   ·have hcn2 : ¬ left = c := fun h => hcn h.symm
    go_in
    go_wp2_with fail
    go_region
    go_wp2_with fail
    go_ret
    exact ⟨_, _, 1, rfl, fun h => (by cases h), fun _ => ⟨b, rfl, by rw [Nat.add_sub_cancel]⟩, by rw [Nat.add_sub_cancel]; rfl⟩
  ·have hk : topM n i = n := by unfold topM; omega
   rw [hk]
   have hni : ¬ i ≤ n := hin
   have hmn : min (i : Int) (n : Int) = (n : Int) := by omega
   have hni2 : (n : Int) < (i : Int) := by omega
   by_cases hcn : c = 0
   ·go_in
    go_wp2_with fail
    go_region
    go_wp2_with fail
    go_ret
    exact ⟨_, _, 1, rfl, fun _ => by omega, fun h => absurd h (by omega), by rw [Nat.sub_self]; rfl⟩
   ·have hcn2 : ¬ 0 = c := fun h => hcn h.symm
    go_in
    go_wp2_with fail
    go_region
    go_wp2_with fail
    go_ret
    exact ⟨_, _, 1, rfl, fun h => (by cases h), fun _ => ⟨b, rfl, by rw [Nat.sub_self, Nat.zero_mul]⟩, by rw [Nat.sub_self]; rfl⟩
theorem ctake_none (g : Nat) (i : Int) (w : World) (h : w.cell? ⟨g, 15, none⟩ = some (.slice none 0 0)) (hf : w.frozen? ⟨g, 15, none⟩ = false) :
  Calls Tryz.prog 98 #[.pointer (some ⟨g, 15, none⟩), .int .i64 i] w (IsTake ⟨g, 15, none⟩ none 0 0 (topM 0 i) 2 w) := by
 have h1 : w.drew.cell? ⟨g, 15, none⟩ = some (.slice none 0 0) := h
 have hf1 : w.drew.frozen? ⟨g, 15, none⟩ = false := hf
 have hk : topM 0 i = 0 := by unfold topM; omega
 rw [hk]
 by_cases hi : i < 0
 ·have hmx : max i 0 = 0 := by omega
  have hi2 : ¬ 0 < i := by omega
  go_in
  go_wp2_with fail
  go_region
  go_wp2_with fail
  go_ret
  exact ⟨_, _, 1, rfl, fun _ => rfl, fun h => absurd h (by omega), rfl⟩
 ·have hmx : max i 0 = i := by omega
  by_cases h0 : i = 0
  ·subst h0
   go_in
   go_wp2_with fail
   go_region
   go_wp2_with fail
   go_ret
   exact ⟨_, _, 1, rfl, fun _ => rfl, fun h => absurd h (by omega), rfl⟩
  ·have hi2 : 0 < i := by omega
   have hi3 : ¬ i ≤ 0 := by omega
   have hmn : min i 0 = 0 := by omega
   go_in
   go_wp2_with fail
   go_region
   go_wp2_with fail
   go_ret
   exact ⟨_, _, 1, rfl, fun _ => rfl, fun h => absurd h (by omega), rfl⟩
theorem ctake_any (g base : Nat) (e : TypeId) (A : Option Addr) (n c : Nat) (xs : List Value) (i : Int) (w : World) (h : w.cell? ⟨g, 15, none⟩ = some (.slice A n c)) (hf : w.frozen? ⟨g, 15, none⟩ = false) (hr : RowF w base e 2 A n c xs) (hm : n ≤ 100000000000) :
  Calls Tryz.prog 98 #[.pointer (some ⟨g, 15, none⟩), .int .i64 i] w (IsTake ⟨g, 15, none⟩ A n c (topM n i) 2 w) := by
 have hc := hr.2.1
 rcases hr.form with ⟨rfl, rfl, rfl⟩ | ⟨r, rfl, _, _⟩
 ·exact ctake_none g i w h hf
 ·exact ctake_some g r n c i w h hf hc hm
end Go.Proofs.YtobmjnmcjddhcaaGreat
namespace Go.Proofs.YtobmjnmcjddhcaaGreat
open Go.RowKit
structure Rdv (F : Nat → Prop) (w : World) (A : Option Addr) (n sz : Nat) (cs : List Value) : Prop where
 src : SrcCells w A n sz cs
 at_ : ∀ ad, A = some ad → ∃ b off, ad = ⟨b, off, none⟩ ∧ b < w.heap.size ∧ ¬ F b
theorem Rdv.kp {F S : Nat → Prop} {w w' : World} {A : Option Addr} {n sz : Nat} {cs : List Value} (h : Rdv F w A n sz cs) (hk : Kp S w w') (hs : ∀ j, j < w.heap.size → S j → F j) : Rdv F w' A n sz cs :=
 ⟨h.src.keep fun ad j u ha hu => by
  obtain ⟨b, off, rfl, hb, hf⟩ := h.at_ ad ha
  rw [addr_add] at hu ⊢
  exact hk.cellv hu fun hS => hf (hs b hb hS), fun ad ha => by
  obtain ⟨b, off, e, hb, hf⟩ := h.at_ ad ha
  exact ⟨b, off, e, Nat.lt_of_lt_of_le hb hk.size, hf⟩⟩
theorem Rdv.mono {F G : Nat → Prop} {w : World} {A : Option Addr} {n sz : Nat} {cs : List Value} (h : Rdv F w A n sz cs) (hg : ∀ j, j < w.heap.size → G j → F j) : Rdv G w A n sz cs :=
 ⟨h.src, fun ad ha => by
  obtain ⟨b, off, e, hb, hf⟩ := h.at_ ad ha
  exact ⟨b, off, e, hb, fun hG => hf (hg b hb hG)⟩⟩
theorem Rdv.on {F : Nat → Prop} {w w' : World} {A : Option Addr} {n sz : Nat} {cs : List Value} (h : Rdv F w A n sz cs) (hb : Below w.heap.size w w') : Rdv F w' A n sz cs :=
 h.kp ((Kp.refl (fun _ => False) w).ofBelow hb) fun _ _ h => h.elim
theorem Rdv.nil (F : Nat → Prop) (w : World) (sz : Nat) : Rdv F w none 0 sz [] := ⟨⟨by simp, fun _ => rfl, fun ad h => (by cases h)⟩, fun ad h => (by cases h)⟩
theorem Rdv.own {F : Nat → Prop} {w : World} {base : Nat} {e : TypeId} {sz : Nat} {A : Option Addr} {n c : Nat} {cs : List Value} (h : w.ownsRow base e sz (.slice A n c) n cs) (hF : ∀ j, base ≤ j → j < w.heap.size → ¬ F j) : Rdv F w A n sz cs :=
 ⟨own_src h, fun ad ha => by
  obtain ⟨A2, c2, hv, _, hat⟩ := own_form h
  simp only [Value.slice.injEq, true_and] at hv
  obtain ⟨rfl, rfl⟩ := hv
  obtain ⟨b, e, h1, h2⟩ := hat ad ha
  exact ⟨b, 0, e, h2, hF b h1 h2⟩⟩
theorem Rdv.srcv {F : Nat → Prop} {w : World} {A : Option Addr} {n : Nat} {l : List DV} (h : Rdv F w A n 3 (rowVl l)) : SrcV w A n l :=
 ⟨by have := h.src.1; rw [flatMap_len DV.c DV.len] at this; omega, h.src.2.1, h.src⟩
theorem Rdv.len {F : Nat → Prop} {w : World} {A : Option Addr} {n : Nat} {l : List DV} (h : Rdv F w A n 3 (rowVl l)) : l.length = n := h.srcv.len
theorem Rdv.at3 {F : Nat → Prop} {w : World} {A : Option Addr} {n : Nat} {l : List DV} (h : Rdv F w A n 3 (rowVl l)) {i : Nat} {a : DV} (hi : l[i]? = some a) : ∃ b off, A = some ⟨b, off, none⟩ ∧ b < w.heap.size ∧ ¬ F b ∧ w.cell? ⟨b, off + i * 3, none⟩ = some (.int .i64 a.k) ∧ w.cell? ⟨b, off + i * 3 + 1, none⟩ = some (.int .i64 a.n) ∧ w.cell? ⟨b, off + i * 3 + 2, none⟩ = some (.complex .f64 a.x a.y) := by
 have hl := h.len
 have hin := (List.getElem?_eq_some_iff.1 hi).1
 cases A with
 | none => have := h.src.2.1 rfl; omega
 | some ad =>
  obtain ⟨b, off, rfl, hb, hf⟩ := h.at_ _ rfl
  have hc : ∀ j u, (rowVl l)[j]? = some u → w.cell? ⟨b, off + j, none⟩ = some u := fun j u hj => by
   have := h.src.2.2 _ rfl j u hj
   rwa [addr_add] at this
  exact ⟨b, off, rfl, hb, hf, hc _ _ (flatMap_at DV.c DV.len l i 0 a _ (by omega) hi rfl), hc _ _ (flatMap_at DV.c DV.len l i 1 a _ (by omega) hi rfl), hc _ _ (flatMap_at DV.c DV.len l i 2 a _ (by omega) hi rfl)⟩
structure CW where
 f : Int
 A : Option Addr
 n : Nat
 c : Nat
 l : List DV
def CW.c' (q : CW) : List Value := [.int .i64 q.f, .slice q.A q.n q.c]
theorem CW.len (q : CW) : q.c'.length = 2 := rfl
abbrev rowC (l : List CW) : List Value := l.flatMap CW.c'
abbrev RowC (w : World) (base : Nat) (A : Option Addr) (n c : Nat) (l : List CW) : Prop := RowF w base 149 2 A n c (rowC l)
theorem RowC.len {w : World} {base : Nat} {A : Option Addr} {n c : Nat} {l : List CW} (h : RowC w base A n c l) : l.length = n := by
 have h1 := h.1
 rw [flatMap_len CW.c' CW.len] at h1
 omega
theorem RowC.at_ {w : World} {base : Nat} {A : Option Addr} {n c : Nat} {l : List CW} (h : RowC w base A n c l) {i : Nat} {a : CW} (hi : l[i]? = some a) : ∃ b, A = some ⟨b, 0, none⟩ ∧ base ≤ b ∧ b < w.heap.size ∧ w.cell? ⟨b, i * 2, none⟩ = some (.int .i64 a.f) ∧ w.cell? ⟨b, i * 2 + 1, none⟩ = some (.slice a.A a.n a.c) := by
 rcases h.form with ⟨rfl, rfl, rfl⟩ | ⟨r, rfl, hb, hr⟩
 ·have := h.len
  have := (List.getElem?_eq_some_iff.1 hi).1
  omega
 ·obtain ⟨_, _, hc, hf⟩ := RowF.cells h
  exact ⟨r, rfl, hb, hr, hc _ _ (flatMap_at CW.c' CW.len l i 0 a _ (by omega) hi rfl), hc _ _ (flatMap_at CW.c' CW.len l i 1 a _ (by omega) hi rfl)⟩
def Nw (w : World) (A A' : Option Addr) : Prop := A' = A ∨ A' = none ∨ ∃ k, A' = some ⟨k, 0, none⟩ ∧ w.heap.size ≤ k
theorem Nw.rfl' (w : World) (A : Option Addr) : Nw w A A := .inl rfl
theorem row_ge {w : World} {base : Nat} {e : TypeId} {size : Nat} {A : Option Addr} {n c : Nat} {xs : List Value} (h : RowF w base e size A n c xs) {j : Nat} (hj : A = some ⟨j, 0, none⟩) : base ≤ j ∧ j < w.heap.size := by
 rcases h.form with ⟨rfl, _⟩ | ⟨r, rfl, h1, h2⟩
 ·cases hj
 ·injection hj with hj
  injection hj with hj
  omega
end Go.Proofs.YtobmjnmcjddhcaaGreat
namespace Go.Proofs.YtobmjnmcjddhcaaGreat
open Go.RowKit
attribute [local go_sem] run_store_cplx
structure Pushed (i : Nat) (base : Nat) (e : TypeId) (sz : Nat) (g : Nat) (A : Option Addr) (n : Nat) (xs : List Value) (A' : Option Addr) (c' : Nat) (w w' : World) : Prop where
 kp : Kp (fun j => j = g ∨ A = some ⟨j, 0, none⟩) w w'
 ci : w'.cell? ⟨g, i, none⟩ = some (.slice A' (n + 1) c')
 co : ∀ j, j ≠ i → w'.cell? ⟨g, j, none⟩ = w.cell? ⟨g, j, none⟩
 fz : ∀ j, w'.frozen? ⟨g, j, none⟩ = w.frozen? ⟨g, j, none⟩
 row : RowF w' base e sz A' (n + 1) c' xs
 nw : Nw w A A'
theorem push_fin {i base : Nat} {e : TypeId} {sz g n c c' : Nat} {A A' : Option Addr} {xs ys : List Value} {w W W' : World} (hg : w.cell? ⟨g, i, none⟩ = some (.slice A n c)) (hf : w.frozen? ⟨g, i, none⟩ = false) (hgb : g < base) (hr : RowF w base e sz A n c xs) (hW : Kp (fun _ => False) w W)
  (hown : W'.ownsRow base e sz (.slice A' (n + 1) c') (n + 1) ys) (hk : Kp (fun k => A = some ⟨k, 0, none⟩) W W') (hA : A' = A ∨ ∃ k, A' = some ⟨k, 0, none⟩ ∧ W.heap.size ≤ k) :
  Pushed i base e sz g A n ys A' c' w (W'.setCell ⟨g, i, none⟩ (.slice A' (n + 1) c')) ∧ W'.cell? ⟨g, i, none⟩ = some (.slice A n c) ∧ W'.frozen? ⟨g, i, none⟩ = false := by
 have hlt : g < w.heap.size := World.block_lt_of_cell? _ _ hg
 have gg : ¬ A = some ⟨g, 0, none⟩ := fun e => by have := (row_ge hr e).1; omega
 have hk9 : Kp (fun k => A = some ⟨k, 0, none⟩) w W' := (hW.mono fun _ _ h => h.elim).trans hk
 have c5 : W'.cell? ⟨g, i, none⟩ = some (.slice A n c) := hk9.cellv hg gg
 have f5 : W'.frozen? ⟨g, i, none⟩ = false := (hk9.frozen hlt gg).trans hf
 refine ⟨⟨?_, by simp [go_sem, c5], fun j hj => ?_, fun j => ?_, (RowF.ofOwn hown).set _ (fun r hr' => ?_) _, ?_⟩, c5, f5⟩
 ·exact (hk9.mono fun _ _ h => .inr h).setCell (p := ⟨g, i, none⟩) (fun _ => .inl rfl) _
 ·rw [World.cell?_setCell_other _ _ _ _ (by simp; try omega)]
  exact hk9.cell hlt gg
 ·rw [World.frozen?_setCell]
  exact hk9.frozen hlt gg
 ·have := (row_ge (RowF.ofOwn hown) hr').1
  show r ≠ g
  omega
 ·rcases hA with hA | ⟨k, hA, hk⟩
  ·exact .inl hA
  ·exact .inr (.inr ⟨k, hA, Nat.le_trans hW.size hk⟩)
theorem info_call : (Tryz.prog.info? 149).map (fun i => (i.zero, i.size, i.bytes)) = some (some (.agg #[.int .i64 0, .slice none 0 0]), 2, 32) := by kernel_rfl
theorem src_c (W : World) (f : Int) (A : Option Addr) (m c : Nat) : SrcCells (W.alloc (.cells #[.int .i64 f, .slice A m c] 149)) (some ⟨W.heap.size, 0, none⟩) 1 2 [.int .i64 f, .slice A m c] :=
 own_src (World.ownsRow_lit (base := W.heap.size) (e := 149) (size := 2) W #[.int .i64 f, .slice A m c] 1 (Nat.le_refl _) (by unfold maxLen; omega) rfl)
theorem one_c (f : Int) (A : Option Addr) (m c : Nat) : ∀ u ∈ [Value.int .i64 f, .slice A m c], u.oneCell' = true := by
 intro u hu
 simp at hu
 rcases hu with rfl | rfl <;> rfl
theorem ppush_any (g base : Nat) (A : Option Addr) (n c : Nat) (xs : List Value) (vk vn : Int) (vx vy : Nat) (w : World) (h : w.cell? ⟨g, 14, none⟩ = some (.slice A n c)) (hf : w.frozen? ⟨g, 14, none⟩ = false) (hr : RowF w base 43 3 A n c xs) (hgb : g < base) (hbs : base ≤ w.heap.size) (hn : n ≤ 100000) :
  Calls Tryz.prog 66 #[.pointer (some ⟨g, 14, none⟩), .agg #[.int .i64 vk, .int .i64 vn, .complex .f64 vx vy]] w fun e w' => (∃ u, e = .returned u) ∧ ∃ A' c', Pushed 14 base 43 3 g A n (xs ++ [.int .i64 vk, .int .i64 vn, .complex .f64 vx vy]) A' c' w w' := by
 obtain ⟨i0, hi, hz0, hz1, hz2⟩ := info_parts info_val
 obtain ⟨w1, hw1⟩ : ∃ w1, w.alloc (.cells #[.int .i64 vk, .int .i64 vn, .complex .f64 vx vy] 43) = w1 := ⟨_, rfl⟩
 have hk1 : Kp (fun _ => False) w w1 := by rw [← hw1]; exact (Kp.refl _ _).alloc _
 have hlt : g < w.heap.size := World.block_lt_of_cell? _ _ h
 have z : ∀ j u, #[.int .i64 vk, .int .i64 vn, .complex .f64 vx vy][j]? = some u → w1.cell? ⟨w.heap.size, j, none⟩ = some u := fun j u hu => by
  rw [← hw1]
  exact (new_cells (Below.refl _ _) j u hu).1
 have hsz1 : w1.heap.size = w.heap.size + 1 := by rw [← hw1]; simp
 have hAz : ¬ A = some ⟨w.heap.size, 0, none⟩ := fun e => by have := (row_ge hr e).2; omega
 have HQ : Hid (∀ W : World, Kp (fun k => k = g ∨ A = some ⟨k, 0, none⟩) w1 W → W.cell? ⟨w.heap.size, 0, none⟩ = some (.int .i64 vk) ∧ W.cell? ⟨w.heap.size, 1, none⟩ = some (.int .i64 vn) ∧ W.cell? ⟨w.heap.size, 2, none⟩ = some (.complex .f64 vx vy)) := Hd fun W hW => by
  have nb : ¬ (w.heap.size = g ∨ A = some ⟨w.heap.size, 0, none⟩) := fun h => h.elim (fun e => by omega) hAz
  exact ⟨hW.cellv (z 0 _ rfl) nb, hW.cellv (z 1 _ rfl) nb, hW.cellv (z 2 _ rfl) nb⟩
 have hk4 : Kp (fun _ => False) w1 (w1.drew.alloc (.cells #[.int .i64 vk, .int .i64 vn, .complex .f64 vx vy] 43)) := ((Kp.refl _ _).drew).alloc _
 have g0 : w1.cell? ⟨g, 14, none⟩ = some (.slice A n c) := hk1.cellv h id
 have g4 : (w1.drew.alloc (.cells #[.int .i64 vk, .int .i64 vn, .complex .f64 vx vy] 43)).cell? ⟨g, 14, none⟩ = some (.slice A n c) := hk4.cellv g0 id
 have HF : Hid (∀ (W' : World) (A' : Option Addr) (c' : Nat), W'.ownsRow base 43 3 (.slice A' (n + 1) c') (n + 1) (xs ++ [.int .i64 vk, .int .i64 vn, .complex .f64 vx vy]) → Kp (fun k => A = some (⟨k, 0, none⟩ : Addr)) (w1.drew.alloc (.cells #[.int .i64 vk, .int .i64 vn, .complex .f64 vx vy] 43)) W' → (A' = A ∨ ∃ k, A' = some ⟨k, 0, none⟩ ∧ (w1.drew.alloc (.cells #[.int .i64 vk, .int .i64 vn, .complex .f64 vx vy] 43)).heap.size ≤ k) → Pushed 14 base 43 3 g A n (xs ++ [.int .i64 vk, .int .i64 vn, .complex .f64 vx vy]) A' c' w (W'.setCell ⟨g, 14, none⟩ (.slice A' (n + 1) c')) ∧ W'.cell? ⟨g, 14, none⟩ = some (.slice A n c) ∧ W'.frozen? ⟨g, 14, none⟩ = false) := Hd fun W' A' c' hown hk hA => push_fin h hf hgb hr (hk1.trans hk4) hown hk hA
 have hsrc := Hd (src_v w1.drew vk vn vx vy)
 have hone := Hd (one_v vk vn vx vy)
 have hrow : Hid (RowF (w1.drew.alloc (.cells #[.int .i64 vk, .int .i64 vn, .complex .f64 vx vy] 43)) base 43 3 A n c xs) := Hd (RowF.kp hr (hk1.trans hk4) fun _ _ h => h)
 have hbase : Hid (base ≤ (w1.drew.alloc (.cells #[.int .i64 vk, .int .i64 vn, .complex .f64 vx vy] 43)).heap.size) := Hd (Nat.le_trans hbs (hk1.trans hk4).size)
 have hS0 : Kp (fun k => k = g ∨ A = some ⟨k, 0, none⟩) w1 w1.drew := (Kp.refl _ _).drew
 have hS4 : Kp (fun k => k = g ∨ A = some ⟨k, 0, none⟩) w1 (w1.drew.alloc (.cells #[.int .i64 vk, .int .i64 vn, .complex .f64 vx vy] 43)) := hk4.mono fun _ _ h => h.elim
 have HE := Hd hw1
 clear h hf z hk1 hk4 hw1 hr hAz hbs
 go_in
 go_wp2_with fail
 rw [HE.out]
 refine wp_region_held (S := fun W => Kp (fun k => k = g ∨ A = some ⟨k, 0, none⟩) w1 W) (by kernel_rfl) ?_
 change wpAnyH _ _ _ _ _ _ _ _ (World.drew _)
 refine teH 0 (.pointer (some ⟨g, 14, none⟩)) rfl (by intro W hW; go_simp; try (first | (with_reducible rfl) | omega)) hS0 ?_
 refine teH 1 (.pointer (some ⟨g, 14, none⟩)) rfl (by intro W hW; go_simp; try (first | (with_reducible rfl) | omega)) hS0 ?_
 refine teH 2 (.pointer (some ⟨g, 14, none⟩)) rfl (by intro W hW; go_simp; try (first | (with_reducible rfl) | omega)) hS0 ?_
 refine teH 3 (.pointer (some ⟨g, 14, none⟩)) rfl (by intro W hW; go_simp; try (first | (with_reducible rfl) | omega)) hS0 ?_
 refine teH 5 (.agg #[.int .i64 vk, .int .i64 vn, .complex .f64 vx vy]) rfl (by intro W hW; obtain ⟨g10, g11, g12⟩ := HQ.out W hW; go_simp; try (first | (with_reducible rfl) | omega)) hS0 ?_
 refine wpAnyH_two (i := 4) (j := 6) (by kernel_rfl) rfl rfl (fun K hK => ?_) (fun K hK => ?_)
 ·go_simp
  refine hK _ _ ⟨hS0, ?_⟩; clear hK K
  refine wpAnyH_one (i := 6) (by kernel_rfl) rfl (fun K hK => ?_)
  go_simp
  refine hK _ _ ⟨hS4, ?_⟩; clear hK K
  refine wpAnyH_one (i := 7) (by kernel_rfl) rfl (fun K hK => ?_)
  refine step_append_rowF _ rfl (.tmp 8) (.tmp 10) 39 rfl base 43 i0 (.agg #[.int .i64 0, .int .i64 0, .complex .f64 0 0]) 3 32 Tryz.underlying39 hi hz0 hz1 hz2 rfl (by decide) A n c xs ?qq1 hrow.out ⟨w1.heap.size, 0, none⟩ 1 1 (by decide) [.int .i64 vk, .int .i64 vn, .complex .f64 vx vy] ?qq2 hsrc.out hone.out (by unfold maxLen; omega) (by omega) hbase.out ?_
  case qq1 => go_simp
  case qq2 => go_simp
  intro A' c' W' hown hkA hA
  have F := Hd (HF.out W' A' c' hown hkA hA)
  have e0 := F.out.2.1
  have e1 := F.out.2.2
  have hS5 : Kp (fun k => k = g ∨ A = some ⟨k, 0, none⟩) w1 W' := hS4.trans (hkA.mono fun j _ e => .inr e)
  clear hown hkA hA
  refine hK _ _ ⟨hS5, ?_⟩; clear hK K
  refine wpAnyH_one (i := 8) (by kernel_rfl) rfl (fun K hK => ?_)
  go_simp
  refine hK _ _ ⟨hS5, ?_⟩; clear hK K
  refine wpAnyH_one (i := 9) (by kernel_rfl) rfl (fun K hK => ?_)
  go_simp
  refine hK _ _ ⟨hS5, ?_⟩; clear hK K
  refine wpAnyH_one (i := 10) (by kernel_rfl) rfl (fun K hK => ?_)
  go_simp
  refine hK _ _ ⟨(hS5.setCell (p := ⟨g, 14, none⟩) (fun _ => .inl rfl) _), ?_⟩; clear hK K
  refine wpAnyH_done (by kernel_rfl) ?_ _
  go_wp2_with fail
  go_end0
  exact ⟨⟨_, rfl⟩, A', c', F.out.1⟩
 ·go_simp
  refine hK _ _ ⟨hS4, ?_⟩; clear hK K
  refine wpAnyH_one (i := 4) (by kernel_rfl) rfl (fun K hK => ?_)
  go_simp
  refine hK _ _ ⟨hS4, ?_⟩; clear hK K
  refine wpAnyH_one (i := 7) (by kernel_rfl) rfl (fun K hK => ?_)
  refine step_append_rowF _ rfl (.tmp 8) (.tmp 10) 39 rfl base 43 i0 (.agg #[.int .i64 0, .int .i64 0, .complex .f64 0 0]) 3 32 Tryz.underlying39 hi hz0 hz1 hz2 rfl (by decide) A n c xs ?qq1 hrow.out ⟨w1.heap.size, 0, none⟩ 1 1 (by decide) [.int .i64 vk, .int .i64 vn, .complex .f64 vx vy] ?qq2 hsrc.out hone.out (by unfold maxLen; omega) (by omega) hbase.out ?_
  case qq1 => go_simp
  case qq2 => go_simp
  intro A' c' W' hown hkA hA
  have F := Hd (HF.out W' A' c' hown hkA hA)
  have e0 := F.out.2.1
  have e1 := F.out.2.2
  have hS5 : Kp (fun k => k = g ∨ A = some ⟨k, 0, none⟩) w1 W' := hS4.trans (hkA.mono fun j _ e => .inr e)
  clear hown hkA hA
  refine hK _ _ ⟨hS5, ?_⟩; clear hK K
  refine wpAnyH_one (i := 8) (by kernel_rfl) rfl (fun K hK => ?_)
  go_simp
  refine hK _ _ ⟨hS5, ?_⟩; clear hK K
  refine wpAnyH_one (i := 9) (by kernel_rfl) rfl (fun K hK => ?_)
  go_simp
  refine hK _ _ ⟨hS5, ?_⟩; clear hK K
  refine wpAnyH_one (i := 10) (by kernel_rfl) rfl (fun K hK => ?_)
  go_simp
  refine hK _ _ ⟨(hS5.setCell (p := ⟨g, 14, none⟩) (fun _ => .inl rfl) _), ?_⟩; clear hK K
  refine wpAnyH_done (by kernel_rfl) ?_ _
  go_wp2_with fail
  go_end0
  exact ⟨⟨_, rfl⟩, A', c', F.out.1⟩
theorem cpush_any (g base : Nat) (A : Option Addr) (n c : Nat) (xs : List Value) (vf : Int) (vA : Option Addr) (vm vc : Nat) (w : World) (h : w.cell? ⟨g, 15, none⟩ = some (.slice A n c)) (hf : w.frozen? ⟨g, 15, none⟩ = false) (hr : RowF w base 149 2 A n c xs) (hgb : g < base) (hbs : base ≤ w.heap.size) (hn : n ≤ 100000) :
  Calls Tryz.prog 72 #[.pointer (some ⟨g, 15, none⟩), .agg #[.int .i64 vf, .slice vA vm vc]] w fun e w' => (∃ u, e = .returned u) ∧ ∃ A' c', Pushed 15 base 149 2 g A n (xs ++ [.int .i64 vf, .slice vA vm vc]) A' c' w w' := by
 obtain ⟨i0, hi, hz0, hz1, hz2⟩ := info_parts info_call
 obtain ⟨w1, hw1⟩ : ∃ w1, w.alloc (.cells #[.int .i64 vf, .slice vA vm vc] 149) = w1 := ⟨_, rfl⟩
 have hk1 : Kp (fun _ => False) w w1 := by rw [← hw1]; exact (Kp.refl _ _).alloc _
 have hlt : g < w.heap.size := World.block_lt_of_cell? _ _ h
 have z : ∀ j u, #[.int .i64 vf, .slice vA vm vc][j]? = some u → w1.cell? ⟨w.heap.size, j, none⟩ = some u := fun j u hu => by
  rw [← hw1]
  exact (new_cells (Below.refl _ _) j u hu).1
 have hsz1 : w1.heap.size = w.heap.size + 1 := by rw [← hw1]; simp
 have hAz : ¬ A = some ⟨w.heap.size, 0, none⟩ := fun e => by have := (row_ge hr e).2; omega
 have HQ : Hid (∀ W : World, Kp (fun k => k = g ∨ A = some ⟨k, 0, none⟩) w1 W → W.cell? ⟨w.heap.size, 0, none⟩ = some (.int .i64 vf) ∧ W.cell? ⟨w.heap.size, 1, none⟩ = some (.slice vA vm vc)) := Hd fun W hW => by
  have nb : ¬ (w.heap.size = g ∨ A = some ⟨w.heap.size, 0, none⟩) := fun h => h.elim (fun e => by omega) hAz
  exact ⟨hW.cellv (z 0 _ rfl) nb, hW.cellv (z 1 _ rfl) nb⟩
 have hk4 : Kp (fun _ => False) w1 (w1.drew.alloc (.cells #[.int .i64 vf, .slice vA vm vc] 149)) := ((Kp.refl _ _).drew).alloc _
 have g0 : w1.cell? ⟨g, 15, none⟩ = some (.slice A n c) := hk1.cellv h id
 have g4 : (w1.drew.alloc (.cells #[.int .i64 vf, .slice vA vm vc] 149)).cell? ⟨g, 15, none⟩ = some (.slice A n c) := hk4.cellv g0 id
 have HF : Hid (∀ (W' : World) (A' : Option Addr) (c' : Nat), W'.ownsRow base 149 2 (.slice A' (n + 1) c') (n + 1) (xs ++ [.int .i64 vf, .slice vA vm vc]) → Kp (fun k => A = some (⟨k, 0, none⟩ : Addr)) (w1.drew.alloc (.cells #[.int .i64 vf, .slice vA vm vc] 149)) W' → (A' = A ∨ ∃ k, A' = some ⟨k, 0, none⟩ ∧ (w1.drew.alloc (.cells #[.int .i64 vf, .slice vA vm vc] 149)).heap.size ≤ k) → Pushed 15 base 149 2 g A n (xs ++ [.int .i64 vf, .slice vA vm vc]) A' c' w (W'.setCell ⟨g, 15, none⟩ (.slice A' (n + 1) c')) ∧ W'.cell? ⟨g, 15, none⟩ = some (.slice A n c) ∧ W'.frozen? ⟨g, 15, none⟩ = false) := Hd fun W' A' c' hown hk hA => push_fin h hf hgb hr (hk1.trans hk4) hown hk hA
 have hsrc := Hd (src_c w1.drew vf vA vm vc)
 have hone := Hd (one_c vf vA vm vc)
 have hrow : Hid (RowF (w1.drew.alloc (.cells #[.int .i64 vf, .slice vA vm vc] 149)) base 149 2 A n c xs) := Hd (RowF.kp hr (hk1.trans hk4) fun _ _ h => h)
 have hbase : Hid (base ≤ (w1.drew.alloc (.cells #[.int .i64 vf, .slice vA vm vc] 149)).heap.size) := Hd (Nat.le_trans hbs (hk1.trans hk4).size)
 have hS0 : Kp (fun k => k = g ∨ A = some ⟨k, 0, none⟩) w1 w1.drew := (Kp.refl _ _).drew
 have hS4 : Kp (fun k => k = g ∨ A = some ⟨k, 0, none⟩) w1 (w1.drew.alloc (.cells #[.int .i64 vf, .slice vA vm vc] 149)) := hk4.mono fun _ _ h => h.elim
 have HE := Hd hw1
 clear h hf z hk1 hk4 hw1 hr hAz hbs
 go_in
 go_wp2_with fail
 rw [HE.out]
 refine wp_region_held (S := fun W => Kp (fun k => k = g ∨ A = some ⟨k, 0, none⟩) w1 W) (by kernel_rfl) ?_
 change wpAnyH _ _ _ _ _ _ _ _ (World.drew _)
 refine teH 0 (.pointer (some ⟨g, 15, none⟩)) rfl (by intro W hW; go_simp; try (first | (with_reducible rfl) | omega)) hS0 ?_
 refine teH 1 (.pointer (some ⟨g, 15, none⟩)) rfl (by intro W hW; go_simp; try (first | (with_reducible rfl) | omega)) hS0 ?_
 refine teH 2 (.pointer (some ⟨g, 15, none⟩)) rfl (by intro W hW; go_simp; try (first | (with_reducible rfl) | omega)) hS0 ?_
 refine teH 3 (.pointer (some ⟨g, 15, none⟩)) rfl (by intro W hW; go_simp; try (first | (with_reducible rfl) | omega)) hS0 ?_
 refine teH 5 (.agg #[.int .i64 vf, .slice vA vm vc]) rfl (by intro W hW; obtain ⟨g10, g11⟩ := HQ.out W hW; go_simp; try (first | (with_reducible rfl) | omega)) hS0 ?_
 refine wpAnyH_two (i := 4) (j := 6) (by kernel_rfl) rfl rfl (fun K hK => ?_) (fun K hK => ?_)
 ·go_simp
  refine hK _ _ ⟨hS0, ?_⟩; clear hK K
  refine wpAnyH_one (i := 6) (by kernel_rfl) rfl (fun K hK => ?_)
  go_simp
  refine hK _ _ ⟨hS4, ?_⟩; clear hK K
  refine wpAnyH_one (i := 7) (by kernel_rfl) rfl (fun K hK => ?_)
  refine step_append_rowF _ rfl (.tmp 8) (.tmp 10) 92 rfl base 149 i0 (.agg #[.int .i64 0, .slice none 0 0]) 2 32 Tryz.underlying92 hi hz0 hz1 hz2 rfl (by decide) A n c xs ?qq1 hrow.out ⟨w1.heap.size, 0, none⟩ 1 1 (by decide) [.int .i64 vf, .slice vA vm vc] ?qq2 hsrc.out hone.out (by unfold maxLen; omega) (by omega) hbase.out ?_
  case qq1 => go_simp
  case qq2 => go_simp
  intro A' c' W' hown hkA hA
  have F := Hd (HF.out W' A' c' hown hkA hA)
  have e0 := F.out.2.1
  have e1 := F.out.2.2
  have hS5 : Kp (fun k => k = g ∨ A = some ⟨k, 0, none⟩) w1 W' := hS4.trans (hkA.mono fun j _ e => .inr e)
  clear hown hkA hA
  refine hK _ _ ⟨hS5, ?_⟩; clear hK K
  refine wpAnyH_one (i := 8) (by kernel_rfl) rfl (fun K hK => ?_)
  go_simp
  refine hK _ _ ⟨hS5, ?_⟩; clear hK K
  refine wpAnyH_one (i := 9) (by kernel_rfl) rfl (fun K hK => ?_)
  go_simp
  refine hK _ _ ⟨hS5, ?_⟩; clear hK K
  refine wpAnyH_one (i := 10) (by kernel_rfl) rfl (fun K hK => ?_)
  go_simp
  refine hK _ _ ⟨(hS5.setCell (p := ⟨g, 15, none⟩) (fun _ => .inl rfl) _), ?_⟩; clear hK K
  refine wpAnyH_done (by kernel_rfl) ?_ _
  go_wp2_with fail
  go_end0
  exact ⟨⟨_, rfl⟩, A', c', F.out.1⟩
 ·go_simp
  refine hK _ _ ⟨hS4, ?_⟩; clear hK K
  refine wpAnyH_one (i := 4) (by kernel_rfl) rfl (fun K hK => ?_)
  go_simp
  refine hK _ _ ⟨hS4, ?_⟩; clear hK K
  refine wpAnyH_one (i := 7) (by kernel_rfl) rfl (fun K hK => ?_)
  refine step_append_rowF _ rfl (.tmp 8) (.tmp 10) 92 rfl base 149 i0 (.agg #[.int .i64 0, .slice none 0 0]) 2 32 Tryz.underlying92 hi hz0 hz1 hz2 rfl (by decide) A n c xs ?qq1 hrow.out ⟨w1.heap.size, 0, none⟩ 1 1 (by decide) [.int .i64 vf, .slice vA vm vc] ?qq2 hsrc.out hone.out (by unfold maxLen; omega) (by omega) hbase.out ?_
  case qq1 => go_simp
  case qq2 => go_simp
  intro A' c' W' hown hkA hA
  have F := Hd (HF.out W' A' c' hown hkA hA)
  have e0 := F.out.2.1
  have e1 := F.out.2.2
  have hS5 : Kp (fun k => k = g ∨ A = some ⟨k, 0, none⟩) w1 W' := hS4.trans (hkA.mono fun j _ e => .inr e)
  clear hown hkA hA
  refine hK _ _ ⟨hS5, ?_⟩; clear hK K
  refine wpAnyH_one (i := 8) (by kernel_rfl) rfl (fun K hK => ?_)
  go_simp
  refine hK _ _ ⟨hS5, ?_⟩; clear hK K
  refine wpAnyH_one (i := 9) (by kernel_rfl) rfl (fun K hK => ?_)
  go_simp
  refine hK _ _ ⟨hS5, ?_⟩; clear hK K
  refine wpAnyH_one (i := 10) (by kernel_rfl) rfl (fun K hK => ?_)
  go_simp
  refine hK _ _ ⟨(hS5.setCell (p := ⟨g, 15, none⟩) (fun _ => .inl rfl) _), ?_⟩; clear hK K
  refine wpAnyH_done (by kernel_rfl) ?_ _
  go_wp2_with fail
  go_end0
  exact ⟨⟨_, rfl⟩, A', c', F.out.1⟩
end Go.Proofs.YtobmjnmcjddhcaaGreat
namespace Go.Proofs.YtobmjnmcjddhcaaGreat
open Go.RowKit
attribute [local go_sem] run_store_cplx
structure Popped (i g : Nat) (A : Option Addr) (m : Nat) (w w' : World) : Prop where
 kp : Kp (fun j => j = g) w w'
 ci : w'.cell? ⟨g, i, none⟩ = some (.slice A m m)
 co : ∀ j, j ≠ i → w'.cell? ⟨g, j, none⟩ = w.cell? ⟨g, j, none⟩
 fz : ∀ j, w'.frozen? ⟨g, j, none⟩ = w.frozen? ⟨g, j, none⟩
theorem Popped.far {i g m : Nat} {A : Option Addr} {w W : World} (h : Popped i g A m w W) (hg : g < w.heap.size) (o : Nat) (u : Value) : Popped i g A m w (W.setCell ⟨w.heap.size, o, none⟩ u) := by
 have ne : ¬ w.heap.size = g := by omega
 have far : ∀ j, (W.setCell ⟨w.heap.size, o, none⟩ u).cell? ⟨g, j, none⟩ = W.cell? ⟨g, j, none⟩ := fun j => World.cell?_setCell_far _ _ _ _ ne
 exact ⟨h.kp.setCell (p := ⟨w.heap.size, o, none⟩) (fun h => absurd h (Nat.lt_irrefl _)) _, (far i).trans h.ci, fun j hj => (far j).trans (h.co j hj), fun j => (World.frozen?_setCell _ _ _ _).trans (h.fz j)⟩
theorem Popped.on {i g m : Nat} {A : Option Addr} {w W W' : World} (h : Popped i g A m w W) (hb : Below W.heap.size W W') : Popped i g A m w W' := by
 have hg := World.block_lt_of_cell? _ _ h.ci
 exact ⟨h.kp.ofBelow hb, (hb.cell hg).trans h.ci, fun j hj => (hb.cell (p := ⟨g, j, none⟩) hg).trans (h.co j hj), fun j => (hb.frozen (p := ⟨g, j, none⟩) hg).trans (h.fz j)⟩
theorem Popped.pre {i g m : Nat} {A : Option Addr} {w w1 W : World} (h : Popped i g A m w1 W) (hg : g < w.heap.size) (hk : Kp (fun _ => False) w w1) : Popped i g A m w W :=
 ⟨(hk.mono fun _ _ h => h.elim).trans h.kp, h.ci, fun j hj => (h.co j hj).trans (hk.cell hg id), fun j => (h.fz j).trans (hk.frozen hg id)⟩
theorem popped_of {i g m : Nat} {A : Option Addr} {w : World} {u : Value} (q : Nat) (h : w.cell? ⟨g, i, none⟩ = some u) : Popped i g A m w ((w.drewN q).setCell ⟨g, i, none⟩ (.slice A m m)) := by
 have h' : (w.drewN q).cell? ⟨g, i, none⟩ = some u := h
 refine ⟨Kp.setCell (S := fun j => j = g) ((Kp.refl _ w).drewN q) (p := ⟨g, i, none⟩) (fun _ => rfl) _, by simp [go_sem, h], fun j hj => ?_, fun j => World.frozen?_setCell _ _ _ _⟩
 rw [World.cell?_setCell_other _ _ _ _ (by simp; try omega)]
 rfl
def topV (l : List DV) : DV := l.getD (l.length - 1) z0
def zC : CW := ⟨0, none, 0, 0, []⟩
def topC (l : List CW) : CW := l.getD (l.length - 1) zC
theorem topM_one (n : Nat) : topM n 1 = if 0 < n then 1 else 0 := by unfold topM; split <;> omega
theorem ppop_any (g base : Nat) (A : Option Addr) (n c : Nat) (l : List DV) (w : World) (h : w.cell? ⟨g, 14, none⟩ = some (.slice A n c)) (hf : w.frozen? ⟨g, 14, none⟩ = false) (hr : RowV w base A n c l) (hgb : g < base) (hm : n ≤ 100000000000) :
  Calls Tryz.prog 67 #[.pointer (some ⟨g, 14, none⟩)] w fun e w' => e = .returned (.tuple #[(topV l).v, .bool (decide (0 < n))]) ∧ Popped 14 g A (n - 1) w w' := by
 have hl := hr.len
 have hlt : g < w.heap.size := World.block_lt_of_cell? _ _ h
 obtain ⟨W, hW⟩ : ∃ W, ((w.alloc (.cells #[.int .i64 0, .int .i64 0, .complex .f64 0 0] 43)).alloc (.cells #[.int .i64 0, .int .i64 0, .complex .f64 0 0] 43)) = W := ⟨_, rfl⟩
 have hk : Kp (fun _ => False) w W := by rw [← hW]; exact ((Kp.refl _ _).alloc _).alloc _
 have hW0 : W.cell? ⟨g, 14, none⟩ = some (.slice A n c) := hk.cellv h id
 have ct := ptake_any g base 43 A n c _ 1 W hW0 ((hk.frozen hlt id).trans hf) (RowF.kp hr hk fun _ _ h => h) hm
 have hzc : W.cell? ⟨w.heap.size, 0, none⟩ = some (.int .i64 0) ∧ W.cell? ⟨w.heap.size, 1, none⟩ = some (.int .i64 0) ∧ W.cell? ⟨w.heap.size, 2, none⟩ = some (.complex .f64 0 0) ∧ W.cell? ⟨w.heap.size + 1, 0, none⟩ = some (.int .i64 0) ∧ W.cell? ⟨w.heap.size + 1, 1, none⟩ = some (.int .i64 0) ∧ W.cell? ⟨w.heap.size + 1, 2, none⟩ = some (.complex .f64 0 0) := by
  have hb : Below (w.alloc (.cells #[.int .i64 0, .int .i64 0, .complex .f64 0 0] 43)).heap.size (w.alloc (.cells #[.int .i64 0, .int .i64 0, .complex .f64 0 0] 43)) ((w.alloc (.cells #[.int .i64 0, .int .i64 0, .complex .f64 0 0] 43)).alloc (.cells #[.int .i64 0, .int .i64 0, .complex .f64 0 0] 43)) := (Below.refl _ _).alloc (Nat.le_refl _) _
  have N1 := fun i v hv => (new_cells (w := w) (cs := #[.int .i64 0, .int .i64 0, .complex .f64 0 0]) (t := 43) hb i v hv).1
  have N2 := fun i v hv => (new_cells (w := (w.alloc (.cells #[.int .i64 0, .int .i64 0, .complex .f64 0 0] 43))) (cs := #[.int .i64 0, .int .i64 0, .complex .f64 0 0]) (t := 43) (Below.refl _ _) i v hv).1
  have e1 : (w.alloc (.cells #[.int .i64 0, .int .i64 0, .complex .f64 0 0] 43)).heap.size = w.heap.size + 1 := by simp
  rw [e1] at N2
  rw [← hW]
  exact ⟨N1 0 _ rfl, N1 1 _ rfl, N1 2 _ rfl, N2 0 _ rfl, N2 1 _ rfl, N2 2 _ rfl⟩
 have hzf : ∀ j, j < 3 → W.frozen? ⟨w.heap.size, j, none⟩ = false := by
  have hb : Below (w.alloc (.cells #[.int .i64 0, .int .i64 0, .complex .f64 0 0] 43)).heap.size (w.alloc (.cells #[.int .i64 0, .int .i64 0, .complex .f64 0 0] 43)) ((w.alloc (.cells #[.int .i64 0, .int .i64 0, .complex .f64 0 0] 43)).alloc (.cells #[.int .i64 0, .int .i64 0, .complex .f64 0 0] 43)) := (Below.refl _ _).alloc (Nat.le_refl _) _
  intro j hj
  rw [← hW]
  match j, hj with
  | 0, _ => exact (new_cells (w := w) (cs := #[.int .i64 0, .int .i64 0, .complex .f64 0 0]) (t := 43) hb 0 _ rfl).2
  | 1, _ => exact (new_cells (w := w) (cs := #[.int .i64 0, .int .i64 0, .complex .f64 0 0]) (t := 43) hb 1 _ rfl).2
  | 2, _ => exact (new_cells (w := w) (cs := #[.int .i64 0, .int .i64 0, .complex .f64 0 0]) (t := 43) hb 2 _ rfl).2
 have HX : Hid (∀ q m, ((W.drewN q).setCell ⟨g, 14, none⟩ (.slice A m m)).cell? ⟨w.heap.size, 0, none⟩ = some (.int .i64 0) ∧ ((W.drewN q).setCell ⟨g, 14, none⟩ (.slice A m m)).cell? ⟨w.heap.size, 1, none⟩ = some (.int .i64 0) ∧ ((W.drewN q).setCell ⟨g, 14, none⟩ (.slice A m m)).cell? ⟨w.heap.size, 2, none⟩ = some (.complex .f64 0 0) ∧ ((W.drewN q).setCell ⟨g, 14, none⟩ (.slice A m m)).cell? ⟨w.heap.size + 1, 0, none⟩ = some (.int .i64 0) ∧ ((W.drewN q).setCell ⟨g, 14, none⟩ (.slice A m m)).cell? ⟨w.heap.size + 1, 1, none⟩ = some (.int .i64 0) ∧ ((W.drewN q).setCell ⟨g, 14, none⟩ (.slice A m m)).cell? ⟨w.heap.size + 1, 2, none⟩ = some (.complex .f64 0 0) ∧ (∀ j, j < 3 → ((W.drewN q).setCell ⟨g, 14, none⟩ (.slice A m m)).frozen? ⟨w.heap.size, j, none⟩ = false) ∧ Popped 14 g A m w ((W.drewN q).setCell ⟨g, 14, none⟩ (.slice A m m))) := Hd fun q m => by
  have far : ∀ p : Addr, p.block ≠ g → ((W.drewN q).setCell ⟨g, 14, none⟩ (.slice A m m)).cell? p = W.cell? p := fun p hp => World.cell?_setCell_far _ _ _ _ (Ne.symm hp)
  have n1 : w.heap.size ≠ g := by omega
  have n2 : w.heap.size + 1 ≠ g := by omega
  obtain ⟨x0, x1, x2, y0, y1, y2⟩ := hzc
  exact ⟨(far ⟨w.heap.size, 0, none⟩ n1).trans x0, (far ⟨w.heap.size, 1, none⟩ n1).trans x1, (far ⟨w.heap.size, 2, none⟩ n1).trans x2, (far ⟨w.heap.size + 1, 0, none⟩ n2).trans y0, (far ⟨w.heap.size + 1, 1, none⟩ n2).trans y1, (far ⟨w.heap.size + 1, 2, none⟩ n2).trans y2, fun j hj => (World.frozen?_setCell _ _ _ _).trans (hzf j hj), (popped_of q hW0).pre hlt hk⟩
 have HE := Hd hW
 have HLT := Hd hlt
 cases n with
 | zero =>
  have hl0 : l = [] := List.eq_nil_of_length_eq_zero hl
  subst hl0
  rw [show topM 0 1 = 0 from rfl] at ct
  rw [show decide ((0 : Nat) < 0) = false from rfl]
  have ct := Hd ct
  clear h hf hr hk hW0 hW hzc hzf hlt hl
  go_in
  go_wp2_with fail
  rw [HE.out]
  refine ct.out.mono ?_
  rintro e w2 ⟨X, cX, q, rfl, -, -, rfl⟩
  obtain ⟨x0, x1, x2, y0, y1, y2, zf, hp⟩ := HX.out q 0
  have HP := Hd hp
  have f0 := zf 0 (by decide)
  have f1 := zf 1 (by decide)
  have f2 := zf 2 (by decide)
  generalize (W.drewN q).setCell ⟨g, 14, none⟩ (.slice A 0 0) = W2 at *
  clear hp zf HX ct
  go_wp2_with fail
  exact bodyPost_ret (v := .tuple #[.agg #[.int .i64 0, .int .i64 0, .complex .f64 0 0], .bool false]) (by simp [results, Tryz.results67, go_sem, x0, x1, x2]) rfl ⟨rfl, by repeat (first | exact HP.out | (refine Popped.far ?_ HLT.out _ _))⟩
 | succ n =>
  obtain ⟨a, ha⟩ : ∃ a, l[n]? = some a := ⟨l[n], List.getElem?_eq_getElem (by omega)⟩
  have htop : topV l = a := by unfold topV; rw [hl, Nat.add_sub_cancel, List.getD_eq_getElem?_getD, ha]; rfl
  rw [htop, show decide (0 < n + 1) = true from by simp, Nat.add_sub_cancel]
  obtain ⟨b, hA, hbb, hbw, s0, s1, s2, -⟩ := hr.at_ ha
  have hbg : b ≠ g := by omega
  rw [show topM (n + 1) 1 = 1 from by rw [topM_one]; rfl] at ct
  have HS : Hid (∀ q m, ((W.drewN q).setCell ⟨g, 14, none⟩ (.slice A m m)).cell? ⟨b, n * 3, none⟩ = some (.int .i64 a.k) ∧ ((W.drewN q).setCell ⟨g, 14, none⟩ (.slice A m m)).cell? ⟨b, n * 3 + 1, none⟩ = some (.int .i64 a.n) ∧ ((W.drewN q).setCell ⟨g, 14, none⟩ (.slice A m m)).cell? ⟨b, n * 3 + 2, none⟩ = some (.complex .f64 a.x a.y)) := Hd fun q m => by
   have far : ∀ p : Addr, p.block ≠ g → ((W.drewN q).setCell ⟨g, 14, none⟩ (.slice A m m)).cell? p = W.cell? p := fun p hp => World.cell?_setCell_far _ _ _ _ (Ne.symm hp)
   subst hA
   exact ⟨(far _ hbg).trans (hk.cellv s0 id), (far _ hbg).trans (hk.cellv s1 id), (far _ hbg).trans (hk.cellv s2 id)⟩
  have ct := Hd ct
  have HA := Hd hA
  obtain ⟨av, av1, av2, av3⟩ := a
  clear h hf hr hk hW0 hW hzc hzf hlt hl ha htop hA s0 s1 s2 hbb hbw hbg
  go_in
  go_wp2_with fail
  rw [HE.out]
  refine ct.out.mono ?_
  rintro e w2 ⟨X, cX, q, rfl, -, hX, rfl⟩
  obtain ⟨b', hA', rfl⟩ := hX (by decide)
  obtain rfl : b' = b := by
   rw [HA.out] at hA'
   injection hA' with hA'
   injection hA' with hA'
   exact hA'.symm
  rw [show n + 1 - 1 = n from rfl]
  obtain ⟨x0, x1, x2, y0, y1, y2, zf, hp⟩ := HX.out q n
  obtain ⟨s0, s1, s2⟩ := HS.out q n
  have HP := Hd hp
  have f0 := zf 0 (by decide)
  have f1 := zf 1 (by decide)
  have f2 := zf 2 (by decide)
  generalize (W.drewN q).setCell ⟨g, 14, none⟩ (.slice A n n) = W2 at *
  clear hp zf HX HS ct hA' HA
  go_wp2_with fail
  exact bodyPost_ret (v := .tuple #[vV av av1 av2 av3, .bool true]) (by simp [results, Tryz.results67, go_sem, x0, x1, x2]) rfl ⟨rfl, by repeat (first | exact HP.out | (refine Popped.far ?_ HLT.out _ _))⟩
theorem cpop_any (g base : Nat) (A : Option Addr) (n c : Nat) (l : List CW) (w : World) (h : w.cell? ⟨g, 15, none⟩ = some (.slice A n c)) (hf : w.frozen? ⟨g, 15, none⟩ = false) (hr : RowC w base A n c l) (hgb : g < base) (hm : n ≤ 100000000000) :
  Calls Tryz.prog 73 #[.pointer (some ⟨g, 15, none⟩)] w fun e w' => e = .returned (.tuple #[(.agg #[.int .i64 (topC l).f, .slice (topC l).A (topC l).n (topC l).c]), .bool (decide (0 < n))]) ∧ Popped 15 g A (n - 1) w w' := by
 have hl := hr.len
 have hlt : g < w.heap.size := World.block_lt_of_cell? _ _ h
 obtain ⟨W, hW⟩ : ∃ W, ((w.alloc (.cells #[.int .i64 0, .slice none 0 0] 149)).alloc (.cells #[.int .i64 0, .slice none 0 0] 149)) = W := ⟨_, rfl⟩
 have hk : Kp (fun _ => False) w W := by rw [← hW]; exact ((Kp.refl _ _).alloc _).alloc _
 have hW0 : W.cell? ⟨g, 15, none⟩ = some (.slice A n c) := hk.cellv h id
 have ct := ctake_any g base 149 A n c _ 1 W hW0 ((hk.frozen hlt id).trans hf) (RowF.kp hr hk fun _ _ h => h) hm
 have hzc : W.cell? ⟨w.heap.size, 0, none⟩ = some (.int .i64 0) ∧ W.cell? ⟨w.heap.size, 1, none⟩ = some (.slice none 0 0) ∧ W.cell? ⟨w.heap.size + 1, 0, none⟩ = some (.int .i64 0) ∧ W.cell? ⟨w.heap.size + 1, 1, none⟩ = some (.slice none 0 0) := by
  have hb : Below (w.alloc (.cells #[.int .i64 0, .slice none 0 0] 149)).heap.size (w.alloc (.cells #[.int .i64 0, .slice none 0 0] 149)) ((w.alloc (.cells #[.int .i64 0, .slice none 0 0] 149)).alloc (.cells #[.int .i64 0, .slice none 0 0] 149)) := (Below.refl _ _).alloc (Nat.le_refl _) _
  have N1 := fun i v hv => (new_cells (w := w) (cs := #[.int .i64 0, .slice none 0 0]) (t := 149) hb i v hv).1
  have N2 := fun i v hv => (new_cells (w := (w.alloc (.cells #[.int .i64 0, .slice none 0 0] 149))) (cs := #[.int .i64 0, .slice none 0 0]) (t := 149) (Below.refl _ _) i v hv).1
  have e1 : (w.alloc (.cells #[.int .i64 0, .slice none 0 0] 149)).heap.size = w.heap.size + 1 := by simp
  rw [e1] at N2
  rw [← hW]
  exact ⟨N1 0 _ rfl, N1 1 _ rfl, N2 0 _ rfl, N2 1 _ rfl⟩
 have hzf : ∀ j, j < 2 → W.frozen? ⟨w.heap.size, j, none⟩ = false := by
  have hb : Below (w.alloc (.cells #[.int .i64 0, .slice none 0 0] 149)).heap.size (w.alloc (.cells #[.int .i64 0, .slice none 0 0] 149)) ((w.alloc (.cells #[.int .i64 0, .slice none 0 0] 149)).alloc (.cells #[.int .i64 0, .slice none 0 0] 149)) := (Below.refl _ _).alloc (Nat.le_refl _) _
  intro j hj
  rw [← hW]
  match j, hj with
  | 0, _ => exact (new_cells (w := w) (cs := #[.int .i64 0, .slice none 0 0]) (t := 149) hb 0 _ rfl).2
  | 1, _ => exact (new_cells (w := w) (cs := #[.int .i64 0, .slice none 0 0]) (t := 149) hb 1 _ rfl).2
 have HX : Hid (∀ q m, ((W.drewN q).setCell ⟨g, 15, none⟩ (.slice A m m)).cell? ⟨w.heap.size, 0, none⟩ = some (.int .i64 0) ∧ ((W.drewN q).setCell ⟨g, 15, none⟩ (.slice A m m)).cell? ⟨w.heap.size, 1, none⟩ = some (.slice none 0 0) ∧ ((W.drewN q).setCell ⟨g, 15, none⟩ (.slice A m m)).cell? ⟨w.heap.size + 1, 0, none⟩ = some (.int .i64 0) ∧ ((W.drewN q).setCell ⟨g, 15, none⟩ (.slice A m m)).cell? ⟨w.heap.size + 1, 1, none⟩ = some (.slice none 0 0) ∧ (∀ j, j < 2 → ((W.drewN q).setCell ⟨g, 15, none⟩ (.slice A m m)).frozen? ⟨w.heap.size, j, none⟩ = false) ∧ Popped 15 g A m w ((W.drewN q).setCell ⟨g, 15, none⟩ (.slice A m m))) := Hd fun q m => by
  have far : ∀ p : Addr, p.block ≠ g → ((W.drewN q).setCell ⟨g, 15, none⟩ (.slice A m m)).cell? p = W.cell? p := fun p hp => World.cell?_setCell_far _ _ _ _ (Ne.symm hp)
  have n1 : w.heap.size ≠ g := by omega
  have n2 : w.heap.size + 1 ≠ g := by omega
  obtain ⟨x0, x1, y0, y1⟩ := hzc
  exact ⟨(far ⟨w.heap.size, 0, none⟩ n1).trans x0, (far ⟨w.heap.size, 1, none⟩ n1).trans x1, (far ⟨w.heap.size + 1, 0, none⟩ n2).trans y0, (far ⟨w.heap.size + 1, 1, none⟩ n2).trans y1, fun j hj => (World.frozen?_setCell _ _ _ _).trans (hzf j hj), (popped_of q hW0).pre hlt hk⟩
 have HE := Hd hW
 have HLT := Hd hlt
 cases n with
 | zero =>
  have hl0 : l = [] := List.eq_nil_of_length_eq_zero hl
  subst hl0
  rw [show topM 0 1 = 0 from rfl] at ct
  rw [show decide ((0 : Nat) < 0) = false from rfl]
  have ct := Hd ct
  clear h hf hr hk hW0 hW hzc hzf hlt hl
  go_in
  go_wp2_with fail
  rw [HE.out]
  refine ct.out.mono ?_
  rintro e w2 ⟨X, cX, q, rfl, -, -, rfl⟩
  obtain ⟨x0, x1, y0, y1, zf, hp⟩ := HX.out q 0
  have HP := Hd hp
  have f0 := zf 0 (by decide)
  have f1 := zf 1 (by decide)
  generalize (W.drewN q).setCell ⟨g, 15, none⟩ (.slice A 0 0) = W2 at *
  clear hp zf HX ct
  go_wp2_with fail
  exact bodyPost_ret (v := .tuple #[.agg #[.int .i64 0, .slice none 0 0], .bool false]) (by simp [results, Tryz.results73, go_sem, x0, x1]) rfl ⟨rfl, by repeat (first | exact HP.out | (refine Popped.far ?_ HLT.out _ _))⟩
 | succ n =>
  obtain ⟨a, ha⟩ : ∃ a, l[n]? = some a := ⟨l[n], List.getElem?_eq_getElem (by omega)⟩
  have htop : topC l = a := by unfold topC; rw [hl, Nat.add_sub_cancel, List.getD_eq_getElem?_getD, ha]; rfl
  rw [htop, show decide (0 < n + 1) = true from by simp, Nat.add_sub_cancel]
  obtain ⟨b, hA, hbb, hbw, s0, s1⟩ := hr.at_ ha
  have hbg : b ≠ g := by omega
  rw [show topM (n + 1) 1 = 1 from by rw [topM_one]; rfl] at ct
  have HS : Hid (∀ q m, ((W.drewN q).setCell ⟨g, 15, none⟩ (.slice A m m)).cell? ⟨b, n * 2, none⟩ = some (.int .i64 a.f) ∧ ((W.drewN q).setCell ⟨g, 15, none⟩ (.slice A m m)).cell? ⟨b, n * 2 + 1, none⟩ = some (.slice a.A a.n a.c)) := Hd fun q m => by
   have far : ∀ p : Addr, p.block ≠ g → ((W.drewN q).setCell ⟨g, 15, none⟩ (.slice A m m)).cell? p = W.cell? p := fun p hp => World.cell?_setCell_far _ _ _ _ (Ne.symm hp)
   subst hA
   exact ⟨(far _ hbg).trans (hk.cellv s0 id), (far _ hbg).trans (hk.cellv s1 id)⟩
  have ct := Hd ct
  have HA := Hd hA
  obtain ⟨af, aA, an, ac, al⟩ := a
  clear h hf hr hk hW0 hW hzc hzf hlt hl ha htop hA s0 s1 hbb hbw hbg
  go_in
  go_wp2_with fail
  rw [HE.out]
  refine ct.out.mono ?_
  rintro e w2 ⟨X, cX, q, rfl, -, hX, rfl⟩
  obtain ⟨b', hA', rfl⟩ := hX (by decide)
  obtain rfl : b' = b := by
   rw [HA.out] at hA'
   injection hA' with hA'
   injection hA' with hA'
   exact hA'.symm
  rw [show n + 1 - 1 = n from rfl]
  obtain ⟨x0, x1, y0, y1, zf, hp⟩ := HX.out q n
  obtain ⟨s0, s1⟩ := HS.out q n
  have HP := Hd hp
  have f0 := zf 0 (by decide)
  have f1 := zf 1 (by decide)
  generalize (W.drewN q).setCell ⟨g, 15, none⟩ (.slice A n n) = W2 at *
  clear hp zf HX HS ct hA' HA
  go_wp2_with fail
  exact bodyPost_ret (v := .tuple #[.agg #[.int .i64 af, .slice aA an ac], .bool true]) (by simp [results, Tryz.results73, go_sem, x0, x1]) rfl ⟨rfl, by repeat (first | exact HP.out | (refine Popped.far ?_ HLT.out _ _))⟩
end Go.Proofs.YtobmjnmcjddhcaaGreat
namespace Go.Proofs.YtobmjnmcjddhcaaGreat
open Go.RowKit
attribute [local go_sem] run_store_cplx
theorem flat_take {α : Type} (f : α → List Value) (n : Nat) (hf : ∀ a, (f a).length = n) (l : List α) (k : Nat) : (l.flatMap f).take (k * n) = (l.take k).flatMap f := by
 induction l generalizing k with
 | nil => simp
 | cons a l ih =>
  cases k with
  | zero => simp
  | succ k =>
   rw [List.flatMap_cons, List.take_succ_cons, List.flatMap_cons, ← ih k, Nat.succ_mul, Nat.add_comm, ← hf a, List.take_length_add_append, hf]
theorem rowVl_snoc (l : List DV) (a : DV) : rowVl (l ++ [a]) = rowVl l ++ [.int .i64 a.k, .int .i64 a.n, .complex .f64 a.x a.y] := by
 unfold rowVl
 rw [List.flatMap_append]
 simp [DV.c]
theorem rowC_snoc (l : List CW) (q : CW) : rowC (l ++ [q]) = rowC l ++ [.int .i64 q.f, .slice q.A q.n q.c] := by
 unfold rowC
 rw [List.flatMap_append]
 simp [CW.c']
theorem RowV.cut {w : World} {base : Nat} {A : Option Addr} {n c : Nat} {l : List DV} (h : RowV w base A n c l) {k : Nat} (hk : k ≤ n) : RowV w base A k k (l.take k) := by
 have := RowF.cut h hk
 rwa [flat_take DV.c 3 DV.len] at this
theorem RowC.cut {w : World} {base : Nat} {A : Option Addr} {n c : Nat} {l : List CW} (h : RowC w base A n c l) {k : Nat} (hk : k ≤ n) : RowC w base A k k (l.take k) := by
 have := RowF.cut h hk
 rwa [flat_take CW.c' 2 CW.len] at this
theorem Pushed.pre {i base : Nat} {e : TypeId} {sz g n c' : Nat} {A A' : Option Addr} {xs : List Value} {w w1 w' : World} (h : Pushed i base e sz g A n xs A' c' w1 w') (hg : g < w.heap.size) (hk : Kp (fun _ => False) w w1) : Pushed i base e sz g A n xs A' c' w w' :=
 ⟨(hk.mono fun _ _ h => h.elim).trans h.kp, h.ci, fun j hj => (h.co j hj).trans (hk.cell hg id), fun j => (h.fz j).trans (hk.frozen hg id), h.row, by
  rcases h.nw with h | h | ⟨k, h, hk'⟩
  ·exact .inl h
  ·exact .inr (.inl h)
  ·exact .inr (.inr ⟨k, h, Nat.le_trans hk.size hk'⟩)⟩
theorem fpush_any (g base : Nat) (A : Option Addr) (n c : Nat) (l : List DV) (a : DV) (w : World) (h : w.cell? ⟨g, 14, none⟩ = some (.slice A n c)) (hf : w.frozen? ⟨g, 14, none⟩ = false) (hr : RowV w base A n c l) (hgb : g < base) (hbs : base ≤ w.heap.size) (hn : n ≤ 100000) :
  Calls Tryz.prog 37 #[.pointer (some ⟨g, 0, none⟩), a.v] w fun e w' => (∃ u, e = .returned u) ∧ ∃ A' c', Pushed 14 base 43 3 g A n (rowVl (l ++ [a])) A' c' w w' := by
 rw [rowVl_snoc]
 obtain ⟨vk, vn, vx, vy⟩ := a
 rw [show (⟨vk, vn, vx, vy⟩ : DV).v = .agg #[.int .i64 vk, .int .i64 vn, .complex .f64 vx vy] from rfl]
 dsimp only
 have hlt : g < w.heap.size := World.block_lt_of_cell? _ _ h
 have hk1 : Kp (fun _ => False) w (w.alloc (.cells #[.int .i64 vk, .int .i64 vn, .complex .f64 vx vy] 43)).drew := ((Kp.refl _ _).alloc _).drew
 have c1 := Hd (ppush_any g base A n c (rowVl l) vk vn vx vy (w.alloc (.cells #[.int .i64 vk, .int .i64 vn, .complex .f64 vx vy] 43)).drew (hk1.cellv h id) ((hk1.frozen hlt id).trans hf) (RowF.kp hr hk1 fun _ _ h => h) hgb (Nat.le_trans hbs hk1.size) hn)
 have HP : Hid (∀ A' c' w', Pushed 14 base 43 3 g A n (rowVl l ++ [.int .i64 vk, .int .i64 vn, .complex .f64 vx vy]) A' c' (w.alloc (.cells #[.int .i64 vk, .int .i64 vn, .complex .f64 vx vy] 43)).drew w' → Pushed 14 base 43 3 g A n (rowVl l ++ [.int .i64 vk, .int .i64 vn, .complex .f64 vx vy]) A' c' w w') := Hd fun A' c' w' h => h.pre hlt hk1
 clear h hf hr hk1
 go_in
 go_wp2_with fail
 go_region_with (first | (go_at_call 66; refine c1.out.mono ?_; rintro e w2 ⟨⟨u, rfl⟩, A', c', hp⟩))
 all_goals
  have HP2 := Hd (HP.out _ _ _ hp)
  clear hp
  go_wp2_with fail
  go_end0
  exact ⟨⟨_, rfl⟩, _, _, HP2.out⟩
theorem fpop_any (g base : Nat) (A : Option Addr) (n c : Nat) (l : List DV) (w : World) (h : w.cell? ⟨g, 14, none⟩ = some (.slice A n c)) (hf : w.frozen? ⟨g, 14, none⟩ = false) (hr : RowV w base A n c l) (hgb : g < base) (hm : n ≤ 100000000000) :
  Calls Tryz.prog 38 #[.pointer (some ⟨g, 0, none⟩)] w fun e w' => e = .returned (topV l).v ∧ Popped 14 g A (n - 1) w w' := by
 have hlt : g < w.heap.size := World.block_lt_of_cell? _ _ h
 have hk : Kp (fun _ => False) w (w.alloc (.cells #[.int .i64 0, .int .i64 0, .complex .f64 0 0] 43)) := (Kp.refl _ _).alloc _
 have cp := ppop_any g base A n c l (w.alloc (.cells #[.int .i64 0, .int .i64 0, .complex .f64 0 0] 43)) (hk.cellv h id) ((hk.frozen hlt id).trans hf) (RowF.kp hr hk fun _ _ h => h) hgb hm
 have HPP : Hid (∀ W, Popped 14 g A (n - 1) (w.alloc (.cells #[.int .i64 0, .int .i64 0, .complex .f64 0 0] 43)) W → Popped 14 g A (n - 1) w W) := Hd fun W hW => hW.pre hlt hk
 obtain ⟨t, ht⟩ : ∃ t, topV l = t := ⟨_, rfl⟩
 rw [ht] at cp ⊢
 obtain ⟨k, nn, x, y⟩ := t
 rw [show (⟨k, nn, x, y⟩ : DV).v = .agg #[.int .i64 k, .int .i64 nn, .complex .f64 x y] from rfl] at cp ⊢
 have HG : Hid (¬ w.heap.size = g) := Hd (by omega)
 have HL : Hid (g < w.heap.size) := Hd hlt
 have cp := Hd cp
 obtain ⟨bb, hbb⟩ : ∃ bb, decide (0 < n) = bb := ⟨_, rfl⟩
 rw [hbb] at cp
 clear h hf hlt hk hr ht hbb
 go_in
 go_wp2_with fail
 refine cp.out.mono ?_
 rintro e w2 ⟨rfl, hp⟩
 have N := fun i v h => new_cells (w := w) (cs := #[.int .i64 0, .int .i64 0, .complex .f64 0 0]) (t := 43) (Below.refl _ _) i v h
 have hk2 : Kp (fun _ => False) w2 (w2.alloc (.cells #[.int .i64 k, .int .i64 nn, .complex .f64 x y] 43)) := (Kp.refl _ _).alloc _
 have hk9 : Kp (fun k => k = g) _ (w2.alloc (.cells #[.int .i64 k, .int .i64 nn, .complex .f64 x y] 43)) := hp.kp.trans (hk2.mono fun _ _ h => h.elim)
 have x0 : (w2.alloc (.cells #[.int .i64 k, .int .i64 nn, .complex .f64 x y] 43)).cell? ⟨w.heap.size, 0, none⟩ = some (.int .i64 0) := hk9.cellv (N 0 (.int .i64 0) rfl).1 HG.out
 have f0 : (w2.alloc (.cells #[.int .i64 k, .int .i64 nn, .complex .f64 x y] 43)).frozen? ⟨w.heap.size, 0, none⟩ = false := (hk9.frozen (p := ⟨w.heap.size, 0, none⟩) (by simp) HG.out).trans (N 0 (.int .i64 0) rfl).2
 have x1 : (w2.alloc (.cells #[.int .i64 k, .int .i64 nn, .complex .f64 x y] 43)).cell? ⟨w.heap.size, 1, none⟩ = some (.int .i64 0) := hk9.cellv (N 1 (.int .i64 0) rfl).1 HG.out
 have f1 : (w2.alloc (.cells #[.int .i64 k, .int .i64 nn, .complex .f64 x y] 43)).frozen? ⟨w.heap.size, 1, none⟩ = false := (hk9.frozen (p := ⟨w.heap.size, 1, none⟩) (by simp) HG.out).trans (N 1 (.int .i64 0) rfl).2
 have x2 : (w2.alloc (.cells #[.int .i64 k, .int .i64 nn, .complex .f64 x y] 43)).cell? ⟨w.heap.size, 2, none⟩ = some (.complex .f64 0 0) := hk9.cellv (N 2 (.complex .f64 0 0) rfl).1 HG.out
 have f2 : (w2.alloc (.cells #[.int .i64 k, .int .i64 nn, .complex .f64 x y] 43)).frozen? ⟨w.heap.size, 2, none⟩ = false := (hk9.frozen (p := ⟨w.heap.size, 2, none⟩) (by simp) HG.out).trans (N 2 (.complex .f64 0 0) rfl).2
 have HP : Hid (Popped 14 g A (n - 1) w (w2.alloc (.cells #[.int .i64 k, .int .i64 nn, .complex .f64 x y] 43))) := Hd ((HPP.out _ hp).on (bl_one _))
 clear hp N cp hk2 hk9 HPP
 go_wp2_with fail
 exact bodyPost_ret (v := vV k nn x y) (by simp [results, Tryz.results38, go_sem, x0, x1, x2]) rfl ⟨rfl, by repeat (first | exact HP.out | (refine Popped.far ?_ HL.out _ _))⟩
theorem srcv_nil (w : World) (X : Option Addr) : SrcV w X 0 [] := ⟨rfl, fun _ => rfl, rfl, fun _ => rfl, fun ad _ j u hj => by simp at hj⟩
theorem ftake_any (g base : Nat) (A : Option Addr) (n c : Nat) (l : List DV) (i : Int) (w : World) (h : w.cell? ⟨g, 14, none⟩ = some (.slice A n c)) (hf : w.frozen? ⟨g, 14, none⟩ = false) (hr : RowV w base A n c l) (hgb : g < base) (hm : n ≤ 100000000000) (hn : n ≤ 100000) :
  Calls Tryz.prog 42 #[.pointer (some ⟨g, 0, none⟩), .int .i64 i] w fun e w' => ∃ A' c', e = .returned (.slice A' (topM n i) c') ∧ w'.ownsRow w.heap.size 43 3 (.slice A' (topM n i) c') (topM n i) (rowVl (l.drop (n - topM n i))) ∧ Popped 14 g A (n - topM n i) w w' := by
 have hlt : g < w.heap.size := World.block_lt_of_cell? _ _ h
 have hl := hr.len
 have hk : topM n i ≤ n := by unfold topM; omega
 have ct := Hd (ptake_any g base 43 A n c (rowVl l) i w h hf hr hm)
 obtain ⟨k, hkk⟩ : ∃ k, topM n i = k := ⟨_, rfl⟩
 rw [hkk] at ct hk ⊢
 have HC : Hid (∀ X cX q, (X = none → k = 0) → (0 < k → ∃ b, A = some ⟨b, 0, none⟩ ∧ X = some ⟨b, (n - k) * 3, none⟩) → Popped 14 g A (n - k) w ((w.drewN q).setCell ⟨g, 14, none⟩ (.slice A (n - k) (n - k))) ∧ Calls Tryz.prog 50 #[.slice X k cX] ((w.drewN q).setCell ⟨g, 14, none⟩ (.slice A (n - k) (n - k))) (IsRowV (l.drop (n - k)) ((w.drewN q).setCell ⟨g, 14, none⟩ (.slice A (n - k) (n - k))))) := Hd fun X cX q h0 h1 => by
  have hp : Popped 14 g A (n - k) w ((w.drewN q).setCell ⟨g, 14, none⟩ (.slice A (n - k) (n - k))) := popped_of q h
  refine ⟨hp, clonev_any X k cX _ _ ?_ (by omega)⟩
  rcases Nat.eq_zero_or_pos k with rfl | hk0
  ·rw [show l.drop (n - 0) = [] from by rw [Nat.sub_zero, List.drop_eq_nil_of_le (by omega)]]
   exact srcv_nil _ _
  ·obtain ⟨b, rfl, rfl⟩ := h1 hk0
   have hr2 : RowV ((w.drewN q).setCell ⟨g, 14, none⟩ (.slice (some ⟨b, 0, none⟩) (n - k) (n - k))) base (some ⟨b, 0, none⟩) n c l := RowF.kp hr hp.kp fun r hr' e => by have := (row_ge hr hr').1; omega
   have hs := RowV.srcv hr2 (i := n - k) (m := k) (by omega)
   rw [List.take_of_length_le (by rw [List.length_drop]; omega)] at hs
   exact hs
 have HLD : Hid ((l.drop (n - k)).length = k) := Hd (by rw [List.length_drop]; omega)
 clear h hf hr hl hk hkk
 go_in
 go_wp2_with fail
 refine ct.out.mono ?_
 rintro e w2 ⟨X, cX, q, rfl, hX0, hX1, rfl⟩
 obtain ⟨hp, cc⟩ := HC.out X cX q hX0 hX1
 have HP := Hd hp
 have cc := Hd cc
 have HZ : Hid (((w.drewN q).setCell ⟨g, 14, none⟩ (.slice A (n - k) (n - k))).heap.size = w.heap.size) := Hd (by simp)
 generalize (w.drewN q).setCell ⟨g, 14, none⟩ (.slice A (n - k) (n - k)) = W2 at *
 clear hp hX0 hX1 HC ct
 go_wp2_with fail
 refine cc.out.mono ?_
 rintro e w4 ⟨A', n', c', rfl, ho, hb4⟩
 have hn' : n' = k := by
  have h1 := ho.1
  rw [flatMap_len DV.c DV.len, HLD.out] at h1
  omega
 subst hn'
 have HO := Hd (own_less ho (Nat.le_of_eq HZ.out.symm))
 have HP4 := Hd (HP.out.on hb4)
 clear ho hb4 cc
 go_wp2_with fail
 go_ret
 exact ⟨A', c', rfl, HO.out, HP4.out⟩
def IsDefer (g base : Nat) (A : Option Addr) (n : Nat) (cs : List CW) (f : Int) (l : List DV) (w : World) (e : Ending) (w' : World) : Prop := (∃ u, e = .returned u) ∧ ∃ (q : CW) (A' : Option Addr) (c' : Nat), q.f = f ∧ q.l = l ∧ (q.n ≤ q.c ∧ q.c ≤ maxLen) ∧ Rdv (fun j => j < w.heap.size ∨ A' = some ⟨j, 0, none⟩) w' q.A q.n 3 (rowVl q.l) ∧ Pushed 15 base 149 2 g A n (rowC (cs ++ [q])) A' c' w w'
theorem fdefer_any (g base : Nat) (A : Option Addr) (n c : Nat) (cs : List CW) (f : Int) (B : Option Addr) (m mc : Nat) (l : List DV) (w : World) (h : w.cell? ⟨g, 15, none⟩ = some (.slice A n c)) (hf : w.frozen? ⟨g, 15, none⟩ = false) (hr : RowC w base A n c cs) (hgb : g < base) (hbs : base ≤ w.heap.size) (hn : n ≤ 100000) (hs : SrcV w B m l) (hm : m ≤ 100000) :
  Calls Tryz.prog 46 #[.pointer (some ⟨g, 0, none⟩), .int .i64 f, .slice B m mc] w (IsDefer g base A n cs f l w) := by
 have hlt : g < w.heap.size := World.block_lt_of_cell? _ _ h
 have cC := Hd (clonev_any B m mc l w.drew ⟨hs.len, hs.nil_, hs.src⟩ hm)
 have HN : Hid (∀ (A1 : Option Addr) (n1 c1 : Nat) (W : World), W.ownsRow w.drew.heap.size 43 3 (.slice A1 n1 c1) n1 (rowVl l) → Below w.drew.heap.size w.drew W →
   Calls Tryz.prog 72 #[.pointer (some ⟨g, 15, none⟩), .agg #[.int .i64 f, .slice A1 n1 c1]] W (IsDefer g base A n cs f l w)) := Hd fun A1 n1 c1 W ho hb => by
  have hk : Kp (fun _ => False) w W := (Kp.refl _ w).drew.ofBelow hb
  refine (cpush_any g base A n c (rowC cs) f A1 n1 c1 W (hk.cellv h id) ((hk.frozen hlt id).trans hf) (RowF.kp hr hk fun _ _ h => h) hgb (Nat.le_trans hbs hk.size) hn).mono ?_
  rintro e w' ⟨hu, A', c', hp⟩
  refine ⟨hu, ⟨f, A1, n1, c1, l⟩, A', c', rfl, rfl, ⟨(RowF.ofOwn ho).2.1, (RowF.ofOwn ho).2.2.1⟩, ?_, ?_⟩
  ·have r1 : Rdv (fun j => j < w.heap.size ∨ A' = some ⟨j, 0, none⟩) W A1 n1 3 (rowVl l) := Rdv.own ho fun j h1 h2 hF => by
    have hz : w.drew.heap.size = w.heap.size := rfl
    rcases hF with hF | hF
    ·omega
    ·rcases hp.nw with e | e | ⟨k, e, hk'⟩
     ·rw [e] at hF
      have := (row_ge hr hF).2
      omega
     ·rw [e] at hF; cases hF
     ·rw [e] at hF
      injection hF with hF
      injection hF with hF
      omega
   have r2 : Rdv (fun j => j < w.heap.size) W A1 n1 3 (rowVl l) := Rdv.own ho fun j h1 h2 hF => by
    have hz : w.drew.heap.size = w.heap.size := rfl
    omega
   have r3 := r2.kp hp.kp fun j hj hS => by
    rcases hS with rfl | hS
    ·exact hlt
    ·exact (row_ge hr hS).2
   exact ⟨r3.src, fun ad ha => by
    obtain ⟨b, off, e, hb', hF⟩ := r1.at_ ad ha
    exact ⟨b, off, e, Nat.lt_of_lt_of_le hb' hp.kp.size, hF⟩⟩
  ·have hp' := hp.pre hlt hk
   rw [rowC_snoc]
   exact hp'
 clear h hf hr hs hlt
 go_in
 go_wp2_with fail
 refine wp_region_held (S := fun _ => True) (by kernel_rfl) ?_
 change wpAnyH _ _ _ _ _ _ _ _ (World.drew _)
 refine tkH 0 rfl (by intro W hW; go_simp; first | done | rfl) trivial ?_
 try go_simp
 refine tkH 1 rfl (by intro W hW; go_simp; first | done | rfl) trivial ?_
 try go_simp
 refine tkH 2 rfl (by intro W hW; go_simp; first | done | rfl) trivial ?_
 try go_simp
 refine tkH 3 rfl (by intro W hW; go_simp; first | done | rfl) trivial ?_
 try go_simp
 refine tkH 4 rfl (by intro W hW; go_simp; first | done | rfl) trivial ?_
 try go_simp
 refine wpAnyH_one (i := 5) (by kernel_rfl) rfl (fun K hK => ?_)
 go_simp
 refine cC.out.mono ?_
 rintro e w1 ⟨A1, n1, c1, rfl, ho, hb⟩
 have cN := Hd (HN.out A1 n1 c1 w1 ho hb)
 clear ho hb cC HN
 go_simp
 refine hK _ _ ⟨trivial, ?_⟩; clear hK K
 try go_simp
 refine tkH 6 rfl (by intro W hW; go_simp; first | done | rfl) trivial ?_
 try go_simp
 refine wpAnyH_one (i := 7) (by kernel_rfl) rfl (fun K hK => ?_)
 go_simp
 refine cN.out.mono ?_
 rintro e w2 ⟨⟨u, rfl⟩, hd⟩
 have HD := Hd hd
 clear hd cN
 go_simp
 refine hK _ _ ⟨trivial, ?_⟩; clear hK K
 refine wpAnyH_done (by kernel_rfl) ?_ _
 go_wp2_with fail
 go_end0
 exact ⟨⟨_, rfl⟩, HD.out⟩
theorem fnext_any (g base : Nat) (A : Option Addr) (n c : Nat) (cs : List CW) (w : World) (h : w.cell? ⟨g, 15, none⟩ = some (.slice A n c)) (hf : w.frozen? ⟨g, 15, none⟩ = false) (hr : RowC w base A n c cs) (hgb : g < base) (hm : n ≤ 100000000000) :
  Calls Tryz.prog 47 #[.pointer (some ⟨g, 0, none⟩)] w fun e w' => e = .returned (.tuple #[.int .i64 (topC cs).f, .slice (topC cs).A (topC cs).n (topC cs).c, .bool (decide (0 < n))]) ∧ Popped 15 g A (n - 1) w w' := by
 have cp := cpop_any g base A n c cs w h hf hr hgb hm
 obtain ⟨t, ht⟩ : ∃ t, topC cs = t := ⟨_, rfl⟩
 rw [ht] at cp ⊢
 obtain ⟨qf, qA, qn, qc, ql⟩ := t
 dsimp only at cp ⊢
 obtain ⟨bb, hbb⟩ : ∃ bb, decide (0 < n) = bb := ⟨_, rfl⟩
 rw [hbb] at cp ⊢
 have cp := Hd cp
 clear h hf hr ht hbb
 go_in
 go_wp2_with fail
 refine cp.out.mono ?_
 rintro e w2 ⟨rfl, hp⟩
 obtain ⟨w3, hw3⟩ : ∃ X, w2.alloc (.cells #[.int .i64 qf, .slice qA qn qc] 149) = X := ⟨_, rfl⟩
 obtain ⟨z, hz⟩ : ∃ z, w2.heap.size = z := ⟨_, rfl⟩
 have N : ∀ i v, #[Value.int .i64 qf, .slice qA qn qc][i]? = some v → w3.cell? ⟨z, i, none⟩ = some v := fun i v hv => by
  rw [← hz, ← hw3]
  exact (new_cells (Below.refl _ _) i v hv).1
 have x0 := N 0 _ rfl
 have x1 := N 1 _ rfl
 have HP : Hid (Popped 15 g A (n - 1) w w3) := Hd (by rw [← hw3]; exact hp.on (bl_one _))
 clear hp N cp
 go_wp2_with fail
 go_quiet (fail)
 go_wp2_with fail
 exact bodyPost_ret (v := .tuple #[.int .i64 qf, .slice qA qn qc, .bool bb]) (by simp [results, Tryz.results47, go_sem]) rfl ⟨rfl, HP.out.on (below_drewN' (Below.refl _ _) _)⟩
end Go.Proofs.YtobmjnmcjddhcaaGreat
namespace Go.Proofs.YtobmjnmcjddhcaaGreat
open Go.RowKit
attribute [local go_sem] run_store_cplx
theorem join_any (r : Nat) (A1 A2 A3 : Option Addr) (n1 c1 n2 c2 n3 c3 : Nat) (xs ys zs : List Value) (w : World) (S1 : Hid (∀ W, Below w.heap.size w W → SrcCells W A1 n1 1 xs)) (S2 : Hid (∀ W, Below w.heap.size w W → SrcCells W A2 n2 1 ys)) (S3 : Hid (∀ W, Below w.heap.size w W → SrcCells W A3 n3 1 zs))
  (O1 : Hid (∀ u ∈ xs, u.oneCell' = true)) (O2 : Hid (∀ u ∈ ys, u.oneCell' = true)) (O3 : Hid (∀ u ∈ zs, u.oneCell' = true)) (hn : n1 ≤ 1000 ∧ n2 ≤ 1000 ∧ n3 ≤ 1000) (h0 : w.cell? ⟨r, 0, none⟩ = some (.slice A1 n1 c1)) (h1 : w.cell? ⟨r, 1, none⟩ = some (.slice A2 n2 c2)) (h2 : w.cell? ⟨r, 2, none⟩ = some (.slice A3 n3 c3)) : Calls Tryz.prog 69 #[.slice (some ⟨r, 0, none⟩) 3 3] w (IsTRow (n1 + n2 + n3) ((xs ++ ys) ++ zs) w) := by
 obtain ⟨i0, hi, hz0, hz1, hz2⟩ := info_parts info_ty
 have hr0 : r < w.heap.size := World.block_lt_of_cell? _ _ h0
 have HR := Hd hr0
 obtain ⟨hn1, hn2, hn3⟩ := hn
 clear hr0
 go_in
 go_wp2_with fail
 refine wp_loop_rounds 4 ?_
 rw [rounds_succ]
 go_wp2_with (first
   | (at_builtin; go_must (refine wpList_append_src _ rfl _ _ 32 rfl w.heap.size 40 i0 (.int .i64 0) 1 8 Tryz.underlying32 hi hz0 hz1 hz2 rfl (by decide) _ _ _ rfl (World.ownsRow_nil _ _ _ _) A1 n1 c1 xs rfl (S1.out _ (Below.refl _ _)) O1.out (by unfold maxLen; omega) (by omega) (Nat.le_refl _) ?_)
      intro v1 w1 hown1 hgrow1 hat1
      rw [List.nil_append, Nat.zero_add] at hown1
      obtain ⟨D1, d1, rfl, o1, b1⟩ := app2 (Below.refl _ _) hown1 hgrow1 (fun j hj => by cases hj)
      have P1 := Hd o1
      have B1 := Hd b1
      have q1 : w1.cell? ⟨r, 1, none⟩ = some (.slice A2 n2 c2) := (b1.cell HR.out).trans h1
      have q2 : w1.cell? ⟨r, 2, none⟩ = some (.slice A3 n3 c3) := (b1.cell HR.out).trans h2
      clear hown1 hgrow1 hat1 o1 b1))
 rw [rounds_succ]
 have hs1 := B1.out.size
 go_wp2_with (first
   | (at_builtin; go_must (refine wpList_append_src _ rfl _ _ 32 rfl w.heap.size 40 i0 (.int .i64 0) 1 8 Tryz.underlying32 hi hz0 hz1 hz2 rfl (by decide) _ _ _ rfl P1.out A2 n2 c2 ys rfl (S2.out _ B1.out) O2.out (by unfold maxLen; omega) (by omega) hs1 ?_)
      intro v2 w2 hown2 hgrow2 hat2
      obtain ⟨D2, d2, rfl, o2, b2⟩ := app2 B1.out hown2 hgrow2 (fun j hj => (P1.out.lt j hj).1)
      have P2 := Hd o2
      have B2 := Hd b2
      have p2 : w2.cell? ⟨r, 2, none⟩ = some (.slice A3 n3 c3) := (b2.cell HR.out).trans h2
      clear hown2 hgrow2 hat2 o2 b2))
 rw [rounds_succ]
 have hs2 := B2.out.size
 go_wp2_with (first
   | (at_builtin; go_must (refine wpList_append_src _ rfl _ _ 32 rfl w.heap.size 40 i0 (.int .i64 0) 1 8 Tryz.underlying32 hi hz0 hz1 hz2 rfl (by decide) _ _ _ rfl P2.out A3 n3 c3 zs rfl (S3.out _ B2.out) O3.out (by unfold maxLen; omega) (by omega) hs2 ?_)
      intro v3 w3 hown3 hgrow3 hat3
      obtain ⟨D3, d3, rfl, o3, b3⟩ := app2 B2.out hown3 hgrow3 (fun j hj => (P2.out.lt j hj).1)
      have P3 := Hd o3
      have B3 := Hd b3
      clear hown3 hgrow3 hat3 o3 b3))
 rw [rounds_succ]
 go_wp2_with fail
 go_ret
 exact ⟨_, _, rfl, P3.out, B3.out⟩
structure FnS (w : World) (B : Nat) (A1 : Option Addr) (n1 c1 : Nat) (A2 : Option Addr) (n2 c2 : Nat) (A3 : Option Addr) (n3 c3 : Nat) (x : DFunc) : Prop where
 r1 : SlI w B A1 n1 c1 x.params
 r2 : SlI w B A2 n2 c2 x.results
 r3 : SlI w B A3 n3 c3 x.locals
 sm : n1 + n2 + n3 ≤ 300
theorem FnS.keep {w w' : World} {B : Nat} {A1 : Option Addr} {n1 c1 : Nat} {A2 : Option Addr} {n2 c2 : Nat} {A3 : Option Addr} {n3 c3 : Nat} {x : DFunc} (h : FnS w B A1 n1 c1 A2 n2 c2 A3 n3 c3 x) (hb : Below B w w') : FnS w' B A1 n1 c1 A2 n2 c2 A3 n3 c3 x :=
 ⟨SlR.keep (stable_rc _) h.r1 fun p hp => hb.cell hp, SlR.keep (stable_rc _) h.r2 fun p hp => hb.cell hp, SlR.keep (stable_rc _) h.r3 fun p hp => hb.cell hp, h.sm⟩
theorem FnS.more {w : World} {B B' : Nat} {A1 : Option Addr} {n1 c1 : Nat} {A2 : Option Addr} {n2 c2 : Nat} {A3 : Option Addr} {n3 c3 : Nat} {x : DFunc} (h : FnS w B A1 n1 c1 A2 n2 c2 A3 n3 c3 x) (hB : B ≤ B') : FnS w B' A1 n1 c1 A2 n2 c2 A3 n3 c3 x :=
 ⟨SlR.more h.r1 hB, SlR.more h.r2 hB, SlR.more h.r3 hB, h.sm⟩
theorem fns_of {w : World} {B : Nat} {s : ByteArray} {b : Bool} {A0 : Option Addr} {n0 c0 : Nat} {A1 : Option Addr} {n1 c1 : Nat} {A2 : Option Addr} {n2 c2 : Nat} {A3 : Option Addr} {n3 c3 : Nat} {A4 : Option Addr} {n4 c4 : Nat} {A5 : Option Addr} {n5 c5 : Nat} {A6 : Option Addr} {n6 c6 : Nat} {A7 : Option Addr} {n7 c7 : Nat} {A8 : Option Addr} {n8 c8 : Nat} {x : DFunc} (h : FnW w B s b A0 n0 c0 A1 n1 c1 A2 n2 c2 A3 n3 c3 A4 n4 c4 A5 n5 c5 A6 n6 c6 A7 n7 c7 A8 n8 c8 x) : FnS w B A1 n1 c1 A2 n2 c2 A3 n3 c3 x := ⟨h.r1, h.r2, h.r3, by have := h.sm; omega⟩
theorem pslots_any (s : ByteArray) (b : Bool) (A0 : Option Addr) (n0 c0 : Nat) (A1 : Option Addr) (n1 c1 : Nat) (A2 : Option Addr) (n2 c2 : Nat) (A3 : Option Addr) (n3 c3 : Nat) (A4 : Option Addr) (n4 c4 : Nat) (A5 : Option Addr) (n5 c5 : Nat) (A6 : Option Addr) (n6 c6 : Nat) (A7 : Option Addr) (n7 c7 : Nat) (A8 : Option Addr) (n8 c8 : Nat) (x : DFunc) (w : World) (h : FnS w w.heap.size A1 n1 c1 A2 n2 c2 A3 n3 c3 x) : Calls Tryz.prog 41 #[.agg #[.string s, .bool b, .slice A0 n0 c0, .slice A1 n1 c1, .slice A2 n2 c2, .slice A3 n3 c3, .slice A4 n4 c4, .slice A5 n5 c5, .slice A6 n6 c6, .slice A7 n7 c7, .slice A8 n8 c8]] w (IsTRow (n1 + n2 + n3) (slotsM x) w) := by
 obtain ⟨w1, hw1⟩ : ∃ w1, (w.alloc (.cells #[.string s, .bool b, .slice A0 n0 c0, .slice A1 n1 c1, .slice A2 n2 c2, .slice A3 n3 c3, .slice A4 n4 c4, .slice A5 n5 c5, .slice A6 n6 c6, .slice A7 n7 c7, .slice A8 n8 c8] 38)).alloc (.cells #[.slice A1 n1 c1, .slice A2 n2 c2, .slice A3 n3 c3] 32) = w1 := ⟨_, rfl⟩
 have b1 : Below w.heap.size w w1 := by rw [← hw1]; exact ((Below.refl _ _).alloc (Nat.le_refl _) _).alloc (by simp) _
 have N : ∀ i v, #[Value.slice A1 n1 c1, .slice A2 n2 c2, .slice A3 n3 c3][i]? = some v → w1.cell? ⟨w.heap.size + 1, i, none⟩ = some v := fun i v hv => by
  rw [← hw1]
  have := (new_cells (w := w.alloc (.cells #[.string s, .bool b, .slice A0 n0 c0, .slice A1 n1 c1, .slice A2 n2 c2, .slice A3 n3 c3, .slice A4 n4 c4, .slice A5 n5 c5, .slice A6 n6 c6, .slice A7 n7 c7, .slice A8 n8 c8] 38)) (t := 32) (Below.refl _ _) i v hv).1
  simpa using this
 have h1 := (h.keep b1).more b1.size
 have hsm := h.sm
 have cj := join_any (w.heap.size + 1) A1 A2 A3 n1 c1 n2 c2 n3 c3 (x.params.flatMap iC) (x.results.flatMap iC) (x.locals.flatMap iC) w1 (src_sl h1.r1 (Nat.le_refl _)) (src_sl h1.r2 (Nat.le_refl _)) (src_sl h1.r3 (Nat.le_refl _)) (Hd (one_ty x.params)) (Hd (one_ty x.results)) (Hd (one_ty x.locals)) (by omega) (N 0 _ rfl) (N 1 _ rfl) (N 2 _ rfl)
 rw [show x.params.flatMap iC ++ x.results.flatMap iC ++ x.locals.flatMap iC = slotsM x from rfl] at cj
 obtain ⟨cells, hcells⟩ : ∃ cells, slotsM x = cells := ⟨_, rfl⟩
 rw [hcells] at cj ⊢
 have C1 := Hd cj
 have HB := Hd b1
 have HE := Hd hw1
 clear cj N b1 hw1 h h1 hcells
 go_in
 go_wp2_with fail
 rw [HE.out]
 refine C1.out.mono ?_
 rintro e w2 ⟨D2, d2, rfl, hown, hb⟩
 have HO : Hid (w2.ownsRow w.heap.size 40 1 (.slice D2 (n1 + n2 + n3) d2) (n1 + n2 + n3) cells) := Hd (hown.mono HB.out.size)
 have HB2 := Hd (bl_trans HB.out HB.out.size hb)
 clear hown hb
 go_wp2_with fail
 go_ret
 exact ⟨_, _, rfl, HO.out, HB2.out⟩
end Go.Proofs.YtobmjnmcjddhcaaGreat
namespace Go.Proofs.YtobmjnmcjddhcaaGreat
open Go.RowKit
attribute [local go_sem] run_store_cplx
theorem SrcV.on {w w' : World} {A : Option Addr} {n : Nat} {l : List DV} (h : SrcV w A n l) (hb : Below w.heap.size w w') : SrcV w' A n l :=
 ⟨h.len, h.nil_, h.src.keep fun ad j u ha hu => (hb.cell (World.block_lt_of_cell? _ _ hu)).trans hu⟩
theorem setCells_three (w : World) (r i : Nat) (a : DV) (rest : List Value) : w.setCells r (i * 3) (a.c ++ rest) = (((w.setCell ⟨r, i * 3, none⟩ (.int .i64 a.k)).setCell ⟨r, i * 3 + 1, none⟩ (.int .i64 a.n)).setCell ⟨r, i * 3 + 2, none⟩ (.complex .f64 a.x a.y)).setCells r ((i + 1) * 3) rest := by
 have e : (i + 1) * 3 = i * 3 + 1 + 1 + 1 := by omega
 rw [e]
 rfl
theorem RowV.copy {base r n c : Nat} : ∀ (ls l : List DV) (i : Nat) (w : World), RowV w base (some ⟨r, 0, none⟩) n c l → i + ls.length ≤ n → RowV (w.setCells r (i * 3) (rowVl ls)) base (some ⟨r, 0, none⟩) n c (l.take i ++ ls ++ l.drop (i + ls.length))
 | [], l, i, w, h, hi => by
  have e : l.take i ++ [] ++ l.drop (i + 0) = l := by simp
  rw [show ([] : List DV).length = 0 from rfl, e]
  exact h
 | a :: ls, l, i, w, h, hi => by
  have hl := h.len
  rw [List.length_cons] at hi
  rw [show rowVl (a :: ls) = a.c ++ rowVl ls from rfl, setCells_three]
  have ih := RowV.copy ls (l.set i a) (i + 1) _ (h.put i (by omega) a) (by omega)
  have e : (l.set i a).take (i + 1) ++ ls ++ (l.set i a).drop (i + 1 + ls.length) = l.take i ++ (a :: ls) ++ l.drop (i + (a :: ls).length) := by
   have e1 : (l.set i a).take (i + 1) = l.take i ++ [a] := by
    rw [List.take_add_one, List.take_set_of_le (Nat.le_refl _), List.getElem?_set_self (by omega)]
    rfl
   have e2 : (l.set i a).drop (i + 1 + ls.length) = l.drop (i + (a :: ls).length) := by
    rw [List.drop_set_of_lt (by omega), List.length_cons]
    congr 1
    omega
   rw [e1, e2]
   simp
  rw [e] at ih
  exact ih
def zD (t : Int) : DV := ⟨zeroM t, 0, 0, 0⟩
theorem zf_rows (ts : List Int) : ts.flatMap zf = rowVl (ts.map zD) := by
 unfold rowVl
 rw [List.flatMap_map]
 rfl
def slM (ts : List Int) (n1 : Nat) (args : List DV) : List DV := args.take n1 ++ (ts.map zD).drop (args.take n1).length
theorem run_copy_vals (w : World) (r n rc : Nat) (B : Option Addr) (m mc ty : Nat) (args : List DV) (hs : SrcV w B m args) (hc : ∀ j, j < n * 3 → (w.cell? ⟨r, j, none⟩).isSome = true) (hf : ∀ j, w.frozen? ⟨r, j, none⟩ = false) :
  (Builtin.copy_ #[39, 39] ty #[.slice (some ⟨r, 0, none⟩) n rc, .slice B m mc]).run Tryz.prog w = .ok (.int .i64 ((min m n : Nat) : Int)) (w.setCells r 0 (rowVl (args.take n))) := by
 obtain ⟨i0, hi, hz0, hz1, hz2⟩ := info_parts info_val
 have hlen : (rowVl (args.take n)).length = min m n * 3 := by
  rw [flatMap_len DV.c DV.len, List.length_take, hs.len, Nat.min_comm]
 have h1 : ∀ v ∈ rowVl (args.take n), v.oneCell' = true := one_vl _
 have hst := run_storeCells_cells (P := Tryz.prog) r 0 (rowVl (args.take n)) 0 w (fun j hj => by simp only [Nat.zero_add, Nat.add_zero]; exact hc j (by rw [hlen] at hj; have := Nat.min_le_right m n; omega)) (fun j _ => hf _) h1
 cases B with
 | none =>
  have hm := hs.nil_ rfl
  subst hm
  have ha : args = [] := List.eq_nil_of_length_eq_zero hs.len
  subst ha
  rw [show rowVl (List.take n []) = [] from by simp [rowVl]] at hst ⊢
  simp [Builtin.copy_, run_underlying Tryz.underlying39, Builtin.lenOf, Builtin.firstCells, sizeOf, typeInfo, hi, hz1, hst, goInt, World.setCells]
 | some a =>
  have hl := run_loadCells_list (P := Tryz.prog) w a (rowVl (args.take n)) (fun j v hj => hs.src.2.2 a rfl j v (by
   have hlt := (List.getElem?_eq_some_iff.1 hj).1
   rw [show rowVl (args.take n) = (rowVl args).take (n * 3) from (flat_take DV.c 3 DV.len _ _).symm, List.getElem?_take] at hj
   split at hj
   ·exact hj
   ·cases hj))
  rw [hlen] at hl
  have e : Nat.min m n = min m n := rfl
  simp [Builtin.copy_, run_underlying Tryz.underlying39, Builtin.lenOf, Builtin.firstCells, sizeOf, typeInfo, hi, hz1, hl, hst, goInt, e]
theorem run_copy_none (w : World) (rc : Nat) (B : Option Addr) (m mc ty : Nat) :
  (Builtin.copy_ #[39, 39] ty #[.slice none 0 rc, .slice B m mc]).run Tryz.prog w = .ok (.int .i64 0) w := by
 obtain ⟨i0, hi, hz0, hz1, hz2⟩ := info_parts info_val
 cases B with
 | none => simp [Builtin.copy_, run_underlying Tryz.underlying39, Builtin.lenOf, Builtin.firstCells, sizeOf, typeInfo, hi, hz1, goInt]
 | some a =>
  have hl := run_loadCells_list (P := Tryz.prog) w a [] (fun j v hj => by simp at hj)
  simp at hl
  simp [Builtin.copy_, run_underlying Tryz.underlying39, Builtin.lenOf, Builtin.firstCells, sizeOf, typeInfo, hi, hz1, hl, goInt]
end Go.Proofs.YtobmjnmcjddhcaaGreat
namespace Go.Proofs.YtobmjnmcjddhcaaGreat
open Go.RowKit
attribute [local go_sem] run_store_cplx
end Go.Proofs.YtobmjnmcjddhcaaGreat
namespace Go.Proofs.YtobmjnmcjddhcaaGreat
open Go.RowKit
attribute [local go_sem] run_store_cplx
end Go.Proofs.YtobmjnmcjddhcaaGreat
