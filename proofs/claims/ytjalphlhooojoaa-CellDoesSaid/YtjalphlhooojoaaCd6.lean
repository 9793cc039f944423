/-
  Values: a row of zeros; whether two are the same; whether all are of one kind.
-/
import Derived.Test.YtjalphlhooojoaaCd5
import Derived.Test.YtjalphlhooojoaaWhole2
namespace Go.Proofs.Ytjalphlhooojoaa
open Go.RowKit
set_option linter.unusedSimpArgs false
set_option linter.unusedVariables false
attribute [local go_sem] run_store_cplx
structure DV where
  k : Int
  n : Int
  x : Nat
  y : Nat
def cellsV (v : DV) : List Value := [.int .i64 v.k, .int .i64 v.n, .complex .f64 v.x v.y]
def aggV (v : DV) : Value := vV v.k v.n v.x v.y
abbrev SlV (w : World) (B : Nat) (A : Option Addr) (n c : Nat) (xs : List DV) : Prop := SlR 3 32 (RC cellsV) w B A n c xs
theorem slv_at {w : World} {B : Nat} {A : Option Addr} {n c : Nat} {xs : List DV} (h : SlV w B A n c xs) {k : Nat} (hk : k < n) : ∃ b off v, A = some ⟨b, off, none⟩ ∧ b < B ∧ xs[k]? = some v ∧ w.cell? ⟨b, off + k * 3, none⟩ = some (.int .i64 v.k) ∧ w.cell? ⟨b, off + k * 3 + 1, none⟩ = some (.int .i64 v.n) ∧ w.cell? ⟨b, off + k * 3 + 2, none⟩ = some (.complex .f64 v.x v.y) := by
  obtain ⟨b, off, x, cs, hA, hb, hx, _, hc, hr⟩ := h.at_ hk
  unfold RC at hr
  subst hr
  exact ⟨b, off, x, hA, hb, hx, by simpa using hc 0 _ rfl, by simpa [Nat.add_assoc] using hc 1 _ rfl, by simpa [Nat.add_assoc] using hc 2 _ rfl⟩
theorem SlV.on {w w' : World} {B : Nat} {A : Option Addr} {n c : Nat} {xs : List DV} (h : SlV w B A n c xs) (hb : Below B w w') : SlV w' B A n c xs := SlR.keep (stable_rc _) h fun p hp => hb.cell hp
theorem info_val : (Try.prog.info? 29).map (fun i => (i.zero, i.size, i.bytes)) = some (some (.agg #[.int .i64 0, .int .i64 0, .complex .f64 0 0]), 3, 32) := by kernel_rfl
theorem int_at {w : World} {B : Nat} {A : Option Addr} {n c : Nat} {xs : List Int} (h : SlR 1 8 (RInt .i64) w B A n c xs) {k : Nat} (hk : k < n) : ∃ b off v, A = some ⟨b, off, none⟩ ∧ b < B ∧ xs[k]? = some v ∧ w.cell? ⟨b, off + k, none⟩ = some (.int .i64 v) := by
  obtain ⟨b, off, x, cs, hA, hb, hx, _, hc, hr⟩ := h.at_ hk
  obtain ⟨rfl, _⟩ := hr
  exact ⟨b, off, x, hA, hb, hx, by simpa using hc 0 _ rfl⟩
theorem app1 {w w1 w3 : World} {o : Obj} {k c : Nat} {A : Option Addr} {ys : List Value} {v' : Value} (hb : Below w.heap.size w w1) (hown' : w3.ownsRow w.heap.size 29 3 v' (k + 1) ys) (hgrow : (w1.alloc o).grownBy w3 (Value.slice A k c).ownBlock) (hlt : ∀ j, (Value.slice A k c).ownBlock = some j → w.heap.size ≤ j) :
    ∃ A' c', v' = .slice A' (k + 1) c' ∧ w3.ownsRow w.heap.size 29 3 (.slice A' (k + 1) c') (k + 1) ys ∧ Below w.heap.size w w3 := by
  obtain ⟨A', c', hv, _⟩ := own_form hown'
  subst hv
  exact ⟨A', c', rfl, hown', Below.grown (hb.alloc hb.size _) hgrow (by have := hb.size; simp; omega) hlt⟩
theorem own_on {w w' : World} {base : Nat} {e : TypeId} {size : Nat} {v : Value} {n : Nat} {xs : List Value} (h : w.ownsRow base e size v n xs) (hb : Below w.heap.size w w') : w'.ownsRow base e size v n xs :=
  (Kp.belowOf hb).own h fun k hk => by have := (h.lt k hk).2; omega
def zf (t : Int) : List Value := [.int .i64 (zeroM t), .int .i64 0, .complex .f64 0 0]
def IsVRow (n : Nat) (cells : List Value) (w : World) (e : Ending) (w' : World) : Prop := ∃ A c, e = .returned (.slice A n c) ∧ w'.ownsRow w.heap.size 29 3 (.slice A n c) n cells ∧ Below w.heap.size w w'
theorem src_v (W : World) (k n : Int) (x y : Nat) : SrcCells (W.alloc (.cells #[.int .i64 k, .int .i64 n, .complex .f64 x y] 29)) (some ⟨W.heap.size, 0, none⟩) 1 3 [.int .i64 k, .int .i64 n, .complex .f64 x y] :=
  own_src (World.ownsRow_lit (base := W.heap.size) (e := 29) (size := 3) W #[.int .i64 k, .int .i64 n, .complex .f64 x y] 1 (Nat.le_refl _) (by unfold maxLen; omega) rfl)
theorem one_v (k n : Int) (x y : Nat) : ∀ u ∈ [Value.int .i64 k, .int .i64 n, .complex .f64 x y], u.oneCell' = true := by
  intro u hu
  simp at hu
  rcases hu with rfl | rfl | rfl <;> rfl
set_option maxRecDepth 100000 in
set_option maxHeartbeats 2000000 in
theorem row_any (A : Option Addr) (n c B : Nat) (xs : List Int) (w : World) (h : SlR 1 8 (RInt .i64) w B A n c xs) (hB : B ≤ w.heap.size) (hn : n ≤ 1000) :
    Calls Try.prog 10 #[.slice A n c] w (IsVRow n (xs.flatMap zf) w) := by
  obtain ⟨i0, hi, hz0, hz1, hz2⟩ := info_parts info_val
  have H := Lib.hid h
  have HL : Hid (xs.length = n) := h.1
  have HB := Lib.hid hB
  clear h hB
  go_enter Try.func10, Try.ntmps10
  go_wp2
  go_loopw [3, 8] (fun o i wr => ∃ (k : Nat) (A1 : Option Addr) (cc : Nat), o = .slice A1 k cc ∧ i = .int .i64 k ∧ k ≤ n ∧ Hid (wr.ownsRow w.heap.size 29 3 (.slice A1 k cc) k ((xs.take k).flatMap zf)) ∧ Hid (Below w.heap.size w wr)) (fun _ i _ => n - (intOf i).toNat)
  case atStart => exact ⟨0, none, 0, rfl, rfl, Nat.zero_le _, World.ownsRow_nil _ _ _ _, Below.refl _ _⟩
  case round =>
    obtain ⟨k, A1, cc, rfl, rfl, hk, HO, HW⟩ := hrel
    by_cases hlt : k < n
    · obtain ⟨b, off, t, rfl, hb, hx, q⟩ := int_at H.out hlt
      have q0 : wr.cell? ⟨b, off + k, none⟩ = some (.int .i64 t) := (HW.out.cell (by have := HB.out; show b < _; omega)).trans q
      have HX := Lib.hid hx
      clear q hx hb
      go_wp2_with fail
      refine (zero_any t _).mono ?_
      rintro e w1 ⟨rfl, hb1⟩
      have HW1 : Hid (Below w.heap.size w w1) := Lib.hid (HW.out.trans (hb1.mono HW.out.size))
      have HO1 := Lib.hid (own_on HO.out hb1)
      clear hb1
      have hsz : w.heap.size ≤ (w1.alloc (.cells #[.int .i64 (zeroM t), .int .i64 0, .complex .f64 0 0] 29)).heap.size := by have := HW1.out.size; simp; omega
      have hsrc := Lib.hid (src_v w1 (zeroM t) 0 0 0)
      have hone := Lib.hid (one_v (zeroM t) 0 0 0)
      have HF : Hid ((xs.take k).flatMap zf ++ [.int .i64 (zeroM t), .int .i64 0, .complex .f64 0 0] = (xs.take (k + 1)).flatMap zf) := Lib.hid (flatMap_snoc zf xs k t HX.out)
      go_wp2_with (first
        | (at_builtin; go_must (refine wpList_append_src _ rfl _ _ 25 rfl w.heap.size 29 i0 (.agg #[.int .i64 0, .int .i64 0, .complex .f64 0 0]) 3 32 Try.underlying25 hi hz0 hz1 hz2 rfl (by decide) _ _ _ rfl (HO1.out.alloc _) (some ⟨w1.heap.size, 0, none⟩) 1 1 [.int .i64 (zeroM t), .int .i64 0, .complex .f64 0 0] rfl hsrc.out hone.out (by unfold maxLen; omega) (by omega) hsz ?_)
           intro v' w3 hown' hgrow3 hat3
           rw [HF.out] at hown'
           obtain ⟨A', c', rfl, o3, b3⟩ := app1 HW1.out hown' hgrow3 (fun j hj => (HO1.out.lt j hj).1)
           have O3 := Lib.hid o3
           have B3 := Lib.hid b3
           clear hown' hgrow3 hat3 o3 b3))
      go_roundw
      case rel => exact ⟨k + 1, A', c', rfl, by go_num, by omega, O3, B3⟩
      case measure => simp [intOf]; omega
    · have hkn : k = n := by omega
      subst hkn
      have HO2 : Hid (wr.ownsRow w.heap.size 29 3 (.slice A1 k cc) k (xs.flatMap zf)) := Lib.hid (by
        have := HO.out
        rw [List.take_of_length_le (by rw [HL.out]; exact Nat.le_refl _)] at this
        exact this)
      go_wp2_with fail
      go_ret
      exact ⟨_, _, rfl, HO2.out, HW.out⟩

def sameV (a b : DV) : Bool := if a.k = b.k then (if a.k = 2 then sameB a.x a.y b.x b.y else a.n == b.n) else false
theorem sameV_refl (a : DV) : sameV a a = true := by
  unfold sameV
  rw [if_pos rfl]
  split
  · unfold sameB; rw [alike_self, alike_self]; rfl
  · simp
set_option maxRecDepth 100000 in
theorem refSameV_any (a b : DV) (w : World) : Calls Try.prog 24 #[aggV a, aggV b] w fun e w' => e = .returned (.bool (sameV a b)) ∧ Below w.heap.size w w' := by
  obtain ⟨k, n, x, y⟩ := a
  obtain ⟨k2, n2, x2, y2⟩ := b
  show Calls _ _ #[vV k n x y, vV k2 n2 x2 y2] w _
  by_cases hk : k = k2
  · subst hk
    by_cases h2 : k = 2
    · subst h2
      have c1 : Hid (∀ w : World, Calls Try.prog 37 #[.complex .f64 x y, .complex .f64 x2 y2] w fun e w' => e = .returned (.bool (sameB x y x2 y2)) ∧ w = w') := Lib.hid fun w => refSame_any x y x2 y2 w
      have hr : Hid (sameV ⟨2, n, x, y⟩ ⟨2, n2, x2, y2⟩ = sameB x y x2 y2) := Lib.hid rfl
      go_enter Try.func24, Try.ntmps24
      go_wp2_with fail
      refine (c1.out _).mono ?_
      rintro e w1 ⟨rfl, rfl⟩
      go_wp2_with fail
      go_ret
      exact ⟨by rw [hr.out]; rfl, by repeat (first | exact Below.refl _ _ | (refine Below.setCell ?_ (by simp) _) | (refine Below.alloc ?_ (by simp) _))⟩
    · have hr : Hid (sameV ⟨k, n, x, y⟩ ⟨k, n2, x2, y2⟩ = (n == n2)) := Lib.hid (by unfold sameV; rw [if_pos rfl, if_neg h2])
      have t2 : (k == 2) = false := by simpa using h2
      have t0 : (k != k) = false := by simp
      go_enter Try.func24, Try.ntmps24
      go_wp2_with fail
      go_ret
      exact ⟨by rw [hr.out]; rfl, by repeat (first | exact Below.refl _ _ | (refine Below.setCell ?_ (by simp) _) | (refine Below.alloc ?_ (by simp) _))⟩
  · have hr : Hid (sameV ⟨k, n, x, y⟩ ⟨k2, n2, x2, y2⟩ = false) := Lib.hid (by unfold sameV; rw [if_neg hk])
    have t0 : (k != k2) = true := by simpa using hk
    go_enter Try.func24, Try.ntmps24
    go_wp2_with fail
    go_ret
    exact ⟨by rw [hr.out]; rfl, by repeat (first | exact Below.refl _ _ | (refine Below.setCell ?_ (by simp) _) | (refine Below.alloc ?_ (by simp) _))⟩

/-! All of one kind. -/
set_option maxRecDepth 100000 in
theorem allfn_any (a : DV) (t : Int) (g : Nat) (w : World) (h : w.cell? ⟨g, 0, none⟩ = some (.int .i64 t)) : Calls Try.prog 41 #[aggV a, .pointer (some ⟨g, 0, none⟩)] w fun e w' => e = .returned (.bool (a.k != t)) ∧ Below w.heap.size w w' := by
  obtain ⟨k, n, x, y⟩ := a
  show Calls _ _ #[vV k n x y, _] w _
  have h' := (World.cell?_alloc_lt w (.cells #[.int .i64 k, .int .i64 n, .complex .f64 x y] 29) ⟨g, 0, none⟩ (World.block_lt_of_cell? _ _ h)).trans h
  clear h
  go_enter Try.func41, Try.ntmps41
  go_wp2_with fail
  go_ret
  exact ⟨rfl, by repeat (first | exact Below.refl _ _ | (refine Below.setCell ?_ (by simp) _) | (refine Below.alloc ?_ (by simp) _))⟩
def allK (t : Int) (xs : List DV) : Bool := xs.all fun v => v.k == t
set_option maxRecDepth 100000 in
set_option maxHeartbeats 2000000 in
theorem indexFn_any (A : Option Addr) (n c B : Nat) (xs : List DV) (t : Int) (g : Nat) (w : World) (h : SlV w B A n c xs) (hB : B ≤ w.heap.size) (hn : n ≤ 1000) (hg : w.cell? ⟨g, 0, none⟩ = some (.int .i64 t)) :
    Calls Try.prog 48 #[.slice A n c, .func (.func 41) #[] #[.pointer (some ⟨g, 0, none⟩)]] w fun e w' => (∃ r : Int, e = .returned (.int .i64 r) ∧ decide (0 ≤ r) = !allK t xs) ∧ Below w.heap.size w w' := by
  have H := Lib.hid h
  have HL : Hid (xs.length = n) := h.1
  have HB := Lib.hid hB
  have HG := Lib.hid hg
  clear h hB hg
  go_enter Try.func48, Try.ntmps48
  go_wp2
  go_loopw [8] (fun i wr => ∃ k : Nat, i = .int .i64 k ∧ k ≤ n ∧ Hid (∀ v ∈ xs.take k, v.k = t) ∧ Hid (Below w.heap.size w wr)) (fun i _ => n - (intOf i).toNat)
  case atStart => exact ⟨0, rfl, Nat.zero_le _, Lib.hid (fun v hv => by simp at hv), Below.refl _ _⟩
  case round =>
    obtain ⟨k, rfl, hk, HA, HW⟩ := hrel
    by_cases hlt : k < n
    · obtain ⟨b, off, v, rfl, hb, hx, p0, p1, p2⟩ := slv_at H.out hlt
      have hb' : b < w.heap.size := by have := HB.out; omega
      have q0 := (HW.out.cell (p := ⟨b, off + k * 3, none⟩) hb').trans p0
      have q1 := (HW.out.cell (p := ⟨b, off + k * 3 + 1, none⟩) hb').trans p1
      have q2 := (HW.out.cell (p := ⟨b, off + k * 3 + 2, none⟩) hb').trans p2
      have hgr : wr.cell? ⟨g, 0, none⟩ = some (.int .i64 t) := (HW.out.cell (World.block_lt_of_cell? _ _ HG.out)).trans HG.out
      have HX := Lib.hid hx
      obtain ⟨vk, vn, vx, vy⟩ := v
      have c1 : Hid (Calls Try.prog 41 #[vV vk vn vx vy, .pointer (some ⟨g, 0, none⟩)] wr fun e w' => e = .returned (.bool (vk != t)) ∧ Below wr.heap.size wr w') := Lib.hid (allfn_any ⟨vk, vn, vx, vy⟩ t g wr hgr)
      clear p0 p1 p2 hx hb hb' hgr
      rcases Bool.eq_false_or_eq_true (vk != t) with hvt | hvt
      · have HR : Hid (allK t xs = false) := Lib.hid (by
          unfold allK
          rw [List.all_eq_false]
          exact ⟨_, List.mem_of_getElem? HX.out, by simpa using hvt⟩)
        rw [hvt] at c1
        go_wp2_with fail
        refine c1.out.mono ?_
        rintro e w1 ⟨rfl, hb1⟩
        have HW1 : Hid (Below w.heap.size w w1) := Lib.hid (HW.out.trans (hb1.mono HW.out.size))
        clear hb1
        go_wp2_with fail
        go_ret
        exact ⟨⟨_, rfl, by rw [HR.out]; simp⟩, HW1.out⟩
      · rw [hvt] at c1
        have HN : Hid (∀ u ∈ xs.take (k + 1), u.k = t) := Lib.hid (by
          intro u hu
          rw [← take_snoc' xs k _ HX.out] at hu
          rcases List.mem_append.1 hu with hu | hu
          · exact HA.out u hu
          · simp at hu
            subst hu
            simpa using hvt)
        go_wp2_with fail
        refine c1.out.mono ?_
        rintro e w1 ⟨rfl, hb1⟩
        have HW1 : Hid (Below w.heap.size w w1) := Lib.hid (HW.out.trans (hb1.mono HW.out.size))
        clear hb1
        go_wp2_with fail
        go_roundw
        case rel => exact ⟨k + 1, by go_num, by omega, HN, HW1⟩
        case measure => simp [intOf]; omega
    · have hkn : k = n := by omega
      subst hkn
      have HR : Hid (allK t xs = true) := Lib.hid (by
        unfold allK
        rw [List.all_eq_true]
        have := HA.out
        rw [List.take_of_length_le (by rw [HL.out]; exact Nat.le_refl _)] at this
        intro u hu
        simpa using this u hu)
      go_wp2_with fail
      go_ret
      exact ⟨⟨_, rfl, by rw [HR.out]; rfl⟩, HW.out⟩
set_option maxRecDepth 100000 in
theorem contFn_any (A : Option Addr) (n c B : Nat) (xs : List DV) (t : Int) (g : Nat) (w : World) (h : SlV w B A n c xs) (hB : B ≤ w.heap.size) (hn : n ≤ 1000) (hg : w.cell? ⟨g, 0, none⟩ = some (.int .i64 t)) :
    Calls Try.prog 42 #[.slice A n c, .func (.func 41) #[] #[.pointer (some ⟨g, 0, none⟩)]] w fun e w' => e = .returned (.bool (!allK t xs)) ∧ Below w.heap.size w w' := by
  have c1 := Lib.hid (indexFn_any A n c B xs t g w h hB hn hg)
  clear h hB hg
  go_enter Try.func42, Try.ntmps42
  go_wp2_with fail
  refine c1.out.mono ?_
  rintro e w1 ⟨⟨r, rfl, hr⟩, hb1⟩
  have HR := Lib.hid hr
  have HB1 := Lib.hid hb1
  clear hr hb1
  go_wp2_with fail
  go_ret
  exact ⟨by rw [← HR.out]; rfl, HB1.out⟩
set_option maxRecDepth 100000 in
theorem all_any (A : Option Addr) (n c B : Nat) (xs : List DV) (m t : Int) (w : World) (h : SlV w B A n c xs) (hB : B ≤ w.heap.size) (hn : n ≤ 1000) :
    Calls Try.prog 32 #[.slice A n c, .int .i64 m, .int .i64 t] w fun e w' => e = .returned (.bool (((n : Int) == m) && allK t xs)) ∧ Below w.heap.size w w' := by
  obtain ⟨w1, hw1⟩ : ∃ w1, w.alloc (.cells #[.int .i64 t] 26) = w1 := ⟨_, rfl⟩
  have hbw : Below w.heap.size w w1 := by rw [← hw1]; exact (Below.refl _ _).alloc (Nat.le_refl _) _
  have hg : w1.cell? ⟨w.heap.size, 0, none⟩ = some (.int .i64 t) := by rw [← hw1]; exact cell_of_row _ w.heap.size 0 _ _ (0, 0) (heap_alloc_new w _)
  have c1 := Lib.hid (contFn_any A n c B xs t w.heap.size w1 (SlV.on h (hbw.mono hB)) (Nat.le_trans hB hbw.size) hn hg)
  have HBW := Lib.hid hbw
  have HE := Lib.hid hw1
  clear h hB hg hbw hw1
  rcases Bool.eq_false_or_eq_true ((n : Int) == m) with hm | hm
  · rw [hm]
    generalize allK t xs = r at *
    go_enter Try.func32, Try.ntmps32
    go_wp2_with fail
    rw [HE.out]
    refine c1.out.mono ?_
    rintro e w2 ⟨rfl, hb1⟩
    have HB1 := Lib.hid (HBW.out.trans (hb1.mono HBW.out.size))
    clear hb1
    go_wp2_with fail
    go_ret
    exact ⟨by simp, HB1.out⟩
  · rw [hm]
    go_enter Try.func32, Try.ntmps32
    go_wp2_with fail
    go_ret
    exact ⟨rfl, by rw [HE.out]; exact HBW.out⟩
end Go.Proofs.Ytjalphlhooojoaa
