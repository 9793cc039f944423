import Derived.Test.YtobmjnmcjddhcaaGreatRg2
import Derived.Test.YtobmjnmcjddhcaaGreatRg19
import Derived.Deep.RegionHeld
set_option linter.unusedSimpArgs false
set_option linter.unusedVariables false
set_option maxRecDepth 100000
set_option maxHeartbeats 2000000
namespace Go.Proofs.YtobmjnmcjddhcaaGreat
open Go.RowKit
attribute [local go_sem] run_store_cplx
theorem num_any (n : Int) (w : World) : Calls Tryz.prog 104 #[.int .i64 n] w fun e w' => e = .returned (vV 1 n 0 0) ∧ Below w.heap.size w w' := by
 go_in
 go_wp2_with fail
 refine (nval_any _ _).mono ?_
 rintro e w2 ⟨rfl, hb⟩
 obtain ⟨q0, f0⟩ := new_cells hb 0 (.int .i64 0) rfl
 obtain ⟨q1, f1⟩ := new_cells hb 1 (.int .i64 0) rfl
 obtain ⟨q2, f2⟩ := new_cells hb 2 (.complex .f64 0 0) rfl
 have hbw : Below w.heap.size w w2 := ((Below.refl _ _).alloc (Nat.le_refl _) _).trans (hb.mono (by simp))
 clear hb
 go_wp2_with fail
 exact bodyPost_ret (v := vV 1 n 0 0) (by simp [results, Tryz.results104, go_sem, q0, q1, q2]) rfl ⟨rfl, by repeat (first | exact hbw | (refine Below.setCell ?_ (by simp) _))⟩
theorem point_any (x y : Nat) (w : World) : Calls Tryz.prog 190 #[.complex .f64 x y] w fun e w' => e = .returned (vV 2 0 x y) ∧ Below w.heap.size w w' := by
 go_in
 go_wp2_with fail
 refine (pval_any _ _ _).mono ?_
 rintro e w2 ⟨rfl, hb⟩
 obtain ⟨q0, f0⟩ := new_cells hb 0 (.int .i64 0) rfl
 obtain ⟨q1, f1⟩ := new_cells hb 1 (.int .i64 0) rfl
 obtain ⟨q2, f2⟩ := new_cells hb 2 (.complex .f64 0 0) rfl
 have hbw : Below w.heap.size w w2 := ((Below.refl _ _).alloc (Nat.le_refl _) _).trans (hb.mono (by simp))
 clear hb
 go_wp2_with fail
 exact bodyPost_ret (v := vV 2 0 x y) (by simp [results, Tryz.results190, go_sem, q0, q1, q2]) rfl ⟨rfl, by repeat (first | exact hbw | (refine Below.setCell ?_ (by simp) _))⟩
theorem allfn_any (a : DV) (t : Int) (g : Nat) (w : World) (h : w.cell? ⟨g, 0, none⟩ = some (.int .i64 t)) : Calls Tryz.prog 196 #[DV.v a, .pointer (some ⟨g, 0, none⟩)] w fun e w' => e = .returned (.bool (a.k != t)) ∧ Below w.heap.size w w' := by
 obtain ⟨k, n, x, y⟩ := a
 show Calls _ _ #[vV k n x y, _] w _
 have h' := (World.cell?_alloc_lt w (.cells #[.int .i64 k, .int .i64 n, .complex .f64 x y] 43) ⟨g, 0, none⟩ (World.block_lt_of_cell? _ _ h)).trans h
 clear h
 go_in
 go_wp2_with fail
 go_ret
 exact ⟨rfl, by repeat (first | exact Below.refl _ _ | (refine Below.setCell ?_ (by simp) _) | (refine Below.alloc ?_ (by simp) _))⟩
def allK (t : Int) (xs : List DV) : Bool := xs.all fun v => v.k == t
theorem indexFn_any (A : Option Addr) (n c B : Nat) (xs : List DV) (t : Int) (g : Nat) (w : World) (h : SlV w B A n c xs) (hB : B ≤ w.heap.size) (hn : n ≤ 1000) (hg : w.cell? ⟨g, 0, none⟩ = some (.int .i64 t)) :
  Calls Tryz.prog 203 #[.slice A n c, .func (.func 196) #[] #[.pointer (some ⟨g, 0, none⟩)]] w fun e w' => (∃ r : Int, e = .returned (.int .i64 r) ∧ decide (0 ≤ r) = !allK t xs) ∧ Below w.heap.size w w' := by
 have H := Hd h
 have HL : Hid (xs.length = n) := h.1
 have HB := Hd hB
 have HG := Hd hg
 clear h hB hg
 go_in
 go_wp2
 go_loopw [8] (fun i wr => ∃ k : Nat, i = .int .i64 k ∧ k ≤ n ∧ Hid (∀ v ∈ xs.take k, v.k = t) ∧ Hid (Below w.heap.size w wr)) (fun i _ => n - (intOf i).toNat)
 case atStart => exact ⟨0, rfl, Nat.zero_le _, Hd (fun v hv => by simp at hv), Below.refl _ _⟩
 case round =>
  obtain ⟨k, rfl, hk, HA, HW⟩ := hrel
  by_cases hlt : k < n
  ·obtain ⟨b, off, v, rfl, hb, hx, p0, p1, p2⟩ := slv_at H.out hlt
   have hb' : b < w.heap.size := by have := HB.out; omega
   have q0 := (HW.out.cell (p := ⟨b, off + k * 3, none⟩) hb').trans p0
   have q1 := (HW.out.cell (p := ⟨b, off + k * 3 + 1, none⟩) hb').trans p1
   have q2 := (HW.out.cell (p := ⟨b, off + k * 3 + 2, none⟩) hb').trans p2
   have hgr : wr.cell? ⟨g, 0, none⟩ = some (.int .i64 t) := (HW.out.cell (World.block_lt_of_cell? _ _ HG.out)).trans HG.out
   have HX := Hd hx
   obtain ⟨vk, vn, vx, vy⟩ := v
   have c1 : Hid (Calls Tryz.prog 196 #[vV vk vn vx vy, .pointer (some ⟨g, 0, none⟩)] wr fun e w' => e = .returned (.bool (vk != t)) ∧ Below wr.heap.size wr w') := Hd (allfn_any ⟨vk, vn, vx, vy⟩ t g wr hgr)
   clear p0 p1 p2 hx hb hb' hgr
   rcases Bool.eq_false_or_eq_true (vk != t) with hvt | hvt
   ·have HR : Hid (allK t xs = false) := Hd (by
     unfold allK
     rw [List.all_eq_false]
     exact ⟨_, List.mem_of_getElem? HX.out, by simpa using hvt⟩)
    rw [hvt] at c1
    go_wp2_with fail
    refine c1.out.mono ?_
    rintro e w1 ⟨rfl, hb1⟩
    have HW1 : Hid (Below w.heap.size w w1) := Hd (HW.out.trans (hb1.mono HW.out.size))
    clear hb1
    go_wp2_with fail
    go_ret
    exact ⟨⟨_, rfl, by rw [HR.out]; simp⟩, HW1.out⟩
   ·rw [hvt] at c1
    have HN : Hid (∀ u ∈ xs.take (k + 1), u.k = t) := Hd (by
     intro u hu
     rw [← take_snoc' xs k _ HX.out] at hu
     rcases List.mem_append.1 hu with hu | hu
     ·exact HA.out u hu
     ·simp at hu
      subst hu
      simpa using hvt)
    go_wp2_with fail
    refine c1.out.mono ?_
    rintro e w1 ⟨rfl, hb1⟩
    have HW1 : Hid (Below w.heap.size w w1) := Hd (HW.out.trans (hb1.mono HW.out.size))
    clear hb1
    go_wp2_with fail
    go_roundw
    case rel => exact ⟨k + 1, by go_num, by omega, HN, HW1⟩
    case measure => simp [intOf]; omega
  ·have hkn : k = n := by omega
   subst hkn
   have HR : Hid (allK t xs = true) := Hd (by
    unfold allK
    rw [List.all_eq_true]
    have := HA.out
    rw [List.take_of_length_le (by rw [HL.out]; exact Nat.le_refl _)] at this
    intro u hu
    simpa using this u hu)
   go_wp2_with fail
   go_ret
   exact ⟨⟨_, rfl, by rw [HR.out]; rfl⟩, HW.out⟩
theorem contFn_any (A : Option Addr) (n c B : Nat) (xs : List DV) (t : Int) (g : Nat) (w : World) (h : SlV w B A n c xs) (hB : B ≤ w.heap.size) (hn : n ≤ 1000) (hg : w.cell? ⟨g, 0, none⟩ = some (.int .i64 t)) :
  Calls Tryz.prog 197 #[.slice A n c, .func (.func 196) #[] #[.pointer (some ⟨g, 0, none⟩)]] w fun e w' => e = .returned (.bool (!allK t xs)) ∧ Below w.heap.size w w' := by
 have c1 := Hd (indexFn_any A n c B xs t g w h hB hn hg)
 clear h hB hg
 go_in
 go_wp2_with fail
 refine c1.out.mono ?_
 rintro e w1 ⟨⟨r, rfl, hr⟩, hb1⟩
 have HR := Hd hr
 have HB1 := Hd hb1
 clear hr hb1
 go_wp2_with fail
 go_ret
 exact ⟨by rw [← HR.out]; rfl, HB1.out⟩
theorem all_any (A : Option Addr) (n c B : Nat) (xs : List DV) (m t : Int) (w : World) (h : SlV w B A n c xs) (hB : B ≤ w.heap.size) (hn : n ≤ 1000) :
  Calls Tryz.prog 189 #[.slice A n c, .int .i64 m, .int .i64 t] w fun e w' => e = .returned (.bool (((n : Int) == m) && allK t xs)) ∧ Below w.heap.size w w' := by
 obtain ⟨w1, hw1⟩ : ∃ w1, w.alloc (.cells #[.int .i64 t] 40) = w1 := ⟨_, rfl⟩
 have hbw : Below w.heap.size w w1 := by rw [← hw1]; exact (Below.refl _ _).alloc (Nat.le_refl _) _
 have hg : w1.cell? ⟨w.heap.size, 0, none⟩ = some (.int .i64 t) := by rw [← hw1]; exact cell_of_row _ w.heap.size 0 _ _ (0, 0) (heap_alloc_new w _)
 have c1 := Hd (contFn_any A n c B xs t w.heap.size w1 (SlV.on h (hbw.mono hB)) (Nat.le_trans hB hbw.size) hn hg)
 have HBW := Hd hbw
 have HE := Hd hw1
 clear h hB hg hbw hw1
 rcases Bool.eq_false_or_eq_true ((n : Int) == m) with hm | hm
 ·rw [hm]
  generalize allK t xs = r at *
  go_in
  go_wp2_with fail
  rw [HE.out]
  refine c1.out.mono ?_
  rintro e w2 ⟨rfl, hb1⟩
  have HB1 := Hd (HBW.out.trans (hb1.mono HBW.out.size))
  clear hb1
  go_wp2_with fail
  go_ret
  exact ⟨by simp, HB1.out⟩
 ·rw [hm]
  go_in
  go_wp2_with fail
  go_ret
  exact ⟨rfl, by rw [HE.out]; exact HBW.out⟩
def arityN (op : Int) : Int := if op = 15 ∨ op = 16 ∨ op = 17 ∨ op = 18 then 2 else if op = 19 ∨ op = 20 then 1 else takesNM op
def kindN (op : Int) : Int := if op = 16 ∨ op = 17 ∨ op = 18 ∨ op = 19 ∨ op = 20 then 2 else 1
def fitsB (op : Int) (xs : List DV) : Bool := decide (0 < arityN op) && (((xs.length : Int) == arityN op) && allK (kindN op) xs)
inductive OneR (op : Int) (xs : List DV) : Option DV → Prop
 | pair (a b : DV) : op = 15 → xs = [a, b] → a.k = 1 → b.k = 1 → OneR op xs (some ⟨2, 0, nr a.n, nr b.n⟩)
 | two (a b : DV) (r i : Nat) : (op = 16 ∨ op = 17 ∨ op = 18) → xs = [a, b] → a.k = 2 → b.k = 2 → TwoR op a.x a.y b.x b.y r i → OneR op xs (some ⟨2, 0, r, i⟩)
 | part (a : DV) : (op = 19 ∨ op = 20) → xs = [a] → a.k = 2 → OneR op xs (some ⟨1, partOf op a.x a.y, 0, 0⟩)
 | w1 (a : DV) : takesNM op = 1 → xs = [a] → a.k = 1 → OneR op xs (some ⟨1, oneM op a.n, 0, 0⟩)
 | w2 (a b : DV) : takesNM op = 2 → xs = [a, b] → a.k = 1 → b.k = 1 → (twoM op a.n b.n).2 = true → OneR op xs (some ⟨1, (twoM op a.n b.n).1, 0, 0⟩)
 | w2n (a b : DV) : takesNM op = 2 → xs = [a, b] → a.k = 1 → b.k = 1 → (twoM op a.n b.n).2 = false → OneR op xs none
 | no : fitsB op xs = false → OneR op xs none
theorem list1 {xs : List DV} {n : Nat} (hl : xs.length = n) (hn : ((n : Int) == 1) = true) : ∃ a, xs = [a] := by
 have : n = 1 := by simp at hn; omega
 subst this
 match xs, hl with
 | [a], _ => exact ⟨a, rfl⟩
theorem list2 {xs : List DV} {n : Nat} (hl : xs.length = n) (hn : ((n : Int) == 2) = true) : ∃ a b, xs = [a, b] := by
 have : n = 2 := by simp at hn; omega
 subst this
 match xs, hl with
 | [a, b], _ => exact ⟨a, b, rfl⟩
theorem allK1 {t : Int} {a : DV} (h : allK t [a] = true) : a.k = t := by simpa [allK] using h
theorem allK2 {t : Int} {a b : DV} (h : allK t [a, b] = true) : a.k = t ∧ b.k = t := by simpa [allK] using h
theorem two_t (op a b : Int) (w : World) (n : Nat) : Calls Tryz.prog 202 #[.int .i64 op, .int .i64 a, .int .i64 b] (w.drewN n) fun e w' => e = .returned (.tuple #[.int .i64 (twoM op a b).1, .bool (twoM op a b).2]) ∧ ∃ m, w' = w.drewN m :=
 (whole_Two_any op a b _).mono fun e w' ⟨he, m, hm⟩ => ⟨he, n + m, by rw [hm, World.drewN_drewN]⟩
theorem numbers1 (op : Int) (b c B : Nat) (a : DV) (w : World) (h : SlV w B (some ⟨b, 0, none⟩) 1 c [a]) (hB : B ≤ w.heap.size) :
  Calls Tryz.prog 194 #[.int .i64 op, .slice (some ⟨b, 0, none⟩) 1 c] w fun e w' => e = .returned (.tuple #[vV 1 (oneM op a.n) 0 0, .bool true]) ∧ Below w.heap.size w w' := by
 obtain ⟨b', off, v, e, hb, hx, p0, p1, p2⟩ := slv_at h (show 0 < 1 by omega)
 simp at e hx
 obtain ⟨rfl, rfl⟩ := e
 subst hx
 simp only [Nat.zero_mul, Nat.add_zero, Nat.zero_add] at p0 p1 p2
 have q1 := (World.cell?_alloc_lt w (.cells #[.int .i64 0, .int .i64 0, .complex .f64 0 0] 43) ⟨b, 1, none⟩ (World.block_lt_of_cell? _ _ p1)).trans p1
 obtain ⟨an, han⟩ : ∃ x, a.n = x := ⟨_, rfl⟩
 rw [han] at q1 ⊢
 have c1 : Hid (∀ w : World, Calls Tryz.prog 201 #[.int .i64 op, .int .i64 an] w fun e w' => e = .returned (.int .i64 (oneM op an)) ∧ w = w') := Hd fun w => whole_One_any op an w
 obtain ⟨r, hr⟩ : ∃ x, oneM op an = x := ⟨_, rfl⟩
 rw [hr] at c1 ⊢
 clear p0 p1 p2 h hb han hr
 go_in
 go_wp2_with fail
 refine (c1.out _).mono ?_
 rintro e w1 ⟨rfl, rfl⟩
 go_wp2_with fail
 refine (num_any r _).mono ?_
 rintro e w2 ⟨rfl, hb⟩
 have hx := BX.of hb
 obtain ⟨u0, e0⟩ := hx.c0
 obtain ⟨u1, e1⟩ := hx.c1
 obtain ⟨u2, e2⟩ := hx.c2
 have f0 := hx.f0
 have f1 := hx.f1
 have f2 := hx.f2
 have hbw := hx.bw
 clear hb hx q1
 go_wp2_with fail
 exact bodyPost_ret (v := .tuple #[vV 1 r 0 0, .bool true]) (by simp [results, Tryz.results194, go_sem, e0, e1, e2]) rfl ⟨rfl, by repeat (first | exact hbw | (refine Below.setCell ?_ (by simp) _))⟩
theorem numbers2 (op : Int) (b c B : Nat) (a1 a2 : DV) (w : World) (h : SlV w B (some ⟨b, 0, none⟩) 2 c [a1, a2]) (hB : B ≤ w.heap.size) :
  Calls Tryz.prog 194 #[.int .i64 op, .slice (some ⟨b, 0, none⟩) 2 c] w fun e w' => e = .returned (.tuple #[vV 1 (twoM op a1.n a2.n).1 0 0, .bool (twoM op a1.n a2.n).2]) ∧ Below w.heap.size w w' := by
 obtain ⟨b', off, v, e, hb, hx, p0, p1, p2⟩ := slv_at h (show 0 < 2 by omega)
 obtain ⟨b2', off2, v2, e2, hb2, hx2, s0, s1, s2⟩ := slv_at h (show 1 < 2 by omega)
 simp at e hx e2 hx2
 obtain ⟨rfl, rfl⟩ := e
 obtain ⟨rfl, rfl⟩ := e2
 subst hx
 subst hx2
 simp only [Nat.zero_mul, Nat.one_mul, Nat.add_zero, Nat.zero_add, Nat.reduceAdd] at p0 p1 p2 s0 s1 s2
 have q1 := (World.cell?_alloc_lt w (.cells #[.int .i64 0, .int .i64 0, .complex .f64 0 0] 43) ⟨b, 1, none⟩ (World.block_lt_of_cell? _ _ p1)).trans p1
 have q4 := (World.cell?_alloc_lt w (.cells #[.int .i64 0, .int .i64 0, .complex .f64 0 0] 43) ⟨b, 4, none⟩ (World.block_lt_of_cell? _ _ s1)).trans s1
 obtain ⟨an, han⟩ : ∃ x, a1.n = x := ⟨_, rfl⟩
 obtain ⟨bn, hbn⟩ : ∃ x, a2.n = x := ⟨_, rfl⟩
 rw [han] at q1 ⊢
 rw [hbn] at q4 ⊢
 have c1 : Hid (∀ (w : World) (n : Nat), Calls Tryz.prog 202 #[.int .i64 op, .int .i64 an, .int .i64 bn] (w.drewN n) fun e w' => e = .returned (.tuple #[.int .i64 (twoM op an bn).1, .bool (twoM op an bn).2]) ∧ ∃ m, w' = w.drewN m) := Hd fun w n => two_t op an bn w n
 obtain ⟨r, hr⟩ : ∃ x, twoM op an bn = x := ⟨_, rfl⟩
 rw [hr] at c1 ⊢
 clear han hbn hr
 clear p0 p1 p2 s0 s1 s2 h hb hb2
 go_in
 go_wp2_with fail
 go_quiet (exact c1.out _ _)
 go_wp2_with fail
 refine (num_any r.1 _).mono ?_
 rintro e w2 ⟨rfl, hb⟩
 have hx := BX.of ((show Below (w.alloc (.cells #[.int .i64 0, .int .i64 0, .complex .f64 0 0] 43)).heap.size (w.alloc (.cells #[.int .i64 0, .int .i64 0, .complex .f64 0 0] 43)) ((w.alloc (.cells #[.int .i64 0, .int .i64 0, .complex .f64 0 0] 43)).drewN _) from ⟨rfl, rfl, rfl, Nat.le_refl _, fun _ _ => rfl⟩).trans hb)
 obtain ⟨u0, e0⟩ := hx.c0
 obtain ⟨u1, e1⟩ := hx.c1
 obtain ⟨u2, e2⟩ := hx.c2
 have f0 := hx.f0
 have f1 := hx.f1
 have f2 := hx.f2
 have hbw := hx.bw
 clear hb hx q1 q4
 go_wp2_with fail
 exact bodyPost_ret (v := .tuple #[vV 1 r.1 0 0, .bool r.2]) (by simp [results, Tryz.results194, go_sem, e0, e1, e2]) rfl ⟨rfl, by repeat (first | exact hbw | (refine Below.setCell ?_ (by simp) _))⟩
def IsOne (op : Int) (xs : List DV) (w : World) (e : Ending) (w' : World) : Prop := ∃ v ok, e = .returned (.tuple #[DV.v v, .bool ok]) ∧ (ok = true → OneR op xs (some v)) ∧ (ok = false → OneR op xs none) ∧ Below w.heap.size w w'
theorem kd_eq (op : Int) : (op = 16 ∨ op = 17 ∨ op = 18) ∨ (op = 19 ∨ op = 20) ∨ op = 15 ∨ ((op == 15) = false ∧ (op == 16) = false ∧ (op == 17) = false ∧ (op == 18) = false ∧ (op == 19) = false ∧ (op == 20) = false ∧ arityN op = takesNM op ∧ kindN op = 1) := by
 by_cases h1 : op = 16 ∨ op = 17 ∨ op = 18
 ·exact .inl h1
 ·by_cases h2 : op = 19 ∨ op = 20
  ·exact .inr (.inl h2)
  ·by_cases h3 : op = 15
   ·exact .inr (.inr (.inl h3))
   ·refine .inr (.inr (.inr ⟨by simp; omega, by simp; omega, by simp; omega, by simp; omega, by simp; omega, by simp; omega, ?_, ?_⟩))
    ·unfold arityN; rw [if_neg (by omega), if_neg (by omega)]
    ·unfold kindN; rw [if_neg (by omega)]
theorem takes_cases (op : Int) : takesNM op = 0 ∨ takesNM op = 1 ∨ takesNM op = 2 := by
 unfold takesNM
 split
 ·exact .inr (.inr rfl)
 ·split
  ·exact .inr (.inl rfl)
  ·exact .inl rfl
structure Lst (w : World) (B : Nat) (A : Option Addr) (n c : Nat) (xs : List DV) : Prop where
 sl : SlV w B A n c xs
 hB : B ≤ w.heap.size
 off : ∀ ad, A = some ad → ∃ b, ad = ⟨b, 0, none⟩
theorem Lst.one {w : World} {B : Nat} {A : Option Addr} {c : Nat} {a : DV} (h : Lst w B A 1 c [a]) : ∃ b, A = some ⟨b, 0, none⟩ ∧ b < w.heap.size ∧ w.cell? ⟨b, 0, none⟩ = some (.int .i64 a.k) ∧ w.cell? ⟨b, 1, none⟩ = some (.int .i64 a.n) ∧ w.cell? ⟨b, 2, none⟩ = some (.complex .f64 a.x a.y) := by
 obtain ⟨b', off, v, e, hb, hx, p0, p1, p2⟩ := slv_at h.sl (show 0 < 1 by omega)
 obtain ⟨b, e'⟩ := h.off _ e
 simp at e' hx
 obtain ⟨rfl, rfl⟩ := e'
 subst hx
 simp only [Nat.zero_mul, Nat.add_zero, Nat.zero_add] at p0 p1 p2
 exact ⟨b', e, Nat.lt_of_lt_of_le hb h.hB, p0, p1, p2⟩
theorem Lst.two {w : World} {B : Nat} {A : Option Addr} {c : Nat} {a1 a2 : DV} (h : Lst w B A 2 c [a1, a2]) : ∃ b, A = some ⟨b, 0, none⟩ ∧ b < w.heap.size ∧ w.cell? ⟨b, 1, none⟩ = some (.int .i64 a1.n) ∧ w.cell? ⟨b, 2, none⟩ = some (.complex .f64 a1.x a1.y) ∧ w.cell? ⟨b, 4, none⟩ = some (.int .i64 a2.n) ∧ w.cell? ⟨b, 5, none⟩ = some (.complex .f64 a2.x a2.y) := by
 obtain ⟨b', off, v, e, hb, hx, p0, p1, p2⟩ := slv_at h.sl (show 0 < 2 by omega)
 obtain ⟨b2', off2, v2, e2, hb2, hx2, s0, s1, s2⟩ := slv_at h.sl (show 1 < 2 by omega)
 obtain ⟨b, e'⟩ := h.off _ e
 obtain ⟨b3, e3⟩ := h.off _ e2
 rw [e] at e2
 simp at e' hx e2 hx2 e3
 obtain ⟨rfl, rfl⟩ := e'
 obtain ⟨rfl, rfl⟩ := e2
 subst hx
 subst hx2
 simp only [Nat.zero_mul, Nat.one_mul, Nat.add_zero, Nat.zero_add, Nat.reduceAdd] at p0 p1 p2 s0 s1 s2
 exact ⟨b', e, Nat.lt_of_lt_of_le hb h.hB, p1, p2, s1, s2⟩
theorem fits_no {op : Int} {n : Nat} {xs : List DV} {m t : Int} (hl : xs.length = n) (hm : arityN op = m) (ht : kindN op = t) (h : (((n : Int) == m) && allK t xs) = false) : fitsB op xs = false := by
 unfold fitsB
 rw [hl, hm, ht, h]
 simp
theorem one_pair (A : Option Addr) (n c B : Nat) (xs : List DV) (w : World) (h : Lst w B A n c xs) (hn : n ≤ 1000) :
  Calls Tryz.prog 186 #[.int .i64 15, .slice A n c] w (IsOne 15 xs w) := by
 obtain ⟨w1, hw1⟩ : ∃ w1, w.alloc (.cells #[.int .i64 0, .int .i64 0, .complex .f64 0 0] 43) = w1 := ⟨_, rfl⟩
 have hbx : BX w w.heap.size w1 := by rw [← hw1]; exact BX.of (Below.refl _ _)
 have HL : Hid (xs.length = n) := Hd h.sl.1
 have HLst := Hd h
 have HE := Hd hw1
 have HBX := Hd hbx
 have ct : Hid (∀ w : World, Calls Tryz.prog 188 #[.int .i64 15] w fun e w' => e = .returned (.int .i64 (takesNM 15)) ∧ w = w') := Hd fun w => whole_Takes_any 15 w
 have ca : Hid (Calls Tryz.prog 189 #[.slice A n c, .int .i64 2, .int .i64 1] w1 fun e w' => e = .returned (.bool (((n : Int) == 2) && allK 1 xs)) ∧ Below w1.heap.size w1 w') := Hd (all_any A n c B xs 2 1 w1 (h.sl.on (hbx.bw.mono h.hB)) (Nat.le_trans h.hB hbx.bw.size) hn)
 clear h hbx hw1
 rcases Bool.eq_false_or_eq_true (((n : Int) == 2) && allK 1 xs) with hf | hf
 ·rw [hf] at ca
  rw [Bool.and_eq_true] at hf
  obtain ⟨a1, a2, rfl⟩ := list2 HL.out hf.1
  obtain rfl : n = 2 := by have := hf.1; simp at this; omega
  have hk := allK2 hf.2
  obtain ⟨b, rfl, hbl, p1, p2, p4, p5⟩ := HLst.out.two
  have HR := Hd (OneR.pair a1 a2 rfl rfl hk.1 hk.2)
  obtain ⟨an, han⟩ : ∃ x, a1.n = x := ⟨_, rfl⟩
  obtain ⟨bn, hbn⟩ : ∃ x, a2.n = x := ⟨_, rfl⟩
  rw [han] at p1 HR
  rw [hbn] at p4 HR
  have HQ : Hid (∀ W : World, BX w w.heap.size W → W.cell? ⟨b, 1, none⟩ = some (.int .i64 an) ∧ W.cell? ⟨b, 4, none⟩ = some (.int .i64 bn)) := Hd fun W hW => ⟨(hW.bw.cell hbl).trans p1, (hW.bw.cell hbl).trans p4⟩
  clear hf hk p1 p2 p4 p5 han hbn hbl hn
  go_in
  go_wp2_with fail
  rw [HE.out]
  refine (ct.out _).mono ?_
  rintro e w' ⟨rfl, rfl⟩
  go_wp2_with fail
  refine ca.out.mono ?_
  rintro e w2 ⟨rfl, hb2⟩
  have HB2 := Hd (HBX.out.on hb2)
  clear hb2
  go_wp2_with fail
  refine wp_region_held (S := fun W => BX w w.heap.size W) (by kernel_rfl) ?_
  change wpAnyH _ _ _ _ _ _ _ _ (World.drew _)
  have hS0 : BX w w.heap.size w2.drew := HB2.out.drew
  refine teH 0 (.slice (some ⟨b, 0, none⟩) 2 c) rfl (by intro W hW; go_simp; try (first | (with_reducible rfl) | omega)) hS0 ?_
  refine teH 1 (.pointer (some ⟨b, 0, none⟩)) rfl (by intro W hW; go_simp; try (first | (with_reducible rfl) | omega)) hS0 ?_
  refine teH 2 (.pointer (some ⟨b, 1, none⟩)) rfl (by intro W hW; go_simp; try (first | (with_reducible rfl) | omega)) hS0 ?_
  refine teH 3 (.int .i64 an) rfl (by intro W hW; obtain ⟨g1, g2⟩ := HQ.out W hW; go_simp; try (first | (with_reducible rfl) | omega)) hS0 ?_
  refine teH 4 (.slice (some ⟨b, 0, none⟩) 2 c) rfl (by intro W hW; go_simp; try (first | (with_reducible rfl) | omega)) hS0 ?_
  refine teH 5 (.pointer (some ⟨b, 3, none⟩)) rfl (by intro W hW; go_simp; try (first | (with_reducible rfl) | omega)) hS0 ?_
  refine teH 6 (.pointer (some ⟨b, 4, none⟩)) rfl (by intro W hW; go_simp; try (first | (with_reducible rfl) | omega)) hS0 ?_
  refine teH 7 (.int .i64 bn) rfl (by intro W hW; obtain ⟨g1, g2⟩ := HQ.out W hW; go_simp; try (first | (with_reducible rfl) | omega)) hS0 ?_
  refine wpAnyH_one (i := 8) (by kernel_rfl) rfl (fun K hK => ?_)
  go_simp
  refine Calls.mono (Hd (pair_any an bn _)).out ?_
  rintro e w3 ⟨rfl, rfl⟩
  go_simp
  refine hK _ _ ⟨hS0, ?_⟩; clear hK K
  refine wpAnyH_one (i := 9) (by kernel_rfl) rfl (fun K hK => ?_)
  go_simp
  refine Calls.mono (Hd (point_any (nr an) (nr bn) _)).out ?_
  rintro e w3 ⟨rfl, hb3⟩
  have hS3 := hS0.on hb3
  go_simp
  refine hK _ _ ⟨hS3, ?_⟩; clear hK K
  refine wpAnyH_one (i := 10) (by kernel_rfl) rfl (fun K hK => ?_)
  obtain ⟨u0, e0⟩ := hS3.c0
  obtain ⟨u1, e1⟩ := hS3.c1
  obtain ⟨u2, e2⟩ := hS3.c2
  have f0 := hS3.f0
  have f1 := hS3.f1
  have f2 := hS3.f2
  go_simp
  refine hK _ _ ⟨hS3.put3 _ _ _, ?_⟩; clear hK K
  refine teH 11 (.bool true) rfl (by intro W hW; go_simp; try (first | (with_reducible rfl) | omega)) (hS3.put3 _ _ _) ?_
  refine wpAnyH_done (by kernel_rfl) ?_ _
  go_wp2_with fail
  exact bodyPost_ret (v := .tuple #[vV 2 0 (nr an) (nr bn), .bool true]) (by simp [results, Tryz.results186, go_sem, e0, e1, e2]) rfl ⟨⟨2, 0, nr an, nr bn⟩, true, rfl, (fun _ => HR.out), (fun h => by cases h), (hS3.put3 _ _ _).bw⟩
 ·have HN : Hid (OneR 15 xs none) := Hd (.no (fits_no HL.out rfl rfl hf))
  rw [hf] at ca
  clear hf hn
  go_in
  go_wp2_with fail
  rw [HE.out]
  refine (ct.out _).mono ?_
  rintro e w' ⟨rfl, rfl⟩
  go_wp2_with fail
  refine ca.out.mono ?_
  rintro e w2 ⟨rfl, hb2⟩
  have HB2 := Hd (HBX.out.on hb2)
  clear hb2
  obtain ⟨u0, e0⟩ := HB2.out.c0
  obtain ⟨u1, e1⟩ := HB2.out.c1
  obtain ⟨u2, e2⟩ := HB2.out.c2
  have f0 := HB2.out.f0
  have f1 := HB2.out.f1
  have f2 := HB2.out.f2
  go_wp2_with fail
  exact bodyPost_ret (v := .tuple #[zV, .bool false]) (by simp [results, Tryz.results186, go_sem, e0, e1, e2]) rfl ⟨⟨0, 0, 0, 0⟩, false, rfl, (fun h => by cases h), (fun _ => HN.out), by repeat (first | exact HB2.out.bw | (refine Below.setCell ?_ (by simp) _))⟩
theorem one_two16 (A : Option Addr) (n c B : Nat) (xs : List DV) (w : World) (h : Lst w B A n c xs) (hn : n ≤ 1000) :
  Calls Tryz.prog 186 #[.int .i64 16, .slice A n c] w (IsOne 16 xs w) := by
 obtain ⟨w1, hw1⟩ : ∃ w1, w.alloc (.cells #[.int .i64 0, .int .i64 0, .complex .f64 0 0] 43) = w1 := ⟨_, rfl⟩
 have hbx : BX w w.heap.size w1 := by rw [← hw1]; exact BX.of (Below.refl _ _)
 have HL : Hid (xs.length = n) := Hd h.sl.1
 have HLst := Hd h
 have HE := Hd hw1
 have HBX := Hd hbx
 have ct : Hid (∀ w : World, Calls Tryz.prog 188 #[.int .i64 16] w fun e w' => e = .returned (.int .i64 (takesNM 16)) ∧ w = w') := Hd fun w => whole_Takes_any 16 w
 have ca : Hid (Calls Tryz.prog 189 #[.slice A n c, .int .i64 2, .int .i64 2] w1 fun e w' => e = .returned (.bool (((n : Int) == 2) && allK 2 xs)) ∧ Below w1.heap.size w1 w') := Hd (all_any A n c B xs 2 2 w1 (h.sl.on (hbx.bw.mono h.hB)) (Nat.le_trans h.hB hbx.bw.size) hn)
 clear h hbx hw1
 rcases Bool.eq_false_or_eq_true (((n : Int) == 2) && allK 2 xs) with hf | hf
 ·rw [hf] at ca
  rw [Bool.and_eq_true] at hf
  obtain ⟨a1, a2, rfl⟩ := list2 HL.out hf.1
  obtain rfl : n = 2 := by have := hf.1; simp at this; omega
  have hk := allK2 hf.2
  obtain ⟨b, rfl, hbl, p1, p2, p4, p5⟩ := HLst.out.two
  have HR : Hid (∀ r i, TwoR 16 a1.x a1.y a2.x a2.y r i → OneR 16 [a1, a2] (some ⟨2, 0, r, i⟩)) := Hd fun r i ht => OneR.two a1 a2 r i (by decide) rfl hk.1 hk.2 ht
  obtain ⟨ax, hax⟩ : ∃ x, a1.x = x := ⟨_, rfl⟩
  obtain ⟨ay, hay⟩ : ∃ x, a1.y = x := ⟨_, rfl⟩
  obtain ⟨bx, hbx⟩ : ∃ x, a2.x = x := ⟨_, rfl⟩
  obtain ⟨by_, hby_⟩ : ∃ x, a2.y = x := ⟨_, rfl⟩
  rw [hax, hay] at p2 HR
  rw [hbx] at p5 HR
  rw [hby_] at p5 HR
  have HQ : Hid (∀ W : World, BX w w.heap.size W → W.cell? ⟨b, 2, none⟩ = some (.complex .f64 ax ay) ∧ W.cell? ⟨b, 5, none⟩ = some (.complex .f64 bx by_)) := Hd fun W hW => ⟨(hW.bw.cell hbl).trans p2, (hW.bw.cell hbl).trans p5⟩
  clear hf hk p1 p2 p4 p5 hax hay hbx hby_ hbl hn
  go_in
  go_wp2_with fail
  rw [HE.out]
  refine (ct.out _).mono ?_
  rintro e w' ⟨rfl, rfl⟩
  go_wp2_with fail
  refine ca.out.mono ?_
  rintro e w2 ⟨rfl, hb2⟩
  have HB2 := Hd (HBX.out.on hb2)
  clear hb2
  go_wp2_with fail
  refine wp_region_held (S := fun W => BX w w.heap.size W) (by kernel_rfl) ?_
  change wpAnyH _ _ _ _ _ _ _ _ (World.drew _)
  have hS0 : BX w w.heap.size w2.drew := HB2.out.drew
  refine teH 0 (.int .i64 16) rfl (by intro W hW; go_simp; try (first | (with_reducible rfl) | omega)) hS0 ?_
  refine teH 1 (.slice (some ⟨b, 0, none⟩) 2 c) rfl (by intro W hW; go_simp; try (first | (with_reducible rfl) | omega)) hS0 ?_
  refine teH 2 (.pointer (some ⟨b, 0, none⟩)) rfl (by intro W hW; go_simp; try (first | (with_reducible rfl) | omega)) hS0 ?_
  refine teH 3 (.pointer (some ⟨b, 2, none⟩)) rfl (by intro W hW; go_simp; try (first | (with_reducible rfl) | omega)) hS0 ?_
  refine teH 4 (.complex .f64 ax ay) rfl (by intro W hW; obtain ⟨g1, g2⟩ := HQ.out W hW; go_simp; try (first | (with_reducible rfl) | omega)) hS0 ?_
  refine teH 5 (.slice (some ⟨b, 0, none⟩) 2 c) rfl (by intro W hW; go_simp; try (first | (with_reducible rfl) | omega)) hS0 ?_
  refine teH 6 (.pointer (some ⟨b, 3, none⟩)) rfl (by intro W hW; go_simp; try (first | (with_reducible rfl) | omega)) hS0 ?_
  refine teH 7 (.pointer (some ⟨b, 5, none⟩)) rfl (by intro W hW; go_simp; try (first | (with_reducible rfl) | omega)) hS0 ?_
  refine teH 8 (.complex .f64 bx by_) rfl (by intro W hW; obtain ⟨g1, g2⟩ := HQ.out W hW; go_simp; try (first | (with_reducible rfl) | omega)) hS0 ?_
  refine wpAnyH_one (i := 9) (by kernel_rfl) rfl (fun K hK => ?_)
  go_simp
  refine Calls.mono (Hd (two_any 16 ax ay bx by_ _)).out ?_
  rintro e w3 ⟨r, i, m, rfl, ht, rfl⟩
  have HT := Hd (HR.out _ _ ht)
  clear ht
  have hS1 := HB2.out.drewN (1 + m)
  go_simp
  refine hK _ _ ⟨hS1, ?_⟩; clear hK K
  refine wpAnyH_one (i := 10) (by kernel_rfl) rfl (fun K hK => ?_)
  go_simp
  refine Calls.mono (Hd (point_any r i _)).out ?_
  rintro e w3 ⟨rfl, hb3⟩
  have hS3 := hS1.on hb3
  go_simp
  refine hK _ _ ⟨hS3, ?_⟩; clear hK K
  refine wpAnyH_one (i := 11) (by kernel_rfl) rfl (fun K hK => ?_)
  obtain ⟨u0, e0⟩ := hS3.c0
  obtain ⟨u1, e1⟩ := hS3.c1
  obtain ⟨u2, e2⟩ := hS3.c2
  have f0 := hS3.f0
  have f1 := hS3.f1
  have f2 := hS3.f2
  go_simp
  refine hK _ _ ⟨hS3.put3 _ _ _, ?_⟩; clear hK K
  refine teH 12 (.bool true) rfl (by intro W hW; go_simp; try (first | (with_reducible rfl) | omega)) (hS3.put3 _ _ _) ?_
  refine wpAnyH_done (by kernel_rfl) ?_ _
  go_wp2_with fail
  exact bodyPost_ret (v := .tuple #[vV 2 0 r i, .bool true]) (by simp [results, Tryz.results186, go_sem, e0, e1, e2]) rfl ⟨⟨2, 0, r, i⟩, true, rfl, (fun _ => HT.out), (fun h => by cases h), (hS3.put3 _ _ _).bw⟩
 ·have HN : Hid (OneR 16 xs none) := Hd (.no (fits_no HL.out rfl rfl hf))
  rw [hf] at ca
  clear hf hn
  go_in
  go_wp2_with fail
  rw [HE.out]
  refine (ct.out _).mono ?_
  rintro e w' ⟨rfl, rfl⟩
  go_wp2_with fail
  refine ca.out.mono ?_
  rintro e w2 ⟨rfl, hb2⟩
  have HB2 := Hd (HBX.out.on hb2)
  clear hb2
  obtain ⟨u0, e0⟩ := HB2.out.c0
  obtain ⟨u1, e1⟩ := HB2.out.c1
  obtain ⟨u2, e2⟩ := HB2.out.c2
  have f0 := HB2.out.f0
  have f1 := HB2.out.f1
  have f2 := HB2.out.f2
  go_wp2_with fail
  exact bodyPost_ret (v := .tuple #[zV, .bool false]) (by simp [results, Tryz.results186, go_sem, e0, e1, e2]) rfl ⟨⟨0, 0, 0, 0⟩, false, rfl, (fun h => by cases h), (fun _ => HN.out), by repeat (first | exact HB2.out.bw | (refine Below.setCell ?_ (by simp) _))⟩
theorem one_two17 (A : Option Addr) (n c B : Nat) (xs : List DV) (w : World) (h : Lst w B A n c xs) (hn : n ≤ 1000) :
  Calls Tryz.prog 186 #[.int .i64 17, .slice A n c] w (IsOne 17 xs w) := by
 obtain ⟨w1, hw1⟩ : ∃ w1, w.alloc (.cells #[.int .i64 0, .int .i64 0, .complex .f64 0 0] 43) = w1 := ⟨_, rfl⟩
 have hbx : BX w w.heap.size w1 := by rw [← hw1]; exact BX.of (Below.refl _ _)
 have HL : Hid (xs.length = n) := Hd h.sl.1
 have HLst := Hd h
 have HE := Hd hw1
 have HBX := Hd hbx
 have ct : Hid (∀ w : World, Calls Tryz.prog 188 #[.int .i64 17] w fun e w' => e = .returned (.int .i64 (takesNM 17)) ∧ w = w') := Hd fun w => whole_Takes_any 17 w
 have ca : Hid (Calls Tryz.prog 189 #[.slice A n c, .int .i64 2, .int .i64 2] w1 fun e w' => e = .returned (.bool (((n : Int) == 2) && allK 2 xs)) ∧ Below w1.heap.size w1 w') := Hd (all_any A n c B xs 2 2 w1 (h.sl.on (hbx.bw.mono h.hB)) (Nat.le_trans h.hB hbx.bw.size) hn)
 clear h hbx hw1
 rcases Bool.eq_false_or_eq_true (((n : Int) == 2) && allK 2 xs) with hf | hf
 ·rw [hf] at ca
  rw [Bool.and_eq_true] at hf
  obtain ⟨a1, a2, rfl⟩ := list2 HL.out hf.1
  obtain rfl : n = 2 := by have := hf.1; simp at this; omega
  have hk := allK2 hf.2
  obtain ⟨b, rfl, hbl, p1, p2, p4, p5⟩ := HLst.out.two
  have HR : Hid (∀ r i, TwoR 17 a1.x a1.y a2.x a2.y r i → OneR 17 [a1, a2] (some ⟨2, 0, r, i⟩)) := Hd fun r i ht => OneR.two a1 a2 r i (by decide) rfl hk.1 hk.2 ht
  obtain ⟨ax, hax⟩ : ∃ x, a1.x = x := ⟨_, rfl⟩
  obtain ⟨ay, hay⟩ : ∃ x, a1.y = x := ⟨_, rfl⟩
  obtain ⟨bx, hbx⟩ : ∃ x, a2.x = x := ⟨_, rfl⟩
  obtain ⟨by_, hby_⟩ : ∃ x, a2.y = x := ⟨_, rfl⟩
  rw [hax, hay] at p2 HR
  rw [hbx] at p5 HR
  rw [hby_] at p5 HR
  have HQ : Hid (∀ W : World, BX w w.heap.size W → W.cell? ⟨b, 2, none⟩ = some (.complex .f64 ax ay) ∧ W.cell? ⟨b, 5, none⟩ = some (.complex .f64 bx by_)) := Hd fun W hW => ⟨(hW.bw.cell hbl).trans p2, (hW.bw.cell hbl).trans p5⟩
  clear hf hk p1 p2 p4 p5 hax hay hbx hby_ hbl hn
  go_in
  go_wp2_with fail
  rw [HE.out]
  refine (ct.out _).mono ?_
  rintro e w' ⟨rfl, rfl⟩
  go_wp2_with fail
  refine ca.out.mono ?_
  rintro e w2 ⟨rfl, hb2⟩
  have HB2 := Hd (HBX.out.on hb2)
  clear hb2
  go_wp2_with fail
  refine wp_region_held (S := fun W => BX w w.heap.size W) (by kernel_rfl) ?_
  change wpAnyH _ _ _ _ _ _ _ _ (World.drew _)
  have hS0 : BX w w.heap.size w2.drew := HB2.out.drew
  refine teH 0 (.int .i64 17) rfl (by intro W hW; go_simp; try (first | (with_reducible rfl) | omega)) hS0 ?_
  refine teH 1 (.slice (some ⟨b, 0, none⟩) 2 c) rfl (by intro W hW; go_simp; try (first | (with_reducible rfl) | omega)) hS0 ?_
  refine teH 2 (.pointer (some ⟨b, 0, none⟩)) rfl (by intro W hW; go_simp; try (first | (with_reducible rfl) | omega)) hS0 ?_
  refine teH 3 (.pointer (some ⟨b, 2, none⟩)) rfl (by intro W hW; go_simp; try (first | (with_reducible rfl) | omega)) hS0 ?_
  refine teH 4 (.complex .f64 ax ay) rfl (by intro W hW; obtain ⟨g1, g2⟩ := HQ.out W hW; go_simp; try (first | (with_reducible rfl) | omega)) hS0 ?_
  refine teH 5 (.slice (some ⟨b, 0, none⟩) 2 c) rfl (by intro W hW; go_simp; try (first | (with_reducible rfl) | omega)) hS0 ?_
  refine teH 6 (.pointer (some ⟨b, 3, none⟩)) rfl (by intro W hW; go_simp; try (first | (with_reducible rfl) | omega)) hS0 ?_
  refine teH 7 (.pointer (some ⟨b, 5, none⟩)) rfl (by intro W hW; go_simp; try (first | (with_reducible rfl) | omega)) hS0 ?_
  refine teH 8 (.complex .f64 bx by_) rfl (by intro W hW; obtain ⟨g1, g2⟩ := HQ.out W hW; go_simp; try (first | (with_reducible rfl) | omega)) hS0 ?_
  refine wpAnyH_one (i := 9) (by kernel_rfl) rfl (fun K hK => ?_)
  go_simp
  refine Calls.mono (Hd (two_any 17 ax ay bx by_ _)).out ?_
  rintro e w3 ⟨r, i, m, rfl, ht, rfl⟩
  have HT := Hd (HR.out _ _ ht)
  clear ht
  have hS1 := HB2.out.drewN (1 + m)
  go_simp
  refine hK _ _ ⟨hS1, ?_⟩; clear hK K
  refine wpAnyH_one (i := 10) (by kernel_rfl) rfl (fun K hK => ?_)
  go_simp
  refine Calls.mono (Hd (point_any r i _)).out ?_
  rintro e w3 ⟨rfl, hb3⟩
  have hS3 := hS1.on hb3
  go_simp
  refine hK _ _ ⟨hS3, ?_⟩; clear hK K
  refine wpAnyH_one (i := 11) (by kernel_rfl) rfl (fun K hK => ?_)
  obtain ⟨u0, e0⟩ := hS3.c0
  obtain ⟨u1, e1⟩ := hS3.c1
  obtain ⟨u2, e2⟩ := hS3.c2
  have f0 := hS3.f0
  have f1 := hS3.f1
  have f2 := hS3.f2
  go_simp
  refine hK _ _ ⟨hS3.put3 _ _ _, ?_⟩; clear hK K
  refine teH 12 (.bool true) rfl (by intro W hW; go_simp; try (first | (with_reducible rfl) | omega)) (hS3.put3 _ _ _) ?_
  refine wpAnyH_done (by kernel_rfl) ?_ _
  go_wp2_with fail
  exact bodyPost_ret (v := .tuple #[vV 2 0 r i, .bool true]) (by simp [results, Tryz.results186, go_sem, e0, e1, e2]) rfl ⟨⟨2, 0, r, i⟩, true, rfl, (fun _ => HT.out), (fun h => by cases h), (hS3.put3 _ _ _).bw⟩
 ·have HN : Hid (OneR 17 xs none) := Hd (.no (fits_no HL.out rfl rfl hf))
  rw [hf] at ca
  clear hf hn
  go_in
  go_wp2_with fail
  rw [HE.out]
  refine (ct.out _).mono ?_
  rintro e w' ⟨rfl, rfl⟩
  go_wp2_with fail
  refine ca.out.mono ?_
  rintro e w2 ⟨rfl, hb2⟩
  have HB2 := Hd (HBX.out.on hb2)
  clear hb2
  obtain ⟨u0, e0⟩ := HB2.out.c0
  obtain ⟨u1, e1⟩ := HB2.out.c1
  obtain ⟨u2, e2⟩ := HB2.out.c2
  have f0 := HB2.out.f0
  have f1 := HB2.out.f1
  have f2 := HB2.out.f2
  go_wp2_with fail
  exact bodyPost_ret (v := .tuple #[zV, .bool false]) (by simp [results, Tryz.results186, go_sem, e0, e1, e2]) rfl ⟨⟨0, 0, 0, 0⟩, false, rfl, (fun h => by cases h), (fun _ => HN.out), by repeat (first | exact HB2.out.bw | (refine Below.setCell ?_ (by simp) _))⟩
theorem one_two18 (A : Option Addr) (n c B : Nat) (xs : List DV) (w : World) (h : Lst w B A n c xs) (hn : n ≤ 1000) :
  Calls Tryz.prog 186 #[.int .i64 18, .slice A n c] w (IsOne 18 xs w) := by
 obtain ⟨w1, hw1⟩ : ∃ w1, w.alloc (.cells #[.int .i64 0, .int .i64 0, .complex .f64 0 0] 43) = w1 := ⟨_, rfl⟩
 have hbx : BX w w.heap.size w1 := by rw [← hw1]; exact BX.of (Below.refl _ _)
 have HL : Hid (xs.length = n) := Hd h.sl.1
 have HLst := Hd h
 have HE := Hd hw1
 have HBX := Hd hbx
 have ct : Hid (∀ w : World, Calls Tryz.prog 188 #[.int .i64 18] w fun e w' => e = .returned (.int .i64 (takesNM 18)) ∧ w = w') := Hd fun w => whole_Takes_any 18 w
 have ca : Hid (Calls Tryz.prog 189 #[.slice A n c, .int .i64 2, .int .i64 2] w1 fun e w' => e = .returned (.bool (((n : Int) == 2) && allK 2 xs)) ∧ Below w1.heap.size w1 w') := Hd (all_any A n c B xs 2 2 w1 (h.sl.on (hbx.bw.mono h.hB)) (Nat.le_trans h.hB hbx.bw.size) hn)
 clear h hbx hw1
 rcases Bool.eq_false_or_eq_true (((n : Int) == 2) && allK 2 xs) with hf | hf
 ·rw [hf] at ca
  rw [Bool.and_eq_true] at hf
  obtain ⟨a1, a2, rfl⟩ := list2 HL.out hf.1
  obtain rfl : n = 2 := by have := hf.1; simp at this; omega
  have hk := allK2 hf.2
  obtain ⟨b, rfl, hbl, p1, p2, p4, p5⟩ := HLst.out.two
  have HR : Hid (∀ r i, TwoR 18 a1.x a1.y a2.x a2.y r i → OneR 18 [a1, a2] (some ⟨2, 0, r, i⟩)) := Hd fun r i ht => OneR.two a1 a2 r i (by decide) rfl hk.1 hk.2 ht
  obtain ⟨ax, hax⟩ : ∃ x, a1.x = x := ⟨_, rfl⟩
  obtain ⟨ay, hay⟩ : ∃ x, a1.y = x := ⟨_, rfl⟩
  obtain ⟨bx, hbx⟩ : ∃ x, a2.x = x := ⟨_, rfl⟩
  obtain ⟨by_, hby_⟩ : ∃ x, a2.y = x := ⟨_, rfl⟩
  rw [hax, hay] at p2 HR
  rw [hbx] at p5 HR
  rw [hby_] at p5 HR
  have HQ : Hid (∀ W : World, BX w w.heap.size W → W.cell? ⟨b, 2, none⟩ = some (.complex .f64 ax ay) ∧ W.cell? ⟨b, 5, none⟩ = some (.complex .f64 bx by_)) := Hd fun W hW => ⟨(hW.bw.cell hbl).trans p2, (hW.bw.cell hbl).trans p5⟩
  clear hf hk p1 p2 p4 p5 hax hay hbx hby_ hbl hn
  go_in
  go_wp2_with fail
  rw [HE.out]
  refine (ct.out _).mono ?_
  rintro e w' ⟨rfl, rfl⟩
  go_wp2_with fail
  refine ca.out.mono ?_
  rintro e w2 ⟨rfl, hb2⟩
  have HB2 := Hd (HBX.out.on hb2)
  clear hb2
  go_wp2_with fail
  refine wp_region_held (S := fun W => BX w w.heap.size W) (by kernel_rfl) ?_
  change wpAnyH _ _ _ _ _ _ _ _ (World.drew _)
  have hS0 : BX w w.heap.size w2.drew := HB2.out.drew
  refine teH 0 (.int .i64 18) rfl (by intro W hW; go_simp; try (first | (with_reducible rfl) | omega)) hS0 ?_
  refine teH 1 (.slice (some ⟨b, 0, none⟩) 2 c) rfl (by intro W hW; go_simp; try (first | (with_reducible rfl) | omega)) hS0 ?_
  refine teH 2 (.pointer (some ⟨b, 0, none⟩)) rfl (by intro W hW; go_simp; try (first | (with_reducible rfl) | omega)) hS0 ?_
  refine teH 3 (.pointer (some ⟨b, 2, none⟩)) rfl (by intro W hW; go_simp; try (first | (with_reducible rfl) | omega)) hS0 ?_
  refine teH 4 (.complex .f64 ax ay) rfl (by intro W hW; obtain ⟨g1, g2⟩ := HQ.out W hW; go_simp; try (first | (with_reducible rfl) | omega)) hS0 ?_
  refine teH 5 (.slice (some ⟨b, 0, none⟩) 2 c) rfl (by intro W hW; go_simp; try (first | (with_reducible rfl) | omega)) hS0 ?_
  refine teH 6 (.pointer (some ⟨b, 3, none⟩)) rfl (by intro W hW; go_simp; try (first | (with_reducible rfl) | omega)) hS0 ?_
  refine teH 7 (.pointer (some ⟨b, 5, none⟩)) rfl (by intro W hW; go_simp; try (first | (with_reducible rfl) | omega)) hS0 ?_
  refine teH 8 (.complex .f64 bx by_) rfl (by intro W hW; obtain ⟨g1, g2⟩ := HQ.out W hW; go_simp; try (first | (with_reducible rfl) | omega)) hS0 ?_
  refine wpAnyH_one (i := 9) (by kernel_rfl) rfl (fun K hK => ?_)
  go_simp
  refine Calls.mono (Hd (two_any 18 ax ay bx by_ _)).out ?_
  rintro e w3 ⟨r, i, m, rfl, ht, rfl⟩
  have HT := Hd (HR.out _ _ ht)
  clear ht
  have hS1 := HB2.out.drewN (1 + m)
  go_simp
  refine hK _ _ ⟨hS1, ?_⟩; clear hK K
  refine wpAnyH_one (i := 10) (by kernel_rfl) rfl (fun K hK => ?_)
  go_simp
  refine Calls.mono (Hd (point_any r i _)).out ?_
  rintro e w3 ⟨rfl, hb3⟩
  have hS3 := hS1.on hb3
  go_simp
  refine hK _ _ ⟨hS3, ?_⟩; clear hK K
  refine wpAnyH_one (i := 11) (by kernel_rfl) rfl (fun K hK => ?_)
  obtain ⟨u0, e0⟩ := hS3.c0
  obtain ⟨u1, e1⟩ := hS3.c1
  obtain ⟨u2, e2⟩ := hS3.c2
  have f0 := hS3.f0
  have f1 := hS3.f1
  have f2 := hS3.f2
  go_simp
  refine hK _ _ ⟨hS3.put3 _ _ _, ?_⟩; clear hK K
  refine teH 12 (.bool true) rfl (by intro W hW; go_simp; try (first | (with_reducible rfl) | omega)) (hS3.put3 _ _ _) ?_
  refine wpAnyH_done (by kernel_rfl) ?_ _
  go_wp2_with fail
  exact bodyPost_ret (v := .tuple #[vV 2 0 r i, .bool true]) (by simp [results, Tryz.results186, go_sem, e0, e1, e2]) rfl ⟨⟨2, 0, r, i⟩, true, rfl, (fun _ => HT.out), (fun h => by cases h), (hS3.put3 _ _ _).bw⟩
 ·have HN : Hid (OneR 18 xs none) := Hd (.no (fits_no HL.out rfl rfl hf))
  rw [hf] at ca
  clear hf hn
  go_in
  go_wp2_with fail
  rw [HE.out]
  refine (ct.out _).mono ?_
  rintro e w' ⟨rfl, rfl⟩
  go_wp2_with fail
  refine ca.out.mono ?_
  rintro e w2 ⟨rfl, hb2⟩
  have HB2 := Hd (HBX.out.on hb2)
  clear hb2
  obtain ⟨u0, e0⟩ := HB2.out.c0
  obtain ⟨u1, e1⟩ := HB2.out.c1
  obtain ⟨u2, e2⟩ := HB2.out.c2
  have f0 := HB2.out.f0
  have f1 := HB2.out.f1
  have f2 := HB2.out.f2
  go_wp2_with fail
  exact bodyPost_ret (v := .tuple #[zV, .bool false]) (by simp [results, Tryz.results186, go_sem, e0, e1, e2]) rfl ⟨⟨0, 0, 0, 0⟩, false, rfl, (fun h => by cases h), (fun _ => HN.out), by repeat (first | exact HB2.out.bw | (refine Below.setCell ?_ (by simp) _))⟩
theorem one_part19 (A : Option Addr) (n c B : Nat) (xs : List DV) (w : World) (h : Lst w B A n c xs) (hn : n ≤ 1000) :
  Calls Tryz.prog 186 #[.int .i64 19, .slice A n c] w (IsOne 19 xs w) := by
 obtain ⟨w1, hw1⟩ : ∃ w1, w.alloc (.cells #[.int .i64 0, .int .i64 0, .complex .f64 0 0] 43) = w1 := ⟨_, rfl⟩
 have hbx : BX w w.heap.size w1 := by rw [← hw1]; exact BX.of (Below.refl _ _)
 have HL : Hid (xs.length = n) := Hd h.sl.1
 have HLst := Hd h
 have HE := Hd hw1
 have HBX := Hd hbx
 have ct : Hid (∀ w : World, Calls Tryz.prog 188 #[.int .i64 19] w fun e w' => e = .returned (.int .i64 (takesNM 19)) ∧ w = w') := Hd fun w => whole_Takes_any 19 w
 have ca : Hid (Calls Tryz.prog 189 #[.slice A n c, .int .i64 1, .int .i64 2] w1 fun e w' => e = .returned (.bool (((n : Int) == 1) && allK 2 xs)) ∧ Below w1.heap.size w1 w') := Hd (all_any A n c B xs 1 2 w1 (h.sl.on (hbx.bw.mono h.hB)) (Nat.le_trans h.hB hbx.bw.size) hn)
 clear h hbx hw1
 rcases Bool.eq_false_or_eq_true (((n : Int) == 1) && allK 2 xs) with hf | hf
 ·rw [hf] at ca
  rw [Bool.and_eq_true] at hf
  obtain ⟨a1, rfl⟩ := list1 HL.out hf.1
  obtain rfl : n = 1 := by have := hf.1; simp at this; omega
  have hk := allK1 hf.2
  obtain ⟨b, rfl, hbl, p0, p1, p2⟩ := HLst.out.one
  have HR := Hd (OneR.part (op := 19) a1 (by decide) rfl hk)
  obtain ⟨ax, hax⟩ : ∃ x, a1.x = x := ⟨_, rfl⟩
  obtain ⟨ay, hay⟩ : ∃ x, a1.y = x := ⟨_, rfl⟩
  rw [hax, hay] at p2 HR
  have HQ : Hid (∀ W : World, BX w w.heap.size W → W.cell? ⟨b, 2, none⟩ = some (.complex .f64 ax ay)) := Hd fun W hW => (hW.bw.cell hbl).trans p2
  have cp : Hid (∀ w : World, Calls Tryz.prog 193 #[.int .i64 19, .complex .f64 ax ay] w fun e w' => e = .returned (.int .i64 (partOf 19 ax ay)) ∧ w = w') := Hd fun w => part_any 19 ax ay w
  obtain ⟨r, hr⟩ : ∃ x, partOf 19 ax ay = x := ⟨_, rfl⟩
  rw [hr] at cp HR
  clear hf hk p0 p1 p2 hax hay hbl hn hr
  go_in
  go_wp2_with fail
  rw [HE.out]
  refine (ct.out _).mono ?_
  rintro e w' ⟨rfl, rfl⟩
  go_wp2_with fail
  refine ca.out.mono ?_
  rintro e w2 ⟨rfl, hb2⟩
  have HB2 := Hd (HBX.out.on hb2)
  clear hb2
  have g2 := HQ.out w2 HB2.out
  go_wp2_with fail
  refine (cp.out _).mono ?_
  rintro e w3 ⟨rfl, rfl⟩
  go_wp2_with fail
  refine (num_any r _).mono ?_
  rintro e w3 ⟨rfl, hb3⟩
  have hS3 := HB2.out.on hb3
  obtain ⟨u0, e0⟩ := hS3.c0
  obtain ⟨u1, e1⟩ := hS3.c1
  obtain ⟨u2, e2⟩ := hS3.c2
  have f0 := hS3.f0
  have f1 := hS3.f1
  have f2 := hS3.f2
  clear hb3 g2
  go_wp2_with fail
  exact bodyPost_ret (v := .tuple #[vV 1 r 0 0, .bool true]) (by simp [results, Tryz.results186, go_sem, e0, e1, e2]) rfl ⟨⟨1, r, 0, 0⟩, true, rfl, (fun _ => HR.out), (fun h => by cases h), (hS3.put3 _ _ _).bw⟩
 ·have HN : Hid (OneR 19 xs none) := Hd (.no (fits_no HL.out rfl rfl hf))
  rw [hf] at ca
  clear hf hn
  go_in
  go_wp2_with fail
  rw [HE.out]
  refine (ct.out _).mono ?_
  rintro e w' ⟨rfl, rfl⟩
  go_wp2_with fail
  refine ca.out.mono ?_
  rintro e w2 ⟨rfl, hb2⟩
  have HB2 := Hd (HBX.out.on hb2)
  clear hb2
  obtain ⟨u0, e0⟩ := HB2.out.c0
  obtain ⟨u1, e1⟩ := HB2.out.c1
  obtain ⟨u2, e2⟩ := HB2.out.c2
  have f0 := HB2.out.f0
  have f1 := HB2.out.f1
  have f2 := HB2.out.f2
  go_wp2_with fail
  exact bodyPost_ret (v := .tuple #[zV, .bool false]) (by simp [results, Tryz.results186, go_sem, e0, e1, e2]) rfl ⟨⟨0, 0, 0, 0⟩, false, rfl, (fun h => by cases h), (fun _ => HN.out), by repeat (first | exact HB2.out.bw | (refine Below.setCell ?_ (by simp) _))⟩
theorem one_part20 (A : Option Addr) (n c B : Nat) (xs : List DV) (w : World) (h : Lst w B A n c xs) (hn : n ≤ 1000) :
  Calls Tryz.prog 186 #[.int .i64 20, .slice A n c] w (IsOne 20 xs w) := by
 obtain ⟨w1, hw1⟩ : ∃ w1, w.alloc (.cells #[.int .i64 0, .int .i64 0, .complex .f64 0 0] 43) = w1 := ⟨_, rfl⟩
 have hbx : BX w w.heap.size w1 := by rw [← hw1]; exact BX.of (Below.refl _ _)
 have HL : Hid (xs.length = n) := Hd h.sl.1
 have HLst := Hd h
 have HE := Hd hw1
 have HBX := Hd hbx
 have ct : Hid (∀ w : World, Calls Tryz.prog 188 #[.int .i64 20] w fun e w' => e = .returned (.int .i64 (takesNM 20)) ∧ w = w') := Hd fun w => whole_Takes_any 20 w
 have ca : Hid (Calls Tryz.prog 189 #[.slice A n c, .int .i64 1, .int .i64 2] w1 fun e w' => e = .returned (.bool (((n : Int) == 1) && allK 2 xs)) ∧ Below w1.heap.size w1 w') := Hd (all_any A n c B xs 1 2 w1 (h.sl.on (hbx.bw.mono h.hB)) (Nat.le_trans h.hB hbx.bw.size) hn)
 clear h hbx hw1
 rcases Bool.eq_false_or_eq_true (((n : Int) == 1) && allK 2 xs) with hf | hf
 ·rw [hf] at ca
  rw [Bool.and_eq_true] at hf
  obtain ⟨a1, rfl⟩ := list1 HL.out hf.1
  obtain rfl : n = 1 := by have := hf.1; simp at this; omega
  have hk := allK1 hf.2
  obtain ⟨b, rfl, hbl, p0, p1, p2⟩ := HLst.out.one
  have HR := Hd (OneR.part (op := 20) a1 (by decide) rfl hk)
  obtain ⟨ax, hax⟩ : ∃ x, a1.x = x := ⟨_, rfl⟩
  obtain ⟨ay, hay⟩ : ∃ x, a1.y = x := ⟨_, rfl⟩
  rw [hax, hay] at p2 HR
  have HQ : Hid (∀ W : World, BX w w.heap.size W → W.cell? ⟨b, 2, none⟩ = some (.complex .f64 ax ay)) := Hd fun W hW => (hW.bw.cell hbl).trans p2
  have cp : Hid (∀ w : World, Calls Tryz.prog 193 #[.int .i64 20, .complex .f64 ax ay] w fun e w' => e = .returned (.int .i64 (partOf 20 ax ay)) ∧ w = w') := Hd fun w => part_any 20 ax ay w
  obtain ⟨r, hr⟩ : ∃ x, partOf 20 ax ay = x := ⟨_, rfl⟩
  rw [hr] at cp HR
  clear hf hk p0 p1 p2 hax hay hbl hn hr
  go_in
  go_wp2_with fail
  rw [HE.out]
  refine (ct.out _).mono ?_
  rintro e w' ⟨rfl, rfl⟩
  go_wp2_with fail
  refine ca.out.mono ?_
  rintro e w2 ⟨rfl, hb2⟩
  have HB2 := Hd (HBX.out.on hb2)
  clear hb2
  have g2 := HQ.out w2 HB2.out
  go_wp2_with fail
  refine (cp.out _).mono ?_
  rintro e w3 ⟨rfl, rfl⟩
  go_wp2_with fail
  refine (num_any r _).mono ?_
  rintro e w3 ⟨rfl, hb3⟩
  have hS3 := HB2.out.on hb3
  obtain ⟨u0, e0⟩ := hS3.c0
  obtain ⟨u1, e1⟩ := hS3.c1
  obtain ⟨u2, e2⟩ := hS3.c2
  have f0 := hS3.f0
  have f1 := hS3.f1
  have f2 := hS3.f2
  clear hb3 g2
  go_wp2_with fail
  exact bodyPost_ret (v := .tuple #[vV 1 r 0 0, .bool true]) (by simp [results, Tryz.results186, go_sem, e0, e1, e2]) rfl ⟨⟨1, r, 0, 0⟩, true, rfl, (fun _ => HR.out), (fun h => by cases h), (hS3.put3 _ _ _).bw⟩
 ·have HN : Hid (OneR 20 xs none) := Hd (.no (fits_no HL.out rfl rfl hf))
  rw [hf] at ca
  clear hf hn
  go_in
  go_wp2_with fail
  rw [HE.out]
  refine (ct.out _).mono ?_
  rintro e w' ⟨rfl, rfl⟩
  go_wp2_with fail
  refine ca.out.mono ?_
  rintro e w2 ⟨rfl, hb2⟩
  have HB2 := Hd (HBX.out.on hb2)
  clear hb2
  obtain ⟨u0, e0⟩ := HB2.out.c0
  obtain ⟨u1, e1⟩ := HB2.out.c1
  obtain ⟨u2, e2⟩ := HB2.out.c2
  have f0 := HB2.out.f0
  have f1 := HB2.out.f1
  have f2 := HB2.out.f2
  go_wp2_with fail
  exact bodyPost_ret (v := .tuple #[zV, .bool false]) (by simp [results, Tryz.results186, go_sem, e0, e1, e2]) rfl ⟨⟨0, 0, 0, 0⟩, false, rfl, (fun h => by cases h), (fun _ => HN.out), by repeat (first | exact HB2.out.bw | (refine Below.setCell ?_ (by simp) _))⟩
theorem one_num (A : Option Addr) (n c B : Nat) (xs : List DV) (w : World) (h : Lst w B A n c xs) (hn : n ≤ 1000) (op : Int) (t15 : (op == 15) = false) (t16 : (op == 16) = false) (t17 : (op == 17) = false) (t18 : (op == 18) = false) (t19 : (op == 19) = false) (t20 : (op == 20) = false) (har : arityN op = takesNM op) (hkd : kindN op = 1) :
  Calls Tryz.prog 186 #[.int .i64 op, .slice A n c] w (IsOne op xs w) := by
 obtain ⟨w1, hw1⟩ : ∃ w1, w.alloc (.cells #[.int .i64 0, .int .i64 0, .complex .f64 0 0] 43) = w1 := ⟨_, rfl⟩
 have hbx : BX w w.heap.size w1 := by rw [← hw1]; exact BX.of (Below.refl _ _)
 have HL : Hid (xs.length = n) := Hd h.sl.1
 have HLst := Hd h
 have HE := Hd hw1
 have HBX := Hd hbx
 have ct : Hid (∀ w : World, Calls Tryz.prog 188 #[.int .i64 op] w fun e w' => e = .returned (.int .i64 (takesNM op)) ∧ w = w') := Hd fun w => whole_Takes_any op w
 have ca : Hid (Calls Tryz.prog 189 #[.slice A n c, .int .i64 (takesNM op), .int .i64 1] w1 fun e w' => e = .returned (.bool (((n : Int) == (takesNM op)) && allK 1 xs)) ∧ Below w1.heap.size w1 w') := Hd (all_any A n c B xs (takesNM op) 1 w1 (h.sl.on (hbx.bw.mono h.hB)) (Nat.le_trans h.hB hbx.bw.size) hn)
 clear h hbx hw1
 rcases takes_cases op with ht | ht | ht
 ·have HN : Hid (OneR op xs none) := Hd (.no (by unfold fitsB; rw [har, ht]; rfl))
  have HB2 := HBX
  rw [ht] at ct
  clear hn har hkd ht ca
  obtain ⟨u0, e0⟩ := HB2.out.c0
  obtain ⟨u1, e1⟩ := HB2.out.c1
  obtain ⟨u2, e2⟩ := HB2.out.c2
  have f0 := HB2.out.f0
  have f1 := HB2.out.f1
  have f2 := HB2.out.f2
  go_in
  go_wp2_with fail
  rw [HE.out]
  refine (ct.out _).mono ?_
  rintro e w' ⟨rfl, rfl⟩
  go_wp2_with fail
  exact bodyPost_ret (v := .tuple #[zV, .bool false]) (by simp [results, Tryz.results186, go_sem, e0, e1, e2]) rfl ⟨⟨0, 0, 0, 0⟩, false, rfl, (fun h => by cases h), (fun _ => HN.out), by repeat (first | exact HB2.out.bw | (refine Below.setCell ?_ (by simp) _))⟩
 ·rw [ht] at ca ct
  rcases Bool.eq_false_or_eq_true (((n : Int) == 1) && allK 1 xs) with hf | hf
  ·rw [hf] at ca
   rw [Bool.and_eq_true] at hf
   obtain ⟨a1, rfl⟩ := list1 HL.out hf.1
   obtain rfl : n = 1 := by have := hf.1; simp at this; omega
   have hk := allK1 hf.2
   obtain ⟨b, rfl, hbl, p0, p1, p2⟩ := HLst.out.one
   have HR := Hd (OneR.w1 (op := op) a1 ht rfl hk)
   have cn : Hid (∀ W : World, BX w w.heap.size W → Calls Tryz.prog 194 #[.int .i64 op, .slice (some ⟨b, 0, none⟩) 1 c] W fun e w' => e = .returned (.tuple #[vV 1 (oneM op a1.n) 0 0, .bool true]) ∧ Below W.heap.size W w') := Hd fun W hW => numbers1 op b c B a1 W (HLst.out.sl.on (hW.bw.mono HLst.out.hB)) (Nat.le_trans HLst.out.hB hW.bw.size)
   obtain ⟨r, hr⟩ : ∃ x, oneM op a1.n = x := ⟨_, rfl⟩
   rw [hr] at cn HR
   clear hf hk p0 p1 p2 hbl hn hr har hkd ht
   go_in
   go_wp2_with fail
   rw [HE.out]
   refine (ct.out _).mono ?_
   rintro e w' ⟨rfl, rfl⟩
   go_wp2_with fail
   refine ca.out.mono ?_
   rintro e w2 ⟨rfl, hb2⟩
   have HB2 := Hd (HBX.out.on hb2)
   clear hb2
   go_wp2_with fail
   refine (cn.out _ HB2.out).mono ?_
   rintro e w3 ⟨rfl, hb3⟩
   have hS3 := HB2.out.on hb3
   obtain ⟨u0, e0⟩ := hS3.c0
   obtain ⟨u1, e1⟩ := hS3.c1
   obtain ⟨u2, e2⟩ := hS3.c2
   have f0 := hS3.f0
   have f1 := hS3.f1
   have f2 := hS3.f2
   clear hb3
   go_wp2_with fail
   exact bodyPost_ret (v := .tuple #[vV 1 r 0 0, .bool true]) (by simp [results, Tryz.results186, go_sem, e0, e1, e2]) rfl ⟨⟨1, r, 0, 0⟩, true, rfl, (fun _ => HR.out), (fun h => by cases h), (hS3.put3 _ _ _).bw⟩
  ·have HN : Hid (OneR op xs none) := Hd (.no (fits_no HL.out (har.trans ht) hkd hf))
   rw [hf] at ca
   clear hf hn har hkd ht
   go_in
   go_wp2_with fail
   rw [HE.out]
   refine (ct.out _).mono ?_
   rintro e w' ⟨rfl, rfl⟩
   go_wp2_with fail
   refine ca.out.mono ?_
   rintro e w2 ⟨rfl, hb2⟩
   have HB2 := Hd (HBX.out.on hb2)
   clear hb2
   obtain ⟨u0, e0⟩ := HB2.out.c0
   obtain ⟨u1, e1⟩ := HB2.out.c1
   obtain ⟨u2, e2⟩ := HB2.out.c2
   have f0 := HB2.out.f0
   have f1 := HB2.out.f1
   have f2 := HB2.out.f2
   go_wp2_with fail
   exact bodyPost_ret (v := .tuple #[zV, .bool false]) (by simp [results, Tryz.results186, go_sem, e0, e1, e2]) rfl ⟨⟨0, 0, 0, 0⟩, false, rfl, (fun h => by cases h), (fun _ => HN.out), by repeat (first | exact HB2.out.bw | (refine Below.setCell ?_ (by simp) _))⟩
 ·rw [ht] at ca ct
  rcases Bool.eq_false_or_eq_true (((n : Int) == 2) && allK 1 xs) with hf | hf
  ·rw [hf] at ca
   rw [Bool.and_eq_true] at hf
   obtain ⟨a1, a2, rfl⟩ := list2 HL.out hf.1
   obtain rfl : n = 2 := by have := hf.1; simp at this; omega
   have hk := allK2 hf.2
   obtain ⟨b, rfl, hbl, p0, p1, p2, _⟩ := HLst.out.two
   have HR : Hid ((twoM op a1.n a2.n).2 = true → OneR op [a1, a2] (some ⟨1, (twoM op a1.n a2.n).1, 0, 0⟩)) := Hd fun h => OneR.w2 (op := op) a1 a2 ht rfl hk.1 hk.2 h
   have HR2 : Hid ((twoM op a1.n a2.n).2 = false → OneR op [a1, a2] none) := Hd fun h => OneR.w2n (op := op) a1 a2 ht rfl hk.1 hk.2 h
   have cn : Hid (∀ W : World, BX w w.heap.size W → Calls Tryz.prog 194 #[.int .i64 op, .slice (some ⟨b, 0, none⟩) 2 c] W fun e w' => e = .returned (.tuple #[vV 1 (twoM op a1.n a2.n).1 0 0, .bool (twoM op a1.n a2.n).2]) ∧ Below W.heap.size W w') := Hd fun W hW => numbers2 op b c B a1 a2 W (HLst.out.sl.on (hW.bw.mono HLst.out.hB)) (Nat.le_trans HLst.out.hB hW.bw.size)
   obtain ⟨r, hr⟩ : ∃ x, (twoM op a1.n a2.n).1 = x := ⟨_, rfl⟩
   obtain ⟨o, ho⟩ : ∃ x, (twoM op a1.n a2.n).2 = x := ⟨_, rfl⟩
   rw [hr] at cn HR
   rw [ho] at cn HR HR2
   clear hf hk p0 p1 p2 hbl hn hr ho har hkd ht
   go_in
   go_wp2_with fail
   rw [HE.out]
   refine (ct.out _).mono ?_
   rintro e w' ⟨rfl, rfl⟩
   go_wp2_with fail
   refine ca.out.mono ?_
   rintro e w2 ⟨rfl, hb2⟩
   have HB2 := Hd (HBX.out.on hb2)
   clear hb2
   go_wp2_with fail
   refine (cn.out _ HB2.out).mono ?_
   rintro e w3 ⟨rfl, hb3⟩
   have hS3 := HB2.out.on hb3
   obtain ⟨u0, e0⟩ := hS3.c0
   obtain ⟨u1, e1⟩ := hS3.c1
   obtain ⟨u2, e2⟩ := hS3.c2
   have f0 := hS3.f0
   have f1 := hS3.f1
   have f2 := hS3.f2
   clear hb3
   go_wp2_with fail
   exact bodyPost_ret (v := .tuple #[vV 1 r 0 0, .bool o]) (by simp [results, Tryz.results186, go_sem, e0, e1, e2]) rfl ⟨⟨1, r, 0, 0⟩, o, rfl, HR.out, HR2.out, (hS3.put3 _ _ _).bw⟩
  ·have HN : Hid (OneR op xs none) := Hd (.no (fits_no HL.out (har.trans ht) hkd hf))
   rw [hf] at ca
   clear hf hn har hkd ht
   go_in
   go_wp2_with fail
   rw [HE.out]
   refine (ct.out _).mono ?_
   rintro e w' ⟨rfl, rfl⟩
   go_wp2_with fail
   refine ca.out.mono ?_
   rintro e w2 ⟨rfl, hb2⟩
   have HB2 := Hd (HBX.out.on hb2)
   clear hb2
   obtain ⟨u0, e0⟩ := HB2.out.c0
   obtain ⟨u1, e1⟩ := HB2.out.c1
   obtain ⟨u2, e2⟩ := HB2.out.c2
   have f0 := HB2.out.f0
   have f1 := HB2.out.f1
   have f2 := HB2.out.f2
   go_wp2_with fail
   exact bodyPost_ret (v := .tuple #[zV, .bool false]) (by simp [results, Tryz.results186, go_sem, e0, e1, e2]) rfl ⟨⟨0, 0, 0, 0⟩, false, rfl, (fun h => by cases h), (fun _ => HN.out), by repeat (first | exact HB2.out.bw | (refine Below.setCell ?_ (by simp) _))⟩
theorem one_any (op : Int) (A : Option Addr) (n c B : Nat) (xs : List DV) (w : World) (h : Lst w B A n c xs) (hn : n ≤ 1000) :
  Calls Tryz.prog 186 #[.int .i64 op, .slice A n c] w (IsOne op xs w) := by
 rcases kd_eq op with (rfl | rfl | rfl) | (rfl | rfl) | rfl | ⟨h1, h2, h3, h4, h5, h6, h7, h8⟩
 ·exact one_two16 A n c B xs w h hn
 ·exact one_two17 A n c B xs w h hn
 ·exact one_two18 A n c B xs w h hn
 ·exact one_part19 A n c B xs w h hn
 ·exact one_part20 A n c B xs w h hn
 ·exact one_pair A n c B xs w h hn
 ·exact one_num A n c B xs w h hn op h1 h2 h3 h4 h5 h6 h7 h8
end Go.Proofs.YtobmjnmcjddhcaaGreat
