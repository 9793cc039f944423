import Derived.Test.YtobmjnmcjddhcaaGreatRg14
set_option linter.unusedSimpArgs false
set_option linter.unusedVariables false
namespace Go.Proofs.YtobmjnmcjddhcaaGreat
section
set_option maxRecDepth 100000
set_option maxHeartbeats 32000000
open Go.RowKit
theorem rplaces_any (FA : Option Addr) (fn fc : Nat) (fs : List DFunc) (f k : Nat) (x0 : DFunc) (w : World) (h : PgC w FA fn fc fs) (hi : f < fn) (hx0 : fs[f]? = some x0) (hk : k < x0.code.length) :
  Calls Tryz.prog 120 #[.agg #[.slice FA fn fc], .int .i64 (f : Int), .int .i64 (k : Int)] w (IsInt w) := by
 obtain ⟨w1, hw1⟩ : ∃ X, w.alloc (.cells #[.slice FA fn fc] 24) = X := ⟨_, rfl⟩
 obtain ⟨g, hg⟩ : ∃ g, w.heap.size = g := ⟨_, rfl⟩
 have hb1 : Below w.heap.size w w1 := by rw [← hw1]; exact bl_one _
 have hc1 : Cells w1 g [.slice FA fn fc] := by rw [← hw1, ← hg]; exact Cells.new w [.slice FA fn fc] _
 have EP : Hid (∀ W, Below w1.heap.size w1 W → W.cell? ⟨g, 0, none⟩ = some (.slice FA fn fc)) := Hd fun W hW => (hc1.on hW).at_ 0 _ rfl
 have HP : Hid (∀ W, Below w1.heap.size w1 W → PgC W FA fn fc fs) := Hd fun W hW => h.on (hb1.trans (hW.mono hb1.size))
 have HB1 := Hd hb1
 have HBW : Hid (∀ W, Below w1.heap.size w1 W → Below w.heap.size w W) := Hd fun W hW => hb1.trans (hW.mono hb1.size)
 have hfn := h.pg.le
 have hn0 : (fn : Int) ≤ 50 := by omega
 have p0 := EP.out w1 (Below.refl _ _)
 clear hb1 hc1
 have cO : Hid (∀ W, Below w1.heap.size w1 W → Calls Tryz.prog 148 #[.agg #[.slice FA fn fc], .int .i64 (f : Int), .int .i64 (k : Int)] W (IsOut W)) := Hd fun W hW => router_any FA fn fc fs f k x0 W (HP.out W hW) hi hx0 hk
 obtain ⟨bk, off, s, b, A0, n0, c0, A1, n1, c1, A2, n2, c2, A3, n3, c3, A4, n4, c4, A5, n5, c5, A6, n6, c6, A7, n7, c7, A8, n8, c8, x, rfl, hbk, hx, hcf, hfw, hcan⟩ := (HP.out w1 (Below.refl _ _)).get (i := f) hi
 have y0 := hcf 0 _ rfl
 have y1 := hcf 1 _ rfl
 have y2 := hcf 2 _ rfl
 have y3 := hcf 3 _ rfl
 have y4 := hcf 4 _ rfl
 have y5 := hcf 5 _ rfl
 have y6 := hcf 6 _ rfl
 have y7 := hcf 7 _ rfl
 have y8 := hcf 8 _ rfl
 have y9 := hcf 9 _ rfl
 have y10 := hcf 10 _ rfl
 simp only [Nat.add_zero] at y0
 obtain rfl : x0 = x := by rw [hx0] at hx; injection hx
 have l4 := hfw.r4.1
 obtain ⟨cb, co, yo, ya, rfl, hcb, hca, hcd, u0, u1⟩ := code_get hfw.r4 (show k < n4 by omega)
 have hins := hcan.ins _ (List.mem_of_getElem? hcd)
 have HIN : Hid (opndM yo ≠ 1 → 0 ≤ ya) := Hd fun h1 => (hins.2.2.resolve_left h1).1
 obtain ⟨s4, s5, s6, s7, s8, s0⟩ := hfw.sm
 have hf0 : (0 : Int) ≤ (f : Int) := by omega
 have hf1 : (f : Int) < (fn : Int) := by omega
 have hk0 : (0 : Int) ≤ (k : Int) := by omega
 have hk1 : (k : Int) ≤ 150 := by omega
 have hkn : (k : Int) < (n4 : Int) := by omega
 have HFW := Hd hfw
 have HU : Hid (w1.cell? ⟨cb, co + k * 2, none⟩ = some (.int .i64 yo) ∧ w1.cell? ⟨cb, co + k * 2 + 1, none⟩ = some (.int .i64 ya)) := Hd ⟨u0, u1⟩
 clear h hfw hcan hcf hx hx0 l4 hca hcd hins hk u0 u1
 go_in
 go_upto_region 2 with fail
 clear y0 y1 y2 y3 y4 y5 y6 y7 y8 y9 y10
 obtain ⟨w2, hw2⟩ : ∃ X, w1.alloc (.cells #[.string s, .bool b, .slice A0 n0 c0, .slice A1 n1 c1, .slice A2 n2 c2, .slice A3 n3 c3, .slice (some ⟨cb, co, none⟩) n4 c4, .slice A5 n5 c5, .slice A6 n6 c6, .slice A7 n7 c7, .slice A8 n8 c8] 38) = X := ⟨_, rfl⟩
 obtain ⟨g2, hg2⟩ : ∃ X, w1.heap.size = X := ⟨_, rfl⟩
 have hb2 : Below w1.heap.size w1 w2 := by rw [← hw2]; exact bl_one _
 have hc2 : Cells w2 g2 [.string s, .bool b, .slice A0 n0 c0, .slice A1 n1 c1, .slice A2 n2 c2, .slice A3 n3 c3, .slice (some ⟨cb, co, none⟩) n4 c4, .slice A5 n5 c5, .slice A6 n6 c6, .slice A7 n7 c7, .slice A8 n8 c8] := by rw [← hw2, ← hg2]; exact Cells.new w1 [.string s, .bool b, .slice A0 n0 c0, .slice A1 n1 c1, .slice A2 n2 c2, .slice A3 n3 c3, .slice (some ⟨cb, co, none⟩) n4 c4, .slice A5 n5 c5, .slice A6 n6 c6, .slice A7 n7 c7, .slice A8 n8 c8] _
 rw [hw2, hg2]
 have e6 := hc2.at_ 6 _ rfl
 have u0 := (hb2.cell (p := ⟨cb, co + k * 2, none⟩) hcb).trans HU.out.1
 have u1 := (hb2.cell (p := ⟨cb, co + k * 2 + 1, none⟩) hcb).trans HU.out.2
 clear hw2
 go_upto_region 4 with fail
 clear e6 u0 u1
 obtain ⟨w3, hw3⟩ : ∃ X, w2.alloc (.cells #[.int .i64 yo, .int .i64 ya] 113) = X := ⟨_, rfl⟩
 obtain ⟨g3, hg3⟩ : ∃ X, w2.heap.size = X := ⟨_, rfl⟩
 have hb3 : Below w2.heap.size w2 w3 := by rw [← hw3]; exact bl_one _
 have hc3 : Cells w3 g3 [.int .i64 yo, .int .i64 ya] := by rw [← hw3, ← hg3]; exact Cells.new w2 [.int .i64 yo, .int .i64 ya] _
 rw [hw3, hg3]
 have hb13 : Below w1.heap.size w1 w3 := hb2.trans (hb3.mono hb2.size)
 have HC3 : Hid (∀ W, Below w3.heap.size w3 W → Cells W g3 [.int .i64 yo, .int .i64 ya]) := Hd fun W hW => hc3.on hW
 have H13 : Hid (∀ W, Below w3.heap.size w3 W → Below w1.heap.size w1 W) := Hd fun W hW => hb13.trans (hW.mono hb13.size)
 have HBW3 : Hid (∀ W, Below w3.heap.size w3 W → Below w.heap.size w W) := Hd fun W hW => HBW.out W (hb13.trans (hW.mono hb13.size))
 have HF3 : Hid (FnW w3 w3.heap.size s b A0 n0 c0 A1 n1 c1 A2 n2 c2 A3 n3 c3 (some ⟨cb, co, none⟩) n4 c4 A5 n5 c5 A6 n6 c6 A7 n7 c7 A8 n8 c8 x0) := Hd ((HFW.out.keep hb13).more hb13.size)
 have i0 := hc3.at_ 0 _ rfl
 have i1 := hc3.at_ 1 _ rfl
 have hc23 := hc2.on hb3
 have e0 := hc23.at_ 0 _ rfl
 have e1 := hc23.at_ 1 _ rfl
 have e2 := hc23.at_ 2 _ rfl
 have e3 := hc23.at_ 3 _ rfl
 have e4 := hc23.at_ 4 _ rfl
 have e5 := hc23.at_ 5 _ rfl
 have e6 := hc23.at_ 6 _ rfl
 have e7 := hc23.at_ 7 _ rfl
 have e8 := hc23.at_ 8 _ rfl
 have e9 := hc23.at_ 9 _ rfl
 have e10 := hc23.at_ 10 _ rfl
 have p3 := EP.out w3 hb13
 clear hg2 hw3 hg3 hb2 hb3 hc2 hc3 hc23 hb13 hw1 hg HFW HU p0
 by_cases o28 : yo = 28 ∨ yo = 29
 ·obtain ⟨q, rfl⟩ := Int.eq_ofNat_of_zero_le (HIN.out (by rcases o28 with rfl | rfl <;> decide))
  have hq0 : (0 : Int) ≤ (q : Int) := by omega
  have cO3 := Hd (cO.out w3 (H13.out w3 (Below.refl _ _)))
  have HI1 : Hid (∀ W, Below w3.heap.size w3 W → W.cell? ⟨g3, 1, none⟩ = some (.int .i64 (q : Int))) := Hd fun W hW => (HC3.out W hW).at_ 1 _ rfl
  clear e0 e1 e2 e3 e4 e5 e6 e7 e8 e9 e10
  rcases o28 with rfl | rfl
  ·go_wp2_with fail
   refine cO3.out.mono ?_
   rintro e w4 ⟨OA, ok, oc, ol, r, rfl, hok, hosl, hb4⟩
   have HB4 := Hd hb4
   have j1 := HI1.out w4 hb4
   clear hb4 hosl cO3 i0 i1 p3
   cases r with
   | false =>
    go_wp2_with fail
    go_ret
    exact ⟨⟨_, rfl⟩, HBW3.out _ HB4.out⟩
   | true =>
    by_cases hq : q < ok
    ·have d1 : decide ((q : Int) ≥ (ok : Int)) = false := dcF (by omega)
     have d1b : decide (ok ≤ q) = false := dcF (by omega)
     go_wp2_with fail
     go_ret
     exact ⟨⟨_, rfl⟩, HBW3.out _ HB4.out⟩
    ·have d1 : decide ((q : Int) ≥ (ok : Int)) = true := dcT (by omega)
     have d1b : decide (ok ≤ q) = true := dcT (by omega)
     go_wp2_with fail
     go_ret
     exact ⟨⟨_, rfl⟩, HBW3.out _ HB4.out⟩
  ·go_wp2_with fail
   refine cO3.out.mono ?_
   rintro e w4 ⟨OA, ok, oc, ol, r, rfl, hok, hosl, hb4⟩
   have HB4 := Hd hb4
   have j1 := HI1.out w4 hb4
   clear hb4 hosl cO3 i0 i1 p3
   cases r with
   | false =>
    go_wp2_with fail
    go_ret
    exact ⟨⟨_, rfl⟩, HBW3.out _ HB4.out⟩
   | true =>
    by_cases hq : q < ok
    ·have d1 : decide ((q : Int) ≥ (ok : Int)) = false := dcF (by omega)
     have d1b : decide (ok ≤ q) = false := dcF (by omega)
     go_wp2_with fail
     go_ret
     exact ⟨⟨_, rfl⟩, HBW3.out _ HB4.out⟩
    ·have d1 : decide ((q : Int) ≥ (ok : Int)) = true := dcT (by omega)
     have d1b : decide (ok ≤ q) = true := dcT (by omega)
     go_wp2_with fail
     go_ret
     exact ⟨⟨_, rfl⟩, HBW3.out _ HB4.out⟩
 have e28 : (yo == 28) = false := by rw [beq_eq_false_iff_ne]; omega
 have e29 : (yo == 29) = false := by rw [beq_eq_false_iff_ne]; omega
 by_cases o33 : yo = 33 ∨ yo = 34
 ·by_cases hbr : n6 + n7 + n8 = 0
  ·have cB := Hd (rbare_any s b A0 n0 c0 A1 n1 c1 A2 n2 c2 A3 n3 c3 (some ⟨cb, co, none⟩) n4 c4 A5 n5 c5 A6 n6 c6 A7 n7 c7 A8 n8 c8 w3 (by omega) (by omega) (by omega) true (decide_eq_true hbr).symm)
   clear hbr
   rcases o33 with rfl | rfl
   ·go_wp2_with fail
    refine cB.out.mono ?_
    rintro e w4 ⟨rfl, hb4⟩
    have HB4 := Hd hb4
    clear hb4 cB
    go_wp2_with fail
    go_ret
    exact ⟨⟨_, rfl⟩, HBW3.out _ HB4.out⟩
   ·go_wp2_with fail
    refine cB.out.mono ?_
    rintro e w4 ⟨rfl, hb4⟩
    have HB4 := Hd hb4
    clear hb4 cB
    go_wp2_with fail
    go_ret
    exact ⟨⟨_, rfl⟩, HBW3.out _ HB4.out⟩
  ·have cB := Hd (rbare_any s b A0 n0 c0 A1 n1 c1 A2 n2 c2 A3 n3 c3 (some ⟨cb, co, none⟩) n4 c4 A5 n5 c5 A6 n6 c6 A7 n7 c7 A8 n8 c8 w3 (by omega) (by omega) (by omega) false (decide_eq_false hbr).symm)
   clear hbr
   rcases o33 with rfl | rfl
   ·go_wp2_with fail
    refine cB.out.mono ?_
    rintro e w4 ⟨rfl, hb4⟩
    have HB4 := Hd hb4
    clear hb4 cB
    go_wp2_with fail
    go_ret
    exact ⟨⟨_, rfl⟩, HBW3.out _ HB4.out⟩
   ·go_wp2_with fail
    refine cB.out.mono ?_
    rintro e w4 ⟨rfl, hb4⟩
    have HB4 := Hd hb4
    clear hb4 cB
    go_wp2_with fail
    go_ret
    exact ⟨⟨_, rfl⟩, HBW3.out _ HB4.out⟩
 have e33 : (yo == 33) = false := by rw [beq_eq_false_iff_ne]; omega
 have e34 : (yo == 34) = false := by rw [beq_eq_false_iff_ne]; omega
 by_cases o25 : yo = 25
 ·subst o25
  have cN := Hd (rnode_any s b A0 n0 c0 A1 n1 c1 A2 n2 c2 A3 n3 c3 (some ⟨cb, co, none⟩) n4 c4 A5 n5 c5 A6 n6 c6 A7 n7 c7 A8 n8 c8 x0 k w3 HF3.out (by omega))
  obtain ⟨nd, hnd⟩ : ∃ v, ndM x0 k = v := ⟨_, rfl⟩
  rw [hnd] at cN
  clear hnd
  go_wp2_with fail
  refine cN.out.mono ?_
  rintro e w4 ⟨rfl, hb4⟩
  have HB4 := Hd hb4
  clear hb4 cN e0 e1 e2 e3 e4 e5 e6 e7 e8 e9 e10 i0 i1 p3
  by_cases hnd0 : nd = 0
  ·subst hnd0
   go_wp2_with fail
   go_ret
   exact ⟨⟨_, rfl⟩, HBW3.out _ HB4.out⟩
  ·have tn : (nd != 0) = true := by simpa using hnd0
   go_wp2_with fail
   go_ret
   exact ⟨⟨_, rfl⟩, HBW3.out _ HB4.out⟩
 have e25 : (yo == 25) = false := by rw [beq_eq_false_iff_ne]; omega
 go_wp2_with fail
 go_ret
 exact ⟨⟨_, rfl⟩, HBW3.out _ (Below.refl _ _)⟩
end
section
set_option maxRecDepth 100000
set_option maxHeartbeats 32000000
open Go.RowKit
def IsTwoX (P : Prop) (w : World) (e : Ending) (w' : World) : Prop := ∃ r a : Int, e = .returned (.tuple #[.int .i64 r, .int .i64 a]) ∧ Below w.heap.size w w' ∧ (r = 0 → P)
theorem rcheck21x_any (FA : Option Addr) (fn fc : Nat) (fs : List DFunc) (f : Nat) (x0 : DFunc) (w : World) (h : PgC w FA fn fc fs) (hi : f < fn) (hx0 : fs[f]? = some x0) (hbare : bareF x0 = true) :
  Calls Tryz.prog 94 #[.agg #[.slice FA fn fc], .int .i64 (f : Int)] w (IsTwoX ((f = 0 → EntryR fs) ∧ ∀ k, k < x0.code.length → CallsR fs x0 k) w) := by
 obtain ⟨w1, hw1⟩ : ∃ X, w.alloc (.cells #[.slice FA fn fc] 24) = X := ⟨_, rfl⟩
 obtain ⟨g, hg⟩ : ∃ g, w.heap.size = g := ⟨_, rfl⟩
 have hb1 : Below w.heap.size w w1 := by rw [← hw1]; exact bl_one _
 have hc1 : Cells w1 g [.slice FA fn fc] := by rw [← hw1, ← hg]; exact Cells.new w [.slice FA fn fc] _
 have EP : Hid (∀ W, Below w1.heap.size w1 W → W.cell? ⟨g, 0, none⟩ = some (.slice FA fn fc)) := Hd fun W hW => (hc1.on hW).at_ 0 _ rfl
 have HP : Hid (∀ W, Below w1.heap.size w1 W → PgC W FA fn fc fs) := Hd fun W hW => h.on (hb1.trans (hW.mono hb1.size))
 have HB1 := Hd hb1
 have HBW : Hid (∀ W, Below w1.heap.size w1 W → Below w.heap.size w W) := Hd fun W hW => hb1.trans (hW.mono hb1.size)
 have hfn := h.pg.le
 have hn0 : (fn : Int) ≤ 50 := by omega
 have p0 := EP.out w1 (Below.refl _ _)
 clear hb1 hc1
 have cE := Hd (rentryx_any FA fn fc fs w1 (HP.out w1 (Below.refl _ _)) (by omega))
 have cC : Hid (∀ W, Below w1.heap.size w1 W → ∀ k, k < x0.code.length → Calls Tryz.prog 119 #[.agg #[.slice FA fn fc], .int .i64 (f : Int), .int .i64 (k : Int)] W (IsIntX (CallsR fs x0 k) W)) := Hd fun W hW k hk => rcallsx_any FA fn fc fs f k x0 W (HP.out W hW) hi hx0 hk hbare
 have cP : Hid (∀ W, Below w1.heap.size w1 W → ∀ k, k < x0.code.length → Calls Tryz.prog 120 #[.agg #[.slice FA fn fc], .int .i64 (f : Int), .int .i64 (k : Int)] W (IsInt W)) := Hd fun W hW k hk => rplaces_any FA fn fc fs f k x0 W (HP.out W hW) hi hx0 hk
 have hf0 : (0 : Int) ≤ (f : Int) := by omega
 have hf1 : (f : Int) < (fn : Int) := by omega
 have HX0 := Hd hx0
 have HREST : Hid (∀ W, Below w1.heap.size w1 W → True) := Hd fun _ _ => trivial
 clear h hx0
 go_in
 by_cases hz : f = 0
 ·subst hz
  go_wp2_with fail
  refine cE.out.mono ?_
  rintro e we ⟨⟨r, rfl, hre⟩, hbe⟩
  have HRE := Hd hre
  clear hre
  have HBE := Hd hbe
  have p1 := EP.out we hbe
  clear hbe cE p0
  cases r with
  | false =>
   go_wp2_with fail
   go_ret2
   exact ⟨12, 0, rfl, HBW.out _ HBE.out, fun h => absurd h (by decide)⟩
  | true =>
   obtain ⟨bk, off, s, b, A0, n0, c0, A1, n1, c1, A2, n2, c2, A3, n3, c3, A4, n4, c4, A5, n5, c5, A6, n6, c6, A7, n7, c7, A8, n8, c8, x, rfl, hbk, hx, hcf, hfw, hcan⟩ := (HP.out we HBE.out).get hi
   have y0 := hcf 0 _ rfl
   have y1 := hcf 1 _ rfl
   have y2 := hcf 2 _ rfl
   have y3 := hcf 3 _ rfl
   have y4 := hcf 4 _ rfl
   have y5 := hcf 5 _ rfl
   have y6 := hcf 6 _ rfl
   have y7 := hcf 7 _ rfl
   have y8 := hcf 8 _ rfl
   have y9 := hcf 9 _ rfl
   have y10 := hcf 10 _ rfl
   simp only [Nat.add_zero, Nat.zero_mul] at y0 y1 y2 y3 y4 y5 y6 y7 y8 y9 y10
   obtain rfl : x0 = x := by have := HX0.out; rw [this] at hx; injection hx
   have l4 := hfw.r4.1
   have HL4 : Hid (x0.code.length = n4) := Hd l4
   have hsome := hcan.some_
   obtain ⟨s4, s5, s6, s7, s8, s0⟩ := hfw.sm
   have hn1 : 1 ≤ n4 := by omega
   have hn40 : (n4 : Int) ≤ 150 := by omega
   have HFW := Hd hfw
   rw [l4] at cC cP
   clear hfw hcan hcf hx l4 hsome
   go_upto_region 5 with fail
   clear y0 y1 y2 y3 y4 y5 y6 y7 y8 y9 y10
   obtain ⟨w2, hw2⟩ : ∃ X, we.alloc (.cells #[.string s, .bool b, .slice A0 n0 c0, .slice A1 n1 c1, .slice A2 n2 c2, .slice A3 n3 c3, .slice A4 n4 c4, .slice A5 n5 c5, .slice A6 n6 c6, .slice A7 n7 c7, .slice A8 n8 c8] 38) = X := ⟨_, rfl⟩
   obtain ⟨g2, hg2⟩ : ∃ X, we.heap.size = X := ⟨_, rfl⟩
   have hb2 : Below we.heap.size we w2 := by rw [← hw2]; exact bl_one _
   have hc2 : Cells w2 g2 [.string s, .bool b, .slice A0 n0 c0, .slice A1 n1 c1, .slice A2 n2 c2, .slice A3 n3 c3, .slice A4 n4 c4, .slice A5 n5 c5, .slice A6 n6 c6, .slice A7 n7 c7, .slice A8 n8 c8] := by rw [← hw2, ← hg2]; exact Cells.new we [.string s, .bool b, .slice A0 n0 c0, .slice A1 n1 c1, .slice A2 n2 c2, .slice A3 n3 c3, .slice A4 n4 c4, .slice A5 n5 c5, .slice A6 n6 c6, .slice A7 n7 c7, .slice A8 n8 c8] _
   rw [hw2, hg2]
   have hb12 : Below w1.heap.size w1 w2 := HBE.out.trans (hb2.mono HBE.out.size)
   have HC2 : Hid (∀ W, Below w2.heap.size w2 W → Cells W g2 [.string s, .bool b, .slice A0 n0 c0, .slice A1 n1 c1, .slice A2 n2 c2, .slice A3 n3 c3, .slice A4 n4 c4, .slice A5 n5 c5, .slice A6 n6 c6, .slice A7 n7 c7, .slice A8 n8 c8]) := Hd fun W hW => hc2.on hW
   have H12 : Hid (∀ W, Below w2.heap.size w2 W → Below w1.heap.size w1 W) := Hd fun W hW => hb12.trans (hW.mono hb12.size)
   have HF2 : Hid (∀ W, Below w2.heap.size w2 W → FnW W W.heap.size s b A0 n0 c0 A1 n1 c1 A2 n2 c2 A3 n3 c3 A4 n4 c4 A5 n5 c5 A6 n6 c6 A7 n7 c7 A8 n8 c8 x0) := Hd fun W hW => (HFW.out.keep (hb2.trans (hW.mono hb2.size))).more (hb2.trans (hW.mono hb2.size)).size
   clear hw2 hg2 hb2 hc2 hb12 hw1 hg HFW p1
   go_loopw [7, 8, 9] (fun iv _ _ wr => ∃ j : Nat, iv = .int .i64 (j : Int) ∧ j ≤ n4 ∧ Hid (Below w2.heap.size w2 wr ∧ ∀ i, i < j → CallsR fs x0 i)) (fun iv _ _ _ => n4 - (intOf iv).toNat)
   case atStart => exact ⟨0, rfl, Nat.zero_le _, Hd ⟨Below.refl _ _, fun i hi => by omega⟩⟩
   case round =>
    obtain ⟨j, rfl, hj, HB⟩ := hrel
    have hj0 : (0 : Int) ≤ (j : Int) := by omega
    have hj1 : (j : Int) ≤ 150 := by omega
    have e6 := (HC2.out wr HB.out.1).at_ 6 _ rfl
    have p2 := EP.out wr (H12.out wr HB.out.1)
    by_cases hlt : j < n4
    ·have hjn : (j : Int) < (n4 : Int) := by omega
     have cX := Hd (cC.out wr (H12.out wr HB.out.1) j hlt)
     go_wp2_with fail
     refine cX.out.mono ?_
     rintro e w3 ⟨⟨r, rfl, hcr⟩, hb3⟩
     have HCR := Hd hcr
     clear hcr
     have HB3 : Hid (Below w2.heap.size w2 w3) := Hd (HB.out.1.trans (hb3.mono HB.out.1.size))
     have p3 := EP.out w3 (H12.out w3 HB3.out)
     have cY := Hd (cP.out w3 (H12.out w3 HB3.out) j hlt)
     clear hb3 cX e6 p2
     by_cases hr : r = 0
     ·subst hr
      go_wp2_with fail
      refine cY.out.mono ?_
      rintro e w4 ⟨⟨r4, rfl⟩, hb4⟩
      have HB4 : Hid (Below w2.heap.size w2 w4) := Hd (HB3.out.trans (hb4.mono HB3.out.size))
      clear hb4 cY p3
      by_cases hr4 : r4 = 0
      ·subst hr4
       go_wp2_with fail
       go_roundw
       case rel => exact ⟨j + 1, by go_num, by omega, Hd ⟨HB4.out, fun i hi => by
        rcases Nat.lt_or_ge i j with hl | hl
        ·exact HB.out.2 i hl
        ·obtain rfl : i = j := by omega
         exact HCR.out (by trivial)⟩⟩
       case measure => simp [intOf]; omega
      ·have t4 : (r4 != 0) = true := by simpa using hr4
       go_wp2_with fail
       go_ret2
       exact ⟨_, _, rfl, HBW.out _ (H12.out _ HB4.out), fun h => absurd h hr4⟩
     ·have t4 : (r != 0) = true := by simpa using hr
      go_wp2_with fail
      go_ret2
      exact ⟨_, _, rfl, HBW.out _ (H12.out _ HB3.out), fun h => absurd h hr⟩
    ·obtain rfl : j = n4 := by omega
     have HPF : Hid ((0 = 0 → EntryR fs) ∧ ∀ k, k < x0.code.length → CallsR fs x0 k) := Hd ⟨fun _ => HRE.out (by trivial), fun k hk => HB.out.2 k (by have := HL4.out; omega)⟩
     have cR := Hd (rreach_any s b A0 n0 c0 A1 n1 c1 A2 n2 c2 A3 n3 c3 A4 j c4 A5 n5 c5 A6 n6 c6 A7 n7 c7 A8 n8 c8 x0 wr (HF2.out wr HB.out.1) hn1)
     have e0 := (HC2.out wr HB.out.1).at_ 0 _ rfl
     have e1 := (HC2.out wr HB.out.1).at_ 1 _ rfl
     have e2 := (HC2.out wr HB.out.1).at_ 2 _ rfl
     have e3 := (HC2.out wr HB.out.1).at_ 3 _ rfl
     have e4 := (HC2.out wr HB.out.1).at_ 4 _ rfl
     have e5 := (HC2.out wr HB.out.1).at_ 5 _ rfl
     have e7 := (HC2.out wr HB.out.1).at_ 7 _ rfl
     have e8 := (HC2.out wr HB.out.1).at_ 8 _ rfl
     have e9 := (HC2.out wr HB.out.1).at_ 9 _ rfl
     have e10 := (HC2.out wr HB.out.1).at_ 10 _ rfl
     go_wp2_with fail
     refine cR.out.mono ?_
     rintro e w3 ⟨ob, ff, rfl, hrc, hb3⟩
     have HRC := Hd hrc
     have HB3 : Hid (Below w.heap.size w w3) := Hd (HBW.out _ (H12.out _ (HB.out.1.trans (hb3.mono HB.out.1.size))))
     clear hrc hb3 cR e0 e1 e2 e3 e4 e5 e6 e7 e8 e9 e10 p2
     go_wp2_with fail
     go_loopw [11] (fun iv wr => ∃ i : Nat, iv = .int .i64 (i : Int) ∧ i ≤ j ∧ wr = w3) (fun iv _ => j - (intOf iv).toNat)
     case atStart => exact ⟨0, rfl, Nat.zero_le _, rfl⟩
     case round =>
      obtain ⟨i, rfl, hii, rfl⟩ := hrel
      have hi0 : (0 : Int) ≤ (i : Int) := by omega
      have hi1 : (i : Int) ≤ 150 := by omega
      by_cases hlt2 : i < j
      ·have hij : (i : Int) < (j : Int) := by omega
       have zc := HRC.out.at_ i _ (arrB_at ff hlt2)
       obtain ⟨r, hr⟩ : ∃ r, ff i = r := ⟨_, rfl⟩
       rw [hr] at zc
       clear hr
       cases r with
       | true =>
        go_wp2_with fail
        go_roundw
        case rel => exact ⟨i + 1, by go_num, by omega, trivial⟩
        case measure => simp [intOf]; omega
       | false =>
        go_wp2_with fail
        go_ret2
        exact ⟨_, _, rfl, HB3.out, fun h => absurd h (by decide)⟩
      ·obtain rfl : i = j := by omega
       go_wp2_with fail
       go_ret2
       exact ⟨_, _, rfl, HB3.out, fun _ => by first | exact HPF.out | exact ⟨HPF.out.1 (by trivial), HPF.out.2⟩⟩
 ·have tz : ((f : Int) == 0) = false := by rw [beq_eq_false_iff_ne]; omega
  have tz2 : (f == 0) = false := by rw [beq_eq_false_iff_ne]; omega
  go_upto_region 3 with fail
  obtain ⟨we, hwe⟩ : ∃ X, w1 = X := ⟨_, rfl⟩
  have HBE : Hid (Below w1.heap.size w1 we) := Hd (by rw [← hwe]; exact Below.refl _ _)
  have p1 := EP.out we HBE.out
  rw [hwe]
  clear hwe p0
  obtain ⟨bk, off, s, b, A0, n0, c0, A1, n1, c1, A2, n2, c2, A3, n3, c3, A4, n4, c4, A5, n5, c5, A6, n6, c6, A7, n7, c7, A8, n8, c8, x, rfl, hbk, hx, hcf, hfw, hcan⟩ := (HP.out we HBE.out).get hi
  have y0 := hcf 0 _ rfl
  have y1 := hcf 1 _ rfl
  have y2 := hcf 2 _ rfl
  have y3 := hcf 3 _ rfl
  have y4 := hcf 4 _ rfl
  have y5 := hcf 5 _ rfl
  have y6 := hcf 6 _ rfl
  have y7 := hcf 7 _ rfl
  have y8 := hcf 8 _ rfl
  have y9 := hcf 9 _ rfl
  have y10 := hcf 10 _ rfl
  simp only [Nat.add_zero, Nat.zero_mul] at y0 y1 y2 y3 y4 y5 y6 y7 y8 y9 y10
  obtain rfl : x0 = x := by have := HX0.out; rw [this] at hx; injection hx
  have l4 := hfw.r4.1
  have HL4 : Hid (x0.code.length = n4) := Hd l4
  have hsome := hcan.some_
  obtain ⟨s4, s5, s6, s7, s8, s0⟩ := hfw.sm
  have hn1 : 1 ≤ n4 := by omega
  have hn40 : (n4 : Int) ≤ 150 := by omega
  have HFW := Hd hfw
  rw [l4] at cC cP
  clear hfw hcan hcf hx l4 hsome
  go_upto_region 5 with fail
  clear y0 y1 y2 y3 y4 y5 y6 y7 y8 y9 y10
  obtain ⟨w2, hw2⟩ : ∃ X, we.alloc (.cells #[.string s, .bool b, .slice A0 n0 c0, .slice A1 n1 c1, .slice A2 n2 c2, .slice A3 n3 c3, .slice A4 n4 c4, .slice A5 n5 c5, .slice A6 n6 c6, .slice A7 n7 c7, .slice A8 n8 c8] 38) = X := ⟨_, rfl⟩
  obtain ⟨g2, hg2⟩ : ∃ X, we.heap.size = X := ⟨_, rfl⟩
  have hb2 : Below we.heap.size we w2 := by rw [← hw2]; exact bl_one _
  have hc2 : Cells w2 g2 [.string s, .bool b, .slice A0 n0 c0, .slice A1 n1 c1, .slice A2 n2 c2, .slice A3 n3 c3, .slice A4 n4 c4, .slice A5 n5 c5, .slice A6 n6 c6, .slice A7 n7 c7, .slice A8 n8 c8] := by rw [← hw2, ← hg2]; exact Cells.new we [.string s, .bool b, .slice A0 n0 c0, .slice A1 n1 c1, .slice A2 n2 c2, .slice A3 n3 c3, .slice A4 n4 c4, .slice A5 n5 c5, .slice A6 n6 c6, .slice A7 n7 c7, .slice A8 n8 c8] _
  rw [hw2, hg2]
  have hb12 : Below w1.heap.size w1 w2 := HBE.out.trans (hb2.mono HBE.out.size)
  have HC2 : Hid (∀ W, Below w2.heap.size w2 W → Cells W g2 [.string s, .bool b, .slice A0 n0 c0, .slice A1 n1 c1, .slice A2 n2 c2, .slice A3 n3 c3, .slice A4 n4 c4, .slice A5 n5 c5, .slice A6 n6 c6, .slice A7 n7 c7, .slice A8 n8 c8]) := Hd fun W hW => hc2.on hW
  have H12 : Hid (∀ W, Below w2.heap.size w2 W → Below w1.heap.size w1 W) := Hd fun W hW => hb12.trans (hW.mono hb12.size)
  have HF2 : Hid (∀ W, Below w2.heap.size w2 W → FnW W W.heap.size s b A0 n0 c0 A1 n1 c1 A2 n2 c2 A3 n3 c3 A4 n4 c4 A5 n5 c5 A6 n6 c6 A7 n7 c7 A8 n8 c8 x0) := Hd fun W hW => (HFW.out.keep (hb2.trans (hW.mono hb2.size))).more (hb2.trans (hW.mono hb2.size)).size
  clear hw2 hg2 hb2 hc2 hb12 hw1 hg HFW p1
  go_loopw [7, 8, 9] (fun iv _ _ wr => ∃ j : Nat, iv = .int .i64 (j : Int) ∧ j ≤ n4 ∧ Hid (Below w2.heap.size w2 wr ∧ ∀ i, i < j → CallsR fs x0 i)) (fun iv _ _ _ => n4 - (intOf iv).toNat)
  case atStart => exact ⟨0, rfl, Nat.zero_le _, Hd ⟨Below.refl _ _, fun i hi => by omega⟩⟩
  case round =>
   obtain ⟨j, rfl, hj, HB⟩ := hrel
   have hj0 : (0 : Int) ≤ (j : Int) := by omega
   have hj1 : (j : Int) ≤ 150 := by omega
   have e6 := (HC2.out wr HB.out.1).at_ 6 _ rfl
   have p2 := EP.out wr (H12.out wr HB.out.1)
   by_cases hlt : j < n4
   ·have hjn : (j : Int) < (n4 : Int) := by omega
    have cX := Hd (cC.out wr (H12.out wr HB.out.1) j hlt)
    go_wp2_with fail
    refine cX.out.mono ?_
    rintro e w3 ⟨⟨r, rfl, hcr⟩, hb3⟩
    have HCR := Hd hcr
    clear hcr
    have HB3 : Hid (Below w2.heap.size w2 w3) := Hd (HB.out.1.trans (hb3.mono HB.out.1.size))
    have p3 := EP.out w3 (H12.out w3 HB3.out)
    have cY := Hd (cP.out w3 (H12.out w3 HB3.out) j hlt)
    clear hb3 cX e6 p2
    by_cases hr : r = 0
    ·subst hr
     go_wp2_with fail
     refine cY.out.mono ?_
     rintro e w4 ⟨⟨r4, rfl⟩, hb4⟩
     have HB4 : Hid (Below w2.heap.size w2 w4) := Hd (HB3.out.trans (hb4.mono HB3.out.size))
     clear hb4 cY p3
     by_cases hr4 : r4 = 0
     ·subst hr4
      go_wp2_with fail
      go_roundw
      case rel => exact ⟨j + 1, by go_num, by omega, Hd ⟨HB4.out, fun i hi => by
       rcases Nat.lt_or_ge i j with hl | hl
       ·exact HB.out.2 i hl
       ·obtain rfl : i = j := by omega
        exact HCR.out (by trivial)⟩⟩
      case measure => simp [intOf]; omega
     ·have t4 : (r4 != 0) = true := by simpa using hr4
      go_wp2_with fail
      go_ret2
      exact ⟨_, _, rfl, HBW.out _ (H12.out _ HB4.out), fun h => absurd h hr4⟩
    ·have t4 : (r != 0) = true := by simpa using hr
     go_wp2_with fail
     go_ret2
     exact ⟨_, _, rfl, HBW.out _ (H12.out _ HB3.out), fun h => absurd h hr⟩
   ·obtain rfl : j = n4 := by omega
    have HPF : Hid ((f = 0 → EntryR fs) ∧ ∀ k, k < x0.code.length → CallsR fs x0 k) := Hd ⟨fun h => absurd h hz, fun k hk => HB.out.2 k (by have := HL4.out; omega)⟩
    have cR := Hd (rreach_any s b A0 n0 c0 A1 n1 c1 A2 n2 c2 A3 n3 c3 A4 j c4 A5 n5 c5 A6 n6 c6 A7 n7 c7 A8 n8 c8 x0 wr (HF2.out wr HB.out.1) hn1)
    have e0 := (HC2.out wr HB.out.1).at_ 0 _ rfl
    have e1 := (HC2.out wr HB.out.1).at_ 1 _ rfl
    have e2 := (HC2.out wr HB.out.1).at_ 2 _ rfl
    have e3 := (HC2.out wr HB.out.1).at_ 3 _ rfl
    have e4 := (HC2.out wr HB.out.1).at_ 4 _ rfl
    have e5 := (HC2.out wr HB.out.1).at_ 5 _ rfl
    have e7 := (HC2.out wr HB.out.1).at_ 7 _ rfl
    have e8 := (HC2.out wr HB.out.1).at_ 8 _ rfl
    have e9 := (HC2.out wr HB.out.1).at_ 9 _ rfl
    have e10 := (HC2.out wr HB.out.1).at_ 10 _ rfl
    go_wp2_with fail
    refine cR.out.mono ?_
    rintro e w3 ⟨ob, ff, rfl, hrc, hb3⟩
    have HRC := Hd hrc
    have HB3 : Hid (Below w.heap.size w w3) := Hd (HBW.out _ (H12.out _ (HB.out.1.trans (hb3.mono HB.out.1.size))))
    clear hrc hb3 cR e0 e1 e2 e3 e4 e5 e6 e7 e8 e9 e10 p2
    go_wp2_with fail
    go_loopw [11] (fun iv wr => ∃ i : Nat, iv = .int .i64 (i : Int) ∧ i ≤ j ∧ wr = w3) (fun iv _ => j - (intOf iv).toNat)
    case atStart => exact ⟨0, rfl, Nat.zero_le _, rfl⟩
    case round =>
     obtain ⟨i, rfl, hii, rfl⟩ := hrel
     have hi0 : (0 : Int) ≤ (i : Int) := by omega
     have hi1 : (i : Int) ≤ 150 := by omega
     by_cases hlt2 : i < j
     ·have hij : (i : Int) < (j : Int) := by omega
      have zc := HRC.out.at_ i _ (arrB_at ff hlt2)
      obtain ⟨r, hr⟩ : ∃ r, ff i = r := ⟨_, rfl⟩
      rw [hr] at zc
      clear hr
      cases r with
      | true =>
       go_wp2_with fail
       go_roundw
       case rel => exact ⟨i + 1, by go_num, by omega, trivial⟩
       case measure => simp [intOf]; omega
      | false =>
       go_wp2_with fail
       go_ret2
       exact ⟨_, _, rfl, HB3.out, fun h => absurd h (by decide)⟩
     ·obtain rfl : i = j := by omega
      go_wp2_with fail
      go_ret2
      exact ⟨_, _, rfl, HB3.out, fun _ => by first | exact HPF.out | exact ⟨HPF.out.1 (by trivial), HPF.out.2⟩⟩
end
end Go.Proofs.YtobmjnmcjddhcaaGreat
