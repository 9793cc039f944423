import Derived.Test.YtobmjnmcjddhcaaGreatCFi7
set_option linter.unusedSimpArgs false
set_option linter.unusedVariables false
set_option maxRecDepth 100000
set_option maxHeartbeats 64000000
namespace Go.Proofs.YtobmjnmcjddhcaaGreat
open Go.RowKit
theorem effM_len (o : Int) : (effM o).1.length ≤ 2 ∧ (effM o).2.length ≤ 2 := by
 unfold effM
 repeat' split
 all_goals simp
theorem sl_lit (W : World) (v : Int) : SlI (W.alloc (.cells #[.int .i64 v] 40)) (W.alloc (.cells #[.int .i64 v] 40)).heap.size (some ⟨W.heap.size, 0, none⟩) 1 1 [v] :=
 SlR.of_ownN (sz := 1) (bytes := 8) (f := fun x : Int => [Value.int .i64 x]) (xs := [v]) (fun _ => rfl) (by omega) (own_at rfl W.heap.size (Nat.le_refl _) [.int .i64 v] 40 1 1 (by unfold maxLen; omega) rfl) (by unfold reachBytes; omega)
def IsNeeds (w : World) (e : Ending) (w' : World) : Prop := ∃ A n c xs B m d ys r, e = .returned (.tuple #[.slice A n c, .slice B m d, .int .i64 r]) ∧ n ≤ 300 ∧ m ≤ 300 ∧ SlI w' w'.heap.size A n c xs ∧ SlI w' w'.heap.size B m d ys ∧ Below w.heap.size w w'
theorem sli_cut {w : World} {B g o n c q : Nat} {xs : List Int} (h : SlI w B (some ⟨g, o, none⟩) n c xs) (hq : q < n) : SlI w B (some ⟨g, o + q, none⟩) 1 (c - q) ((xs.take (q + 1)).drop q) := by
 obtain ⟨h1, h2, h3, h4, h5⟩ := h
 refine ⟨by simp; omega, by omega, by omega, by omega, fun hp => ?_⟩
 obtain ⟨b, off, hA, hb, hx⟩ := h5 (by omega)
 injection hA with hA
 injection hA with e1 e2
 subst e1
 subst e2
 refine ⟨g, o + q, rfl, hb, fun i x hi => ?_⟩
 rw [List.getElem?_drop, List.getElem?_take] at hi
 split at hi
 ·obtain ⟨cs, e1, e2, e3⟩ := hx (q + i) x hi
  refine ⟨cs, e1, fun j u hj => ?_, e3⟩
  have := e2 j u hj
  rw [show o + ((q + i) * 1 + j) = o + q + (i * 1 + j) by omega] at this
  exact this
 ·cases hi
theorem rneeds_any (FA : Option Addr) (fn fc : Nat) (fs : List DFunc) (f k : Nat) (x0 : DFunc) (SA : Option Addr) (sn sc : Nat) (st : List Int) (w : World) (h : PgC w FA fn fc fs) (hi : f < fn) (hx0 : fs[f]? = some x0) (hk : k < x0.code.length) (hst : SlI w w.heap.size SA sn sc st) (hsn : sn ≤ 100) :
  Calls Tryz.prog 151 #[.agg #[.slice FA fn fc], .int .i64 (f : Int), .int .i64 (k : Int), .slice SA sn sc] w (IsNeeds w) := by
 obtain ⟨w1, hw1⟩ : ∃ X, w.alloc (.cells #[.slice FA fn fc] 24) = X := ⟨_, rfl⟩
 obtain ⟨g, hg⟩ : ∃ g, w.heap.size = g := ⟨_, rfl⟩
 have hb1 : Below w.heap.size w w1 := by rw [← hw1]; exact bl_one _
 have hc1 : Cells w1 g [.slice FA fn fc] := by rw [← hw1, ← hg]; exact Cells.new w [.slice FA fn fc] _
 have EP : Hid (∀ W, Below w1.heap.size w1 W → W.cell? ⟨g, 0, none⟩ = some (.slice FA fn fc)) := Lib.hid fun W hW => (hc1.on hW).at_ 0 _ rfl
 have HP : Hid (∀ W, Below w1.heap.size w1 W → PgC W FA fn fc fs) := Lib.hid fun W hW => h.on (hb1.trans (hW.mono hb1.size))
 have HB1 := Lib.hid hb1
 have HBW : Hid (∀ W, Below w1.heap.size w1 W → Below w.heap.size w W) := Lib.hid fun W hW => hb1.trans (hW.mono hb1.size)
 have hfn := h.pg.le
 have hn0 : (fn : Int) ≤ 50 := by omega
 have p0 := EP.out w1 (Below.refl _ _)
 have HST : Hid (∀ W, Below w1.heap.size w1 W → SlI W W.heap.size SA sn sc st) := Lib.hid fun W hW => hst.on (hb1.trans (hW.mono hb1.size))
 clear hb1 hc1
 have cO : Hid (∀ W, Below w1.heap.size w1 W → Calls Tryz.prog 148 #[.agg #[.slice FA fn fc], .int .i64 (f : Int), .int .i64 (k : Int)] W (IsOut W)) := Lib.hid fun W hW => router_any FA fn fc fs f k x0 W (HP.out W hW) hi hx0 hk
 obtain ⟨bk, off, s, b, A0, n0, c0, A1, n1, c1, A2, n2, c2, A3, n3, c3, A4, n4, c4, A5, n5, c5, A6, n6, c6, A7, n7, c7, A8, n8, c8, x, rfl, hbk, hx, hcf, hfw, hcan⟩ := (HP.out w1 (Below.refl _ _)).get (i := f) hi
 have y0 := hcf 0 _ rfl
 have y1 := hcf 1 _ rfl
 have y2 := hcf 2 _ rfl
 have y3 := hcf 3 _ rfl
 have y4 := hcf 4 _ rfl
 have y5 := hcf 5 _ rfl
 have y6 := hcf 6 _ rfl
 have y7 := hcf 7 _ rfl
 have y8 := hcf 8 _ rfl
 have y9 := hcf 9 _ rfl
 have y10 := hcf 10 _ rfl
 simp only [Nat.add_zero] at y0
 obtain rfl : x0 = x := by rw [hx0] at hx; injection hx
 have l4 := hfw.r4.1
 have l6 := hfw.r6.1
 obtain ⟨cb, co, yo, ya, rfl, hcb, hca, hcd, u0, u1⟩ := code_get hfw.r4 (show k < n4 by omega)
 have hins := hcan.ins _ (List.mem_of_getElem? hcd)
 have HIN : Hid (opndM yo ≠ 1 → 0 ≤ ya) := Lib.hid fun h1 => (hins.2.2.resolve_left h1).1
 obtain ⟨s4, s5, s6, s7, s8, s0⟩ := hfw.sm
 have hf0 : (0 : Int) ≤ (f : Int) := by omega
 have hf1 : (f : Int) < (fn : Int) := by omega
 have hk0 : (0 : Int) ≤ (k : Int) := by omega
 have hk1 : (k : Int) ≤ 150 := by omega
 have hkn : (k : Int) < (n4 : Int) := by omega
 have HFW := Lib.hid hfw
 have HU : Hid (w1.cell? ⟨cb, co + k * 2, none⟩ = some (.int .i64 yo) ∧ w1.cell? ⟨cb, co + k * 2 + 1, none⟩ = some (.int .i64 ya)) := Lib.hid ⟨u0, u1⟩
 have hsn0 : (sn : Int) ≤ 100 := by omega
 clear h hfw hcan hcf hx hx0 l4 l6 hca hcd hins hst hk u0 u1
 go_enter Tryz.func151, Tryz.ntmps151
 go_upto_region 2 with fail
 clear y0 y1 y2 y3 y4 y5 y6 y7 y8 y9 y10
 obtain ⟨w2, hw2⟩ : ∃ X, w1.alloc (.cells #[.string s, .bool b, .slice A0 n0 c0, .slice A1 n1 c1, .slice A2 n2 c2, .slice A3 n3 c3, .slice (some ⟨cb, co, none⟩) n4 c4, .slice A5 n5 c5, .slice A6 n6 c6, .slice A7 n7 c7, .slice A8 n8 c8] 38) = X := ⟨_, rfl⟩
 obtain ⟨g2, hg2⟩ : ∃ X, w1.heap.size = X := ⟨_, rfl⟩
 have hb2 : Below w1.heap.size w1 w2 := by rw [← hw2]; exact bl_one _
 have hc2 : Cells w2 g2 [.string s, .bool b, .slice A0 n0 c0, .slice A1 n1 c1, .slice A2 n2 c2, .slice A3 n3 c3, .slice (some ⟨cb, co, none⟩) n4 c4, .slice A5 n5 c5, .slice A6 n6 c6, .slice A7 n7 c7, .slice A8 n8 c8] := by rw [← hw2, ← hg2]; exact Cells.new w1 [.string s, .bool b, .slice A0 n0 c0, .slice A1 n1 c1, .slice A2 n2 c2, .slice A3 n3 c3, .slice (some ⟨cb, co, none⟩) n4 c4, .slice A5 n5 c5, .slice A6 n6 c6, .slice A7 n7 c7, .slice A8 n8 c8] _
 rw [hw2, hg2]
 have e6 := hc2.at_ 6 _ rfl
 have u0 := (hb2.cell (p := ⟨cb, co + k * 2, none⟩) hcb).trans HU.out.1
 have u1 := (hb2.cell (p := ⟨cb, co + k * 2 + 1, none⟩) hcb).trans HU.out.2
 clear hw2
 go_upto_region 3 with fail
 clear e6 u0 u1
 obtain ⟨w3, hw3⟩ : ∃ X, w2.alloc (.cells #[.int .i64 yo, .int .i64 ya] 113) = X := ⟨_, rfl⟩
 obtain ⟨g3, hg3⟩ : ∃ X, w2.heap.size = X := ⟨_, rfl⟩
 have hb3 : Below w2.heap.size w2 w3 := by rw [← hw3]; exact bl_one _
 have hc3 : Cells w3 g3 [.int .i64 yo, .int .i64 ya] := by rw [← hw3, ← hg3]; exact Cells.new w2 [.int .i64 yo, .int .i64 ya] _
 rw [hw3, hg3]
 have hb13 : Below w1.heap.size w1 w3 := hb2.trans (hb3.mono hb2.size)
 have HC2 : Hid (∀ W, Below w3.heap.size w3 W → Cells W g2 [.string s, .bool b, .slice A0 n0 c0, .slice A1 n1 c1, .slice A2 n2 c2, .slice A3 n3 c3, .slice (some ⟨cb, co, none⟩) n4 c4, .slice A5 n5 c5, .slice A6 n6 c6, .slice A7 n7 c7, .slice A8 n8 c8]) := Lib.hid fun W hW => (hc2.on hb3).on hW
 have HC3 : Hid (∀ W, Below w3.heap.size w3 W → Cells W g3 [.int .i64 yo, .int .i64 ya]) := Lib.hid fun W hW => hc3.on hW
 have H13 : Hid (∀ W, Below w3.heap.size w3 W → Below w1.heap.size w1 W) := Lib.hid fun W hW => hb13.trans (hW.mono hb13.size)
 have HF3 : Hid (∀ W, Below w3.heap.size w3 W → FnW W W.heap.size s b A0 n0 c0 A1 n1 c1 A2 n2 c2 A3 n3 c3 (some ⟨cb, co, none⟩) n4 c4 A5 n5 c5 A6 n6 c6 A7 n7 c7 A8 n8 c8 x0) := Lib.hid fun W hW => (HFW.out.keep (hb13.trans (hW.mono hb13.size))).more (hb13.trans (hW.mono hb13.size)).size
 have e0 := (HC2.out w3 (Below.refl _ _)).at_ 0 _ rfl
 have e1 := (HC2.out w3 (Below.refl _ _)).at_ 1 _ rfl
 have e2 := (HC2.out w3 (Below.refl _ _)).at_ 2 _ rfl
 have e3 := (HC2.out w3 (Below.refl _ _)).at_ 3 _ rfl
 have e4 := (HC2.out w3 (Below.refl _ _)).at_ 4 _ rfl
 have e5 := (HC2.out w3 (Below.refl _ _)).at_ 5 _ rfl
 have e6 := (HC2.out w3 (Below.refl _ _)).at_ 6 _ rfl
 have e7 := (HC2.out w3 (Below.refl _ _)).at_ 7 _ rfl
 have e8 := (HC2.out w3 (Below.refl _ _)).at_ 8 _ rfl
 have e9 := (HC2.out w3 (Below.refl _ _)).at_ 9 _ rfl
 have e10 := (HC2.out w3 (Below.refl _ _)).at_ 10 _ rfl
 have cS := Lib.hid (rslots_any s b A0 n0 c0 A1 n1 c1 A2 n2 c2 A3 n3 c3 (some ⟨cb, co, none⟩) n4 c4 A5 n5 c5 A6 n6 c6 A7 n7 c7 A8 n8 c8 x0 w3 (HF3.out w3 (Below.refl _ _)))
 obtain ⟨sl, hsl⟩ : ∃ v, n1 + n2 + n3 = v := ⟨_, rfl⟩
 have HSLN : Hid (n1 + n2 + n3 = sl) := Lib.hid hsl
 have hsl0 : sl ≤ 300 := by omega
 have hsl1 : (sl : Int) ≤ 300 := by omega
 rw [hsl] at cS
 clear hg2 hw3 hg3 hb2 hb3 hc2 hc3 hb13 hw1 hg HFW hsl HU
 go_wp2_with fail
 refine cS.out.mono ?_
 rintro e w4 ⟨Q, cq, rfl, hoq, hb4⟩
 have HB4 := Lib.hid hb4
 have HSL := Lib.hid (sli_types hoq (by omega))
 have cE := Lib.hid (reffect_any yo w4)
 have i0 := (HC3.out w4 hb4).at_ 0 _ rfl
 clear hb4 hoq cS e0 e1 e2 e3 e4 e5 e6 e7 e8 e9 e10
 go_wp2_with fail
 refine cE.out.mono ?_
 rintro e w5 ⟨EA, ek, ec, EB, em, ed, rfl, hek, hem, hea, heb, hb5⟩
 have HB5 : Hid (Below w3.heap.size w3 w5) := Lib.hid (HB4.out.trans (hb5.mono HB4.out.size))
 have HSL5 := Lib.hid (HSL.out.on hb5)
 have HEA : Hid (ek ≤ 2 ∧ em ≤ 2 ∧ SlI w5 w5.heap.size EA ek ec (effM yo).1 ∧ SlI w5 w5.heap.size EB em ed (effM yo).2) := Lib.hid ⟨by rw [hek]; exact (effM_len yo).1, by rw [hem]; exact (effM_len yo).2, hea, heb⟩
 have HBW5 : Hid (∀ W, Below w5.heap.size w5 W → Below w.heap.size w W) := Lib.hid fun W hW => HBW.out W (H13.out W (HB5.out.trans (hW.mono HB5.out.size)))
 clear hek hem hea heb hb5 cE i0 HSL HB4
 have i0 := (HC3.out w5 HB5.out).at_ 0 _ rfl
 have i1 := (HC3.out w5 HB5.out).at_ 1 _ rfl
 have p5 := EP.out w5 (H13.out w5 HB5.out)
 have e8 := (HC2.out w5 HB5.out).at_ 8 _ rfl
 by_cases o2 : yo = 2 ∨ yo = 3
 ·obtain ⟨q, rfl⟩ := Int.eq_ofNat_of_zero_le (HIN.out (by rcases o2 with rfl | rfl <;> decide))
  have hq0 : (0 : Int) ≤ (q : Int) := by omega
  by_cases hq : q < sl
  ·have d1 : decide ((q : Int) ≥ (sl : Int)) = false := by rw [decide_eq_false_iff_not]; omega
   have d1b : decide (sl ≤ q) = false := by rw [decide_eq_false_iff_not]; omega
   have hqs : (q : Int) < (sl : Int) := by omega
   have hqs1 : (q : Int) + 1 ≤ (sl : Int) := by omega
   obtain ⟨qb, qo, qv, rfl, hqb, _, qc⟩ := SlR.cell1 (f := Value.int .i64) HSL5.out (i := q) hq
   have hcq : sl ≤ cq := HSL5.out.2.1
   have hcq2 : cq ≤ maxLen := HSL5.out.2.2.1
   have hcq3 : (cq : Int) ≤ 9223372036854775807 := by unfold maxLen at hcq2; omega
   have hcq4 : (q : Int) + 1 ≤ (cq : Int) := by omega
   rcases o2 with rfl | rfl
   ·go_wp2_with fail
    go_quiet (fail)
    go_wp2_with fail
    go_ret3
    exact ⟨none, 0, 0, [], _, 1, _, _, 0, rfl, by omega, by omega, sli_nil _, SlI.on (sli_cut HSL5.out hq) (below_drewN' (Below.refl w5.heap.size w5) _), HBW5.out _ (below_drewN' (Below.refl w5.heap.size w5) _)⟩
   ·go_wp2_with fail
    go_ret3
    exact ⟨_, 1, _, _, none, 0, 0, [], 0, rfl, by omega, by omega, sli_cut HSL5.out hq, sli_nil _, HBW5.out _ (Below.refl _ _)⟩
  ·have d1 : decide ((q : Int) ≥ (sl : Int)) = true := by rw [decide_eq_true_eq]; omega
   have d1b : decide (sl ≤ q) = true := by rw [decide_eq_true_eq]; omega
   rcases o2 with rfl | rfl
   ·go_wp2_with fail
    go_ret3
    exact ⟨none, 0, 0, [], none, 0, 0, [], 2, rfl, by omega, by omega, sli_nil _, sli_nil _, HBW5.out _ (Below.refl _ _)⟩
   ·go_wp2_with fail
    go_ret3
    exact ⟨none, 0, 0, [], none, 0, 0, [], 2, rfl, by omega, by omega, sli_nil _, sli_nil _, HBW5.out _ (Below.refl _ _)⟩
 have e2 : (yo == 2) = false := by rw [beq_eq_false_iff_ne]; omega
 have e3 : (yo == 3) = false := by rw [beq_eq_false_iff_ne]; omega
 by_cases o4 : yo = 4 ∨ yo = 5
 ·have HS5 := Lib.hid (HST.out w5 (H13.out w5 HB5.out))
  by_cases hs0 : sn = 0
  ·subst hs0
   have d0 : (((0 : Nat) : Int) == 0) = true := by simp
   rcases o4 with rfl | rfl
   ·go_wp2_with fail
    go_ret3
    exact ⟨none, 0, 0, [], none, 0, 0, [], 10, rfl, by omega, by omega, sli_nil _, sli_nil _, HBW5.out _ (Below.refl _ _)⟩
   ·go_wp2_with fail
    go_ret3
    exact ⟨none, 0, 0, [], none, 0, 0, [], 10, rfl, by omega, by omega, sli_nil _, sli_nil _, HBW5.out _ (Below.refl _ _)⟩
  ·obtain ⟨sm, rfl⟩ : ∃ m, sn = m + 1 := ⟨sn - 1, by omega⟩
   have d0 : (((sm + 1 : Nat) : Int) == 0) = false := by rw [beq_eq_false_iff_ne]; omega
   have d0b : ((sm : Int) + 1 == 0) = false := by rw [beq_eq_false_iff_ne]; omega
   obtain ⟨tb, to_, tv, rfl, htb, _, tc⟩ := SlR.cell1 (f := Value.int .i64) HS5.out (i := sm) (by omega)
   have hsm0 : (0 : Int) ≤ (sm : Int) := by omega
   have hsm1 : (sm : Int) < (sm : Int) + 1 := by omega
   rcases o4 with rfl | rfl
   ·go_wp2_with fail
    go_ret3
    exact ⟨_, 1, 1, [tv], none, 0, 0, [], 0, rfl, by omega, by omega, sl_lit w5 tv, sli_nil _, HBW5.out _ (bl_one _)⟩
   ·go_wp2_with fail
    go_ret3
    exact ⟨none, 0, 0, [], _, 1, 1, [tv], 0, rfl, by omega, by omega, sli_nil _, sl_lit w5 tv, HBW5.out _ (bl_one _)⟩
 have e4 : (yo == 4) = false := by rw [beq_eq_false_iff_ne]; omega
 have e5 : (yo == 5) = false := by rw [beq_eq_false_iff_ne]; omega
 by_cases o23 : yo = 23 ∨ yo = 24
 ·obtain ⟨q, rfl⟩ := Int.eq_ofNat_of_zero_le (HIN.out (by rcases o23 with rfl | rfl <;> decide))
  have hq0 : (0 : Int) ≤ (q : Int) := by omega
  by_cases hq : q < fn
  ·have d1 : decide ((q : Int) ≥ (fn : Int)) = false := by rw [decide_eq_false_iff_not]; omega
   have d1b : decide (fn ≤ q) = false := by rw [decide_eq_false_iff_not]; omega
   have hqs : (q : Int) < (fn : Int) := by omega
   obtain ⟨jb, jo, zs, zb, ZA0, zn0, zc0, ZA1, zn1, zc1, ZA2, zn2, zc2, ZA3, zn3, zc3, ZA4, zn4, zc4, ZA5, zn5, zc5, ZA6, zn6, zc6, ZA7, zn7, zc7, ZA8, zn8, zc8, xq, hjA, hjb, hjx, hjc, hjf, hjn⟩ := (HP.out w5 (H13.out w5 HB5.out)).get hq
   obtain ⟨rfl, rfl⟩ : jb = bk ∧ jo = off := by injection hjA with hjA; injection hjA with a1 a2; exact ⟨a1.symm, a2.symm⟩
   have k3 := hjc 3 _ rfl
   have k4 := hjc 4 _ rfl
   have HJ := Lib.hid hjf
   clear hjA hjx hjc hjf hjn
   rcases o23 with rfl | rfl
   ·go_wp2_with fail
    go_quiet (fail)
    go_wp2_with fail
    go_ret3
    exact ⟨_, _, _, _, _, _, _, _, 0, rfl, by have := HJ.out.sm; omega, by have := HJ.out.sm; omega, SlI.on HJ.out.r1 (below_drewN' (Below.refl w5.heap.size w5) _), SlI.on HJ.out.r2 (below_drewN' (Below.refl w5.heap.size w5) _), HBW5.out _ (below_drewN' (Below.refl w5.heap.size w5) _)⟩
   ·go_wp2_with fail
    go_ret3
    exact ⟨_, _, _, _, none, 0, 0, [], 0, rfl, by have := HJ.out.sm; omega, by omega, HJ.out.r1, sli_nil _, HBW5.out _ (Below.refl _ _)⟩
  ·have d1 : decide ((q : Int) ≥ (fn : Int)) = true := by rw [decide_eq_true_eq]; omega
   have d1b : decide (fn ≤ q) = true := by rw [decide_eq_true_eq]; omega
   rcases o23 with rfl | rfl
   ·go_wp2_with fail
    go_ret3
    exact ⟨none, 0, 0, [], none, 0, 0, [], 12, rfl, by omega, by omega, sli_nil _, sli_nil _, HBW5.out _ (Below.refl _ _)⟩
   ·go_wp2_with fail
    go_ret3
    exact ⟨none, 0, 0, [], none, 0, 0, [], 12, rfl, by omega, by omega, sli_nil _, sli_nil _, HBW5.out _ (Below.refl _ _)⟩
 have e23 : (yo == 23) = false := by rw [beq_eq_false_iff_ne]; omega
 have e24 : (yo == 24) = false := by rw [beq_eq_false_iff_ne]; omega
 by_cases o28 : yo = 28 ∨ yo = 29
 ·obtain ⟨q, rfl⟩ := Int.eq_ofNat_of_zero_le (HIN.out (by rcases o28 with rfl | rfl <;> decide))
  have hq0 : (0 : Int) ≤ (q : Int) := by omega
  have cO5 := Lib.hid (cO.out w5 (H13.out w5 HB5.out))
  have HOB : Hid (∀ W, Below w5.heap.size w5 W → W.cell? ⟨g3, 0, none⟩ = some (.int .i64 yo) ∧ W.cell? ⟨g3, 1, none⟩ = some (.int .i64 (q : Int))) := Lib.hid fun W hW => ⟨(HC3.out W (HB5.out.trans (hW.mono HB5.out.size))).at_ 0 _ rfl, (HC3.out W (HB5.out.trans (hW.mono HB5.out.size))).at_ 1 _ rfl⟩
  have HS28 := Lib.hid o28
  rcases o28 with rfl | rfl
  ·go_wp2_with fail
   refine cO5.out.mono ?_
   rintro e w6 ⟨OA, ok, oc, ol, r, rfl, hok, hosl, hb6⟩
   obtain ⟨j0, j1⟩ := HOB.out w6 hb6
   have HB6 := Lib.hid hb6
   have HOS := Lib.hid hosl
   clear hb6 hosl i0 i1 p5 e8
   cases r with
   | false =>
    go_wp2_with fail
    go_ret3
    exact ⟨none, 0, 0, [], none, 0, 0, [], 13, rfl, by omega, by omega, sli_nil _, sli_nil _, HBW5.out _ HB6.out⟩
   | true =>
    by_cases hq : q < ok
    ·have d1 : decide ((q : Int) ≥ (ok : Int)) = false := by rw [decide_eq_false_iff_not]; omega
     have d1b : decide (ok ≤ q) = false := by rw [decide_eq_false_iff_not]; omega
     have hqs : (q : Int) < (ok : Int) := by omega
     have hqs1 : (q : Int) + 1 ≤ (ok : Int) := by omega
     obtain ⟨qb, qo, qv, rfl, hqb, _, qc⟩ := SlR.cell1 (f := Value.int .i64) HOS.out (i := q) hq
     have hcq : ok ≤ oc := HOS.out.2.1
     have hcq2 : oc ≤ maxLen := HOS.out.2.2.1
     have hcq3 : (oc : Int) ≤ 9223372036854775807 := by unfold maxLen at hcq2; omega
     have hcq4 : (q : Int) + 1 ≤ (oc : Int) := by omega
     go_wp2_with fail
     go_quiet (fail)
     go_wp2_with fail
     go_ret3
     exact ⟨none, 0, 0, [], _, 1, _, _, 0, rfl, by omega, by omega, sli_nil _, SlI.on (sli_cut HOS.out hq) (below_drewN' (Below.refl w6.heap.size w6) _), HBW5.out _ (below_drewN' HB6.out _)⟩
    ·have d1 : decide ((q : Int) ≥ (ok : Int)) = true := by rw [decide_eq_true_eq]; omega
     have d1b : decide (ok ≤ q) = true := by rw [decide_eq_true_eq]; omega
     go_wp2_with fail
     go_ret3
     exact ⟨none, 0, 0, [], none, 0, 0, [], 13, rfl, by omega, by omega, sli_nil _, sli_nil _, HBW5.out _ HB6.out⟩
  ·go_wp2_with fail
   refine cO5.out.mono ?_
   rintro e w6 ⟨OA, ok, oc, ol, r, rfl, hok, hosl, hb6⟩
   obtain ⟨j0, j1⟩ := HOB.out w6 hb6
   have HB6 := Lib.hid hb6
   have HOS := Lib.hid hosl
   clear hb6 hosl i0 i1 p5 e8
   cases r with
   | false =>
    go_wp2_with fail
    go_ret3
    exact ⟨none, 0, 0, [], none, 0, 0, [], 13, rfl, by omega, by omega, sli_nil _, sli_nil _, HBW5.out _ HB6.out⟩
   | true =>
    by_cases hq : q < ok
    ·have d1 : decide ((q : Int) ≥ (ok : Int)) = false := by rw [decide_eq_false_iff_not]; omega
     have d1b : decide (ok ≤ q) = false := by rw [decide_eq_false_iff_not]; omega
     have hqs : (q : Int) < (ok : Int) := by omega
     have hqs1 : (q : Int) + 1 ≤ (ok : Int) := by omega
     obtain ⟨qb, qo, qv, rfl, hqb, _, qc⟩ := SlR.cell1 (f := Value.int .i64) HOS.out (i := q) hq
     have hcq : ok ≤ oc := HOS.out.2.1
     have hcq2 : oc ≤ maxLen := HOS.out.2.2.1
     have hcq3 : (oc : Int) ≤ 9223372036854775807 := by unfold maxLen at hcq2; omega
     have hcq4 : (q : Int) + 1 ≤ (oc : Int) := by omega
     go_wp2_with fail
     go_ret3
     exact ⟨_, 1, _, _, none, 0, 0, [], 0, rfl, by omega, by omega, sli_cut HOS.out hq, sli_nil _, HBW5.out _ HB6.out⟩
    ·have d1 : decide ((q : Int) ≥ (ok : Int)) = true := by rw [decide_eq_true_eq]; omega
     have d1b : decide (ok ≤ q) = true := by rw [decide_eq_true_eq]; omega
     go_wp2_with fail
     go_ret3
     exact ⟨none, 0, 0, [], none, 0, 0, [], 13, rfl, by omega, by omega, sli_nil _, sli_nil _, HBW5.out _ HB6.out⟩
 have e28 : (yo == 28) = false := by rw [beq_eq_false_iff_ne]; omega
 have e29 : (yo == 29) = false := by rw [beq_eq_false_iff_ne]; omega
 by_cases o33 : yo = 33 ∨ yo = 34
 ·obtain ⟨q, rfl⟩ := Int.eq_ofNat_of_zero_le (HIN.out (by rcases o33 with rfl | rfl <;> decide))
  have hq0 : (0 : Int) ≤ (q : Int) := by omega
  by_cases hq1 : q < 1
  ·obtain rfl : q = 0 := by omega
   have d1 : decide (((0 : Nat) : Int) < 1) = true := by decide
   rcases o33 with rfl | rfl
   ·go_wp2_with fail
    go_ret3
    exact ⟨none, 0, 0, [], none, 0, 0, [], 13, rfl, by omega, by omega, sli_nil _, sli_nil _, HBW5.out _ (Below.refl _ _)⟩
   ·go_wp2_with fail
    go_ret3
    exact ⟨none, 0, 0, [], none, 0, 0, [], 13, rfl, by omega, by omega, sli_nil _, sli_nil _, HBW5.out _ (Below.refl _ _)⟩
  ·have d1 : decide ((q : Int) < 1) = false := by rw [decide_eq_false_iff_not]; omega
   have d1b : decide (q < 1) = false := by rw [decide_eq_false_iff_not]; omega
   have d1c : (decide (q = 0)) = false := by rw [decide_eq_false_iff_not]; omega
   by_cases hq2 : q < n6
   ·have d2 : decide ((q : Int) ≥ (n6 : Int)) = false := by rw [decide_eq_false_iff_not]; omega
    have d2b : decide (n6 ≤ q) = false := by rw [decide_eq_false_iff_not]; omega
    rcases o33 with rfl | rfl
    ·go_wp2_with fail
     go_ret3
     exact ⟨EA, ek, ec, _, EB, em, ed, _, 0, rfl, by have := HEA.out.1; omega, by have := HEA.out.2.1; omega, HEA.out.2.2.1, HEA.out.2.2.2, HBW5.out _ (Below.refl _ _)⟩
    ·go_wp2_with fail
     go_ret3
     exact ⟨EA, ek, ec, _, EB, em, ed, _, 0, rfl, by have := HEA.out.1; omega, by have := HEA.out.2.1; omega, HEA.out.2.2.1, HEA.out.2.2.2, HBW5.out _ (Below.refl _ _)⟩
   ·have d2 : decide ((q : Int) ≥ (n6 : Int)) = true := by rw [decide_eq_true_eq]; omega
    have d2b : decide (n6 ≤ q) = true := by rw [decide_eq_true_eq]; omega
    rcases o33 with rfl | rfl
    ·go_wp2_with fail
     go_ret3
     exact ⟨none, 0, 0, [], none, 0, 0, [], 13, rfl, by omega, by omega, sli_nil _, sli_nil _, HBW5.out _ (Below.refl _ _)⟩
    ·go_wp2_with fail
     go_ret3
     exact ⟨none, 0, 0, [], none, 0, 0, [], 13, rfl, by omega, by omega, sli_nil _, sli_nil _, HBW5.out _ (Below.refl _ _)⟩
 have e33 : (yo == 33) = false := by rw [beq_eq_false_iff_ne]; omega
 have e34 : (yo == 34) = false := by rw [beq_eq_false_iff_ne]; omega
 by_cases o25 : yo = 25
 ·subst o25
  by_cases hs0 : sn = 0
  ·subst hs0
   have d1 : decide (((0 : Nat) : Int) > 0) = false := by decide
   go_wp2_with fail
   go_ret3
   exact ⟨EA, ek, ec, _, EB, em, ed, _, 0, rfl, by have := HEA.out.1; omega, by have := HEA.out.2.1; omega, HEA.out.2.2.1, HEA.out.2.2.2, HBW5.out _ (Below.refl _ _)⟩
  ·have d1 : decide ((sn : Int) > 0) = true := by rw [decide_eq_true_eq]; omega
   have d1b : decide (0 < sn) = true := by rw [decide_eq_true_eq]; omega
   go_wp2_with fail
   go_ret3
   exact ⟨none, 0, 0, [], none, 0, 0, [], 10, rfl, by omega, by omega, sli_nil _, sli_nil _, HBW5.out _ (Below.refl _ _)⟩
 have e25 : (yo == 25) = false := by rw [beq_eq_false_iff_ne]; omega
 go_wp2_with fail
 go_ret3
 exact ⟨EA, ek, ec, _, EB, em, ed, _, 0, rfl, by have := HEA.out.1; omega, by have := HEA.out.2.1; omega, HEA.out.2.2.1, HEA.out.2.2.2, HBW5.out _ (Below.refl _ _)⟩
end Go.Proofs.YtobmjnmcjddhcaaGreat
