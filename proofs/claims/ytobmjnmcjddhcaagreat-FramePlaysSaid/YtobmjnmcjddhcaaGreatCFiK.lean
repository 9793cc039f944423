import Derived.Test.YtobmjnmcjddhcaaGreatCTk
import Derived.Test.YtobmjnmcjddhcaaGreatCFiJ
set_option linter.unusedSimpArgs false
set_option linter.unusedVariables false
set_option maxRecDepth 100000
set_option maxHeartbeats 64000000
namespace Go.Proofs.YtobmjnmcjddhcaaGreat
open Go.RowKit
theorem sli_part {w : World} {B n c l e : Nat} {A : Option Addr} {xs : List Int} (h : SlI w B A n c xs) (hl : l ≤ e) (he : e ≤ n) : SlI w B (if c = l then A else A.map (·.add l)) (e - l) (c - l) ((xs.take e).drop l) := by
 obtain ⟨h1, h2, h3, h4, h5⟩ := h
 refine ⟨by simp; omega, by omega, by omega, by omega, fun hp => ?_⟩
 obtain ⟨b, off, hA, hb, hx⟩ := h5 (by omega)
 subst hA
 refine ⟨b, off + l, by rw [if_neg (by omega)]; simp [Addr.add], hb, fun i x hi => ?_⟩
 rw [List.getElem?_drop, List.getElem?_take] at hi
 split at hi
 ·obtain ⟨cs, e1, e2, e3⟩ := hx (l + i) x hi
  refine ⟨cs, e1, fun j u hj => ?_, e3⟩
  have := e2 j u hj
  rw [show off + ((l + i) * 1 + j) = off + l + (i * 1 + j) by omega] at this
  exact this
 ·cases hi
theorem rbody_any (FA : Option Addr) (fn fc : Nat) (fs : List DFunc) (f k : Nat) (x0 : DFunc) (w : World) (h : PgC w FA fn fc fs) (hi : f < fn) (hx0 : fs[f]? = some x0) (hk1 : 1 ≤ k) (hk : k < x0.nodes.length) :
  Calls Tryz.prog 127 #[.agg #[.slice FA fn fc], .int .i64 (f : Int), .int .i64 (k : Int)] w (IsBool w) := by
 obtain ⟨i0, hi0, hz0, hz1, hz2⟩ := info_parts info_ty
 obtain ⟨w1, hw1⟩ : ∃ X, w.alloc (.cells #[.slice FA fn fc] 24) = X := ⟨_, rfl⟩
 obtain ⟨g, hg⟩ : ∃ g, w.heap.size = g := ⟨_, rfl⟩
 have hb1 : Below w.heap.size w w1 := by rw [← hw1]; exact bl_one _
 have hc1 : Cells w1 g [.slice FA fn fc] := by rw [← hw1, ← hg]; exact Cells.new w [.slice FA fn fc] _
 have EP : Hid (∀ W, Below w1.heap.size w1 W → W.cell? ⟨g, 0, none⟩ = some (.slice FA fn fc)) := Lib.hid fun W hW => (hc1.on hW).at_ 0 _ rfl
 have HP : Hid (∀ W, Below w1.heap.size w1 W → PgC W FA fn fc fs) := Lib.hid fun W hW => h.on (hb1.trans (hW.mono hb1.size))
 have HB1 := Lib.hid hb1
 have HBW : Hid (∀ W, Below w1.heap.size w1 W → Below w.heap.size w W) := Lib.hid fun W hW => hb1.trans (hW.mono hb1.size)
 have hfn := h.pg.le
 have hn0 : (fn : Int) ≤ 50 := by omega
 have p0 := EP.out w1 (Below.refl _ _)
 clear hb1 hc1
 obtain ⟨bk, off, s, b, A0, n0, c0, A1, n1, c1, A2, n2, c2, A3, n3, c3, A4, n4, c4, A5, n5, c5, A6, n6, c6, A7, n7, c7, A8, n8, c8, x, rfl, hbk, hx, hcf, hfw, hcan⟩ := (HP.out w1 (Below.refl _ _)).get (i := f) hi
 have y0 := hcf 0 _ rfl
 have y1 := hcf 1 _ rfl
 have y2 := hcf 2 _ rfl
 have y3 := hcf 3 _ rfl
 have y4 := hcf 4 _ rfl
 have y5 := hcf 5 _ rfl
 have y6 := hcf 6 _ rfl
 have y7 := hcf 7 _ rfl
 have y8 := hcf 8 _ rfl
 have y9 := hcf 9 _ rfl
 have y10 := hcf 10 _ rfl
 simp only [Nat.add_zero] at y0
 obtain rfl : x0 = x := by rw [hx0] at hx; injection hx
 have l4 := hfw.r4.1
 have l6 := hfw.r6.1
 have l7 := hfw.r7.1
 have l8 := hfw.r8.1
 have hsome := hcan.some_
 obtain ⟨s4, s5, s6, s7, s8, s0⟩ := hfw.sm
 obtain ⟨hno, h74⟩ : nodesOk x0.nodes ∧ n7 = n4 := by
  rcases hcan.tab with ⟨e, _⟩ | ⟨a, b, c, _⟩
  ·rw [e] at hk; simp at hk
  ·exact ⟨a, by omega⟩
 obtain ⟨nb, no, q, z, rfl, hnb6, hq, hqlt, hzz, _, hzc⟩ := node_get hfw.r6 (a := (k : Int)) (by omega) (by omega)
 obtain rfl : q = k := by omega
 obtain ⟨ab, ao, v0, rfl, hab, hv0, av0⟩ := SlR.cell1 (f := Value.int .i64) hfw.r7 (i := 0) (by omega)
 obtain ⟨k0, k1, k2, k3, k4, k5, k6, k7, k8, k9, k10, -, k11⟩ := hno.2.2 q z hzz
 obtain ⟨zp, zf, zl, zr, za, zt, zs'⟩ := z
 simp only at k0 k1 k2 k3 k4 k5 k6 k7 k8 k9 k10 k11
 obtain ⟨kp0, kp1, ks0, ks1⟩ := k11 (by omega)
 obtain ⟨dq, rfl⟩ := Int.eq_ofNat_of_zero_le k0
 obtain ⟨fr, rfl⟩ := Int.eq_ofNat_of_zero_le k6
 obtain ⟨rs, rfl⟩ := Int.eq_ofNat_of_zero_le (show 0 ≤ zs' by omega)
 have hf0 : (0 : Int) ≤ (f : Int) := by omega
 have hf1 : (f : Int) < (fn : Int) := by omega
 have hq0 : (0 : Int) ≤ (q : Int) := by omega
 have hq1 : (q : Int) < (n6 : Int) := by omega
 have hq2 : ¬ ((q : Int) < 1) := by omega
 have tq1 : decide ((q : Int) < 1) = false := by rw [decide_eq_false_iff_not]; omega
 have tq2 : decide ((q : Int) ≥ (n6 : Int)) = false := by rw [decide_eq_false_iff_not]; omega
 have tq3 : decide (n6 ≤ q) = false := by rw [decide_eq_false_iff_not]; omega
 have tq4 : decide (q < 1) = false := by rw [decide_eq_false_iff_not]; omega
 have tq5 : decide (q = 0) = false := by rw [decide_eq_false_iff_not]; omega
 have hd0 : (0 : Int) ≤ (dq : Int) := by omega
 have hn40 : (n4 : Int) ≤ 150 := by omega
 have u0 := hzc 0 (.int .i64 zp) rfl
 have u1 := hzc 1 (.int .i64 (dq : Int)) rfl
 have u2 := hzc 2 (.int .i64 zl) rfl
 have u3 := hzc 3 (.int .i64 (fr : Int)) rfl
 have u4 := hzc 4 (.int .i64 za) rfl
 have u5 := hzc 5 (.int .i64 zt) rfl
 have u6 := hzc 6 (.int .i64 (rs : Int)) rfl
 simp only [Nat.add_zero] at u0
 have HU : Hid (w1.cell? ⟨nb, no + q * 7, none⟩ = some (.int .i64 zp) ∧ w1.cell? ⟨nb, no + q * 7 + 1, none⟩ = some (.int .i64 (dq : Int)) ∧ w1.cell? ⟨nb, no + q * 7 + 2, none⟩ = some (.int .i64 zl) ∧ w1.cell? ⟨nb, no + q * 7 + 3, none⟩ = some (.int .i64 (fr : Int)) ∧ w1.cell? ⟨nb, no + q * 7 + 4, none⟩ = some (.int .i64 za) ∧ w1.cell? ⟨nb, no + q * 7 + 5, none⟩ = some (.int .i64 zt) ∧ w1.cell? ⟨nb, no + q * 7 + 6, none⟩ = some (.int .i64 (rs : Int))) := Lib.hid ⟨u0, u1, u2, u3, u4, u5, u6⟩
 have HR7 : Hid (∀ i : Nat, i < n7 → ∃ v : Int, w1.cell? ⟨ab, ao + i, none⟩ = some (.int .i64 v)) := Lib.hid fun i hi => by
  obtain ⟨b', o', v, e, _, _, hv⟩ := SlR.cell1 (f := Value.int .i64) hfw.r7 hi
  injection e with e
  injection e with e1 e2
  subst e1
  subst e2
  exact ⟨v, hv⟩
 have HFW := Lib.hid hfw
 have HLT : Hid (nb < w1.heap.size ∧ ab < w1.heap.size) := Lib.hid ⟨hnb6, hab⟩
 have H74 := Lib.hid h74
 clear h hfw hcan hcf hx hx0 l4 l6 l7 l8 hsome hzz hv0 hno hzc hq h74 u0 u1 u2 u3 u4 u5 u6 av0
 go_enter Tryz.func127, Tryz.ntmps127
 go_upto_region 2 with fail
 clear y0 y1 y2 y3 y4 y5 y6 y7 y8 y9 y10
 obtain ⟨w2, hwX⟩ : ∃ X, World.alloc w1 (.cells #[.string s, .bool b, .slice A0 n0 c0, .slice A1 n1 c1, .slice A2 n2 c2, .slice A3 n3 c3, .slice A4 n4 c4, .slice A5 n5 c5, .slice (some ⟨nb, no, none⟩) n6 c6, .slice (some ⟨ab, ao, none⟩) n7 c7, .slice A8 n8 c8] 38) = X := ⟨_, rfl⟩
 obtain ⟨g2, hgX⟩ : ∃ X, (World.heap w1).size = X := ⟨_, rfl⟩
 have hb2 : Below (World.heap w1).size w1 w2 := by rw [← hwX]; exact bl_one _
 have hc2 : Cells w2 g2 [.string s, .bool b, .slice A0 n0 c0, .slice A1 n1 c1, .slice A2 n2 c2, .slice A3 n3 c3, .slice A4 n4 c4, .slice A5 n5 c5, .slice (some ⟨nb, no, none⟩) n6 c6, .slice (some ⟨ab, ao, none⟩) n7 c7, .slice A8 n8 c8] := by rw [← hwX, ← hgX]; exact Cells.new w1 [.string s, .bool b, .slice A0 n0 c0, .slice A1 n1 c1, .slice A2 n2 c2, .slice A3 n3 c3, .slice A4 n4 c4, .slice A5 n5 c5, .slice (some ⟨nb, no, none⟩) n6 c6, .slice (some ⟨ab, ao, none⟩) n7 c7, .slice A8 n8 c8] _
 rw [hwX, hgX]
 clear hwX hgX
 have e8 := hc2.at_ 8 _ rfl
 have u0 := (hb2.cell (p := ⟨nb, no + q * 7, none⟩) HLT.out.1).trans HU.out.1
 have u1 := (hb2.cell (p := ⟨nb, no + q * 7 + 1, none⟩) HLT.out.1).trans HU.out.2.1
 have u2 := (hb2.cell (p := ⟨nb, no + q * 7 + 2, none⟩) HLT.out.1).trans HU.out.2.2.1
 have u3 := (hb2.cell (p := ⟨nb, no + q * 7 + 3, none⟩) HLT.out.1).trans HU.out.2.2.2.1
 have u4 := (hb2.cell (p := ⟨nb, no + q * 7 + 4, none⟩) HLT.out.1).trans HU.out.2.2.2.2.1
 have u5 := (hb2.cell (p := ⟨nb, no + q * 7 + 5, none⟩) HLT.out.1).trans HU.out.2.2.2.2.2.1
 have u6 := (hb2.cell (p := ⟨nb, no + q * 7 + 6, none⟩) HLT.out.1).trans HU.out.2.2.2.2.2.2
 go_upto_region 5 with fail
 clear e8 u0 u1 u2 u3 u4 u5 u6 tq1 tq2 tq3 tq4 tq5
 obtain ⟨w3, hwX⟩ : ∃ X, World.alloc w2 (.cells #[.int .i64 zp, .int .i64 (dq : Int), .int .i64 zl, .int .i64 (fr : Int), .int .i64 za, .int .i64 zt, .int .i64 (rs : Int)] 238) = X := ⟨_, rfl⟩
 obtain ⟨g3, hgX⟩ : ∃ X, (World.heap w2).size = X := ⟨_, rfl⟩
 have hb3 : Below (World.heap w2).size w2 w3 := by rw [← hwX]; exact bl_one _
 have hc3 : Cells w3 g3 [.int .i64 zp, .int .i64 (dq : Int), .int .i64 zl, .int .i64 (fr : Int), .int .i64 za, .int .i64 zt, .int .i64 (rs : Int)] := by rw [← hwX, ← hgX]; exact Cells.new w2 [.int .i64 zp, .int .i64 (dq : Int), .int .i64 zl, .int .i64 (fr : Int), .int .i64 za, .int .i64 zt, .int .i64 (rs : Int)] _
 rw [hwX, hgX]
 clear hwX hgX
 have hb13 : Below w1.heap.size w1 w3 := hb2.trans (hb3.mono hb2.size)
 have HC2 : Hid (∀ W, Below w3.heap.size w3 W → Cells W g2 [.string s, .bool b, .slice A0 n0 c0, .slice A1 n1 c1, .slice A2 n2 c2, .slice A3 n3 c3, .slice A4 n4 c4, .slice A5 n5 c5, .slice (some ⟨nb, no, none⟩) n6 c6, .slice (some ⟨ab, ao, none⟩) n7 c7, .slice A8 n8 c8]) := Lib.hid fun W hW => (hc2.on hb3).on hW
 have HC3 : Hid (∀ W, Below w3.heap.size w3 W → Cells W g3 [.int .i64 zp, .int .i64 (dq : Int), .int .i64 zl, .int .i64 (fr : Int), .int .i64 za, .int .i64 zt, .int .i64 (rs : Int)]) := Lib.hid fun W hW => hc3.on hW
 have H13 : Hid (∀ W, Below w3.heap.size w3 W → Below w1.heap.size w1 W) := Lib.hid fun W hW => hb13.trans (hW.mono hb13.size)
 have HF3 : Hid (∀ W, Below w3.heap.size w3 W → FnW W W.heap.size s b A0 n0 c0 A1 n1 c1 A2 n2 c2 A3 n3 c3 A4 n4 c4 A5 n5 c5 (some ⟨nb, no, none⟩) n6 c6 (some ⟨ab, ao, none⟩) n7 c7 A8 n8 c8 x0) := Lib.hid fun W hW => (HFW.out.keep (H13.out W hW)).more (H13.out W hW).size
 have i1 := hc3.at_ 1 _ rfl
 have p3 := EP.out w3 hb13
 clear hb2 hb3 hc2 hc3 hb13 hw1 hg HFW p0
 by_cases hdq : dq < fn
 ·have hdq1 : (dq : Int) < (fn : Int) := by omega
  have td1 : decide ((dq : Int) ≥ (fn : Int)) = false := by rw [decide_eq_false_iff_not]; omega
  have td2 : decide (fn ≤ dq) = false := by rw [decide_eq_false_iff_not]; omega
  obtain ⟨jb, jo, zs, zb, ZA0, zn0, zc0, ZA1, zn1, zc1, ZA2, zn2, zc2, ZA3, zn3, zc3, ZA4, zn4, zc4, ZA5, zn5, zc5, ZA6, zn6, zc6, ZA7, zn7, zc7, ZA8, zn8, zc8, xq, hjA, hjb, hjx, hjc, hjf, hjn⟩ := (HP.out w3 (H13.out w3 (Below.refl _ _))).get hdq
  obtain ⟨rfl, rfl⟩ : jb = bk ∧ jo = off := by injection hjA with hjA; injection hjA with a1 a2; exact ⟨a1.symm, a2.symm⟩
  have y0 := hjc 0 _ rfl
  have y1 := hjc 1 _ rfl
  have y2 := hjc 2 _ rfl
  have y3 := hjc 3 _ rfl
  have y4 := hjc 4 _ rfl
  have y5 := hjc 5 _ rfl
  have y6 := hjc 6 _ rfl
  have y7 := hjc 7 _ rfl
  have y8 := hjc 8 _ rfl
  have y9 := hjc 9 _ rfl
  have y10 := hjc 10 _ rfl
  simp only [Nat.add_zero] at y0
  have HJF := Lib.hid hjf
  have hjs := hjf.sm
  clear hjA hjx hjc hjf hjn
  cases zb with
  | true =>
   go_wp2_with fail
   go_ret
   exact ⟨⟨_, rfl⟩, HBW.out _ (H13.out _ (Below.refl _ _))⟩
  | false =>
   go_upto_region 8 with fail
   clear y0 y1 y2 y3 y4 y5 y6 y7 y8 y9 y10 i1 p3 td1 td2
   obtain ⟨w4, hwX⟩ : ∃ X, World.alloc w3 (.cells #[.string zs, .bool false, .slice ZA0 zn0 zc0, .slice ZA1 zn1 zc1, .slice ZA2 zn2 zc2, .slice ZA3 zn3 zc3, .slice ZA4 zn4 zc4, .slice ZA5 zn5 zc5, .slice ZA6 zn6 zc6, .slice ZA7 zn7 zc7, .slice ZA8 zn8 zc8] 38) = X := ⟨_, rfl⟩
   obtain ⟨g4, hgX⟩ : ∃ X, (World.heap w3).size = X := ⟨_, rfl⟩
   have hb4 : Below (World.heap w3).size w3 w4 := by rw [← hwX]; exact bl_one _
   have hc4 : Cells w4 g4 [.string zs, .bool false, .slice ZA0 zn0 zc0, .slice ZA1 zn1 zc1, .slice ZA2 zn2 zc2, .slice ZA3 zn3 zc3, .slice ZA4 zn4 zc4, .slice ZA5 zn5 zc5, .slice ZA6 zn6 zc6, .slice ZA7 zn7 zc7, .slice ZA8 zn8 zc8] := by rw [← hwX, ← hgX]; exact Cells.new w3 [.string zs, .bool false, .slice ZA0 zn0 zc0, .slice ZA1 zn1 zc1, .slice ZA2 zn2 zc2, .slice ZA3 zn3 zc3, .slice ZA4 zn4 zc4, .slice ZA5 zn5 zc5, .slice ZA6 zn6 zc6, .slice ZA7 zn7 zc7, .slice ZA8 zn8 zc8] _
   rw [hwX, hgX]
   clear hwX hgX
   have HC4 : Hid (∀ W, Below w4.heap.size w4 W → Cells W g4 [.string zs, .bool false, .slice ZA0 zn0 zc0, .slice ZA1 zn1 zc1, .slice ZA2 zn2 zc2, .slice ZA3 zn3 zc3, .slice ZA4 zn4 zc4, .slice ZA5 zn5 zc5, .slice ZA6 zn6 zc6, .slice ZA7 zn7 zc7, .slice ZA8 zn8 zc8]) := Lib.hid fun W hW => hc4.on hW
   have H34 : Hid (∀ W, Below w4.heap.size w4 W → Below w3.heap.size w3 W) := Lib.hid fun W hW => hb4.trans (hW.mono hb4.size)
   have HP1 : Hid (∀ W, Below w4.heap.size w4 W → SlI W W.heap.size ZA1 zn1 zc1 xq.params ∧ SlI W W.heap.size ZA2 zn2 zc2 xq.results) := Lib.hid fun W hW => ⟨HJF.out.r1.on (H34.out W hW), HJF.out.r2.on (H34.out W hW)⟩
   have e0 := (HC2.out w4 hb4).at_ 0 _ rfl
   have e1 := (HC2.out w4 hb4).at_ 1 _ rfl
   have e2 := (HC2.out w4 hb4).at_ 2 _ rfl
   have e3 := (HC2.out w4 hb4).at_ 3 _ rfl
   have e4 := (HC2.out w4 hb4).at_ 4 _ rfl
   have e5 := (HC2.out w4 hb4).at_ 5 _ rfl
   have e6 := (HC2.out w4 hb4).at_ 6 _ rfl
   have e7 := (HC2.out w4 hb4).at_ 7 _ rfl
   have e8 := (HC2.out w4 hb4).at_ 8 _ rfl
   have e9 := (HC2.out w4 hb4).at_ 9 _ rfl
   have e10 := (HC2.out w4 hb4).at_ 10 _ rfl
   have cSl := Lib.hid (rslots_any s b A0 n0 c0 A1 n1 c1 A2 n2 c2 A3 n3 c3 A4 n4 c4 A5 n5 c5 (some ⟨nb, no, none⟩) n6 c6 (some ⟨ab, ao, none⟩) n7 c7 A8 n8 c8 x0 w4 (HF3.out w4 hb4))
   clear hb4 hc4 HJF
   go_wp2_with fail
   refine cSl.out.mono ?_
   rintro e w5 ⟨SA, sc, rfl, hso, hb5⟩
   have HSS := Lib.hid (sli_types hso (by omega))
   obtain ⟨m, hm⟩ : ∃ m, n1 + n2 + n3 = m := ⟨_, rfl⟩
   rw [hm] at HSS
   have hm3 : m ≤ 300 := by omega
   have hm30 : (m : Int) ≤ 300 := by omega
   rw [hm]
   have HB5 := Lib.hid hb5
   have i3 := (HC3.out w5 (H34.out w5 hb5)).at_ 3 _ rfl
   have i4 := (HC3.out w5 (H34.out w5 hb5)).at_ 4 _ rfl
   have i5 := (HC3.out w5 (H34.out w5 hb5)).at_ 5 _ rfl
   have z3 := (HC4.out w5 hb5).at_ 3 _ rfl
   have z4 := (HC4.out w5 hb5).at_ 4 _ rfl
   clear hso hb5 cSl e0 e1 e2 e3 e4 e5 e6 e7 e8 e9 e10 hm
   go_upto_region 10 with fail
   obtain ⟨en, hen⟩ : ∃ e : Nat, (fr : Int) + (zn1 : Int) + (zn2 : Int) = (e : Int) := ⟨fr + zn1 + zn2, by omega⟩
   rw [hen]
   have hfe : fr ≤ en := by omega
   clear hen
   by_cases c1 : za = (zn1 : Int)
   ·have t1 : (za != (zn1 : Int)) = false := by simpa using c1
    clear c1
    by_cases c2 : zt < (en : Int)
    ·have t2 : decide (zt < (en : Int)) = true := by rw [decide_eq_true_eq]; exact c2
     go_wp2_with fail
     go_ret
     exact ⟨⟨_, rfl⟩, HBW.out _ (H13.out _ (H34.out _ HB5.out))⟩
    ·have t2 : decide (zt < (en : Int)) = false := by rw [decide_eq_false_iff_not]; omega
     by_cases c3 : zt > (m : Int)
     ·have t3 : decide (zt > (m : Int)) = true := by rw [decide_eq_true_eq]; omega
      have t3b : decide ((m : Int) < zt) = true := by rw [decide_eq_true_eq]; omega
      go_wp2_with fail
      go_ret
      exact ⟨⟨_, rfl⟩, HBW.out _ (H13.out _ (H34.out _ HB5.out))⟩
     ·have t3 : decide (zt > (m : Int)) = false := by rw [decide_eq_false_iff_not]; omega
      have t3b : decide ((m : Int) < zt) = false := by rw [decide_eq_false_iff_not]; omega
      have hem : en ≤ m := by omega
      go_wp2_with fail
      clear t1 t2 t3 t3b i3 i4 i5 z3 z4 c2 c3
      refine wp_region_held (S := fun W => Below w5.heap.size w5 W) (by kernel_rfl) ?_
      change wpAnyH _ _ _ _ _ _ _ _ (World.drew _)
      have hS0 : Below w5.heap.size w5 w5.drew := (Below.refl _ _).drew
      refine teH 1 (.pointer (some ⟨g4, 3, none⟩)) rfl (by intro W hW; go_simp; try (first | (with_reducible rfl) | omega)) hS0 ?_
      refine teH 4 (.pointer (some ⟨g4, 4, none⟩)) rfl (by intro W hW; go_simp; try (first | (with_reducible rfl) | omega)) hS0 ?_
      try go_simp
      refine teH 2 (.slice ZA1 zn1 zc1) rfl (by intro W hW; have x9 := HC4.out W (HB5.out.trans (hW.mono HB5.out.size)); have x3 := x9.at_ 3 _ rfl; have x4 := x9.at_ 4 _ rfl; go_simp; try (first | (with_reducible rfl) | omega)) hS0 ?_
      refine teH 5 (.slice ZA2 zn2 zc2) rfl (by intro W hW; have x9 := HC4.out W (HB5.out.trans (hW.mono HB5.out.size)); have x3 := x9.at_ 3 _ rfl; have x4 := x9.at_ 4 _ rfl; go_simp; try (first | (with_reducible rfl) | omega)) hS0 ?_
      try go_simp
      obtain ⟨wd, hwd⟩ : ∃ X, w5.drew = X := ⟨_, rfl⟩
      rw [hwd] at hS0
      rw [hwd]
      clear hwd
      have hE0 := own_empty wd w5.heap.size hS0.size
      obtain ⟨ww1, hu1⟩ : ∃ X, World.alloc wd (.cells #[] 40) = X := ⟨_, rfl⟩
      obtain ⟨q1, hq1⟩ : ∃ X, (World.heap wd).size = X := ⟨_, rfl⟩
      have hS1 : Below w5.heap.size w5 ww1 := by rw [← hu1]; exact hS0.alloc hS0.size _
      rw [hu1, hq1] at hE0
      have HE0 := Lib.hid hE0
      clear hE0
      refine wpAnyH_one (i := 0) (by kernel_rfl) rfl (fun K hK => ?_)
      go_simp
      refine hK _ _ ⟨hS1, ?_⟩; clear hK K
      try go_simp
      have O1 := Lib.hid (one_ty xq.params)
      have O2 := Lib.hid (one_ty xq.results)
      have hsr1 := Lib.hid (sli_src ((HP1.out w5 HB5.out).1.on hS1))
      refine wpAnyH_one (i := 3) (by kernel_rfl) rfl (fun K hK => ?_)
      refine step_append_src _ rfl _ _ 32 rfl w5.heap.size 40 i0 (.int .i64 0) 1 8 Tryz.underlying32 hi0 hz0 hz1 hz2 rfl (by decide) (.slice (some ⟨q1, 0, none⟩) 0 0) 0 [] ?qq1 HE0.out ZA1 zn1 zc1 (xq.params.flatMap iC) ?qq2 hsr1.out O1.out (by unfold maxLen; omega) (by omega) hS1.size ?_
      case qq1 => go_simp
      case qq2 => go_simp
      intro v' ww2 hown' hgrow3 hat3
      rw [List.nil_append, Nat.zero_add] at hown'
      obtain ⟨TA, tc, rfl, _⟩ := own_form hown'
      have hS2 : Below w5.heap.size w5 ww2 := Below.grown hS1 hgrow3 hS1.size (fun j hj => (HE0.out.lt j hj).1)
      have HT := Lib.hid hown'
      have hsr2 := Lib.hid (sli_src ((HP1.out w5 HB5.out).2.on hS2))
      clear hown' hgrow3 hat3
      try rw [Nat.zero_add]
      go_simp
      refine hK _ _ ⟨hS2, ?_⟩; clear hK K
      try go_simp
      refine wpAnyH_one (i := 6) (by kernel_rfl) rfl (fun K hK => ?_)
      refine step_append_src _ rfl _ _ 32 rfl w5.heap.size 40 i0 (.int .i64 0) 1 8 Tryz.underlying32 hi0 hz0 hz1 hz2 rfl (by decide) (.slice TA zn1 tc) zn1 (xq.params.flatMap iC) ?qq3 HT.out ZA2 zn2 zc2 (xq.results.flatMap iC) ?qq4 hsr2.out O2.out (by unfold maxLen; omega) (by omega) hS2.size ?_
      case qq3 => go_simp
      case qq4 => go_simp
      intro v' ww3 hown' hgrow3 hat3
      obtain ⟨UA, uc, rfl, _⟩ := own_form hown'
      have hS3 : Below w5.heap.size w5 ww3 := Below.grown hS2 hgrow3 hS2.size (fun j hj => (HT.out.lt j hj).1)
      have HU : Hid (SlI ww3 ww3.heap.size UA (zn1 + zn2) uc (xq.params ++ xq.results)) := Lib.hid (SlR.of_ownN (sz := 1) (bytes := 8) (f := iC) (fun _ => rfl) (by omega) (by rw [List.flatMap_append]; exact hown') (by unfold reachBytes; omega))
      clear hown' hgrow3 hat3
      go_simp
      refine hK _ _ ⟨hS3, ?_⟩; clear hK K
      try go_simp
      refine wpAnyH_one (i := 7) (by kernel_rfl) rfl (fun K hK => ?_)
      go_simp
      refine hK _ _ ⟨hS3, ?_⟩; clear hK K
      try go_simp
      refine wpAnyH_done (by kernel_rfl) ?_ _
      try go_simp
      have HS3 := Lib.hid hS3
      obtain ⟨mm, hmm⟩ : ∃ v, zn1 + zn2 = v := ⟨_, rfl⟩
      rw [hmm] at HU
      simp only [hmm]
      have hmm1 : mm ≤ 300 := by omega
      clear hS0 hS1 hS2 hS3 hmm HE0 HT hsr1 hsr2 O1 O2
      go_wp2_with fail
      have HFIN : Hid (∀ W, Below ww3.heap.size ww3 W → Below w.heap.size w W) := Lib.hid fun W hW => HBW.out W (H13.out W (H34.out W (HB5.out.trans ((HS3.out.trans (hW.mono HS3.out.size)).mono HB5.out.size))))
      have cSm : Hid (∀ W, Below ww3.heap.size ww3 W → Calls Tryz.prog 125 #[.slice (if sc = fr then SA else SA.map (·.add fr)) (en - fr) (sc - fr), .slice UA mm uc] W (IsSame (((x0.params ++ x0.results ++ x0.locals).take en).drop fr) (xq.params ++ xq.results) W)) := Lib.hid fun W hW => rsame_any _ _ _ _ _ _ _ _ W (sli_part (HSS.out.on (HS3.out.trans (hW.mono HS3.out.size))) hfe hem) (HU.out.on hW) (by omega) (by omega)
      have cOp : Hid (∀ W, Below ww3.heap.size ww3 W → Calls Tryz.prog 152 #[.agg #[.string s, .bool b, .slice A0 n0 c0, .slice A1 n1 c1, .slice A2 n2 c2, .slice A3 n3 c3, .slice A4 n4 c4, .slice A5 n5 c5, .slice (some ⟨nb, no, none⟩) n6 c6, .slice (some ⟨ab, ao, none⟩) n7 c7, .slice A8 n8 c8], .int .i64 (q : Int)] W (IsInt W)) := Lib.hid fun W hW => ropens23_any s b A0 n0 c0 A1 n1 c1 A2 n2 c2 A3 n3 c3 A4 n4 c4 A5 n5 c5 (some ⟨nb, no, none⟩) n6 c6 (some ⟨ab, ao, none⟩) n7 c7 A8 n8 c8 x0 _ W (HF3.out W (H34.out W (HB5.out.trans ((HS3.out.trans (hW.mono HS3.out.size)).mono HB5.out.size))))
      have hsc := HSS.out.2.1
      have hec : en ≤ sc := by omega
      have hfc : fr ≤ sc := by omega
      have hfei : (fr : Int) ≤ (en : Int) := by omega
      have heci : (en : Int) ≤ (sc : Int) := by omega
      have he0 : (0 : Int) ≤ (en : Int) := by omega
      have hr00 : (0 : Int) ≤ (rs : Int) := by omega
      clear hsc
      refine wp_region_held (S := fun W => Below ww3.heap.size ww3 W) (by kernel_rfl) ?_
      change wpAnyH _ _ _ _ _ _ _ _ (World.drew _)
      have hS0 : Below ww3.heap.size ww3 ww3.drew := (Below.refl _ _).drew
      refine tkH 0 rfl (by intro W hW; go_simp; first | done | rfl) hS0 ?_
      try go_simp
      refine tkH 1 rfl (by intro W hW; go_simp; first | done | rfl) hS0 ?_
      try go_simp
      refine tkH 2 rfl (by intro W hW; have hW4 : Below w4.heap.size w4 W := HB5.out.trans ((HS3.out.trans (hW.mono HS3.out.size)).mono HB5.out.size); have x9 := HC2.out W (H34.out W hW4); obtain ⟨e0, e1, e2, e3, e4, e5, e6, e7, e8, e9, e10⟩ := c11 x9; have x8 := HC3.out W (H34.out W hW4); have j0 := x8.at_ 0 _ rfl; have j1 := x8.at_ 1 _ rfl; have j2 := x8.at_ 2 _ rfl; have j3 := x8.at_ 3 _ rfl; have j4 := x8.at_ 4 _ rfl; have j5 := x8.at_ 5 _ rfl; have j6 := x8.at_ 6 _ rfl; go_simp; first | done | rfl) hS0 ?_
      try go_simp
      refine tkH 3 rfl (by intro W hW; go_simp; first | done | rfl) hS0 ?_
      try go_simp
      refine tkH 4 rfl (by intro W hW; go_simp; first | done | rfl) hS0 ?_
      try go_simp
      refine tkH 5 rfl (by intro W hW; go_simp; first | done | rfl) hS0 ?_
      try go_simp
      refine wpAnyH_one (i := 6) (by kernel_rfl) rfl (fun K hK => ?_)
      go_simp
      refine (cSm.out _ hS0).mono ?_
      rintro e w7 ⟨r, rfl, -, hb7⟩
      have hS7 : Below ww3.heap.size ww3 w7 := hS0.trans (hb7.mono hS0.size)
      clear hb7 hS0
      go_simp
      refine hK _ _ ⟨hS7, ?_⟩; clear hK K
      try go_simp
      cases r with
      | false =>
       refine tkH 7 rfl (by intro W hW; go_simp; first | done | rfl) hS7 ?_
       try go_simp
       refine wpAnyH_off (i := 8) rfl (by kernel_rfl) (by kernel_rfl) (by kernel_rfl) (by rfl) (by intro _ _ _ h; exact h) hS7 ?_
       try go_simp
       refine wpAnyH_off (i := 9) rfl (by kernel_rfl) (by kernel_rfl) (by kernel_rfl) (by rfl) (by intro _ _ _ h; exact h) hS7 ?_
       try go_simp
       refine wpAnyH_off (i := 10) rfl (by kernel_rfl) (by kernel_rfl) (by kernel_rfl) (by rfl) (by intro _ _ _ h; exact h) hS7 ?_
       try go_simp
       refine wpAnyH_off (i := 11) rfl (by kernel_rfl) (by kernel_rfl) (by kernel_rfl) (by rfl) (by intro _ _ _ h; exact h) hS7 ?_
       try go_simp
       refine wpAnyH_off (i := 12) rfl (by kernel_rfl) (by kernel_rfl) (by kernel_rfl) (by rfl) (by intro _ _ _ h; exact h) hS7 ?_
       try go_simp
       refine wpAnyH_off (i := 13) rfl (by kernel_rfl) (by kernel_rfl) (by kernel_rfl) (by rfl) (by intro _ _ _ h; exact h) hS7 ?_
       try go_simp
       refine tkH 14 rfl (by intro W hW; go_simp; first | done | rfl) hS7 ?_
       try go_simp
       refine tkH 15 rfl (by intro W hW; go_simp; first | done | rfl) hS7 ?_
       try go_simp
       refine wpAnyH_off (i := 16) rfl (by kernel_rfl) (by kernel_rfl) (by kernel_rfl) (by rfl) (by intro _ _ _ h; exact h) hS7 ?_
       try go_simp
       refine wpAnyH_off (i := 17) rfl (by kernel_rfl) (by kernel_rfl) (by kernel_rfl) (by rfl) (by intro _ _ _ h; exact h) hS7 ?_
       try go_simp
       refine wpAnyH_off (i := 18) rfl (by kernel_rfl) (by kernel_rfl) (by kernel_rfl) (by rfl) (by intro _ _ _ h; exact h) hS7 ?_
       try go_simp
       refine wpAnyH_off (i := 19) rfl (by kernel_rfl) (by kernel_rfl) (by kernel_rfl) (by rfl) (by intro _ _ _ h; exact h) hS7 ?_
       try go_simp
       refine wpAnyH_off (i := 20) rfl (by kernel_rfl) (by kernel_rfl) (by kernel_rfl) (by rfl) (by intro _ _ _ h; exact h) hS7 ?_
       try go_simp
       refine wpAnyH_off (i := 21) rfl (by kernel_rfl) (by kernel_rfl) (by kernel_rfl) (by rfl) (by intro _ _ _ h; exact h) hS7 ?_
       try go_simp
       refine wpAnyH_off (i := 22) rfl (by kernel_rfl) (by kernel_rfl) (by kernel_rfl) (by rfl) (by intro _ _ _ h; exact h) hS7 ?_
       try go_simp
       refine wpAnyH_off (i := 23) rfl (by kernel_rfl) (by kernel_rfl) (by kernel_rfl) (by rfl) (by intro _ _ _ h; exact h) hS7 ?_
       try go_simp
       refine wpAnyH_off (i := 24) rfl (by kernel_rfl) (by kernel_rfl) (by kernel_rfl) (by rfl) (by intro _ _ _ h; exact h) hS7 ?_
       try go_simp
       refine tkH 25 rfl (by intro W hW; go_simp; first | done | rfl) hS7 ?_
       try go_simp
       refine tkH 26 rfl (by intro W hW; go_simp; first | done | rfl) hS7 ?_
       try go_simp
       refine wpAnyH_off (i := 27) rfl (by kernel_rfl) (by kernel_rfl) (by kernel_rfl) (by rfl) (by intro _ _ _ h; exact h) hS7 ?_
       try go_simp
       refine wpAnyH_off (i := 28) rfl (by kernel_rfl) (by kernel_rfl) (by kernel_rfl) (by rfl) (by intro _ _ _ h; exact h) hS7 ?_
       try go_simp
       refine wpAnyH_off (i := 29) rfl (by kernel_rfl) (by kernel_rfl) (by kernel_rfl) (by rfl) (by intro _ _ _ h; exact h) hS7 ?_
       try go_simp
       refine wpAnyH_off (i := 30) rfl (by kernel_rfl) (by kernel_rfl) (by kernel_rfl) (by rfl) (by intro _ _ _ h; exact h) hS7 ?_
       try go_simp
       refine tkH 31 rfl (by intro W hW; go_simp; first | done | rfl) hS7 ?_
       try go_simp
       try go_simp
       refine wpAnyH_one (i := 32) (by kernel_rfl) rfl (fun K hK => ?_)
       go_simp
       refine hK _ _ ⟨hS7, ?_⟩; clear hK K
       try go_simp
       refine wpAnyH_done (by kernel_rfl) ?_ _
       try go_simp
       have HEND : Hid (Below w.heap.size w w7) := Lib.hid (HFIN.out _ hS7)
       clear hS7
       go_wp2_with fail
       all_goals (go_ret; exact ⟨⟨_, rfl⟩, HEND.out⟩)
      | true =>
       by_cases crs : rs < n4
       ·have tr1 : decide ((rs : Int) < (n4 : Int)) = true := by rw [decide_eq_true_eq]; omega
        have tr2 : decide (rs < n4) = true := by rw [decide_eq_true_eq]; omega
        refine tkH 7 rfl (by intro W hW; go_simp; first | done | rfl) hS7 ?_
        try go_simp
        refine tkH 8 rfl (by intro W hW; go_simp; first | done | rfl) hS7 ?_
        try go_simp
        refine tkH 9 rfl (by intro W hW; have hW4 : Below w4.heap.size w4 W := HB5.out.trans ((HS3.out.trans (hW.mono HS3.out.size)).mono HB5.out.size); have x9 := HC2.out W (H34.out W hW4); obtain ⟨e0, e1, e2, e3, e4, e5, e6, e7, e8, e9, e10⟩ := c11 x9; have x8 := HC3.out W (H34.out W hW4); have j0 := x8.at_ 0 _ rfl; have j1 := x8.at_ 1 _ rfl; have j2 := x8.at_ 2 _ rfl; have j3 := x8.at_ 3 _ rfl; have j4 := x8.at_ 4 _ rfl; have j5 := x8.at_ 5 _ rfl; have j6 := x8.at_ 6 _ rfl; go_simp; first | done | rfl) hS7 ?_
        try go_simp
        refine tkH 10 rfl (by intro W hW; go_simp; first | done | rfl) hS7 ?_
        try go_simp
        refine tkH 11 rfl (by intro W hW; have hW4 : Below w4.heap.size w4 W := HB5.out.trans ((HS3.out.trans (hW.mono HS3.out.size)).mono HB5.out.size); have x9 := HC2.out W (H34.out W hW4); obtain ⟨e0, e1, e2, e3, e4, e5, e6, e7, e8, e9, e10⟩ := c11 x9; have x8 := HC3.out W (H34.out W hW4); have j0 := x8.at_ 0 _ rfl; have j1 := x8.at_ 1 _ rfl; have j2 := x8.at_ 2 _ rfl; have j3 := x8.at_ 3 _ rfl; have j4 := x8.at_ 4 _ rfl; have j5 := x8.at_ 5 _ rfl; have j6 := x8.at_ 6 _ rfl; go_simp; first | done | rfl) hS7 ?_
        try go_simp
        refine tkH 12 rfl (by intro W hW; go_simp; first | done | rfl) hS7 ?_
        try go_simp
        refine tkH 13 rfl (by intro W hW; go_simp; first | done | rfl) hS7 ?_
        try go_simp
        refine tkH 14 rfl (by intro W hW; go_simp; first | done | rfl) hS7 ?_
        try go_simp
        refine tkH 15 rfl (by intro W hW; go_simp; first | done | rfl) hS7 ?_
        try go_simp
        obtain ⟨v2, hv2⟩ := HR7.out rs (by have := H74.out; omega)
        have HV2 : Hid (∀ W, Below ww3.heap.size ww3 W → W.cell? ⟨ab, ao + rs, none⟩ = some (.int .i64 v2)) := Lib.hid fun W hW => by
         have hW4 : Below w4.heap.size w4 W := HB5.out.trans ((HS3.out.trans (hW.mono HS3.out.size)).mono HB5.out.size)
         exact ((H13.out W (H34.out W hW4)).cell (p := ⟨ab, ao + rs, none⟩) HLT.out.2).trans hv2
        have hr7 : rs < n7 := by have := H74.out; omega
        have hr7i : (rs : Int) < (n7 : Int) := by omega
        clear hv2
        refine tkH 16 rfl (by intro W hW; go_simp; first | done | rfl) hS7 ?_
        try go_simp
        refine tkH 17 rfl (by intro W hW; have hW4 : Below w4.heap.size w4 W := HB5.out.trans ((HS3.out.trans (hW.mono HS3.out.size)).mono HB5.out.size); have x9 := HC2.out W (H34.out W hW4); obtain ⟨e0, e1, e2, e3, e4, e5, e6, e7, e8, e9, e10⟩ := c11 x9; have x8 := HC3.out W (H34.out W hW4); have j0 := x8.at_ 0 _ rfl; have j1 := x8.at_ 1 _ rfl; have j2 := x8.at_ 2 _ rfl; have j3 := x8.at_ 3 _ rfl; have j4 := x8.at_ 4 _ rfl; have j5 := x8.at_ 5 _ rfl; have j6 := x8.at_ 6 _ rfl; go_simp; first | done | rfl) hS7 ?_
        try go_simp
        refine tkH 18 rfl (by intro W hW; go_simp; first | done | rfl) hS7 ?_
        try go_simp
        refine tkH 19 rfl (by intro W hW; have hW4 : Below w4.heap.size w4 W := HB5.out.trans ((HS3.out.trans (hW.mono HS3.out.size)).mono HB5.out.size); have x9 := HC2.out W (H34.out W hW4); obtain ⟨e0, e1, e2, e3, e4, e5, e6, e7, e8, e9, e10⟩ := c11 x9; have x8 := HC3.out W (H34.out W hW4); have j0 := x8.at_ 0 _ rfl; have j1 := x8.at_ 1 _ rfl; have j2 := x8.at_ 2 _ rfl; have j3 := x8.at_ 3 _ rfl; have j4 := x8.at_ 4 _ rfl; have j5 := x8.at_ 5 _ rfl; have j6 := x8.at_ 6 _ rfl; go_simp; first | done | rfl) hS7 ?_
        try go_simp
        refine tkH 20 rfl (by intro W hW; go_simp; first | done | rfl) hS7 ?_
        try go_simp
        refine tkH 21 rfl (by intro W hW; have hW4 : Below w4.heap.size w4 W := HB5.out.trans ((HS3.out.trans (hW.mono HS3.out.size)).mono HB5.out.size); have x9 := HC2.out W (H34.out W hW4); obtain ⟨e0, e1, e2, e3, e4, e5, e6, e7, e8, e9, e10⟩ := c11 x9; have v9 := HV2.out W hW; have x8 := HC3.out W (H34.out W hW4); have j0 := x8.at_ 0 _ rfl; have j1 := x8.at_ 1 _ rfl; have j2 := x8.at_ 2 _ rfl; have j3 := x8.at_ 3 _ rfl; have j4 := x8.at_ 4 _ rfl; have j5 := x8.at_ 5 _ rfl; have j6 := x8.at_ 6 _ rfl; go_simp; first | done | rfl) hS7 ?_
        try go_simp
        refine tkH 22 rfl (by intro W hW; go_simp; first | done | rfl) hS7 ?_
        try go_simp
        refine tkH 23 rfl (by intro W hW; have hW4 : Below w4.heap.size w4 W := HB5.out.trans ((HS3.out.trans (hW.mono HS3.out.size)).mono HB5.out.size); have x9 := HC2.out W (H34.out W hW4); obtain ⟨e0, e1, e2, e3, e4, e5, e6, e7, e8, e9, e10⟩ := c11 x9; have v9 := HV2.out W hW; have x8 := HC3.out W (H34.out W hW4); have j0 := x8.at_ 0 _ rfl; have j1 := x8.at_ 1 _ rfl; have j2 := x8.at_ 2 _ rfl; have j3 := x8.at_ 3 _ rfl; have j4 := x8.at_ 4 _ rfl; have j5 := x8.at_ 5 _ rfl; have j6 := x8.at_ 6 _ rfl; go_simp; first | done | rfl) hS7 ?_
        try go_simp
        by_cases cv : v2 = zp
        ·have tv : (v2 == zp) = true := by rw [beq_iff_eq]; exact cv
         clear cv
         refine tkH 24 rfl (by intro W hW; go_simp; first | done | rfl) hS7 ?_
         try go_simp
         refine tkH 25 rfl (by intro W hW; go_simp; first | done | rfl) hS7 ?_
         try go_simp
         refine tkH 26 rfl (by intro W hW; go_simp; first | done | rfl) hS7 ?_
         try go_simp
         refine tkH 27 rfl (by intro W hW; have hW4 : Below w4.heap.size w4 W := HB5.out.trans ((HS3.out.trans (hW.mono HS3.out.size)).mono HB5.out.size); have x9 := HC2.out W (H34.out W hW4); obtain ⟨e0, e1, e2, e3, e4, e5, e6, e7, e8, e9, e10⟩ := c11 x9; have x8 := HC3.out W (H34.out W hW4); have j0 := x8.at_ 0 _ rfl; have j1 := x8.at_ 1 _ rfl; have j2 := x8.at_ 2 _ rfl; have j3 := x8.at_ 3 _ rfl; have j4 := x8.at_ 4 _ rfl; have j5 := x8.at_ 5 _ rfl; have j6 := x8.at_ 6 _ rfl; go_simp; first | done | rfl) hS7 ?_
         try go_simp
         refine tkH 28 rfl (by intro W hW; go_simp; first | done | rfl) hS7 ?_
         try go_simp
         refine wpAnyH_one (i := 29) (by kernel_rfl) rfl (fun K hK => ?_)
         go_simp
         refine (cOp.out _ hS7).mono ?_
         rintro e w8 ⟨⟨r8, rfl⟩, hb8⟩
         have hS8 : Below ww3.heap.size ww3 w8 := hS7.trans (hb8.mono hS7.size)
         clear hb8 hS7
         go_simp
         refine hK _ _ ⟨hS8, ?_⟩; clear hK K
         try go_simp
         refine tkH 30 rfl (by intro W hW; go_simp; first | done | rfl) hS8 ?_
         try go_simp
         refine tkH 31 rfl (by intro W hW; go_simp; first | done | rfl) hS8 ?_
         try go_simp
         try go_simp
         refine wpAnyH_one (i := 32) (by kernel_rfl) rfl (fun K hK => ?_)
         go_simp
         refine hK _ _ ⟨hS8, ?_⟩; clear hK K
         try go_simp
         refine wpAnyH_done (by kernel_rfl) ?_ _
         try go_simp
         have HEND : Hid (Below w.heap.size w w8) := Lib.hid (HFIN.out _ hS8)
         clear hS8
         go_wp2_with fail
         all_goals (go_ret; exact ⟨⟨_, rfl⟩, HEND.out⟩)
        ·have tv : (v2 == zp) = false := by rw [beq_eq_false_iff_ne]; exact cv
         clear cv
         refine tkH 24 rfl (by intro W hW; go_simp; first | done | rfl) hS7 ?_
         try go_simp
         refine tkH 25 rfl (by intro W hW; go_simp; first | done | rfl) hS7 ?_
         try go_simp
         refine tkH 26 rfl (by intro W hW; go_simp; first | done | rfl) hS7 ?_
         try go_simp
         refine wpAnyH_off (i := 27) rfl (by kernel_rfl) (by kernel_rfl) (by kernel_rfl) (by rfl) (by intro _ _ _ h; exact h) hS7 ?_
         try go_simp
         refine wpAnyH_off (i := 28) rfl (by kernel_rfl) (by kernel_rfl) (by kernel_rfl) (by rfl) (by intro _ _ _ h; exact h) hS7 ?_
         try go_simp
         refine wpAnyH_off (i := 29) rfl (by kernel_rfl) (by kernel_rfl) (by kernel_rfl) (by rfl) (by intro _ _ _ h; exact h) hS7 ?_
         try go_simp
         refine wpAnyH_off (i := 30) rfl (by kernel_rfl) (by kernel_rfl) (by kernel_rfl) (by rfl) (by intro _ _ _ h; exact h) hS7 ?_
         try go_simp
         refine tkH 31 rfl (by intro W hW; go_simp; first | done | rfl) hS7 ?_
         try go_simp
         try go_simp
         refine wpAnyH_one (i := 32) (by kernel_rfl) rfl (fun K hK => ?_)
         go_simp
         refine hK _ _ ⟨hS7, ?_⟩; clear hK K
         try go_simp
         refine wpAnyH_done (by kernel_rfl) ?_ _
         try go_simp
         have HEND : Hid (Below w.heap.size w w7) := Lib.hid (HFIN.out _ hS7)
         clear hS7
         go_wp2_with fail
         all_goals (go_ret; exact ⟨⟨_, rfl⟩, HEND.out⟩)
       ·have tr1 : decide ((rs : Int) < (n4 : Int)) = false := by rw [decide_eq_false_iff_not]; omega
        have tr2 : decide (rs < n4) = false := by rw [decide_eq_false_iff_not]; omega
        refine tkH 7 rfl (by intro W hW; go_simp; first | done | rfl) hS7 ?_
        try go_simp
        refine tkH 8 rfl (by intro W hW; go_simp; first | done | rfl) hS7 ?_
        try go_simp
        refine tkH 9 rfl (by intro W hW; have hW4 : Below w4.heap.size w4 W := HB5.out.trans ((HS3.out.trans (hW.mono HS3.out.size)).mono HB5.out.size); have x9 := HC2.out W (H34.out W hW4); obtain ⟨e0, e1, e2, e3, e4, e5, e6, e7, e8, e9, e10⟩ := c11 x9; have x8 := HC3.out W (H34.out W hW4); have j0 := x8.at_ 0 _ rfl; have j1 := x8.at_ 1 _ rfl; have j2 := x8.at_ 2 _ rfl; have j3 := x8.at_ 3 _ rfl; have j4 := x8.at_ 4 _ rfl; have j5 := x8.at_ 5 _ rfl; have j6 := x8.at_ 6 _ rfl; go_simp; first | done | rfl) hS7 ?_
        try go_simp
        refine tkH 10 rfl (by intro W hW; go_simp; first | done | rfl) hS7 ?_
        try go_simp
        refine tkH 11 rfl (by intro W hW; have hW4 : Below w4.heap.size w4 W := HB5.out.trans ((HS3.out.trans (hW.mono HS3.out.size)).mono HB5.out.size); have x9 := HC2.out W (H34.out W hW4); obtain ⟨e0, e1, e2, e3, e4, e5, e6, e7, e8, e9, e10⟩ := c11 x9; have x8 := HC3.out W (H34.out W hW4); have j0 := x8.at_ 0 _ rfl; have j1 := x8.at_ 1 _ rfl; have j2 := x8.at_ 2 _ rfl; have j3 := x8.at_ 3 _ rfl; have j4 := x8.at_ 4 _ rfl; have j5 := x8.at_ 5 _ rfl; have j6 := x8.at_ 6 _ rfl; go_simp; first | done | rfl) hS7 ?_
        try go_simp
        refine tkH 12 rfl (by intro W hW; go_simp; first | done | rfl) hS7 ?_
        try go_simp
        refine tkH 13 rfl (by intro W hW; go_simp; first | done | rfl) hS7 ?_
        try go_simp
        refine tkH 14 rfl (by intro W hW; go_simp; first | done | rfl) hS7 ?_
        try go_simp
        refine tkH 15 rfl (by intro W hW; go_simp; first | done | rfl) hS7 ?_
        try go_simp
        refine wpAnyH_off (i := 16) rfl (by kernel_rfl) (by kernel_rfl) (by kernel_rfl) (by rfl) (by intro _ _ _ h; exact h) hS7 ?_
        try go_simp
        refine wpAnyH_off (i := 17) rfl (by kernel_rfl) (by kernel_rfl) (by kernel_rfl) (by rfl) (by intro _ _ _ h; exact h) hS7 ?_
        try go_simp
        refine wpAnyH_off (i := 18) rfl (by kernel_rfl) (by kernel_rfl) (by kernel_rfl) (by rfl) (by intro _ _ _ h; exact h) hS7 ?_
        try go_simp
        refine wpAnyH_off (i := 19) rfl (by kernel_rfl) (by kernel_rfl) (by kernel_rfl) (by rfl) (by intro _ _ _ h; exact h) hS7 ?_
        try go_simp
        refine wpAnyH_off (i := 20) rfl (by kernel_rfl) (by kernel_rfl) (by kernel_rfl) (by rfl) (by intro _ _ _ h; exact h) hS7 ?_
        try go_simp
        refine wpAnyH_off (i := 21) rfl (by kernel_rfl) (by kernel_rfl) (by kernel_rfl) (by rfl) (by intro _ _ _ h; exact h) hS7 ?_
        try go_simp
        refine wpAnyH_off (i := 22) rfl (by kernel_rfl) (by kernel_rfl) (by kernel_rfl) (by rfl) (by intro _ _ _ h; exact h) hS7 ?_
        try go_simp
        refine wpAnyH_off (i := 23) rfl (by kernel_rfl) (by kernel_rfl) (by kernel_rfl) (by rfl) (by intro _ _ _ h; exact h) hS7 ?_
        try go_simp
        refine wpAnyH_off (i := 24) rfl (by kernel_rfl) (by kernel_rfl) (by kernel_rfl) (by rfl) (by intro _ _ _ h; exact h) hS7 ?_
        try go_simp
        refine tkH 25 rfl (by intro W hW; go_simp; first | done | rfl) hS7 ?_
        try go_simp
        refine tkH 26 rfl (by intro W hW; go_simp; first | done | rfl) hS7 ?_
        try go_simp
        refine wpAnyH_off (i := 27) rfl (by kernel_rfl) (by kernel_rfl) (by kernel_rfl) (by rfl) (by intro _ _ _ h; exact h) hS7 ?_
        try go_simp
        refine wpAnyH_off (i := 28) rfl (by kernel_rfl) (by kernel_rfl) (by kernel_rfl) (by rfl) (by intro _ _ _ h; exact h) hS7 ?_
        try go_simp
        refine wpAnyH_off (i := 29) rfl (by kernel_rfl) (by kernel_rfl) (by kernel_rfl) (by rfl) (by intro _ _ _ h; exact h) hS7 ?_
        try go_simp
        refine wpAnyH_off (i := 30) rfl (by kernel_rfl) (by kernel_rfl) (by kernel_rfl) (by rfl) (by intro _ _ _ h; exact h) hS7 ?_
        try go_simp
        refine tkH 31 rfl (by intro W hW; go_simp; first | done | rfl) hS7 ?_
        try go_simp
        try go_simp
        refine wpAnyH_one (i := 32) (by kernel_rfl) rfl (fun K hK => ?_)
        go_simp
        refine hK _ _ ⟨hS7, ?_⟩; clear hK K
        try go_simp
        refine wpAnyH_done (by kernel_rfl) ?_ _
        try go_simp
        have HEND : Hid (Below w.heap.size w w7) := Lib.hid (HFIN.out _ hS7)
        clear hS7
        go_wp2_with fail
        all_goals (go_ret; exact ⟨⟨_, rfl⟩, HEND.out⟩)
   ·have t1 : (za != (zn1 : Int)) = true := by simpa using c1
    go_wp2_with fail
    go_ret
    exact ⟨⟨_, rfl⟩, HBW.out _ (H13.out _ (H34.out _ HB5.out))⟩
 ·have td1 : decide ((dq : Int) ≥ (fn : Int)) = true := by rw [decide_eq_true_eq]; omega
  have td2 : decide (fn ≤ dq) = true := by rw [decide_eq_true_eq]; omega
  go_wp2_with fail
  go_ret
  exact ⟨⟨_, rfl⟩, HBW.out _ (H13.out _ (Below.refl _ _))⟩
end Go.Proofs.YtobmjnmcjddhcaaGreat
