import Derived.Test.YtobmjnmcjddhcaaGreatCTk
import Derived.Test.YtobmjnmcjddhcaaGreatCFiE
set_option linter.unusedSimpArgs false
set_option linter.unusedVariables false
set_option maxRecDepth 100000
set_option maxHeartbeats 32000000
namespace Go.Proofs.YtobmjnmcjddhcaaGreat
open Go.RowKit
def fromR (z : DNode) : Int := wrap64 (z.from_ + z.args)
def resF (fs : List DFunc) (z : DNode) : Int := ((fs.getD z.fn.toNat ⟨ByteArray.empty, false, [], [], [], [], [], [], [], [], []⟩).results.length : Int)
def resM22 (fs : List DFunc) (x : DFunc) (node : Int) : W4 :=
 if bareF x = true ∨ node = 0 then rangeM (x.params.length : Int) ((x.params.length : Int) + (x.results.length : Int))
 else if 0 ≤ node ∧ node < (x.nodes.length : Int) ∧ (x.nodes.getD node.toNat zN).fn < (fs.length : Int) then rangeM (fromR (x.nodes.getD node.toNat zN)) (wrap64 (fromR (x.nodes.getD node.toNat zN) + resF fs (x.nodes.getD node.toNat zN)))
 else zW
theorem resM22_ok (fs : List DFunc) (x : DFunc) (node : Int) : (resM22 fs x node).Ok := by
 unfold resM22
 repeat' split
 all_goals first | exact rangeM_ok _ _ | exact zW_ok
theorem rresults_any (FA : Option Addr) (fn fc : Nat) (fs : List DFunc) (f : Nat) (node : Int) (x0 : DFunc) (w : World) (h : PgC w FA fn fc fs) (hi : f < fn) (hx0 : fs[f]? = some x0) :
  Calls Tryz.prog 156 #[.agg #[.slice FA fn fc], .int .i64 (f : Int), .int .i64 node] w (IsW (resM22 fs x0 node) w) := by
 obtain ⟨w1, hw1⟩ : ∃ X, w.alloc (.cells #[.slice FA fn fc] 24) = X := ⟨_, rfl⟩
 obtain ⟨g, hg⟩ : ∃ g, w.heap.size = g := ⟨_, rfl⟩
 have hb1 : Below w.heap.size w w1 := by rw [← hw1]; exact bl_one _
 have hc1 : Cells w1 g [.slice FA fn fc] := by rw [← hw1, ← hg]; exact Cells.new w [.slice FA fn fc] _
 have EP : Hid (∀ W, Below w1.heap.size w1 W → W.cell? ⟨g, 0, none⟩ = some (.slice FA fn fc)) := Lib.hid fun W hW => (hc1.on hW).at_ 0 _ rfl
 have HP : Hid (∀ W, Below w1.heap.size w1 W → PgC W FA fn fc fs) := Lib.hid fun W hW => h.on (hb1.trans (hW.mono hb1.size))
 have HB1 := Lib.hid hb1
 have HBW : Hid (∀ W, Below w1.heap.size w1 W → Below w.heap.size w W) := Lib.hid fun W hW => hb1.trans (hW.mono hb1.size)
 have hfn := h.pg.le
 have hn0 : (fn : Int) ≤ 50 := by omega
 have p0 := EP.out w1 (Below.refl _ _)
 clear hb1 hc1
 obtain ⟨wb, hwb⟩ : ∃ X, w1.alloc (.cells #[.int .u64 0, .int .u64 0, .int .u64 0, .int .u64 0] 216) = X := ⟨_, rfl⟩
 obtain ⟨g1, hg1⟩ : ∃ X, w1.heap.size = X := ⟨_, rfl⟩
 have hbb : Below w1.heap.size w1 wb := by rw [← hwb]; exact bl_one _
 have hcb : Cells wb g1 [.int .u64 0, .int .u64 0, .int .u64 0, .int .u64 0] := by rw [← hwb, ← hg1]; exact Cells.new w1 [.int .u64 0, .int .u64 0, .int .u64 0, .int .u64 0] _
 have hlow : w.heap.size ≤ g1 := by have := HB1.out.size; omega
 obtain ⟨bk, off, s, b, A0, n0, c0, A1, n1, c1, A2, n2, c2, A3, n3, c3, A4, n4, c4, A5, n5, c5, A6, n6, c6, A7, n7, c7, A8, n8, c8, x, rfl, hbk, hx, hcf0, hfw0, hcan⟩ := (HP.out w1 (Below.refl _ _)).get hi
 have hfw := (hfw0.keep hbb).more hbb.size
 have HR6 := Lib.hid hfw0.r6
 have HGG : Hid (g < g1 ∧ w1.heap.size = g1) := Lib.hid ⟨by rw [← hg1]; exact World.block_lt_of_cell? _ _ p0, hg1⟩
 have y0 := (hbb.cell hbk).trans (hcf0 0 _ rfl)
 have y1 := (hbb.cell hbk).trans (hcf0 1 _ rfl)
 have y2 := (hbb.cell hbk).trans (hcf0 2 _ rfl)
 have y3 := (hbb.cell hbk).trans (hcf0 3 _ rfl)
 have y4 := (hbb.cell hbk).trans (hcf0 4 _ rfl)
 have y5 := (hbb.cell hbk).trans (hcf0 5 _ rfl)
 have y6 := (hbb.cell hbk).trans (hcf0 6 _ rfl)
 have y7 := (hbb.cell hbk).trans (hcf0 7 _ rfl)
 have y8 := (hbb.cell hbk).trans (hcf0 8 _ rfl)
 have y9 := (hbb.cell hbk).trans (hcf0 9 _ rfl)
 have y10 := (hbb.cell hbk).trans (hcf0 10 _ rfl)
 simp only [Nat.add_zero] at y0
 obtain rfl : x0 = x := by rw [hx0] at hx; injection hx
 have HLN : Hid (x0.params.length = n1 ∧ x0.results.length = n2 ∧ x0.nodes.length = n6 ∧ fs.length = fn ∧ bareF x0 = decide (n6 + n7 + n8 = 0)) := Lib.hid ⟨hfw.r1.1, hfw.r2.1, hfw.r6.1, h.pg.len, by unfold bareF; rw [hfw.r6.1, hfw.r7.1, hfw.r8.1]⟩
 have HTAB := Lib.hid hcan.tab
 obtain ⟨s4, s5, s6, s7, s8, s0⟩ := hfw.sm
 have hf0 : (0 : Int) ≤ (f : Int) := by omega
 have hf1 : (f : Int) < (fn : Int) := by omega
 have hk1 : (n1 : Int) ≤ 300 := by omega
 have hk2 : (n2 : Int) ≤ 300 := by omega
 have hk1' : (0 : Int) ≤ (n1 : Int) := by omega
 have hk2' : (0 : Int) ≤ (n2 : Int) := by omega
 have HFW := Lib.hid hfw
 have HBB := Lib.hid hbb
 have HLOW := Lib.hid hlow
 have pb0 := (hbb.cell (p := ⟨g, 0, none⟩) (World.block_lt_of_cell? _ _ p0)).trans p0
 have HX0 : Hid (fs.length = fn) := Lib.hid h.pg.len
 clear h hfw hfw0 hcan hcf0 hx hx0 hbb hlow
 go_enter Tryz.func156, Tryz.ntmps156
 go_upto_region 2 with fail
 clear y0 y1 y2 y3 y4 y5 y6 y7 y8 y9 y10 p0 pb0
 obtain ⟨w2, hw2⟩ : ∃ X, wb.alloc (.cells #[.string s, .bool b, .slice A0 n0 c0, .slice A1 n1 c1, .slice A2 n2 c2, .slice A3 n3 c3, .slice A4 n4 c4, .slice A5 n5 c5, .slice A6 n6 c6, .slice A7 n7 c7, .slice A8 n8 c8] 38) = X := ⟨_, rfl⟩
 obtain ⟨g2, hg2⟩ : ∃ X, wb.heap.size = X := ⟨_, rfl⟩
 have hb2 : Below wb.heap.size wb w2 := by rw [← hw2]; exact bl_one _
 have hc2 : Cells w2 g2 [.string s, .bool b, .slice A0 n0 c0, .slice A1 n1 c1, .slice A2 n2 c2, .slice A3 n3 c3, .slice A4 n4 c4, .slice A5 n5 c5, .slice A6 n6 c6, .slice A7 n7 c7, .slice A8 n8 c8] := by rw [← hw2, ← hg2]; exact Cells.new wb [.string s, .bool b, .slice A0 n0 c0, .slice A1 n1 c1, .slice A2 n2 c2, .slice A3 n3 c3, .slice A4 n4 c4, .slice A5 n5 c5, .slice A6 n6 c6, .slice A7 n7 c7, .slice A8 n8 c8] _
 rw [hw2, hg2]
 have hb12 : Below w1.heap.size w1 w2 := HBB.out.trans (hb2.mono HBB.out.size)
 have HCT : Hid (∀ W, Below w2.heap.size w2 W → Cells W g2 [.string s, .bool b, .slice A0 n0 c0, .slice A1 n1 c1, .slice A2 n2 c2, .slice A3 n3 c3, .slice A4 n4 c4, .slice A5 n5 c5, .slice A6 n6 c6, .slice A7 n7 c7, .slice A8 n8 c8]) := Lib.hid fun W hW => hc2.on hW
 have HC2 : Hid (∀ W, Below w2.heap.size w2 W → Cells W g1 [.int .u64 0, .int .u64 0, .int .u64 0, .int .u64 0]) := Lib.hid fun W hW => (hcb.on hb2).on hW
 have H12 : Hid (∀ W, Below w2.heap.size w2 W → Below w1.heap.size w1 W) := Lib.hid fun W hW => hb12.trans (hW.mono hb12.size)
 have HB12 : Hid (∀ W, Below w2.heap.size w2 W → Below w.heap.size w W) := Lib.hid fun W hW => HBW.out W (hb12.trans (hW.mono hb12.size))
 have HF2 : Hid (∀ W, Below w2.heap.size w2 W → FnW W W.heap.size s b A0 n0 c0 A1 n1 c1 A2 n2 c2 A3 n3 c3 A4 n4 c4 A5 n5 c5 A6 n6 c6 A7 n7 c7 A8 n8 c8 x0) := Lib.hid fun W hW => (HFW.out.keep (hb2.trans (hW.mono hb2.size))).more (hb2.trans (hW.mono hb2.size)).size
 have HG12 : Hid (g1 < w2.heap.size ∧ g1 < g2) := Lib.hid ⟨by have := hcb.lt; have := hb2.size; omega, by rw [← hg2]; exact hcb.lt⟩
 have e0 := hc2.at_ 0 _ rfl
 have e1 := hc2.at_ 1 _ rfl
 have e2 := hc2.at_ 2 _ rfl
 have e3 := hc2.at_ 3 _ rfl
 have e4 := hc2.at_ 4 _ rfl
 have e5 := hc2.at_ 5 _ rfl
 have e6 := hc2.at_ 6 _ rfl
 have e7 := hc2.at_ 7 _ rfl
 have e8 := hc2.at_ 8 _ rfl
 have e9 := hc2.at_ 9 _ rfl
 have e10 := hc2.at_ 10 _ rfl
 clear hw2 hg2 hb2 hc2 hcb hb12 hw1 hg hwb hg1 HFW HBB
 by_cases hb0 : n6 + n7 + n8 = 0
 ·have cB := Lib.hid (rbare_any s b A0 n0 c0 A1 n1 c1 A2 n2 c2 A3 n3 c3 A4 n4 c4 A5 n5 c5 A6 n6 c6 A7 n7 c7 A8 n8 c8 w2 (by omega) (by omega) (by omega) true (decide_eq_true hb0).symm)
  have HE2 : Hid (resM22 fs x0 node = rangeM (n1 : Int) ((n1 : Int) + (n2 : Int))) := Lib.hid (by
   unfold resM22
   rw [if_pos (.inl (by rw [HLN.out.2.2.2.2]; exact decide_eq_true hb0)), HLN.out.1, HLN.out.2.1])
  clear hb0
  go_wp2_with fail
  refine cB.out.mono ?_
  rintro e w3 ⟨rfl, hb3⟩
  have HB3 := Lib.hid hb3
  clear hb3 cB e0 e1 e2 e3 e4 e5 e6 e7 e8 e9 e10
  have e3 := (HCT.out w3 HB3.out).at_ 3 _ rfl
  have e4 := (HCT.out w3 HB3.out).at_ 4 _ rfl
  have e3' := e3
  obtain ⟨s, hs⟩ : ∃ s, rangeM (n1 : Int) ((n1 : Int) + (n2 : Int)) = s := ⟨_, rfl⟩
  have cR := Lib.hid (rrange_any (n1 : Int) ((n1 : Int) + (n2 : Int)) w3 (by omega) (by omega))
  rw [hs] at cR HE2
  clear hs
  go_wp2_with fail
  refine cR.out.mono ?_
  rintro e w4 ⟨rfl, hb4⟩
  have HB4 : Hid (Below w2.heap.size w2 w4) := Lib.hid (HB3.out.trans (hb4.mono HB3.out.size))
  clear hb4 cR e3 e4 e3'
  have v0 := (HC2.out w4 HB4.out).at_ 0 _ rfl
  have v1 := (HC2.out w4 HB4.out).at_ 1 _ rfl
  have v2 := (HC2.out w4 HB4.out).at_ 2 _ rfl
  have v3 := (HC2.out w4 HB4.out).at_ 3 _ rfl
  have f0 := (HC2.out w4 HB4.out).fz 0 (by simp)
  have f1 := (HC2.out w4 HB4.out).fz 1 (by simp)
  have f2 := (HC2.out w4 HB4.out).fz 2 (by simp)
  have f3 := (HC2.out w4 HB4.out).fz 3 (by simp)
  go_wp2_with fail
  obtain ⟨wx, hwx⟩ : ∃ X, (World.setCell (World.setCell (World.setCell (World.setCell w4 ⟨g1, 0, none⟩ (.int .u64 (s.a0 : Int))) ⟨g1, 1, none⟩ (.int .u64 (s.a1 : Int))) ⟨g1, 2, none⟩ (.int .u64 (s.a2 : Int))) ⟨g1, 3, none⟩ (.int .u64 (s.a3 : Int))) = X := ⟨_, rfl⟩
  have hcx : Cells wx g1 [.int .u64 (s.a0 : Int), .int .u64 (s.a1 : Int), .int .u64 (s.a2 : Int), .int .u64 (s.a3 : Int)] := by rw [← hwx]; exact (Cells.put (Cells.put (Cells.put (Cells.put (HC2.out w4 HB4.out) 0 (by simp) (.int .u64 (s.a0 : Int))) 1 (by simp) (.int .u64 (s.a1 : Int))) 2 (by simp) (.int .u64 (s.a2 : Int))) 3 (by simp) (.int .u64 (s.a3 : Int)))
  have hbx : Below w.heap.size w wx := by rw [← hwx]; exact (Below.setCell (Below.setCell (Below.setCell (Below.setCell (HB12.out w4 HB4.out) (p := ⟨g1, 0, none⟩) HLOW.out (.int .u64 (s.a0 : Int))) (p := ⟨g1, 1, none⟩) HLOW.out (.int .u64 (s.a1 : Int))) (p := ⟨g1, 2, none⟩) HLOW.out (.int .u64 (s.a2 : Int))) (p := ⟨g1, 3, none⟩) HLOW.out (.int .u64 (s.a3 : Int)))
  have rz0 := hcx.at_ 0 _ rfl
  have rz1 := hcx.at_ 1 _ rfl
  have rz2 := hcx.at_ 2 _ rfl
  have rz3 := hcx.at_ 3 _ rfl
  try rw [hwx]
  refine bodyPost_ret (v := aggW s) (by simp [results, Tryz.results156, go_sem, rz0, rz1, rz2, rz3]) rfl ⟨by first | rfl | (rw [HE2.out]; done) | (rw [HE2.out]; rfl), hbx⟩
 ·have cB := Lib.hid (rbare_any s b A0 n0 c0 A1 n1 c1 A2 n2 c2 A3 n3 c3 A4 n4 c4 A5 n5 c5 A6 n6 c6 A7 n7 c7 A8 n8 c8 w2 (by omega) (by omega) (by omega) false (decide_eq_false hb0).symm)
  have HBF : Hid (¬ bareF x0 = true) := Lib.hid (by rw [HLN.out.2.2.2.2, decide_eq_false hb0]; decide)
  have HNO : Hid (nodesOk x0.nodes) := Lib.hid (by
   rcases HTAB.out with ⟨a1, a2, a3⟩ | ⟨a1, _⟩
   ·exfalso
    have l6 := (HF2.out w2 (Below.refl _ _)).r6.1
    have l7 := (HF2.out w2 (Below.refl _ _)).r7.1
    have l8 := (HF2.out w2 (Below.refl _ _)).r8.1
    rw [a1] at l6; rw [a2] at l7; rw [a3] at l8
    simp at l6 l7 l8
    omega
   ·exact a1)
  clear hb0
  by_cases hn0' : node = 0
  ·subst hn0'
   have HE2 : Hid (resM22 fs x0 0 = rangeM (n1 : Int) ((n1 : Int) + (n2 : Int))) := Lib.hid (by
    unfold resM22
    rw [if_pos (.inr rfl), HLN.out.1, HLN.out.2.1])
   go_wp2_with fail
   refine cB.out.mono ?_
   rintro e w3 ⟨rfl, hb3⟩
   have HB3 := Lib.hid hb3
   clear hb3 cB e0 e1 e2 e3 e4 e5 e6 e7 e8 e9 e10
   have e3 := (HCT.out w3 HB3.out).at_ 3 _ rfl
   have e4 := (HCT.out w3 HB3.out).at_ 4 _ rfl
   have e3' := e3
   obtain ⟨s, hs⟩ : ∃ s, rangeM (n1 : Int) ((n1 : Int) + (n2 : Int)) = s := ⟨_, rfl⟩
   have cR := Lib.hid (rrange_any (n1 : Int) ((n1 : Int) + (n2 : Int)) w3 (by omega) (by omega))
   rw [hs] at cR HE2
   clear hs
   go_wp2_with fail
   refine cR.out.mono ?_
   rintro e w4 ⟨rfl, hb4⟩
   have HB4 : Hid (Below w2.heap.size w2 w4) := Lib.hid (HB3.out.trans (hb4.mono HB3.out.size))
   clear hb4 cR e3 e4 e3'
   have v0 := (HC2.out w4 HB4.out).at_ 0 _ rfl
   have v1 := (HC2.out w4 HB4.out).at_ 1 _ rfl
   have v2 := (HC2.out w4 HB4.out).at_ 2 _ rfl
   have v3 := (HC2.out w4 HB4.out).at_ 3 _ rfl
   have f0 := (HC2.out w4 HB4.out).fz 0 (by simp)
   have f1 := (HC2.out w4 HB4.out).fz 1 (by simp)
   have f2 := (HC2.out w4 HB4.out).fz 2 (by simp)
   have f3 := (HC2.out w4 HB4.out).fz 3 (by simp)
   go_wp2_with fail
   obtain ⟨wx, hwx⟩ : ∃ X, (World.setCell (World.setCell (World.setCell (World.setCell w4 ⟨g1, 0, none⟩ (.int .u64 (s.a0 : Int))) ⟨g1, 1, none⟩ (.int .u64 (s.a1 : Int))) ⟨g1, 2, none⟩ (.int .u64 (s.a2 : Int))) ⟨g1, 3, none⟩ (.int .u64 (s.a3 : Int))) = X := ⟨_, rfl⟩
   have hcx : Cells wx g1 [.int .u64 (s.a0 : Int), .int .u64 (s.a1 : Int), .int .u64 (s.a2 : Int), .int .u64 (s.a3 : Int)] := by rw [← hwx]; exact (Cells.put (Cells.put (Cells.put (Cells.put (HC2.out w4 HB4.out) 0 (by simp) (.int .u64 (s.a0 : Int))) 1 (by simp) (.int .u64 (s.a1 : Int))) 2 (by simp) (.int .u64 (s.a2 : Int))) 3 (by simp) (.int .u64 (s.a3 : Int)))
   have hbx : Below w.heap.size w wx := by rw [← hwx]; exact (Below.setCell (Below.setCell (Below.setCell (Below.setCell (HB12.out w4 HB4.out) (p := ⟨g1, 0, none⟩) HLOW.out (.int .u64 (s.a0 : Int))) (p := ⟨g1, 1, none⟩) HLOW.out (.int .u64 (s.a1 : Int))) (p := ⟨g1, 2, none⟩) HLOW.out (.int .u64 (s.a2 : Int))) (p := ⟨g1, 3, none⟩) HLOW.out (.int .u64 (s.a3 : Int)))
   have rz0 := hcx.at_ 0 _ rfl
   have rz1 := hcx.at_ 1 _ rfl
   have rz2 := hcx.at_ 2 _ rfl
   have rz3 := hcx.at_ 3 _ rfl
   try rw [hwx]
   refine bodyPost_ret (v := aggW s) (by simp [results, Tryz.results156, go_sem, rz0, rz1, rz2, rz3]) rfl ⟨by first | rfl | (rw [HE2.out]; done) | (rw [HE2.out]; rfl), hbx⟩
  ·have tn : (node == 0) = false := by rw [beq_eq_false_iff_ne]; exact hn0'
   go_wp2_with fail
   refine cB.out.mono ?_
   rintro e w3 ⟨rfl, hb3⟩
   have HB3 := Lib.hid hb3
   clear hb3 cB e0 e1 e2 e3 e4 e5 e6 e7 e8 e9 e10
   have e8 := (HCT.out w3 HB3.out).at_ 8 _ rfl
   go_upto_region 4 with fail
   have q0 := EP.out w3 (H12.out w3 HB3.out)
   by_cases hlo : node < 0
   ·have d0 : decide (node < 0) = true := by rw [decide_eq_true_eq]; exact hlo
    have HE2 : Hid (resM22 fs x0 node = zW) := Lib.hid (by unfold resM22; rw [if_neg (fun h => h.elim HBF.out hn0'), if_neg (fun h => by omega)])
    have v0 := (HC2.out w3 HB3.out).at_ 0 _ rfl
    have v1 := (HC2.out w3 HB3.out).at_ 1 _ rfl
    have v2 := (HC2.out w3 HB3.out).at_ 2 _ rfl
    have v3 := (HC2.out w3 HB3.out).at_ 3 _ rfl
    have f0 := (HC2.out w3 HB3.out).fz 0 (by simp)
    have f1 := (HC2.out w3 HB3.out).fz 1 (by simp)
    have f2 := (HC2.out w3 HB3.out).fz 2 (by simp)
    have f3 := (HC2.out w3 HB3.out).fz 3 (by simp)
    go_quiet (fail)
    go_wp2_with fail
    obtain ⟨wx, hwx⟩ : ∃ X, (World.setCell (World.setCell (World.setCell (World.setCell (w3.drewN nq) ⟨g1, 0, none⟩ (.int .u64 0)) ⟨g1, 1, none⟩ (.int .u64 0)) ⟨g1, 2, none⟩ (.int .u64 0)) ⟨g1, 3, none⟩ (.int .u64 0)) = X := ⟨_, rfl⟩
    have hcx : Cells wx g1 [.int .u64 0, .int .u64 0, .int .u64 0, .int .u64 0] := by rw [← hwx]; exact (Cells.put (Cells.put (Cells.put (Cells.put (HC2.out _ (below_drewN' HB3.out nq)) 0 (by simp) (.int .u64 0)) 1 (by simp) (.int .u64 0)) 2 (by simp) (.int .u64 0)) 3 (by simp) (.int .u64 0))
    have hbx : Below w.heap.size w wx := by rw [← hwx]; exact (Below.setCell (Below.setCell (Below.setCell (Below.setCell (HB12.out _ (below_drewN' HB3.out nq)) (p := ⟨g1, 0, none⟩) HLOW.out (.int .u64 0)) (p := ⟨g1, 1, none⟩) HLOW.out (.int .u64 0)) (p := ⟨g1, 2, none⟩) HLOW.out (.int .u64 0)) (p := ⟨g1, 3, none⟩) HLOW.out (.int .u64 0))
    have rz0 := hcx.at_ 0 _ rfl
    have rz1 := hcx.at_ 1 _ rfl
    have rz2 := hcx.at_ 2 _ rfl
    have rz3 := hcx.at_ 3 _ rfl
    try rw [hwx]
    refine bodyPost_ret (v := aggU 0 0 0 0) (by simp [results, Tryz.results156, go_sem, rz0, rz1, rz2, rz3]) rfl ⟨by first | rfl | (rw [HE2.out]; done) | (rw [HE2.out]; rfl), hbx⟩
   have d0 : decide (node < 0) = false := by rw [decide_eq_false_iff_not]; exact hlo
   obtain ⟨q, rfl⟩ := Int.eq_ofNat_of_zero_le (show 0 ≤ node by omega)
   by_cases hq : q < n6
   rotate_left
   ·have d1 : decide ((q : Int) ≥ (n6 : Int)) = true := by rw [decide_eq_true_eq]; omega
    have d1b : decide (n6 ≤ q) = true := by rw [decide_eq_true_eq]; omega
    have HE2 : Hid (resM22 fs x0 (q : Int) = zW) := Lib.hid (by unfold resM22; rw [if_neg (fun h => h.elim HBF.out hn0'), if_neg (fun h => by have := HLN.out.2.2.1; omega)])
    have v0 := (HC2.out w3 HB3.out).at_ 0 _ rfl
    have v1 := (HC2.out w3 HB3.out).at_ 1 _ rfl
    have v2 := (HC2.out w3 HB3.out).at_ 2 _ rfl
    have v3 := (HC2.out w3 HB3.out).at_ 3 _ rfl
    have f0 := (HC2.out w3 HB3.out).fz 0 (by simp)
    have f1 := (HC2.out w3 HB3.out).fz 1 (by simp)
    have f2 := (HC2.out w3 HB3.out).fz 2 (by simp)
    have f3 := (HC2.out w3 HB3.out).fz 3 (by simp)
    go_quiet (fail)
    go_wp2_with fail
    obtain ⟨wx, hwx⟩ : ∃ X, (World.setCell (World.setCell (World.setCell (World.setCell (w3.drewN nq) ⟨g1, 0, none⟩ (.int .u64 0)) ⟨g1, 1, none⟩ (.int .u64 0)) ⟨g1, 2, none⟩ (.int .u64 0)) ⟨g1, 3, none⟩ (.int .u64 0)) = X := ⟨_, rfl⟩
    have hcx : Cells wx g1 [.int .u64 0, .int .u64 0, .int .u64 0, .int .u64 0] := by rw [← hwx]; exact (Cells.put (Cells.put (Cells.put (Cells.put (HC2.out _ (below_drewN' HB3.out nq)) 0 (by simp) (.int .u64 0)) 1 (by simp) (.int .u64 0)) 2 (by simp) (.int .u64 0)) 3 (by simp) (.int .u64 0))
    have hbx : Below w.heap.size w wx := by rw [← hwx]; exact (Below.setCell (Below.setCell (Below.setCell (Below.setCell (HB12.out _ (below_drewN' HB3.out nq)) (p := ⟨g1, 0, none⟩) HLOW.out (.int .u64 0)) (p := ⟨g1, 1, none⟩) HLOW.out (.int .u64 0)) (p := ⟨g1, 2, none⟩) HLOW.out (.int .u64 0)) (p := ⟨g1, 3, none⟩) HLOW.out (.int .u64 0))
    have rz0 := hcx.at_ 0 _ rfl
    have rz1 := hcx.at_ 1 _ rfl
    have rz2 := hcx.at_ 2 _ rfl
    have rz3 := hcx.at_ 3 _ rfl
    try rw [hwx]
    refine bodyPost_ret (v := aggU 0 0 0 0) (by simp [results, Tryz.results156, go_sem, rz0, rz1, rz2, rz3]) rfl ⟨by first | rfl | (rw [HE2.out]; done) | (rw [HE2.out]; rfl), hbx⟩
   have d1 : decide ((q : Int) ≥ (n6 : Int)) = false := by rw [decide_eq_false_iff_not]; omega
   have d1b : decide (n6 ≤ q) = false := by rw [decide_eq_false_iff_not]; omega
   have hqn : (q : Int) < (n6 : Int) := by omega
   have hq0 : (0 : Int) ≤ (q : Int) := by omega
   obtain ⟨nb, noff, q', z, rfl, hnb, hqq, _, hz, _, hzc⟩ := node_get (x := x0) HR6.out hq0 hqn
   obtain rfl : q' = q := by omega
   have hok := HNO.out.2.2 _ _ hz
   unfold nodeOk at hok
   obtain ⟨ok1, ok2, _, _, ok5, ok6, ok7, ok8, _⟩ := hok
   have HGD : Hid (x0.nodes.getD ((q' : Int).toNat) zN = z) := Lib.hid (by rw [List.getD_eq_getElem?_getD, show ((q' : Int).toNat) = q' from rfl, hz]; rfl)
   obtain ⟨p, hp⟩ := Int.eq_ofNat_of_zero_le ok1
   have HZ : Hid (w1.cell? ⟨nb, noff + q' * 7 + 1, none⟩ = some (.int .i64 (p : Int)) ∧ w1.cell? ⟨nb, noff + q' * 7 + 3, none⟩ = some (.int .i64 z.from_) ∧ w1.cell? ⟨nb, noff + q' * 7 + 4, none⟩ = some (.int .i64 z.args)) := Lib.hid ⟨by rw [← hp]; exact hzc 1 _ rfl, hzc 3 _ rfl, hzc 4 _ rfl⟩
   have z1 := ((H12.out w3 HB3.out).cell hnb).trans HZ.out.1
   have z3 := ((H12.out w3 HB3.out).cell hnb).trans HZ.out.2.1
   have z4 := ((H12.out w3 HB3.out).cell hnb).trans HZ.out.2.2
   by_cases hpf : p < fn
   rotate_left
   ·have d2 : decide ((p : Int) ≥ (fn : Int)) = true := by rw [decide_eq_true_eq]; omega
    have d2b : decide (fn ≤ p) = true := by rw [decide_eq_true_eq]; omega
    have HE2 : Hid (resM22 fs x0 (q' : Int) = zW) := Lib.hid (by unfold resM22; rw [if_neg (fun h => h.elim HBF.out hn0'), if_neg (fun h => by have := h.2.2; rw [HGD.out, hp] at this; have := HX0.out; omega)])
    have v0 := (HC2.out w3 HB3.out).at_ 0 _ rfl
    have v1 := (HC2.out w3 HB3.out).at_ 1 _ rfl
    have v2 := (HC2.out w3 HB3.out).at_ 2 _ rfl
    have v3 := (HC2.out w3 HB3.out).at_ 3 _ rfl
    have f0 := (HC2.out w3 HB3.out).fz 0 (by simp)
    have f1 := (HC2.out w3 HB3.out).fz 1 (by simp)
    have f2 := (HC2.out w3 HB3.out).fz 2 (by simp)
    have f3 := (HC2.out w3 HB3.out).fz 3 (by simp)
    clear hz hzc
    go_quiet (fail)
    go_wp2_with fail
    obtain ⟨wx, hwx⟩ : ∃ X, (World.setCell (World.setCell (World.setCell (World.setCell (w3.drewN nq) ⟨g1, 0, none⟩ (.int .u64 0)) ⟨g1, 1, none⟩ (.int .u64 0)) ⟨g1, 2, none⟩ (.int .u64 0)) ⟨g1, 3, none⟩ (.int .u64 0)) = X := ⟨_, rfl⟩
    have hcx : Cells wx g1 [.int .u64 0, .int .u64 0, .int .u64 0, .int .u64 0] := by rw [← hwx]; exact (Cells.put (Cells.put (Cells.put (Cells.put (HC2.out _ (below_drewN' HB3.out nq)) 0 (by simp) (.int .u64 0)) 1 (by simp) (.int .u64 0)) 2 (by simp) (.int .u64 0)) 3 (by simp) (.int .u64 0))
    have hbx : Below w.heap.size w wx := by rw [← hwx]; exact (Below.setCell (Below.setCell (Below.setCell (Below.setCell (HB12.out _ (below_drewN' HB3.out nq)) (p := ⟨g1, 0, none⟩) HLOW.out (.int .u64 0)) (p := ⟨g1, 1, none⟩) HLOW.out (.int .u64 0)) (p := ⟨g1, 2, none⟩) HLOW.out (.int .u64 0)) (p := ⟨g1, 3, none⟩) HLOW.out (.int .u64 0))
    have rz0 := hcx.at_ 0 _ rfl
    have rz1 := hcx.at_ 1 _ rfl
    have rz2 := hcx.at_ 2 _ rfl
    have rz3 := hcx.at_ 3 _ rfl
    try rw [hwx]
    refine bodyPost_ret (v := aggU 0 0 0 0) (by simp [results, Tryz.results156, go_sem, rz0, rz1, rz2, rz3]) rfl ⟨by first | rfl | (rw [HE2.out]; done) | (rw [HE2.out]; rfl), hbx⟩
   have d2 : decide ((p : Int) ≥ (fn : Int)) = false := by rw [decide_eq_false_iff_not]; omega
   have d2b : decide (fn ≤ p) = false := by rw [decide_eq_false_iff_not]; omega
   have hpn : (p : Int) < (fn : Int) := by omega
   have hp0 : (0 : Int) ≤ (p : Int) := by omega
   obtain ⟨s, hs⟩ : ∃ s, rangeM (fromR z) (wrap64 (fromR z + resF fs z)) = s := ⟨_, rfl⟩
   have HE2 : Hid (resM22 fs x0 (q' : Int) = s) := Lib.hid (by unfold resM22; rw [if_neg (fun h => h.elim HBF.out hn0'), if_pos ⟨hq0, by have := HLN.out.2.2.1; omega, by rw [HGD.out, hp]; have := HX0.out; omega⟩, HGD.out, hs])
   obtain ⟨bk2, off2, s2, b2, B0, m0, d0, B1, m1, d1, B2, m2, d2, B3, m3, d3, B4, m4, d4, B5, m5, d5, B6, m6, d6, B7, m7, d7, B8, m8, d8, x2, hA2, hbk2, hx2, hcf2, hfw2, _⟩ := (HP.out w1 (Below.refl _ _)).get (i := p) hpf
   have HQ : Hid (bk2 = bk ∧ off2 = off) := Lib.hid (by injection hA2 with h; injection h with h1 h2; exact ⟨h1.symm, h2.symm⟩)
   obtain ⟨rfl, rfl⟩ := HQ.out
   have HR2 : Hid (w1.cell? ⟨bk2, off2 + p * 11 + 4, none⟩ = some (.slice B2 m2 d2)) := Lib.hid (hcf2 4 _ rfl)
   have HL2 : Hid (resF fs z = (m2 : Int) ∧ (m2 : Int) ≤ 300) := Lib.hid (by
    have l2 := hfw2.r2.1
    have l3 := hfw2.sm
    constructor
    ·unfold resF; rw [hp, List.getD_eq_getElem?_getD, show ((p : Int).toNat) = p from rfl, hx2]; exact congrArg _ l2
    ·omega)
   obtain ⟨zf, hzf⟩ : ∃ v, z.from_ = v := ⟨_, rfl⟩
   obtain ⟨za, hza⟩ : ∃ v, z.args = v := ⟨_, rfl⟩
   obtain ⟨fr, hfr⟩ : ∃ v, wrap64 (zf + za) = v := ⟨_, rfl⟩
   have hs2 : rangeM fr (wrap64 (fr + (m2 : Int))) = s := by rw [← hs, HL2.out.1, ← hfr, ← hzf, ← hza]; rfl
   have HFR : Hid (wrap64 (zf + za) = fr) := Lib.hid hfr
   have cR : Hid (∀ W, Calls Tryz.prog 157 #[.int .i64 fr, .int .i64 (wrap64 (fr + (m2 : Int)))] W (IsW s W)) := Lib.hid fun W => by rw [← hs2, ← hfr]; exact rrange_any _ _ W (wrap64_rng _).1 (wrap64_rng _).2
   have hsm2 : (m2 : Int) ≤ 300 := HL2.out.2
   have hm0 : (0 : Int) ≤ (m2 : Int) := by omega
   rw [hzf] at z3 HZ
   rw [hza] at z4 HZ
   clear hz hzc hzf hza hs hs2 hfw2 hcf2 hx2 hfr hqq ok1 ok2 ok5 ok6 ok7 ok8
   go_quiet (fail)
   go_upto_region 6 with fail
   go_quiet (fail)
   go_upto_region 7 with fail
   refine wp_region_held (S := fun W => Kp (fun j => j = g1) w3 W) (by kernel_rfl) ?_
   change wpAnyH _ _ _ _ _ _ _ _ (World.drew _)
   try go_simp
   refine teH 0 (.int .i64 fr) rfl (by intro W hW; rw [← HFR.out]; go_simp; try (first | (with_reducible rfl) | omega)) ((Kp.refl (fun j => j = g1) w3).drewN _) ?_
   try go_simp
   refine teH 1 (.int .i64 fr) rfl (by intro W hW; rw [← HFR.out]; go_simp; try (first | (with_reducible rfl) | omega)) ((Kp.refl (fun j => j = g1) w3).drewN _) ?_
   try go_simp
   refine teH 2 (.pointer (some ⟨g, 0, none⟩)) rfl (by intro W hW; go_simp; try (first | (with_reducible rfl) | omega)) ((Kp.refl (fun j => j = g1) w3).drewN _) ?_
   refine teH 4 (.pointer (some ⟨g2, 8, none⟩)) rfl (by intro W hW; go_simp; try (first | (with_reducible rfl) | omega)) ((Kp.refl (fun j => j = g1) w3).drewN _) ?_
   refine teH 6 (.int .i64 (q' : Int)) rfl (by intro W hW; go_simp; try (first | (with_reducible rfl) | omega)) ((Kp.refl (fun j => j = g1) w3).drewN _) ?_
   try go_simp
   refine teH 3 (.slice (some ⟨bk2, off2, none⟩) fn fc) rfl (by intro W hW; have q9 := hW.cellv (p := ⟨g, 0, none⟩) (EP.out w3 (H12.out w3 HB3.out)) (fun e => by have e2 : g = g1 := e; have := HGG.out.1; omega); have c9 := (HCT.out w3 HB3.out).kp hW (fun e => by have := HG12.out.2; omega); have e8 := c9.at_ 8 _ rfl; have b9 := (H12.out w3 HB3.out); have z1 := hW.cellv (p := ⟨nb, noff + q' * 7 + 1, none⟩) ((b9.cell hnb).trans HZ.out.1) (fun e => by have e2 : nb = g1 := e; have := HGG.out.2; omega); have z9 := hW.cellv (p := ⟨bk2, off2 + p * 11 + 4, none⟩) ((b9.cell hbk2).trans HR2.out) (fun e => by have e2 : bk2 = g1 := e; have := HGG.out.2; omega); go_simp; try (first | (with_reducible rfl) | omega)) ((Kp.refl (fun j => j = g1) w3).drewN _) ?_
   refine teH 5 (.slice (some ⟨nb, noff, none⟩) n6 c6) rfl (by intro W hW; have q9 := hW.cellv (p := ⟨g, 0, none⟩) (EP.out w3 (H12.out w3 HB3.out)) (fun e => by have e2 : g = g1 := e; have := HGG.out.1; omega); have c9 := (HCT.out w3 HB3.out).kp hW (fun e => by have := HG12.out.2; omega); have e8 := c9.at_ 8 _ rfl; have b9 := (H12.out w3 HB3.out); have z1 := hW.cellv (p := ⟨nb, noff + q' * 7 + 1, none⟩) ((b9.cell hnb).trans HZ.out.1) (fun e => by have e2 : nb = g1 := e; have := HGG.out.2; omega); have z9 := hW.cellv (p := ⟨bk2, off2 + p * 11 + 4, none⟩) ((b9.cell hbk2).trans HR2.out) (fun e => by have e2 : bk2 = g1 := e; have := HGG.out.2; omega); go_simp; try (first | (with_reducible rfl) | omega)) ((Kp.refl (fun j => j = g1) w3).drewN _) ?_
   try go_simp
   refine teH 7 (.pointer (some ⟨nb, noff + q' * 7, none⟩)) rfl (by intro W hW; go_simp; try (first | (with_reducible rfl) | omega)) ((Kp.refl (fun j => j = g1) w3).drewN _) ?_
   try go_simp
   refine teH 8 (.pointer (some ⟨nb, noff + q' * 7 + 1, none⟩)) rfl (by intro W hW; go_simp; try (first | (with_reducible rfl) | omega)) ((Kp.refl (fun j => j = g1) w3).drewN _) ?_
   try go_simp
   refine teH 9 (.int .i64 (p : Int)) rfl (by intro W hW; have q9 := hW.cellv (p := ⟨g, 0, none⟩) (EP.out w3 (H12.out w3 HB3.out)) (fun e => by have e2 : g = g1 := e; have := HGG.out.1; omega); have c9 := (HCT.out w3 HB3.out).kp hW (fun e => by have := HG12.out.2; omega); have e8 := c9.at_ 8 _ rfl; have b9 := (H12.out w3 HB3.out); have z1 := hW.cellv (p := ⟨nb, noff + q' * 7 + 1, none⟩) ((b9.cell hnb).trans HZ.out.1) (fun e => by have e2 : nb = g1 := e; have := HGG.out.2; omega); have z9 := hW.cellv (p := ⟨bk2, off2 + p * 11 + 4, none⟩) ((b9.cell hbk2).trans HR2.out) (fun e => by have e2 : bk2 = g1 := e; have := HGG.out.2; omega); go_simp; try (first | (with_reducible rfl) | omega)) ((Kp.refl (fun j => j = g1) w3).drewN _) ?_
   try go_simp
   refine teH 10 (.pointer (some ⟨bk2, off2 + p * 11, none⟩)) rfl (by intro W hW; go_simp; try (first | (with_reducible rfl) | omega)) ((Kp.refl (fun j => j = g1) w3).drewN _) ?_
   try go_simp
   refine teH 11 (.pointer (some ⟨bk2, off2 + p * 11 + 4, none⟩)) rfl (by intro W hW; go_simp; try (first | (with_reducible rfl) | omega)) ((Kp.refl (fun j => j = g1) w3).drewN _) ?_
   try go_simp
   refine teH 12 (.slice B2 m2 d2) rfl (by intro W hW; have q9 := hW.cellv (p := ⟨g, 0, none⟩) (EP.out w3 (H12.out w3 HB3.out)) (fun e => by have e2 : g = g1 := e; have := HGG.out.1; omega); have c9 := (HCT.out w3 HB3.out).kp hW (fun e => by have := HG12.out.2; omega); have e8 := c9.at_ 8 _ rfl; have b9 := (H12.out w3 HB3.out); have z1 := hW.cellv (p := ⟨nb, noff + q' * 7 + 1, none⟩) ((b9.cell hnb).trans HZ.out.1) (fun e => by have e2 : nb = g1 := e; have := HGG.out.2; omega); have z9 := hW.cellv (p := ⟨bk2, off2 + p * 11 + 4, none⟩) ((b9.cell hbk2).trans HR2.out) (fun e => by have e2 : bk2 = g1 := e; have := HGG.out.2; omega); go_simp; try (first | (with_reducible rfl) | omega)) ((Kp.refl (fun j => j = g1) w3).drewN _) ?_
   try go_simp
   refine teH 13 (.int .i64 (m2 : Int)) rfl (by intro W hW; go_simp; try (first | (with_reducible rfl) | omega)) ((Kp.refl (fun j => j = g1) w3).drewN _) ?_
   try go_simp
   refine teH 14 (.int .i64 (IntKind.i64.wrap (fr + (m2 : Int)))) rfl (by intro W hW; go_simp; try (first | (with_reducible rfl) | omega)) ((Kp.refl (fun j => j = g1) w3).drewN _) ?_
   try go_simp
   refine wpAnyH_one (i := 15) (by kernel_rfl) rfl (fun K hK => ?_)
   go_simp
   try rw [wr64]
   refine (cR.out _).mono ?_
   rintro e w4 ⟨rfl, hb4⟩
   have hS4 : Kp (fun j => j = g1) w3 w4 := Kp.ofBelow ((Kp.refl (fun j => j = g1) w3).drewN _) hb4
   have HB4 : Hid (Below w2.heap.size w2 w4) := Lib.hid (HB3.out.trans ((below_of_drewN hb4).mono HB3.out.size))
   clear hb4
   go_simp
   refine hK _ _ ⟨hS4, ?_⟩; clear hK K
   try go_simp
   have v0 := (HC2.out w4 HB4.out).at_ 0 _ rfl
   have v1 := (HC2.out w4 HB4.out).at_ 1 _ rfl
   have v2 := (HC2.out w4 HB4.out).at_ 2 _ rfl
   have v3 := (HC2.out w4 HB4.out).at_ 3 _ rfl
   have f0 := (HC2.out w4 HB4.out).fz 0 (by simp)
   have f1 := (HC2.out w4 HB4.out).fz 1 (by simp)
   have f2 := (HC2.out w4 HB4.out).fz 2 (by simp)
   have f3 := (HC2.out w4 HB4.out).fz 3 (by simp)
   refine wpAnyH_one (i := 16) (by kernel_rfl) rfl (fun K hK => ?_)
   go_simp
   refine hK _ _ ⟨((((hS4.setCell (p := ⟨g1, 0, none⟩) (fun _ => rfl) _).setCell (p := ⟨g1, 1, none⟩) (fun _ => rfl) _).setCell (p := ⟨g1, 2, none⟩) (fun _ => rfl) _).setCell (p := ⟨g1, 3, none⟩) (fun _ => rfl) _), ?_⟩; clear hK K
   refine wpAnyH_done (by kernel_rfl) ?_ _
   try go_simp
   go_wp2_with fail
   obtain ⟨wx, hwx⟩ : ∃ X, (World.setCell (World.setCell (World.setCell (World.setCell w4 ⟨g1, 0, none⟩ (.int .u64 (s.a0 : Int))) ⟨g1, 1, none⟩ (.int .u64 (s.a1 : Int))) ⟨g1, 2, none⟩ (.int .u64 (s.a2 : Int))) ⟨g1, 3, none⟩ (.int .u64 (s.a3 : Int))) = X := ⟨_, rfl⟩
   have hcx : Cells wx g1 [.int .u64 (s.a0 : Int), .int .u64 (s.a1 : Int), .int .u64 (s.a2 : Int), .int .u64 (s.a3 : Int)] := by rw [← hwx]; exact (Cells.put (Cells.put (Cells.put (Cells.put (HC2.out w4 HB4.out) 0 (by simp) (.int .u64 (s.a0 : Int))) 1 (by simp) (.int .u64 (s.a1 : Int))) 2 (by simp) (.int .u64 (s.a2 : Int))) 3 (by simp) (.int .u64 (s.a3 : Int)))
   have hbx : Below w.heap.size w wx := by rw [← hwx]; exact (Below.setCell (Below.setCell (Below.setCell (Below.setCell (HB12.out w4 HB4.out) (p := ⟨g1, 0, none⟩) HLOW.out (.int .u64 (s.a0 : Int))) (p := ⟨g1, 1, none⟩) HLOW.out (.int .u64 (s.a1 : Int))) (p := ⟨g1, 2, none⟩) HLOW.out (.int .u64 (s.a2 : Int))) (p := ⟨g1, 3, none⟩) HLOW.out (.int .u64 (s.a3 : Int)))
   have rz0 := hcx.at_ 0 _ rfl
   have rz1 := hcx.at_ 1 _ rfl
   have rz2 := hcx.at_ 2 _ rfl
   have rz3 := hcx.at_ 3 _ rfl
   try rw [hwx]
   refine bodyPost_ret (v := aggW s) (by simp [results, Tryz.results156, go_sem, rz0, rz1, rz2, rz3]) rfl ⟨by first | rfl | (rw [HE2.out]; done) | (rw [HE2.out]; rfl), hbx⟩
end Go.Proofs.YtobmjnmcjddhcaaGreat
