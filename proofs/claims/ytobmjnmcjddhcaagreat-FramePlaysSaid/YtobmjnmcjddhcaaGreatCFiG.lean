import Derived.Test.YtobmjnmcjddhcaaGreatCTk
import Derived.Test.YtobmjnmcjddhcaaGreatCFiF
import Derived.Test.YtobmjnmcjddhcaaGreatCFiB
set_option linter.unusedSimpArgs false
set_option linter.unusedVariables false
set_option maxRecDepth 100000
set_option maxHeartbeats 32000000
namespace Go.Proofs.YtobmjnmcjddhcaaGreat
open Go.RowKit
def orsM (fs : List DFunc) (x : DFunc) (s : W4) (l : List Int) : W4 := l.foldl (fun s u => orW s (resM22 fs x u)) s
theorem orsM_ok (fs : List DFunc) (x : DFunc) (l : List Int) : ∀ {s : W4}, s.Ok → (orsM fs x s l).Ok := by
 induction l with
 | nil => exact fun h => h
 | cons u l ih => exact fun h => ih (orW_ok h (resM22_ok fs x u))
theorem orsM_snoc (fs : List DFunc) (x : DFunc) (s : W4) (l : List Int) (k : Nat) (u : Int) (h : l[k]? = some u) : orsM fs x s (l.take (k + 1)) = orW (orsM fs x s (l.take k)) (resM22 fs x u) := by
 unfold orsM
 rw [← take_snoc' l k u h, List.foldl_append]
 rfl
def heldM (fs : List DFunc) (x : DFunc) (k : Nat) : W4 := if raisesM (codeAt x k).op = true then orsM fs x (resM22 fs x 0) (upM x.nodes (x.nodes.length + 1) (ndM x k)) else zW
theorem heldM_ok (fs : List DFunc) (x : DFunc) (k : Nat) : (heldM fs x k).Ok := by
 unfold heldM
 split
 ·exact orsM_ok fs x _ (resM22_ok fs x 0)
 ·exact zW_ok
theorem rheld_any (FA : Option Addr) (fn fc : Nat) (fs : List DFunc) (f k : Nat) (x0 : DFunc) (w : World) (h : PgC w FA fn fc fs) (hi : f < fn) (hx0 : fs[f]? = some x0) (hk : k < x0.code.length) :
  Calls Tryz.prog 163 #[.agg #[.slice FA fn fc], .int .i64 (f : Int), .int .i64 (k : Int)] w (IsW (heldM fs x0 k) w) := by
 obtain ⟨w1, hw1⟩ : ∃ X, w.alloc (.cells #[.slice FA fn fc] 24) = X := ⟨_, rfl⟩
 obtain ⟨g, hg⟩ : ∃ g, w.heap.size = g := ⟨_, rfl⟩
 have hb1 : Below w.heap.size w w1 := by rw [← hw1]; exact bl_one _
 have hc1 : Cells w1 g [.slice FA fn fc] := by rw [← hw1, ← hg]; exact Cells.new w [.slice FA fn fc] _
 have EP : Hid (∀ W, Below w1.heap.size w1 W → W.cell? ⟨g, 0, none⟩ = some (.slice FA fn fc)) := Lib.hid fun W hW => (hc1.on hW).at_ 0 _ rfl
 have HP : Hid (∀ W, Below w1.heap.size w1 W → PgC W FA fn fc fs) := Lib.hid fun W hW => h.on (hb1.trans (hW.mono hb1.size))
 have HB1 := Lib.hid hb1
 have HBW : Hid (∀ W, Below w1.heap.size w1 W → Below w.heap.size w W) := Lib.hid fun W hW => hb1.trans (hW.mono hb1.size)
 have hfn := h.pg.le
 have hn0 : (fn : Int) ≤ 50 := by omega
 have p0 := EP.out w1 (Below.refl _ _)
 clear hb1 hc1
 obtain ⟨wb, hwb⟩ : ∃ X, w1.alloc (.cells #[.int .u64 0, .int .u64 0, .int .u64 0, .int .u64 0] 216) = X := ⟨_, rfl⟩
 obtain ⟨g1, hg1⟩ : ∃ X, w1.heap.size = X := ⟨_, rfl⟩
 have hbb : Below w1.heap.size w1 wb := by rw [← hwb]; exact bl_one _
 have hcb : Cells wb g1 [.int .u64 0, .int .u64 0, .int .u64 0, .int .u64 0] := by rw [← hwb, ← hg1]; exact Cells.new w1 [.int .u64 0, .int .u64 0, .int .u64 0, .int .u64 0] _
 have hlow : w.heap.size ≤ g1 := by have := HB1.out.size; omega
 obtain ⟨bk, off, s, b, A0, n0, c0, A1, n1, c1, A2, n2, c2, A3, n3, c3, A4, n4, c4, A5, n5, c5, A6, n6, c6, A7, n7, c7, A8, n8, c8, x, rfl, hbk, hx, hcf0, hfw0, hcan⟩ := (HP.out w1 (Below.refl _ _)).get hi
 have hfw := (hfw0.keep hbb).more hbb.size
 obtain rfl : x0 = x := by rw [hx0] at hx; injection hx
 have hk4 : k < n4 := by have := hfw.r4.1; omega
 obtain ⟨bb, cof, yo, ya, rfl, hib, hca, hcd, i0, i1⟩ := code_get hfw.r4 hk4
 have HGG : Hid (g < g1 ∧ w1.heap.size = g1) := Lib.hid ⟨by rw [← hg1]; exact World.block_lt_of_cell? _ _ p0, hg1⟩
 have y0 := (hbb.cell hbk).trans (hcf0 0 _ rfl)
 have y1 := (hbb.cell hbk).trans (hcf0 1 _ rfl)
 have y2 := (hbb.cell hbk).trans (hcf0 2 _ rfl)
 have y3 := (hbb.cell hbk).trans (hcf0 3 _ rfl)
 have y4 := (hbb.cell hbk).trans (hcf0 4 _ rfl)
 have y5 := (hbb.cell hbk).trans (hcf0 5 _ rfl)
 have y6 := (hbb.cell hbk).trans (hcf0 6 _ rfl)
 have y7 := (hbb.cell hbk).trans (hcf0 7 _ rfl)
 have y8 := (hbb.cell hbk).trans (hcf0 8 _ rfl)
 have y9 := (hbb.cell hbk).trans (hcf0 9 _ rfl)
 have y10 := (hbb.cell hbk).trans (hcf0 10 _ rfl)
 simp only [Nat.add_zero] at y0
 have HN6 : Hid (x0.nodes.length = n6) := Lib.hid hfw.r6.1
 have HE : Hid (heldM fs x0 k = if raisesM yo = true then orsM fs x0 (resM22 fs x0 0) (upM x0.nodes (n6 + 1) (ndM x0 k)) else zW) := Lib.hid (by unfold heldM; rw [hca, HN6.out])
 obtain ⟨s4, s5, s6, s7, s8, s0⟩ := hfw.sm
 have hf0 : (0 : Int) ≤ (f : Int) := by omega
 have hf1 : (f : Int) < (fn : Int) := by omega
 have hk0 : (0 : Int) ≤ (k : Int) := by omega
 have hk1 : (k : Int) ≤ 150 := by omega
 have hkn : (k : Int) < (n4 : Int) := by omega
 have HFW := Lib.hid hfw
 have HBB := Lib.hid hbb
 have HLOW := Lib.hid hlow
 have pb0 := (hbb.cell (p := ⟨g, 0, none⟩) (World.block_lt_of_cell? _ _ p0)).trans p0
 have cQ : Hid (∀ W, Below w1.heap.size w1 W → ∀ nd : Int, Calls Tryz.prog 156 #[.agg #[.slice (some ⟨bk, off, none⟩) fn fc], .int .i64 (f : Int), .int .i64 nd] W (IsW (resM22 fs x0 nd) W)) := Lib.hid fun W hW nd => rresults_any _ fn fc fs f nd x0 W (HP.out W hW) hi hx0
 have HIB : Hid (bb < wb.heap.size ∧ wb.cell? ⟨bb, cof + k * 2, none⟩ = some (.int .i64 yo)) := Lib.hid ⟨hib, i0⟩
 have t0 : decide ((k : Int) < 0) = false := by rw [decide_eq_false_iff_not]; omega
 have t1 : decide ((k : Int) ≥ (n4 : Int)) = false := by rw [decide_eq_false_iff_not]; omega
 have t1b : decide (n4 ≤ k) = false := by rw [decide_eq_false_iff_not]; omega
 clear h hfw hfw0 hcan hcf0 hx hx0 hbb hlow hca hcd hib i0 i1
 go_enter Tryz.func163, Tryz.ntmps163
 go_upto_region 2 with fail
 clear y0 y1 y2 y3 y4 y5 y6 y7 y8 y9 y10 p0 pb0
 obtain ⟨w2, hw2⟩ : ∃ X, wb.alloc (.cells #[.string s, .bool b, .slice A0 n0 c0, .slice A1 n1 c1, .slice A2 n2 c2, .slice A3 n3 c3, .slice (some ⟨bb, cof, none⟩) n4 c4, .slice A5 n5 c5, .slice A6 n6 c6, .slice A7 n7 c7, .slice A8 n8 c8] 38) = X := ⟨_, rfl⟩
 obtain ⟨g2, hg2⟩ : ∃ X, wb.heap.size = X := ⟨_, rfl⟩
 have hb2 : Below wb.heap.size wb w2 := by rw [← hw2]; exact bl_one _
 have hc2 : Cells w2 g2 [.string s, .bool b, .slice A0 n0 c0, .slice A1 n1 c1, .slice A2 n2 c2, .slice A3 n3 c3, .slice (some ⟨bb, cof, none⟩) n4 c4, .slice A5 n5 c5, .slice A6 n6 c6, .slice A7 n7 c7, .slice A8 n8 c8] := by rw [← hw2, ← hg2]; exact Cells.new wb [.string s, .bool b, .slice A0 n0 c0, .slice A1 n1 c1, .slice A2 n2 c2, .slice A3 n3 c3, .slice (some ⟨bb, cof, none⟩) n4 c4, .slice A5 n5 c5, .slice A6 n6 c6, .slice A7 n7 c7, .slice A8 n8 c8] _
 rw [hw2, hg2]
 have hb12 : Below w1.heap.size w1 w2 := HBB.out.trans (hb2.mono HBB.out.size)
 have HCT : Hid (∀ W, Below w2.heap.size w2 W → Cells W g2 [.string s, .bool b, .slice A0 n0 c0, .slice A1 n1 c1, .slice A2 n2 c2, .slice A3 n3 c3, .slice (some ⟨bb, cof, none⟩) n4 c4, .slice A5 n5 c5, .slice A6 n6 c6, .slice A7 n7 c7, .slice A8 n8 c8]) := Lib.hid fun W hW => hc2.on hW
 have HC2 : Hid (∀ W, Below w2.heap.size w2 W → Cells W g1 [.int .u64 0, .int .u64 0, .int .u64 0, .int .u64 0]) := Lib.hid fun W hW => (hcb.on hb2).on hW
 have H12 : Hid (∀ W, Below w2.heap.size w2 W → Below w1.heap.size w1 W) := Lib.hid fun W hW => hb12.trans (hW.mono hb12.size)
 have HB12 : Hid (∀ W, Below w2.heap.size w2 W → Below w.heap.size w W) := Lib.hid fun W hW => HBW.out W (hb12.trans (hW.mono hb12.size))
 have HF2 : Hid (∀ W, Below w2.heap.size w2 W → FnW W W.heap.size s b A0 n0 c0 A1 n1 c1 A2 n2 c2 A3 n3 c3 (some ⟨bb, cof, none⟩) n4 c4 A5 n5 c5 A6 n6 c6 A7 n7 c7 A8 n8 c8 x0) := Lib.hid fun W hW => (HFW.out.keep (hb2.trans (hW.mono hb2.size))).more (hb2.trans (hW.mono hb2.size)).size
 have HG12 : Hid (g1 < w2.heap.size ∧ g1 < g2 ∧ g2 < w2.heap.size) := Lib.hid ⟨by have := hcb.lt; have := hb2.size; omega, by rw [← hg2]; exact hcb.lt, hc2.lt⟩
 have i0 := (hb2.cell (p := ⟨bb, cof + k * 2, none⟩) HIB.out.1).trans HIB.out.2
 have e0 := hc2.at_ 0 _ rfl
 have e1 := hc2.at_ 1 _ rfl
 have e2 := hc2.at_ 2 _ rfl
 have e3 := hc2.at_ 3 _ rfl
 have e4 := hc2.at_ 4 _ rfl
 have e5 := hc2.at_ 5 _ rfl
 have e6 := hc2.at_ 6 _ rfl
 have e7 := hc2.at_ 7 _ rfl
 have e8 := hc2.at_ 8 _ rfl
 have e9 := hc2.at_ 9 _ rfl
 have e10 := hc2.at_ 10 _ rfl
 have cR := Lib.hid (rraises_any yo w2)
 clear hw2 hg2 hb2 hc2 hcb hb12 hw1 hg hwb hg1 HFW HBB
 go_wp2_with fail
 refine cR.out.mono ?_
 rintro e w2' ⟨rfl, rfl⟩
 obtain ⟨r, hr⟩ : ∃ r, raisesM yo = r := ⟨_, rfl⟩
 rw [hr] at HE
 rw [hr]
 clear hr cR
 cases r with
 | false =>
  have HE2 : Hid (heldM fs x0 k = zW) := Lib.hid (by rw [HE.out, if_neg (by decide)])
  have v0 := (HC2.out w2 (Below.refl _ _)).at_ 0 _ rfl
  have v1 := (HC2.out w2 (Below.refl _ _)).at_ 1 _ rfl
  have v2 := (HC2.out w2 (Below.refl _ _)).at_ 2 _ rfl
  have v3 := (HC2.out w2 (Below.refl _ _)).at_ 3 _ rfl
  have f0 := (HC2.out w2 (Below.refl _ _)).fz 0 (by simp)
  have f1 := (HC2.out w2 (Below.refl _ _)).fz 1 (by simp)
  have f2 := (HC2.out w2 (Below.refl _ _)).fz 2 (by simp)
  have f3 := (HC2.out w2 (Below.refl _ _)).fz 3 (by simp)
  go_wp2_with fail
  obtain ⟨wx, hwx⟩ : ∃ X, (World.setCell (World.setCell (World.setCell (World.setCell w2 ⟨g1, 0, none⟩ (.int .u64 0)) ⟨g1, 1, none⟩ (.int .u64 0)) ⟨g1, 2, none⟩ (.int .u64 0)) ⟨g1, 3, none⟩ (.int .u64 0)) = X := ⟨_, rfl⟩
  have hcx : Cells wx g1 [.int .u64 0, .int .u64 0, .int .u64 0, .int .u64 0] := by rw [← hwx]; exact (Cells.put (Cells.put (Cells.put (Cells.put (HC2.out w2 (Below.refl _ _)) 0 (by simp) (.int .u64 0)) 1 (by simp) (.int .u64 0)) 2 (by simp) (.int .u64 0)) 3 (by simp) (.int .u64 0))
  have hbx : Below w.heap.size w wx := by rw [← hwx]; exact (Below.setCell (Below.setCell (Below.setCell (Below.setCell (HB12.out w2 (Below.refl _ _)) (p := ⟨g1, 0, none⟩) HLOW.out (.int .u64 0)) (p := ⟨g1, 1, none⟩) HLOW.out (.int .u64 0)) (p := ⟨g1, 2, none⟩) HLOW.out (.int .u64 0)) (p := ⟨g1, 3, none⟩) HLOW.out (.int .u64 0))
  have rz0 := hcx.at_ 0 _ rfl
  have rz1 := hcx.at_ 1 _ rfl
  have rz2 := hcx.at_ 2 _ rfl
  have rz3 := hcx.at_ 3 _ rfl
  try rw [hwx]
  refine bodyPost_ret (v := aggU 0 0 0 0) (by simp [results, Tryz.results163, go_sem, rz0, rz1, rz2, rz3]) rfl ⟨by first | rfl | (rw [HE2.out]; done) | (rw [HE2.out]; rfl), hbx⟩
 | true =>
  obtain ⟨up, hup⟩ : ∃ l, upM x0.nodes (n6 + 1) (ndM x0 k) = l := ⟨_, rfl⟩
  have HUL : Hid (up.length ≤ 21) := Lib.hid (by rw [← hup]; exact Nat.le_trans (upM_len _ _ _) (by omega))
  obtain ⟨nd, hnd⟩ : ∃ v, ndM x0 k = v := ⟨_, rfl⟩
  have cN : Hid (∀ W, Below w2.heap.size w2 W → Calls Tryz.prog 149 #[.agg #[.string s, .bool b, .slice A0 n0 c0, .slice A1 n1 c1, .slice A2 n2 c2, .slice A3 n3 c3, .slice (some ⟨bb, cof, none⟩) n4 c4, .slice A5 n5 c5, .slice A6 n6 c6, .slice A7 n7 c7, .slice A8 n8 c8], .int .i64 (k : Int)] W fun e w' => e = .returned (.int .i64 nd) ∧ Below W.heap.size W w') := Lib.hid fun W hW => by rw [← hnd]; exact rnode_any s b A0 n0 c0 A1 n1 c1 A2 n2 c2 A3 n3 c3 (some ⟨bb, cof, none⟩) n4 c4 A5 n5 c5 A6 n6 c6 A7 n7 c7 A8 n8 c8 x0 k W (HF2.out W hW) (by omega)
  have cU : Hid (∀ W, Below w2.heap.size w2 W → Calls Tryz.prog 172 #[.slice A6 n6 c6, .int .i64 nd] W (IsRow up W)) := Lib.hid fun W hW => by rw [← hup, hnd]; exact rup_any A6 n6 c6 x0.nodes nd W (HF2.out W hW).r6 (by omega)
  rw [hup] at HE
  have EQ : Hid (∀ W, Below w2.heap.size w2 W → W.cell? ⟨g2, 0, none⟩ = some (.string s) ∧ W.cell? ⟨g2, 1, none⟩ = some (.bool b) ∧ W.cell? ⟨g2, 2, none⟩ = some (.slice A0 n0 c0) ∧ W.cell? ⟨g2, 3, none⟩ = some (.slice A1 n1 c1) ∧ W.cell? ⟨g2, 4, none⟩ = some (.slice A2 n2 c2) ∧ W.cell? ⟨g2, 5, none⟩ = some (.slice A3 n3 c3) ∧ W.cell? ⟨g2, 6, none⟩ = some (.slice (some ⟨bb, cof, none⟩) n4 c4) ∧ W.cell? ⟨g2, 7, none⟩ = some (.slice A5 n5 c5) ∧ W.cell? ⟨g2, 8, none⟩ = some (.slice A6 n6 c6) ∧ W.cell? ⟨g2, 9, none⟩ = some (.slice A7 n7 c7) ∧ W.cell? ⟨g2, 10, none⟩ = some (.slice A8 n8 c8)) := Lib.hid fun W hW => ⟨(HCT.out W hW).at_ 0 _ rfl, (HCT.out W hW).at_ 1 _ rfl, (HCT.out W hW).at_ 2 _ rfl, (HCT.out W hW).at_ 3 _ rfl, (HCT.out W hW).at_ 4 _ rfl, (HCT.out W hW).at_ 5 _ rfl, (HCT.out W hW).at_ 6 _ rfl, (HCT.out W hW).at_ 7 _ rfl, (HCT.out W hW).at_ 8 _ rfl, (HCT.out W hW).at_ 9 _ rfl, (HCT.out W hW).at_ 10 _ rfl⟩
  obtain ⟨st, hs⟩ : ∃ st, resM22 fs x0 0 = st := ⟨_, rfl⟩
  have HSO : Hid st.Ok := Lib.hid (by rw [← hs]; exact resM22_ok _ _ _)
  have cQ0 := Lib.hid (cQ.out w2 (H12.out w2 (Below.refl _ _)) 0)
  rw [hs] at cQ0 HE
  have HE2 : Hid (heldM fs x0 k = orsM fs x0 st up) := Lib.hid (by rw [HE.out, if_pos rfl])
  clear hup hnd hs HE
  have q0 := EP.out w2 (H12.out w2 (Below.refl _ _))
  go_wp2_with fail
  refine cQ0.out.mono ?_
  rintro e w3 ⟨rfl, hb3⟩
  clear cQ0 i0 q0 e0 e1 e2 e3 e4 e5 e6 e7 e8 e9 e10
  go_upto_region 5 with fail
  obtain ⟨w4, hw4⟩ : ∃ X, w3.alloc (.cells #[.int .u64 (st.a0 : Int), .int .u64 (st.a1 : Int), .int .u64 (st.a2 : Int), .int .u64 (st.a3 : Int)] 216) = X := ⟨_, rfl⟩
  obtain ⟨g3, hg3⟩ : ∃ X, w3.heap.size = X := ⟨_, rfl⟩
  have hb4 : Below w3.heap.size w3 w4 := by rw [← hw4]; exact bl_one _
  have hc4 : Cells w4 g3 (cW st) := by rw [← hw4, ← hg3]; exact Cells.new w3 (cW st) _
  rw [hw4, hg3]
  have HB4 : Hid (Below w2.heap.size w2 w4) := Lib.hid (hb3.trans (hb4.mono hb3.size))
  have HG3 : Hid (g2 < g3 ∧ g1 < g3 ∧ g3 < w4.heap.size ∧ w2.heap.size ≤ g3) := Lib.hid ⟨by have := HG12.out; have := hb3.size; omega, by have := HG12.out; have := hb3.size; omega, hc4.lt, by have := hb3.size; omega⟩
  have HC4 : Hid (∀ W, Below w4.heap.size w4 W → Cells W g3 (cW st)) := Lib.hid fun W hW => hc4.on hW
  clear hw4 hg3 hb4 hc4 hb3
  refine wp_region_held (S := fun W => Below w4.heap.size w4 W) (by kernel_rfl) ?_
  change wpAnyH _ _ _ _ _ _ _ _ (World.drew _)
  have hS0 : Below w4.heap.size w4 w4.drew := (Below.refl _ _).drew
  refine teH 0 (.pointer (some ⟨g2, 8, none⟩)) rfl (by intro W hW; go_simp; try (first | (with_reducible rfl) | omega)) hS0 ?_
  refine teH 2 (.agg #[.string s, .bool b, .slice A0 n0 c0, .slice A1 n1 c1, .slice A2 n2 c2, .slice A3 n3 c3, .slice (some ⟨bb, cof, none⟩) n4 c4, .slice A5 n5 c5, .slice A6 n6 c6, .slice A7 n7 c7, .slice A8 n8 c8]) rfl (by intro W hW; obtain ⟨e0, e1, e2, e3, e4, e5, e6, e7, e8, e9, e10⟩ := EQ.out W (HB4.out.trans (hW.mono HB4.out.size)); go_simp; try (first | (with_reducible rfl) | omega)) hS0 ?_
  refine teH 3 (.int .i64 (k : Int)) rfl (by intro W hW; go_simp; try (first | (with_reducible rfl) | omega)) hS0 ?_
  try go_simp
  refine teH 1 (.slice A6 n6 c6) rfl (by intro W hW; obtain ⟨e0, e1, e2, e3, e4, e5, e6, e7, e8, e9, e10⟩ := EQ.out W (HB4.out.trans (hW.mono HB4.out.size)); go_simp; try (first | (with_reducible rfl) | omega)) hS0 ?_
  try go_simp
  refine wpAnyH_one (i := 4) (by kernel_rfl) rfl (fun K hK => ?_)
  go_simp
  refine (cN.out _ (HB4.out.trans (hS0.mono HB4.out.size))).mono ?_
  rintro e v1 ⟨rfl, hb2⟩
  have hS1 : Below w4.heap.size w4 v1 := hS0.trans (hb2.mono hS0.size)
  clear hb2
  go_simp
  refine hK _ _ ⟨hS1, ?_⟩; clear hK K
  try go_simp
  refine wpAnyH_one (i := 5) (by kernel_rfl) rfl (fun K hK => ?_)
  go_simp
  refine (cU.out _ (HB4.out.trans (hS1.mono HB4.out.size))).mono ?_
  rintro e v2 ⟨U, m, cu, rfl, hou, hb2⟩
  have hS2 : Below w4.heap.size w4 v2 := hS1.trans (hb2.mono hS1.size)
  have HSU := Lib.hid (SlI.own hou (by have := row_len hou; have := HUL.out; omega))
  have HML : Hid (m = up.length) := Lib.hid (row_len hou).symm
  have HUB := Lib.hid hou
  have HV1 := Lib.hid hS1
  clear hb2 hou
  go_simp
  refine hK _ _ ⟨hS2, ?_⟩; clear hK K
  try go_simp
  refine wpAnyH_one (i := 6) (by kernel_rfl) rfl (fun K hK => ?_)
  go_simp
  refine hK _ _ ⟨hS2, ?_⟩; clear hK K
  try go_simp
  refine wpAnyH_done (by kernel_rfl) ?_ _
  try go_simp
  have HS2 := Lib.hid hS2
  have hm21 : m ≤ 21 := by have := HUL.out; have := HML.out; omega
  have hm0 : (m : Int) ≤ 21 := by omega
  clear hS0 hS1 hS2 cN cU
  have HS22 : Hid (Below w2.heap.size w2 v2) := Lib.hid (HB4.out.trans (HS2.out.mono HB4.out.size))
  have HC5 := Lib.hid (HC4.out v2 HS2.out)
  go_wp2_with fail
  go_loopw [10] (fun iv wr => ∃ (j : Nat), iv = .int .i64 (j : Int) ∧ j ≤ m ∧ Hid (Cells wr g3 (cW (orsM fs x0 st (up.take j))) ∧ Kp (fun i => i = g3) v2 wr)) (fun iv _ => m - (intOf iv).toNat)
  case atStart => exact ⟨0, rfl, Nat.zero_le _, Lib.hid ⟨HC5.out, Kp.refl _ _⟩⟩
  case round =>
   obtain ⟨j, rfl, hj, HK⟩ := hrel
   have hj0 : (0 : Int) ≤ (j : Int) := by omega
   have hj1 : (j : Int) ≤ 21 := by omega
   obtain ⟨sj, hsj⟩ : ∃ s, orsM fs x0 st (up.take j) = s := ⟨_, rfl⟩
   have HSJ : Hid sj.Ok := Lib.hid (by rw [← hsj]; exact orsM_ok _ _ _ HSO.out)
   have HSE := Lib.hid hsj
   rw [hsj] at HK
   have HCR := Lib.hid HK.out.1
   have HKR := Lib.hid HK.out.2
   have HWr : Hid (Below w2.heap.size w2 wr) := Lib.hid ((Kp.ofBelow (Kp.refl (fun i => i = g3) w2) HS22.out).trans HKR.out |>.below (Nat.le_refl _) fun j h => by have := HG3.out; omega)
   clear HK hsj
   by_cases hlt : j < m
   ·have hjn : (j : Int) < (m : Int) := by omega
    obtain ⟨ub, uo, u, rfl, hub, hu, uc0⟩ := SlR.cell1 (f := Value.int .i64) HSU.out (i := j) hlt
    have hube : Hid (¬ ub = g3) := Lib.hid (by have := (HUB.out.lt ub rfl).1; have := HV1.out.size; have := HG3.out; omega)
    have uc := HKR.out.cellv (p := ⟨ub, uo + j, none⟩) uc0 hube.out
    obtain ⟨t, ht⟩ : ∃ t, resM22 fs x0 u = t := ⟨_, rfl⟩
    have HTO : Hid t.Ok := Lib.hid (by rw [← ht]; exact resM22_ok _ _ _)
    have cQu : Hid (∀ W, Below w2.heap.size w2 W → Calls Tryz.prog 156 #[.agg #[.slice (some ⟨bk, off, none⟩) fn fc], .int .i64 (f : Int), .int .i64 u] W (IsW t W)) := Lib.hid fun W hW => by rw [← ht]; exact cQ.out W (H12.out W hW) u
    obtain ⟨r, hr⟩ : ∃ r, orW sj t = r := ⟨_, rfl⟩
    have HRN : Hid (orsM fs x0 st (up.take (j + 1)) = r) := Lib.hid (by rw [orsM_snoc fs x0 st up j u hu, HSE.out, ht, hr])
    have cO : Hid (∀ W, Calls Tryz.prog 155 #[aggW sj, aggW t] W (IsW r W)) := Lib.hid fun W => by rw [← hr]; exact ror_any sj t HSJ.out HTO.out W
    have HUC := Lib.hid uc
    clear uc0 hr ht hu
    go_wp2_with fail
    refine wp_region_held (S := fun W => Kp (fun i => i = g3) wr W) (by kernel_rfl) ?_
    change wpAnyH _ _ _ _ _ _ _ _ (World.drew _)
    refine teH 1 (.agg #[.slice (some ⟨bk, off, none⟩) fn fc]) rfl (by intro W hW; have q9 := hW.cellv (p := ⟨g, 0, none⟩) (EP.out wr (H12.out wr HWr.out)) (fun e => by have e2 : g = g3 := e; have := HGG.out.1; have := HG3.out; omega); go_simp; try (first | (with_reducible rfl) | omega)) ((Kp.refl (fun i => i = g3) wr).drew) ?_
    refine teH 2 (.int .i64 (f : Int)) rfl (by intro W hW; go_simp; try (first | (with_reducible rfl) | omega)) ((Kp.refl (fun i => i = g3) wr).drew) ?_
    refine teH 3 (.slice (some ⟨ub, uo, none⟩) m cu) rfl (by intro W hW; go_simp; try (first | (with_reducible rfl) | omega)) ((Kp.refl (fun i => i = g3) wr).drew) ?_
    refine teH 4 (.int .i64 (j : Int)) rfl (by intro W hW; go_simp; try (first | (with_reducible rfl) | omega)) ((Kp.refl (fun i => i = g3) wr).drew) ?_
    try go_simp
    refine teH 5 (.pointer (some ⟨ub, uo + j, none⟩)) rfl (by intro W hW; go_simp; try (first | (with_reducible rfl) | omega)) ((Kp.refl (fun i => i = g3) wr).drew) ?_
    try go_simp
    refine teH 6 (.int .i64 u) rfl (by intro W hW; have u9 := hW.cellv (p := ⟨ub, uo + j, none⟩) HUC.out hube.out; go_simp; try (first | (with_reducible rfl) | omega)) ((Kp.refl (fun i => i = g3) wr).drew) ?_
    try go_simp
    have x0' := HCR.out.at_ 0 _ rfl
    have x1' := HCR.out.at_ 1 _ rfl
    have x2' := HCR.out.at_ 2 _ rfl
    have x3' := HCR.out.at_ 3 _ rfl
    refine wpAnyH_two (i := 0) (j := 7) (by kernel_rfl) rfl rfl (fun K hK => ?_) (fun K hK => ?_)
    ·go_simp
     refine hK _ _ ⟨((Kp.refl (fun i => i = g3) wr).drew), ?_⟩; clear hK K
     try go_simp
     refine wpAnyH_one (i := 7) (by kernel_rfl) rfl (fun K hK => ?_)
     go_simp
     refine (cQu.out _ (HWr.out.trans ((below_drewN' (Below.refl wr.heap.size wr) 1).mono HWr.out.size))).mono ?_
     rintro e v3 ⟨rfl, hb3⟩
     have hB3 : Below wr.heap.size wr v3 := below_drew_of hb3
     clear hb3
     go_simp
     refine hK _ _ ⟨(Kp.refl _ _).ofBelow hB3, ?_⟩; clear hK K
     try go_simp
     refine wpAnyH_one (i := 8) (by kernel_rfl) rfl (fun K hK => ?_)
     go_simp
     refine (cO.out _).mono ?_
     rintro e v4 ⟨rfl, hb4⟩
     have hB4 : Below wr.heap.size wr v4 := hB3.trans (hb4.mono hB3.size)
     have hS4 : Kp (fun i => i = g3) wr v4 := (Kp.refl _ _).ofBelow hB4
     have hc9 := HCR.out.on hB4
     have rz0 := hc9.at_ 0 _ rfl
     have rz1 := hc9.at_ 1 _ rfl
     have rz2 := hc9.at_ 2 _ rfl
     have rz3 := hc9.at_ 3 _ rfl
     have f0 := hc9.fz 0 (by simp [cW])
     have f1 := hc9.fz 1 (by simp [cW])
     have f2 := hc9.fz 2 (by simp [cW])
     have f3 := hc9.fz 3 (by simp [cW])
     have HC9 := Lib.hid hc9
     clear hc9 hb4 hB3
     go_simp
     refine hK _ _ ⟨hS4, ?_⟩; clear hK K
     try go_simp
     refine wpAnyH_one (i := 9) (by kernel_rfl) rfl (fun K hK => ?_)
     go_simp
     have hSX : Kp (fun i => i = g3) wr (set4 v4 g3 r) := ((((hS4.setCell (p := ⟨g3, 0, none⟩) (fun _ => rfl) _).setCell (p := ⟨g3, 1, none⟩) (fun _ => rfl) _).setCell (p := ⟨g3, 2, none⟩) (fun _ => rfl) _).setCell (p := ⟨g3, 3, none⟩) (fun _ => rfl) _)
     refine hK _ _ ⟨hSX, ?_⟩; clear hK K
     refine wpAnyH_done (by kernel_rfl) ?_ _
     try go_simp
     go_wp2_with fail
     go_roundw
     case rel => exact ⟨j + 1, by go_num, by omega, Lib.hid ⟨by rw [HRN.out]; exact cells_set4 HC9.out r, HKR.out.trans hSX⟩⟩
     case measure => simp [intOf]; omega
    ·go_simp
     refine (cQu.out _ (HWr.out.trans ((below_drewN' (Below.refl wr.heap.size wr) 1).mono HWr.out.size))).mono ?_
     rintro e v3 ⟨rfl, hb3⟩
     have hB3 : Below wr.heap.size wr v3 := below_drew_of hb3
     clear hb3
     go_simp
     refine hK _ _ ⟨(Kp.refl _ _).ofBelow hB3, ?_⟩; clear hK K
     try go_simp
     have hc8 := HCR.out.on hB3
     have x0' := hc8.at_ 0 _ rfl
     have x1' := hc8.at_ 1 _ rfl
     have x2' := hc8.at_ 2 _ rfl
     have x3' := hc8.at_ 3 _ rfl
     refine wpAnyH_one (i := 0) (by kernel_rfl) rfl (fun K hK => ?_)
     go_simp
     refine hK _ _ ⟨(Kp.refl _ _).ofBelow hB3, ?_⟩; clear hK K x0' x1' x2' x3' hc8
     try go_simp
     refine wpAnyH_one (i := 8) (by kernel_rfl) rfl (fun K hK => ?_)
     go_simp
     refine (cO.out _).mono ?_
     rintro e v4 ⟨rfl, hb4⟩
     have hB4 : Below wr.heap.size wr v4 := hB3.trans (hb4.mono hB3.size)
     have hS4 : Kp (fun i => i = g3) wr v4 := (Kp.refl _ _).ofBelow hB4
     have hc9 := HCR.out.on hB4
     have rz0 := hc9.at_ 0 _ rfl
     have rz1 := hc9.at_ 1 _ rfl
     have rz2 := hc9.at_ 2 _ rfl
     have rz3 := hc9.at_ 3 _ rfl
     have f0 := hc9.fz 0 (by simp [cW])
     have f1 := hc9.fz 1 (by simp [cW])
     have f2 := hc9.fz 2 (by simp [cW])
     have f3 := hc9.fz 3 (by simp [cW])
     have HC9 := Lib.hid hc9
     clear hc9 hb4 hB3
     go_simp
     refine hK _ _ ⟨hS4, ?_⟩; clear hK K
     try go_simp
     refine wpAnyH_one (i := 9) (by kernel_rfl) rfl (fun K hK => ?_)
     go_simp
     have hSX : Kp (fun i => i = g3) wr (set4 v4 g3 r) := ((((hS4.setCell (p := ⟨g3, 0, none⟩) (fun _ => rfl) _).setCell (p := ⟨g3, 1, none⟩) (fun _ => rfl) _).setCell (p := ⟨g3, 2, none⟩) (fun _ => rfl) _).setCell (p := ⟨g3, 3, none⟩) (fun _ => rfl) _)
     refine hK _ _ ⟨hSX, ?_⟩; clear hK K
     refine wpAnyH_done (by kernel_rfl) ?_ _
     try go_simp
     go_wp2_with fail
     go_roundw
     case rel => exact ⟨j + 1, by go_num, by omega, Lib.hid ⟨by rw [HRN.out]; exact cells_set4 HC9.out r, HKR.out.trans hSX⟩⟩
     case measure => simp [intOf]; omega
   ·obtain rfl : j = m := by omega
    have HE2 : Hid (heldM fs x0 k = sj) := Lib.hid (by rw [HE2.out, ← HSE.out, List.take_of_length_le (by have := HML.out; omega)])
    have x0' := HCR.out.at_ 0 _ rfl
    have x1' := HCR.out.at_ 1 _ rfl
    have x2' := HCR.out.at_ 2 _ rfl
    have x3' := HCR.out.at_ 3 _ rfl
    have v0 := (HC2.out wr HWr.out).at_ 0 _ rfl
    have v1 := (HC2.out wr HWr.out).at_ 1 _ rfl
    have v2 := (HC2.out wr HWr.out).at_ 2 _ rfl
    have v3 := (HC2.out wr HWr.out).at_ 3 _ rfl
    have f0 := (HC2.out wr HWr.out).fz 0 (by simp)
    have f1 := (HC2.out wr HWr.out).fz 1 (by simp)
    have f2 := (HC2.out wr HWr.out).fz 2 (by simp)
    have f3 := (HC2.out wr HWr.out).fz 3 (by simp)
    go_wp2_with fail
    obtain ⟨wx, hwx⟩ : ∃ X, (World.setCell (World.setCell (World.setCell (World.setCell wr ⟨g1, 0, none⟩ (.int .u64 (sj.a0 : Int))) ⟨g1, 1, none⟩ (.int .u64 (sj.a1 : Int))) ⟨g1, 2, none⟩ (.int .u64 (sj.a2 : Int))) ⟨g1, 3, none⟩ (.int .u64 (sj.a3 : Int))) = X := ⟨_, rfl⟩
    have hcx : Cells wx g1 [.int .u64 (sj.a0 : Int), .int .u64 (sj.a1 : Int), .int .u64 (sj.a2 : Int), .int .u64 (sj.a3 : Int)] := by rw [← hwx]; exact (Cells.put (Cells.put (Cells.put (Cells.put (HC2.out wr HWr.out) 0 (by simp) (.int .u64 (sj.a0 : Int))) 1 (by simp) (.int .u64 (sj.a1 : Int))) 2 (by simp) (.int .u64 (sj.a2 : Int))) 3 (by simp) (.int .u64 (sj.a3 : Int)))
    have hbx : Below w.heap.size w wx := by rw [← hwx]; exact (Below.setCell (Below.setCell (Below.setCell (Below.setCell (HB12.out wr HWr.out) (p := ⟨g1, 0, none⟩) HLOW.out (.int .u64 (sj.a0 : Int))) (p := ⟨g1, 1, none⟩) HLOW.out (.int .u64 (sj.a1 : Int))) (p := ⟨g1, 2, none⟩) HLOW.out (.int .u64 (sj.a2 : Int))) (p := ⟨g1, 3, none⟩) HLOW.out (.int .u64 (sj.a3 : Int)))
    have rz0 := hcx.at_ 0 _ rfl
    have rz1 := hcx.at_ 1 _ rfl
    have rz2 := hcx.at_ 2 _ rfl
    have rz3 := hcx.at_ 3 _ rfl
    try rw [hwx]
    refine bodyPost_ret (v := aggW sj) (by simp [results, Tryz.results163, go_sem, rz0, rz1, rz2, rz3]) rfl ⟨by first | rfl | (rw [HE2.out]; done) | (rw [HE2.out]; rfl), hbx⟩
end Go.Proofs.YtobmjnmcjddhcaaGreat
