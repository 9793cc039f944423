import Derived.Test.YtobmjnmcjddhcaaGreatCTk
import Derived.Test.YtobmjnmcjddhcaaGreatCFiM
import Derived.Test.YtobmjnmcjddhcaaGreatCFiI
import Derived.BigRegion
set_option linter.unusedSimpArgs false
set_option linter.unusedVariables false
set_option maxRecDepth 100000
set_option maxHeartbeats 64000000
namespace Go.Proofs.YtobmjnmcjddhcaaGreat
open Go.RowKit
theorem rreads_any (FA : Option Addr) (fn fc : Nat) (fs : List DFunc) (f k : Nat) (x0 : DFunc) (w : World) (h : PgC w FA fn fc fs) (hi : f < fn) (hx0 : fs[f]? = some x0) (hnb : 1 ≤ x0.nodes.length) (hk : k < x0.code.length) :
  Calls Tryz.prog 129 #[.agg #[.slice FA fn fc], .int .i64 (f : Int), .int .i64 (k : Int)] w (IsBool w) := by
 obtain ⟨w1, hw1⟩ : ∃ X, w.alloc (.cells #[.slice FA fn fc] 24) = X := ⟨_, rfl⟩
 obtain ⟨g, hg⟩ : ∃ g, w.heap.size = g := ⟨_, rfl⟩
 have hb1 : Below w.heap.size w w1 := by rw [← hw1]; exact bl_one _
 have hc1 : Cells w1 g [.slice FA fn fc] := by rw [← hw1, ← hg]; exact Cells.new w [.slice FA fn fc] _
 have EP : Hid (∀ W, Below w1.heap.size w1 W → W.cell? ⟨g, 0, none⟩ = some (.slice FA fn fc)) := Lib.hid fun W hW => (hc1.on hW).at_ 0 _ rfl
 have HP : Hid (∀ W, Below w1.heap.size w1 W → PgC W FA fn fc fs) := Lib.hid fun W hW => h.on (hb1.trans (hW.mono hb1.size))
 have HB1 := Lib.hid hb1
 have HBW : Hid (∀ W, Below w1.heap.size w1 W → Below w.heap.size w W) := Lib.hid fun W hW => hb1.trans (hW.mono hb1.size)
 have hfn := h.pg.le
 have hn0 : (fn : Int) ≤ 50 := by omega
 have p0 := EP.out w1 (Below.refl _ _)
 clear hb1 hc1
 have cRs : Hid (∀ W, Below w1.heap.size w1 W → ∀ nd : Int, Calls Tryz.prog 156 #[.agg #[.slice FA fn fc], .int .i64 (f : Int), .int .i64 nd] W (IsW (resM22 fs x0 nd) W)) := Lib.hid fun W hW nd => rresults_any _ fn fc fs f nd x0 W (HP.out W hW) hi hx0
 obtain ⟨bk, off, s, b, A0, n0, c0, A1, n1, c1, A2, n2, c2, A3, n3, c3, A4, n4, c4, A5, n5, c5, A6, n6, c6, A7, n7, c7, A8, n8, c8, x, rfl, hbk, hx, hcf, hfw, hcan⟩ := (HP.out w1 (Below.refl _ _)).get (i := f) hi
 have y0 := hcf 0 _ rfl
 have y1 := hcf 1 _ rfl
 have y2 := hcf 2 _ rfl
 have y3 := hcf 3 _ rfl
 have y4 := hcf 4 _ rfl
 have y5 := hcf 5 _ rfl
 have y6 := hcf 6 _ rfl
 have y7 := hcf 7 _ rfl
 have y8 := hcf 8 _ rfl
 have y9 := hcf 9 _ rfl
 have y10 := hcf 10 _ rfl
 simp only [Nat.add_zero] at y0
 obtain rfl : x0 = x := by rw [hx0] at hx; injection hx
 have l4 := hfw.r4.1
 have l6 := hfw.r6.1
 have l7 := hfw.r7.1
 have hk4 : k < n4 := by omega
 obtain ⟨hno, h74, hat⟩ : nodesOk x0.nodes ∧ n7 = n4 ∧ ∀ u ∈ x0.at_, 0 ≤ u ∧ u < (x0.nodes.length : Int) := by
  rcases hcan.tab with ⟨e, _⟩ | ⟨a, b, c, d⟩
  ·rw [e] at hnb; simp at hnb
  ·exact ⟨a, by omega, d⟩
 obtain ⟨nb, no, q0, z, rfl, hnb6, -, -, -, -, -⟩ := node_get hfw.r6 (a := 0) (by omega) (by omega)
 obtain ⟨cb, co, yo, ya, rfl, hcb, hca, hcd, u0, u1⟩ := code_get hfw.r4 hk4
 obtain ⟨ab, ao, v0, rfl, hab, hv0, av0⟩ := SlR.cell1 (f := Value.int .i64) hfw.r7 (i := k) (by omega)
 obtain ⟨hv1, hv2⟩ := hat v0 (List.mem_of_getElem? hv0)
 obtain ⟨q, rfl⟩ := Int.eq_ofNat_of_zero_le hv1
 have hq6 : q < n6 := by omega
 obtain ⟨s4, s5, s6, s7, s8, s0⟩ := hfw.sm
 have hf0 : (0 : Int) ≤ (f : Int) := by omega
 have hf1 : (f : Int) < (fn : Int) := by omega
 have hk0 : (0 : Int) ≤ (k : Int) := by omega
 have hk1 : (k : Int) ≤ 150 := by omega
 have hkn : (k : Int) < (n4 : Int) := by omega
 have hk7 : k < n7 := by omega
 have hk7i : (k : Int) < (n7 : Int) := by omega
 have HFW := Lib.hid hfw
 have HNO := Lib.hid hno
 have HU : Hid (w1.cell? ⟨cb, co + k * 2, none⟩ = some (.int .i64 yo) ∧ w1.cell? ⟨cb, co + k * 2 + 1, none⟩ = some (.int .i64 ya) ∧ w1.cell? ⟨ab, ao + k, none⟩ = some (.int .i64 (q : Int))) := Lib.hid ⟨u0, u1, av0⟩
 have HLT : Hid (cb < w1.heap.size ∧ nb < w1.heap.size ∧ ab < w1.heap.size ∧ g < w1.heap.size) := Lib.hid ⟨hcb, hnb6, hab, World.block_lt_of_cell? _ _ p0⟩
 have HR6 : Hid (∀ i : Nat, i < n6 → ∃ zp zn zl zf za zt zr : Int, nodeOk i ⟨zp, zn, zl, zf, za, zt, zr⟩ ∧ ∀ W, Below w1.heap.size w1 W → W.cell? ⟨nb, no + i * 7, none⟩ = some (.int .i64 zp) ∧ W.cell? ⟨nb, no + i * 7 + 1, none⟩ = some (.int .i64 zn) ∧ W.cell? ⟨nb, no + i * 7 + 2, none⟩ = some (.int .i64 zl) ∧ W.cell? ⟨nb, no + i * 7 + 3, none⟩ = some (.int .i64 zf) ∧ W.cell? ⟨nb, no + i * 7 + 4, none⟩ = some (.int .i64 za) ∧ W.cell? ⟨nb, no + i * 7 + 5, none⟩ = some (.int .i64 zt) ∧ W.cell? ⟨nb, no + i * 7 + 6, none⟩ = some (.int .i64 zr)) := Lib.hid fun i hi => by
  obtain ⟨b', o', z', e, hb', hz', v0, v1, v2, v3, v4, v5, v6⟩ := sln_at hfw.r6 hi
  injection e with e
  injection e with e1 e2
  subst e1
  subst e2
  exact ⟨z'.parent, z'.fn, z'.line, z'.from_, z'.args, z'.to_, z'.resume, hno.2.2 i z' hz', fun W hW => ⟨(hW.cell (p := ⟨nb, no + i * 7, none⟩) hb').trans v0, (hW.cell (p := ⟨nb, no + i * 7 + 1, none⟩) hb').trans v1, (hW.cell (p := ⟨nb, no + i * 7 + 2, none⟩) hb').trans v2, (hW.cell (p := ⟨nb, no + i * 7 + 3, none⟩) hb').trans v3, (hW.cell (p := ⟨nb, no + i * 7 + 4, none⟩) hb').trans v4, (hW.cell (p := ⟨nb, no + i * 7 + 5, none⟩) hb').trans v5, (hW.cell (p := ⟨nb, no + i * 7 + 6, none⟩) hb').trans v6⟩⟩
 clear h hfw hcan hcf hx hx0 l4 l6 l7 hno h74 hat hnb hk hk4 hca hcd hv0 hv1 hv2 u0 u1 av0 hcb hnb6 hab z
 go_enter Tryz.func129, Tryz.ntmps129
 go_upto_region 2 with fail
 clear y0 y1 y2 y3 y4 y5 y6 y7 y8 y9 y10
 obtain ⟨w2, hwX⟩ : ∃ X, World.alloc w1 (.cells #[.string s, .bool b, .slice A0 n0 c0, .slice A1 n1 c1, .slice A2 n2 c2, .slice A3 n3 c3, .slice (some ⟨cb, co, none⟩) n4 c4, .slice A5 n5 c5, .slice (some ⟨nb, no, none⟩) n6 c6, .slice (some ⟨ab, ao, none⟩) n7 c7, .slice A8 n8 c8] 38) = X := ⟨_, rfl⟩
 obtain ⟨g2, hgX⟩ : ∃ X, (World.heap w1).size = X := ⟨_, rfl⟩
 have hb2 : Below (World.heap w1).size w1 w2 := by rw [← hwX]; exact bl_one _
 have hc2 : Cells w2 g2 [.string s, .bool b, .slice A0 n0 c0, .slice A1 n1 c1, .slice A2 n2 c2, .slice A3 n3 c3, .slice (some ⟨cb, co, none⟩) n4 c4, .slice A5 n5 c5, .slice (some ⟨nb, no, none⟩) n6 c6, .slice (some ⟨ab, ao, none⟩) n7 c7, .slice A8 n8 c8] := by rw [← hwX, ← hgX]; exact Cells.new w1 [.string s, .bool b, .slice A0 n0 c0, .slice A1 n1 c1, .slice A2 n2 c2, .slice A3 n3 c3, .slice (some ⟨cb, co, none⟩) n4 c4, .slice A5 n5 c5, .slice (some ⟨nb, no, none⟩) n6 c6, .slice (some ⟨ab, ao, none⟩) n7 c7, .slice A8 n8 c8] _
 rw [hwX, hgX]
 clear hwX hgX
 have e6 := hc2.at_ 6 _ rfl
 have u0 := (hb2.cell (p := ⟨cb, co + k * 2, none⟩) HLT.out.1).trans HU.out.1
 have u1 := (hb2.cell (p := ⟨cb, co + k * 2 + 1, none⟩) HLT.out.1).trans HU.out.2.1
 go_upto_region 3 with fail
 clear e6 u0 u1
 obtain ⟨w3, hwX⟩ : ∃ X, World.alloc w2 (.cells #[.int .i64 yo, .int .i64 ya] 113) = X := ⟨_, rfl⟩
 obtain ⟨g3, hgX⟩ : ∃ X, (World.heap w2).size = X := ⟨_, rfl⟩
 have hb3 : Below (World.heap w2).size w2 w3 := by rw [← hwX]; exact bl_one _
 have hc3 : Cells w3 g3 [.int .i64 yo, .int .i64 ya] := by rw [← hwX, ← hgX]; exact Cells.new w2 [.int .i64 yo, .int .i64 ya] _
 rw [hwX, hgX]
 clear hwX hgX
 have hb13 : Below w1.heap.size w1 w3 := hb2.trans (hb3.mono hb2.size)
 have HC2 : Hid (∀ W, Below w3.heap.size w3 W → Cells W g2 [.string s, .bool b, .slice A0 n0 c0, .slice A1 n1 c1, .slice A2 n2 c2, .slice A3 n3 c3, .slice (some ⟨cb, co, none⟩) n4 c4, .slice A5 n5 c5, .slice (some ⟨nb, no, none⟩) n6 c6, .slice (some ⟨ab, ao, none⟩) n7 c7, .slice A8 n8 c8]) := Lib.hid fun W hW => (hc2.on hb3).on hW
 have HC3 : Hid (∀ W, Below w3.heap.size w3 W → Cells W g3 [.int .i64 yo, .int .i64 ya]) := Lib.hid fun W hW => hc3.on hW
 have H13 : Hid (∀ W, Below w3.heap.size w3 W → Below w1.heap.size w1 W) := Lib.hid fun W hW => hb13.trans (hW.mono hb13.size)
 have HF3 : Hid (∀ W, Below w3.heap.size w3 W → FnW W W.heap.size s b A0 n0 c0 A1 n1 c1 A2 n2 c2 A3 n3 c3 (some ⟨cb, co, none⟩) n4 c4 A5 n5 c5 (some ⟨nb, no, none⟩) n6 c6 (some ⟨ab, ao, none⟩) n7 c7 A8 n8 c8 x0) := Lib.hid fun W hW => (HFW.out.keep (H13.out W hW)).more (H13.out W hW).size
 have HFIN : Hid (∀ W, Below w3.heap.size w3 W → Below w.heap.size w W) := Lib.hid fun W hW => HBW.out W (H13.out W hW)
 have HG3 : Hid (g < w3.heap.size ∧ g2 < w3.heap.size ∧ g3 < w3.heap.size) := Lib.hid ⟨by have := HLT.out.2.2.2; have := hb13.size; omega, by have := hc2.lt; have := hb3.size; omega, hc3.lt⟩
 have i0 := hc3.at_ 0 _ rfl
 clear hb2 hb3 hc2 hc3 hb13 hw1 hg HFW p0
 by_cases o23 : yo = 2 ∨ yo = 3
 ·have HOP := Lib.hid o23
  have HOWN : Hid (∀ W, Below w3.heap.size w3 W → Calls Tryz.prog 153 #[.slice (some ⟨nb, no, none⟩) n6 c6, .int .i64 (q : Int)] W (IsWx W)) := Lib.hid fun W hW => rown13_any _ _ _ _ _ W (HF3.out W hW).r6 HNO.out hq6 (by omega)
  have HKID : Hid (∀ W, Below w3.heap.size w3 W → Calls Tryz.prog 154 #[.slice (some ⟨nb, no, none⟩) n6 c6, .int .i64 (q : Int)] W (IsIdx n6 W)) := Lib.hid fun W hW => rkids_any _ _ _ _ _ W (HF3.out W hW).r6 (by omega)
  rcases o23 with rfl | rfl
  ·go_upto_region 5 with fail
   clear i0
   go_cut [9] (fun gv wQ => ∃ (gx : Nat) (s : W4), gv = .pointer (some ⟨gx, 0, none⟩) ∧ Hid (s.Ok ∧ Cells wQ gx (cW s) ∧ Below w3.heap.size w3 wQ ∧ w3.heap.size ≤ gx))
   case first =>
    refine wp_region_held (S := fun W => Below w3.heap.size w3 W) (by kernel_rfl) ?_
    change wpAnyH _ _ _ _ _ _ _ _ (World.drew _)
    have hS0 : Below w3.heap.size w3 w3.drew := (Below.refl _ _).drew
    refine tkH 0 rfl (by intro W hW; go_simp; first | done | rfl) hS0 ?_
    try go_simp
    refine tkH 1 rfl (by intro W hW; have x9 := HC2.out W hW; obtain ⟨e0, e1, e2, e3, e4, e5, e6, e7, e8, e9, e10⟩ := c11 x9; have aq := ((H13.out W hW).cell (p := ⟨ab, ao + k, none⟩) HLT.out.2.2.1).trans HU.out.2.2; go_simp; first | done | rfl) hS0 ?_
    try go_simp
    refine tkH 2 rfl (by intro W hW; go_simp; first | done | rfl) hS0 ?_
    try go_simp
    refine tkH 3 rfl (by intro W hW; have x9 := HC2.out W hW; obtain ⟨e0, e1, e2, e3, e4, e5, e6, e7, e8, e9, e10⟩ := c11 x9; have aq := ((H13.out W hW).cell (p := ⟨ab, ao + k, none⟩) HLT.out.2.2.1).trans HU.out.2.2; go_simp; first | done | rfl) hS0 ?_
    try go_simp
    refine tkH 4 rfl (by intro W hW; go_simp; first | done | rfl) hS0 ?_
    try go_simp
    refine tkH 5 rfl (by intro W hW; go_simp; first | done | rfl) hS0 ?_
    try go_simp
    refine tkH 6 rfl (by intro W hW; have x9 := HC2.out W hW; obtain ⟨e0, e1, e2, e3, e4, e5, e6, e7, e8, e9, e10⟩ := c11 x9; have aq := ((H13.out W hW).cell (p := ⟨ab, ao + k, none⟩) HLT.out.2.2.1).trans HU.out.2.2; go_simp; first | done | rfl) hS0 ?_
    try go_simp
    refine wpAnyH_two (i := 7) (j := 8) (by kernel_rfl) rfl rfl (fun K hK => ?_) (fun K hK => ?_)
    ·go_simp
     refine (HOWN.out _ hS0).mono ?_
     rintro e v7 ⟨sx, hso, rfl, hb7⟩
     have hS7 : Below w3.heap.size w3 v7 := hS0.trans (hb7.mono hS0.size)
     clear hb7
     go_simp
     refine hK _ _ ⟨hS7, ?_⟩; clear hK K
     try go_simp
     refine wpAnyH_one (i := 8) (by kernel_rfl) rfl (fun K hK => ?_)
     obtain ⟨va, hva⟩ : ∃ X, World.alloc v7 (.cells #[.int .u64 0, .int .u64 0, .int .u64 0, .int .u64 0] 216) = X := ⟨_, rfl⟩
     obtain ⟨gx, hgx⟩ : ∃ X, (World.heap v7).size = X := ⟨_, rfl⟩
     have hSa : Below w3.heap.size w3 va := by rw [← hva]; exact hS7.alloc hS7.size _
     have hca : Cells va gx [.int .u64 0, .int .u64 0, .int .u64 0, .int .u64 0] := by rw [← hva, ← hgx]; exact Cells.new v7 [.int .u64 0, .int .u64 0, .int .u64 0, .int .u64 0] _
     have hlx : w3.heap.size ≤ gx := by rw [← hgx]; exact hS7.size
     go_simp
     try rw [hva]
     try rw [hgx]
     refine hK _ _ ⟨hSa, ?_⟩; clear hK K hva hgx
     try go_simp
     have hc9 := hca
     have rz0 := hc9.at_ 0 _ rfl
     have rz1 := hc9.at_ 1 _ rfl
     have rz2 := hc9.at_ 2 _ rfl
     have rz3 := hc9.at_ 3 _ rfl
     have f0 := hc9.fz 0 (by simp)
     have f1 := hc9.fz 1 (by simp)
     have f2 := hc9.fz 2 (by simp)
     have f3 := hc9.fz 3 (by simp)
     have hSX : Below w3.heap.size w3 (set4 va gx sx) := bl_set4 hSa hlx sx
     refine wpAnyH_one (i := 9) (by kernel_rfl) rfl (fun K hK => ?_)
     go_simp
     refine hK _ _ ⟨hSX, ?_⟩; clear hK K
     try go_simp
     refine wpAnyH_done (by kernel_rfl) ?_ _
     try go_simp
     apply_assumption
     go_meet
     exact ⟨gx, sx, rfl, Lib.hid ⟨hso, cells_set4 hc9 sx, hSX, hlx⟩⟩
    ·obtain ⟨va, hva⟩ : ∃ X, World.alloc w3.drew (.cells #[.int .u64 0, .int .u64 0, .int .u64 0, .int .u64 0] 216) = X := ⟨_, rfl⟩
     obtain ⟨gx, hgx⟩ : ∃ X, (World.heap w3.drew).size = X := ⟨_, rfl⟩
     have hSa : Below w3.heap.size w3 va := by rw [← hva]; exact hS0.alloc hS0.size _
     have hca : Cells va gx [.int .u64 0, .int .u64 0, .int .u64 0, .int .u64 0] := by rw [← hva, ← hgx]; exact Cells.new w3.drew [.int .u64 0, .int .u64 0, .int .u64 0, .int .u64 0] _
     have hlx : w3.heap.size ≤ gx := by rw [← hgx]; exact hS0.size
     go_simp
     try rw [hva]
     try rw [hgx]
     refine hK _ _ ⟨hSa, ?_⟩; clear hK K hva hgx
     try go_simp
     refine wpAnyH_one (i := 7) (by kernel_rfl) rfl (fun K hK => ?_)
     go_simp
     refine (HOWN.out _ hSa).mono ?_
     rintro e v7 ⟨sx, hso, rfl, hb7⟩
     have hS7 : Below w3.heap.size w3 v7 := hSa.trans (hb7.mono hSa.size)
     have hc9 := hca.on hb7
     clear hb7
     go_simp
     refine hK _ _ ⟨hS7, ?_⟩; clear hK K
     try go_simp
     have rz0 := hc9.at_ 0 _ rfl
     have rz1 := hc9.at_ 1 _ rfl
     have rz2 := hc9.at_ 2 _ rfl
     have rz3 := hc9.at_ 3 _ rfl
     have f0 := hc9.fz 0 (by simp)
     have f1 := hc9.fz 1 (by simp)
     have f2 := hc9.fz 2 (by simp)
     have f3 := hc9.fz 3 (by simp)
     have hSX : Below w3.heap.size w3 (set4 v7 gx sx) := bl_set4 hS7 hlx sx
     refine wpAnyH_one (i := 9) (by kernel_rfl) rfl (fun K hK => ?_)
     go_simp
     refine hK _ _ ⟨hSX, ?_⟩; clear hK K
     try go_simp
     refine wpAnyH_done (by kernel_rfl) ?_ _
     try go_simp
     apply_assumption
     go_meet
     exact ⟨gx, sx, rfl, Lib.hid ⟨hso, cells_set4 hc9 sx, hSX, hlx⟩⟩
   case rest =>
    obtain ⟨gx, sx, rfl, HQ5⟩ := hcut
    obtain ⟨w5, rfl⟩ : ∃ x, x = wc := ⟨_, rfl⟩
    have HX5 := Lib.hid HQ5.out.2.1
    have HB5 := Lib.hid HQ5.out.2.2.1
    have HLX := Lib.hid HQ5.out.2.2.2
    have HSO := Lib.hid HQ5.out.1
    clear HQ5
    go_wp2_with fail
    refine wp_region_held (S := fun W => Below w5.heap.size w5 W) (by kernel_rfl) ?_
    change wpAnyH _ _ _ _ _ _ _ _ (World.drew _)
    have hS0 : Below w5.heap.size w5 w5.drew := (Below.refl _ _).drew
    refine tkH 0 rfl (by intro W hW; go_simp; first | done | rfl) hS0 ?_
    try go_simp
    refine tkH 1 rfl (by intro W hW; have x9 := HC2.out W (HB5.out.trans (hW.mono HB5.out.size)); obtain ⟨e0, e1, e2, e3, e4, e5, e6, e7, e8, e9, e10⟩ := c11 x9; have aq := ((H13.out W (HB5.out.trans (hW.mono HB5.out.size))).cell (p := ⟨ab, ao + k, none⟩) HLT.out.2.2.1).trans HU.out.2.2; go_simp; first | done | rfl) hS0 ?_
    try go_simp
    refine tkH 2 rfl (by intro W hW; go_simp; first | done | rfl) hS0 ?_
    try go_simp
    refine tkH 3 rfl (by intro W hW; have x9 := HC2.out W (HB5.out.trans (hW.mono HB5.out.size)); obtain ⟨e0, e1, e2, e3, e4, e5, e6, e7, e8, e9, e10⟩ := c11 x9; have aq := ((H13.out W (HB5.out.trans (hW.mono HB5.out.size))).cell (p := ⟨ab, ao + k, none⟩) HLT.out.2.2.1).trans HU.out.2.2; go_simp; first | done | rfl) hS0 ?_
    try go_simp
    refine tkH 4 rfl (by intro W hW; go_simp; first | done | rfl) hS0 ?_
    try go_simp
    refine tkH 5 rfl (by intro W hW; go_simp; first | done | rfl) hS0 ?_
    try go_simp
    refine tkH 6 rfl (by intro W hW; have x9 := HC2.out W (HB5.out.trans (hW.mono HB5.out.size)); obtain ⟨e0, e1, e2, e3, e4, e5, e6, e7, e8, e9, e10⟩ := c11 x9; have aq := ((H13.out W (HB5.out.trans (hW.mono HB5.out.size))).cell (p := ⟨ab, ao + k, none⟩) HLT.out.2.2.1).trans HU.out.2.2; go_simp; first | done | rfl) hS0 ?_
    try go_simp
    refine wpAnyH_one (i := 7) (by kernel_rfl) rfl (fun K hK => ?_)
    go_simp
    refine (HKID.out _ (HB5.out.trans (hS0.mono HB5.out.size))).mono ?_
    rintro e v7 ⟨l, ⟨KA, kk, kc, rfl, hko, hb7⟩, hkl, hkin⟩
    have hS7 : Below w5.heap.size w5 v7 := hS0.trans (hb7.mono hS0.size)
    clear hS0 hb7
    go_simp
    refine hK _ _ ⟨hS7, ?_⟩; clear hK K
    try go_simp
    refine wpAnyH_one (i := 8) (by kernel_rfl) rfl (fun K hK => ?_)
    go_simp
    refine hK _ _ ⟨hS7, ?_⟩; clear hK K
    try go_simp
    refine wpAnyH_done (by kernel_rfl) ?_ _
    try go_simp
    have HSK := Lib.hid (SlI.own hko (by have := row_len hko; omega))
    have HKB : Hid (∀ ub uo, KA = some ⟨ub, uo, none⟩ → w5.heap.size ≤ ub) := Lib.hid fun ub uo e => (hko.lt ub (by rw [e]; rfl)).1
    have hkk : kk ≤ 20 := by have := row_len hko; omega
    have hkk0 : (kk : Int) ≤ 20 := by omega
    have HKI := Lib.hid hkin
    have HS7 := Lib.hid hS7
    have HX7 := Lib.hid (HX5.out.on hS7)
    have HGX : Hid (gx < w5.heap.size) := Lib.hid HX5.out.lt
    have HB7 : Hid (Below w3.heap.size w3 v7) := Lib.hid (HB5.out.trans (hS7.mono HB5.out.size))
    clear hko hkl hkin hS7
    go_wp2_with fail
    go_loopw [11] (fun iv wr => ∃ (j : Nat), iv = .int .i64 (j : Int) ∧ j ≤ kk ∧ Hid (∃ s : W4, s.Ok ∧ Cells wr gx (cW s) ∧ Kp (fun i => i = gx) v7 wr)) (fun iv _ => kk - (intOf iv).toNat)
    case atStart => exact ⟨0, rfl, Nat.zero_le _, Lib.hid ⟨sx, HSO.out, HX7.out, Kp.refl _ _⟩⟩
    case round =>
     obtain ⟨j, rfl, hj, HJ⟩ := hrel
     obtain ⟨sj, hsj, hcr, hkr⟩ := HJ.out
     have HSJ := Lib.hid hsj
     have HCR := Lib.hid hcr
     have HKR := Lib.hid hkr
     have hj0 : (0 : Int) ≤ (j : Int) := by omega
     have HBr : Hid (Below w3.heap.size w3 wr) := Lib.hid (((Kp.refl (fun i => i = gx) w3).ofBelow HB7.out).trans hkr |>.below (Nat.le_refl _) fun j h => by have := HLX.out; omega)
     clear HJ hsj hcr hkr
     by_cases hlt : j < kk
     ·have hjk : (j : Int) < (kk : Int) := by omega
      obtain ⟨ub, uo, u, rfl, hub, hu, uc0⟩ := SlR.cell1 (f := Value.int .i64) HSK.out (i := j) hlt
      obtain ⟨hu1, hu2⟩ := HKI.out u (List.mem_of_getElem? hu)
      obtain ⟨p, rfl⟩ := Int.eq_ofNat_of_zero_le hu1
      have hp6 : p < n6 := by omega
      have hp0 : (0 : Int) ≤ (p : Int) := by omega
      have hube : Hid (¬ ub = gx) := Lib.hid (by have := HKB.out ub uo rfl; have := HGX.out; omega)
      have uc := HKR.out.cellv (p := ⟨ub, uo + j, none⟩) uc0 hube.out
      have HUC := Lib.hid uc
      obtain ⟨zp, zn, zl, zf, za, zt, zr, hzo, hzc⟩ := HR6.out p hp6
      obtain ⟨-, -, -, -, q4, q5, q6, q7, q8, q9, -⟩ := hzo
      simp only at q4 q5 q6 q7 q8 q9
      obtain ⟨zf', rfl⟩ := Int.eq_ofNat_of_zero_le q6
      obtain ⟨za', rfl⟩ := Int.eq_ofNat_of_zero_le q4
      have HNP : Hid (∀ W, Below wr.heap.size wr W → W.cell? ⟨nb, no + p * 7, none⟩ = some (.int .i64 zp) ∧ W.cell? ⟨nb, no + p * 7 + 1, none⟩ = some (.int .i64 zn) ∧ W.cell? ⟨nb, no + p * 7 + 2, none⟩ = some (.int .i64 zl) ∧ W.cell? ⟨nb, no + p * 7 + 3, none⟩ = some (.int .i64 (zf' : Int)) ∧ W.cell? ⟨nb, no + p * 7 + 4, none⟩ = some (.int .i64 (za' : Int)) ∧ W.cell? ⟨nb, no + p * 7 + 5, none⟩ = some (.int .i64 zt) ∧ W.cell? ⟨nb, no + p * 7 + 6, none⟩ = some (.int .i64 zr)) := Lib.hid fun W hW => hzc W (H13.out W (HBr.out.trans (hW.mono HBr.out.size)))
      have tw : IntKind.i64.wrap ((zf' : Int) + (za' : Int)) = (zf' : Int) + (za' : Int) := by rw [wr64]; unfold wrap64; omega
      clear uc0 hu hu1 hu2 hzc
      go_upto_region 10 with fail
      refine wp_region_held (S := fun W => Below wr.heap.size wr W) (by kernel_rfl) ?_
      change wpAnyH _ _ _ _ _ _ _ _ (World.drew _)
      have hS0 : Below wr.heap.size wr wr.drew := (Below.refl _ _).drew
      refine tkH 0 rfl (by intro W hW; go_simp; first | done | rfl) hS0 ?_
      try go_simp
      refine tkH 1 rfl (by intro W hW; have x8 := (HC2.out W (HBr.out.trans (hW.mono HBr.out.size))).at_ 8 _ rfl; have u9 := (hW.cell (p := ⟨ub, uo + j, none⟩) (World.block_lt_of_cell? _ _ HUC.out)).trans HUC.out; go_simp; first | done | rfl) hS0 ?_
      try go_simp
      refine tkH 2 rfl (by intro W hW; go_simp; first | done | rfl) hS0 ?_
      try go_simp
      refine tkH 3 rfl (by intro W hW; go_simp; first | done | rfl) hS0 ?_
      try go_simp
      refine tkH 4 rfl (by intro W hW; go_simp; first | done | rfl) hS0 ?_
      try go_simp
      refine tkH 5 rfl (by intro W hW; have x8 := (HC2.out W (HBr.out.trans (hW.mono HBr.out.size))).at_ 8 _ rfl; have u9 := (hW.cell (p := ⟨ub, uo + j, none⟩) (World.block_lt_of_cell? _ _ HUC.out)).trans HUC.out; go_simp; first | done | rfl) hS0 ?_
      try go_simp
      refine tkH 6 rfl (by intro W hW; go_simp; first | done | rfl) hS0 ?_
      try go_simp
      refine tkH 7 rfl (by intro W hW; obtain ⟨b0, b1, b2, b3, b4, b5, b6⟩ := HNP.out W hW; go_simp; first | done | rfl) hS0 ?_
      try go_simp
      obtain ⟨wa, hwa⟩ : ∃ X, World.alloc wr.drew (.cells #[.int .i64 0, .int .i64 0, .int .i64 0, .int .i64 0, .int .i64 0, .int .i64 0, .int .i64 0] 238) = X := ⟨_, rfl⟩
      obtain ⟨g9, hg9⟩ : ∃ X, (World.heap wr).size = X := ⟨_, rfl⟩
      have hSa : Below wr.heap.size wr wa := by rw [← hwa]; exact hS0.alloc hS0.size _
      have hca : Cells wa g9 [.int .i64 0, .int .i64 0, .int .i64 0, .int .i64 0, .int .i64 0, .int .i64 0, .int .i64 0] := by rw [← hwa, ← hg9]; exact Cells.new wr.drew [.int .i64 0, .int .i64 0, .int .i64 0, .int .i64 0, .int .i64 0, .int .i64 0, .int .i64 0] _
      have hl9 : wr.heap.size ≤ g9 := by omega
      refine wpAnyH_one (i := 8) (by kernel_rfl) rfl (fun K hK => ?_)
      go_simp
      try rw [hwa]
      try rw [hg9]
      refine hK _ _ ⟨hSa, ?_⟩; clear hK K hwa hg9
      try go_simp
      have n0z := hca.at_ 0 _ rfl
      have f0 := hca.fz 0 (by simp)
      have n1z := hca.at_ 1 _ rfl
      have f1 := hca.fz 1 (by simp)
      have n2z := hca.at_ 2 _ rfl
      have f2 := hca.fz 2 (by simp)
      have n3z := hca.at_ 3 _ rfl
      have f3 := hca.fz 3 (by simp)
      have n4z := hca.at_ 4 _ rfl
      have f4 := hca.fz 4 (by simp)
      have n5z := hca.at_ 5 _ rfl
      have f5 := hca.fz 5 (by simp)
      have n6z := hca.at_ 6 _ rfl
      have f6 := hca.fz 6 (by simp)
      obtain ⟨w9, hw9⟩ : ∃ X, (World.setCell (World.setCell (World.setCell (World.setCell (World.setCell (World.setCell (World.setCell wa ⟨g9, 0, none⟩ (.int .i64 zp)) ⟨g9, 1, none⟩ (.int .i64 zn)) ⟨g9, 2, none⟩ (.int .i64 zl)) ⟨g9, 3, none⟩ (.int .i64 (zf' : Int))) ⟨g9, 4, none⟩ (.int .i64 (za' : Int))) ⟨g9, 5, none⟩ (.int .i64 zt)) ⟨g9, 6, none⟩ (.int .i64 zr)) = X := ⟨_, rfl⟩
      have hS9 : Below wr.heap.size wr w9 := by rw [← hw9]; exact (Below.setCell (Below.setCell (Below.setCell (Below.setCell (Below.setCell (Below.setCell (Below.setCell hSa (p := ⟨g9, 0, none⟩) hl9 (.int .i64 zp)) (p := ⟨g9, 1, none⟩) hl9 (.int .i64 zn)) (p := ⟨g9, 2, none⟩) hl9 (.int .i64 zl)) (p := ⟨g9, 3, none⟩) hl9 (.int .i64 (zf' : Int))) (p := ⟨g9, 4, none⟩) hl9 (.int .i64 (za' : Int))) (p := ⟨g9, 5, none⟩) hl9 (.int .i64 zt)) (p := ⟨g9, 6, none⟩) hl9 (.int .i64 zr))
      have hc9 : Cells w9 g9 [.int .i64 zp, .int .i64 zn, .int .i64 zl, .int .i64 (zf' : Int), .int .i64 (za' : Int), .int .i64 zt, .int .i64 zr] := by rw [← hw9]; exact (Cells.put (Cells.put (Cells.put (Cells.put (Cells.put (Cells.put (Cells.put hca 0 (by simp) (.int .i64 zp)) 1 (by simp) (.int .i64 zn)) 2 (by simp) (.int .i64 zl)) 3 (by simp) (.int .i64 (zf' : Int))) 4 (by simp) (.int .i64 (za' : Int))) 5 (by simp) (.int .i64 zt)) 6 (by simp) (.int .i64 zr))
      refine wpAnyH_one (i := 9) (by kernel_rfl) rfl (fun K hK => ?_)
      go_simp
      try rw [hw9]
      refine hK _ _ ⟨hS9, ?_⟩; clear hK K hw9
      refine wpAnyH_done (by kernel_rfl) ?_ _
      try go_simp
      clear n0z n1z n2z n3z n4z n5z n6z f0 f1 f2 f3 f4 f5 f6 hca hSa hS0
      have HC9 := Lib.hid hc9
      have HB9 := Lib.hid hS9
      have H39 : Hid (Below w3.heap.size w3 w9) := Lib.hid (HBr.out.trans (hS9.mono HBr.out.size))
      have i0 := (HC3.out w9 H39.out).at_ 0 _ rfl
      have HCR9 := Lib.hid (HCR.out.on hS9)
      have HUC9 : Hid (w9.cell? ⟨ub, uo + j, none⟩ = some (.int .i64 (p : Int))) := Lib.hid ((hS9.cell (p := ⟨ub, uo + j, none⟩) (World.block_lt_of_cell? _ _ HUC.out)).trans HUC.out)
      have hkr9 : Kp (fun i => i = gx) v7 w9 := HKR.out.ofBelow hS9
      have HKR9 := Lib.hid hkr9
      clear hc9 hS9 hkr9 hl9
      go_wp2_with fail
      obtain ⟨t, ht⟩ : ∃ t, resM22 fs x0 (p : Int) = t := ⟨_, rfl⟩
      have HTO : Hid t.Ok := Lib.hid (by rw [← ht]; exact resM22_ok _ _ _)
      have cQ : Hid (∀ W, Below w1.heap.size w1 W → Calls Tryz.prog 156 #[.agg #[.slice (some ⟨bk, off, none⟩) fn fc], .int .i64 (f : Int), .int .i64 (p : Int)] W (IsW t W)) := Lib.hid fun W hW => by rw [← ht]; exact cRs.out W hW _
      obtain ⟨r5, hr5⟩ : ∃ d, orW sj t = d := ⟨_, rfl⟩
      have HRO : Hid r5.Ok := Lib.hid (by rw [← hr5]; exact orW_ok HSJ.out HTO.out)
      have cO5 : Hid (∀ W, Calls Tryz.prog 155 #[aggW sj, aggW t] W (IsW r5 W)) := Lib.hid fun W => by rw [← hr5]; exact ror_any sj t HSJ.out HTO.out W
      clear ht hr5 i0
      refine wp_region_piv (R := fun W => Below w9.heap.size w9 W) (pv := 9) (by kernel_rfl) ?_
      change wpAnyG _ _ _ _ _ _ _ _ _ (World.drew _)
      have hS0 : Below w9.heap.size w9 w9.drew := (Below.refl _ _).drew
      refine tkG 0 8 [0] rfl (by intro W hW; have y9 := HCR9.out.on hW; have z0 := y9.at_ 0 _ rfl; have z1 := y9.at_ 1 _ rfl; have z2 := y9.at_ 2 _ rfl; have z3 := y9.at_ 3 _ rfl; go_simp; first | done | rfl) hS0 ?_
      try go_simp
      refine tkG 1 8 [7, 1] rfl (by intro W hW; have q9 := EP.out W (H13.out W (H39.out.trans (hW.mono H39.out.size))); go_simp; first | done | rfl) hS0 ?_
      try go_simp
      refine tkG 2 8 [7, 2] rfl (by intro W hW; go_simp; first | done | rfl) hS0 ?_
      try go_simp
      refine tkG 3 8 [7, 6, 5, 3] rfl (by intro W hW; go_simp; first | done | rfl) hS0 ?_
      try go_simp
      refine tkG 4 8 [7, 6, 5, 4] rfl (by intro W hW; go_simp; first | done | rfl) hS0 ?_
      try go_simp
      refine tkG 5 8 [7, 6, 5] rfl (by intro W hW; go_simp; first | done | rfl) hS0 ?_
      try go_simp
      refine tkG 6 8 [7, 6] rfl (by intro W hW; have u9 := (hW.cell (p := ⟨ub, uo + j, none⟩) (World.block_lt_of_cell? _ _ HUC9.out)).trans HUC9.out; go_simp; first | done | rfl) hS0 ?_
      try go_simp
      refine wpAnyG_one (i := 7) (by kernel_rfl) rfl (fun K hK => ?_)
      go_simp
      refine (cQ.out _ (H13.out _ (H39.out.trans (hS0.mono H39.out.size)))).mono ?_
      rintro e v30 ⟨rfl, hb0⟩
      have hB0 : Below w9.heap.size w9 v30 := hS0.trans (hb0.mono hS0.size)
      clear hb0
      go_simp
      refine hK _ _ ⟨fun _ => hB0, ?_⟩; clear hK K
      try go_simp
      refine wpAnyG_one (i := 8) (by kernel_rfl) rfl (fun K hK => ?_)
      go_simp
      refine (cO5.out _).mono ?_
      rintro e v31 ⟨rfl, hb1⟩
      have hB1 : Below w9.heap.size w9 v31 := hB0.trans (hb1.mono hB0.size)
      clear hb1
      go_simp
      refine hK _ _ ⟨fun _ => hB1, ?_⟩; clear hK K
      try go_simp
      have hS4 : Kp (fun i => i = gx) w9 v31 := (Kp.refl _ _).ofBelow hB1
      have hc9 := HCR9.out.on hB1
      have rz0 := hc9.at_ 0 _ rfl
      have rz1 := hc9.at_ 1 _ rfl
      have rz2 := hc9.at_ 2 _ rfl
      have rz3 := hc9.at_ 3 _ rfl
      have f0 := hc9.fz 0 (by simp [cW])
      have f1 := hc9.fz 1 (by simp [cW])
      have f2 := hc9.fz 2 (by simp [cW])
      have f3 := hc9.fz 3 (by simp [cW])
      have HC10 := Lib.hid hc9
      clear hc9
      refine wpAnyG_oneL (i := 9) (by kernel_rfl) rfl (by kernel_rfl) (fun K hK => ?_)
      go_simp
      have hSX : Kp (fun i => i = gx) w9 (set4 v31 gx r5) := ((((hS4.setCell (p := ⟨gx, 0, none⟩) (fun _ => rfl) _).setCell (p := ⟨gx, 1, none⟩) (fun _ => rfl) _).setCell (p := ⟨gx, 2, none⟩) (fun _ => rfl) _).setCell (p := ⟨gx, 3, none⟩) (fun _ => rfl) _)
      refine hK _ _ ?_; clear hK K
      refine wpAnyG_done (by kernel_rfl) ?_ _
      try go_simp
      go_wp2_with fail
      go_roundw
      case rel => exact ⟨j + 1, by go_num, by omega, Lib.hid ⟨r5, HRO.out, cells_set4 HC10.out r5, HKR9.out.trans hSX⟩⟩
      case measure => first | (simp [intOf]; done) | (simp [intOf]; omega)
     ·obtain rfl : j = kk := by omega
      have x0' := HCR.out.at_ 0 _ rfl
      have x1' := HCR.out.at_ 1 _ rfl
      have x2' := HCR.out.at_ 2 _ rfl
      have x3' := HCR.out.at_ 3 _ rfl
      have i1 := (HC3.out wr HBr.out).at_ 1 _ rfl
      have cHs : Hid (Calls Tryz.prog 158 #[aggW sj, .int .i64 ya] wr fun e w' => e = .returned (.bool (memM sj ya)) ∧ Below wr.heap.size wr w') := Lib.hid (rhas_any sj HSJ.out ya wr)
      go_wp2_with fail
      refine cHs.out.mono ?_
      rintro e w8 ⟨rfl, hb8⟩
      have HB8 : Hid (Below w.heap.size w w8) := Lib.hid (HFIN.out _ (HBr.out.trans (hb8.mono HBr.out.size)))
      clear hb8 cHs
      go_wp2_with fail
      go_ret
      exact ⟨⟨_, rfl⟩, HB8.out⟩
  ·go_upto_region 5 with fail
   clear i0
   go_cut [9] (fun gv wQ => ∃ (gx : Nat) (s : W4), gv = .pointer (some ⟨gx, 0, none⟩) ∧ Hid (s.Ok ∧ Cells wQ gx (cW s) ∧ Below w3.heap.size w3 wQ ∧ w3.heap.size ≤ gx))
   case first =>
    refine wp_region_held (S := fun W => Below w3.heap.size w3 W) (by kernel_rfl) ?_
    change wpAnyH _ _ _ _ _ _ _ _ (World.drew _)
    have hS0 : Below w3.heap.size w3 w3.drew := (Below.refl _ _).drew
    refine tkH 0 rfl (by intro W hW; go_simp; first | done | rfl) hS0 ?_
    try go_simp
    refine tkH 1 rfl (by intro W hW; have x9 := HC2.out W hW; obtain ⟨e0, e1, e2, e3, e4, e5, e6, e7, e8, e9, e10⟩ := c11 x9; have aq := ((H13.out W hW).cell (p := ⟨ab, ao + k, none⟩) HLT.out.2.2.1).trans HU.out.2.2; go_simp; first | done | rfl) hS0 ?_
    try go_simp
    refine tkH 2 rfl (by intro W hW; go_simp; first | done | rfl) hS0 ?_
    try go_simp
    refine tkH 3 rfl (by intro W hW; have x9 := HC2.out W hW; obtain ⟨e0, e1, e2, e3, e4, e5, e6, e7, e8, e9, e10⟩ := c11 x9; have aq := ((H13.out W hW).cell (p := ⟨ab, ao + k, none⟩) HLT.out.2.2.1).trans HU.out.2.2; go_simp; first | done | rfl) hS0 ?_
    try go_simp
    refine tkH 4 rfl (by intro W hW; go_simp; first | done | rfl) hS0 ?_
    try go_simp
    refine tkH 5 rfl (by intro W hW; go_simp; first | done | rfl) hS0 ?_
    try go_simp
    refine tkH 6 rfl (by intro W hW; have x9 := HC2.out W hW; obtain ⟨e0, e1, e2, e3, e4, e5, e6, e7, e8, e9, e10⟩ := c11 x9; have aq := ((H13.out W hW).cell (p := ⟨ab, ao + k, none⟩) HLT.out.2.2.1).trans HU.out.2.2; go_simp; first | done | rfl) hS0 ?_
    try go_simp
    refine wpAnyH_two (i := 7) (j := 8) (by kernel_rfl) rfl rfl (fun K hK => ?_) (fun K hK => ?_)
    ·go_simp
     refine (HOWN.out _ hS0).mono ?_
     rintro e v7 ⟨sx, hso, rfl, hb7⟩
     have hS7 : Below w3.heap.size w3 v7 := hS0.trans (hb7.mono hS0.size)
     clear hb7
     go_simp
     refine hK _ _ ⟨hS7, ?_⟩; clear hK K
     try go_simp
     refine wpAnyH_one (i := 8) (by kernel_rfl) rfl (fun K hK => ?_)
     obtain ⟨va, hva⟩ : ∃ X, World.alloc v7 (.cells #[.int .u64 0, .int .u64 0, .int .u64 0, .int .u64 0] 216) = X := ⟨_, rfl⟩
     obtain ⟨gx, hgx⟩ : ∃ X, (World.heap v7).size = X := ⟨_, rfl⟩
     have hSa : Below w3.heap.size w3 va := by rw [← hva]; exact hS7.alloc hS7.size _
     have hca : Cells va gx [.int .u64 0, .int .u64 0, .int .u64 0, .int .u64 0] := by rw [← hva, ← hgx]; exact Cells.new v7 [.int .u64 0, .int .u64 0, .int .u64 0, .int .u64 0] _
     have hlx : w3.heap.size ≤ gx := by rw [← hgx]; exact hS7.size
     go_simp
     try rw [hva]
     try rw [hgx]
     refine hK _ _ ⟨hSa, ?_⟩; clear hK K hva hgx
     try go_simp
     have hc9 := hca
     have rz0 := hc9.at_ 0 _ rfl
     have rz1 := hc9.at_ 1 _ rfl
     have rz2 := hc9.at_ 2 _ rfl
     have rz3 := hc9.at_ 3 _ rfl
     have f0 := hc9.fz 0 (by simp)
     have f1 := hc9.fz 1 (by simp)
     have f2 := hc9.fz 2 (by simp)
     have f3 := hc9.fz 3 (by simp)
     have hSX : Below w3.heap.size w3 (set4 va gx sx) := bl_set4 hSa hlx sx
     refine wpAnyH_one (i := 9) (by kernel_rfl) rfl (fun K hK => ?_)
     go_simp
     refine hK _ _ ⟨hSX, ?_⟩; clear hK K
     try go_simp
     refine wpAnyH_done (by kernel_rfl) ?_ _
     try go_simp
     apply_assumption
     go_meet
     exact ⟨gx, sx, rfl, Lib.hid ⟨hso, cells_set4 hc9 sx, hSX, hlx⟩⟩
    ·obtain ⟨va, hva⟩ : ∃ X, World.alloc w3.drew (.cells #[.int .u64 0, .int .u64 0, .int .u64 0, .int .u64 0] 216) = X := ⟨_, rfl⟩
     obtain ⟨gx, hgx⟩ : ∃ X, (World.heap w3.drew).size = X := ⟨_, rfl⟩
     have hSa : Below w3.heap.size w3 va := by rw [← hva]; exact hS0.alloc hS0.size _
     have hca : Cells va gx [.int .u64 0, .int .u64 0, .int .u64 0, .int .u64 0] := by rw [← hva, ← hgx]; exact Cells.new w3.drew [.int .u64 0, .int .u64 0, .int .u64 0, .int .u64 0] _
     have hlx : w3.heap.size ≤ gx := by rw [← hgx]; exact hS0.size
     go_simp
     try rw [hva]
     try rw [hgx]
     refine hK _ _ ⟨hSa, ?_⟩; clear hK K hva hgx
     try go_simp
     refine wpAnyH_one (i := 7) (by kernel_rfl) rfl (fun K hK => ?_)
     go_simp
     refine (HOWN.out _ hSa).mono ?_
     rintro e v7 ⟨sx, hso, rfl, hb7⟩
     have hS7 : Below w3.heap.size w3 v7 := hSa.trans (hb7.mono hSa.size)
     have hc9 := hca.on hb7
     clear hb7
     go_simp
     refine hK _ _ ⟨hS7, ?_⟩; clear hK K
     try go_simp
     have rz0 := hc9.at_ 0 _ rfl
     have rz1 := hc9.at_ 1 _ rfl
     have rz2 := hc9.at_ 2 _ rfl
     have rz3 := hc9.at_ 3 _ rfl
     have f0 := hc9.fz 0 (by simp)
     have f1 := hc9.fz 1 (by simp)
     have f2 := hc9.fz 2 (by simp)
     have f3 := hc9.fz 3 (by simp)
     have hSX : Below w3.heap.size w3 (set4 v7 gx sx) := bl_set4 hS7 hlx sx
     refine wpAnyH_one (i := 9) (by kernel_rfl) rfl (fun K hK => ?_)
     go_simp
     refine hK _ _ ⟨hSX, ?_⟩; clear hK K
     try go_simp
     refine wpAnyH_done (by kernel_rfl) ?_ _
     try go_simp
     apply_assumption
     go_meet
     exact ⟨gx, sx, rfl, Lib.hid ⟨hso, cells_set4 hc9 sx, hSX, hlx⟩⟩
   case rest =>
    obtain ⟨gx, sx, rfl, HQ5⟩ := hcut
    obtain ⟨w5, rfl⟩ : ∃ x, x = wc := ⟨_, rfl⟩
    have HX5 := Lib.hid HQ5.out.2.1
    have HB5 := Lib.hid HQ5.out.2.2.1
    have HLX := Lib.hid HQ5.out.2.2.2
    have HSO := Lib.hid HQ5.out.1
    clear HQ5
    go_wp2_with fail
    refine wp_region_held (S := fun W => Below w5.heap.size w5 W) (by kernel_rfl) ?_
    change wpAnyH _ _ _ _ _ _ _ _ (World.drew _)
    have hS0 : Below w5.heap.size w5 w5.drew := (Below.refl _ _).drew
    refine tkH 0 rfl (by intro W hW; go_simp; first | done | rfl) hS0 ?_
    try go_simp
    refine tkH 1 rfl (by intro W hW; have x9 := HC2.out W (HB5.out.trans (hW.mono HB5.out.size)); obtain ⟨e0, e1, e2, e3, e4, e5, e6, e7, e8, e9, e10⟩ := c11 x9; have aq := ((H13.out W (HB5.out.trans (hW.mono HB5.out.size))).cell (p := ⟨ab, ao + k, none⟩) HLT.out.2.2.1).trans HU.out.2.2; go_simp; first | done | rfl) hS0 ?_
    try go_simp
    refine tkH 2 rfl (by intro W hW; go_simp; first | done | rfl) hS0 ?_
    try go_simp
    refine tkH 3 rfl (by intro W hW; have x9 := HC2.out W (HB5.out.trans (hW.mono HB5.out.size)); obtain ⟨e0, e1, e2, e3, e4, e5, e6, e7, e8, e9, e10⟩ := c11 x9; have aq := ((H13.out W (HB5.out.trans (hW.mono HB5.out.size))).cell (p := ⟨ab, ao + k, none⟩) HLT.out.2.2.1).trans HU.out.2.2; go_simp; first | done | rfl) hS0 ?_
    try go_simp
    refine tkH 4 rfl (by intro W hW; go_simp; first | done | rfl) hS0 ?_
    try go_simp
    refine tkH 5 rfl (by intro W hW; go_simp; first | done | rfl) hS0 ?_
    try go_simp
    refine tkH 6 rfl (by intro W hW; have x9 := HC2.out W (HB5.out.trans (hW.mono HB5.out.size)); obtain ⟨e0, e1, e2, e3, e4, e5, e6, e7, e8, e9, e10⟩ := c11 x9; have aq := ((H13.out W (HB5.out.trans (hW.mono HB5.out.size))).cell (p := ⟨ab, ao + k, none⟩) HLT.out.2.2.1).trans HU.out.2.2; go_simp; first | done | rfl) hS0 ?_
    try go_simp
    refine wpAnyH_one (i := 7) (by kernel_rfl) rfl (fun K hK => ?_)
    go_simp
    refine (HKID.out _ (HB5.out.trans (hS0.mono HB5.out.size))).mono ?_
    rintro e v7 ⟨l, ⟨KA, kk, kc, rfl, hko, hb7⟩, hkl, hkin⟩
    have hS7 : Below w5.heap.size w5 v7 := hS0.trans (hb7.mono hS0.size)
    clear hS0 hb7
    go_simp
    refine hK _ _ ⟨hS7, ?_⟩; clear hK K
    try go_simp
    refine wpAnyH_one (i := 8) (by kernel_rfl) rfl (fun K hK => ?_)
    go_simp
    refine hK _ _ ⟨hS7, ?_⟩; clear hK K
    try go_simp
    refine wpAnyH_done (by kernel_rfl) ?_ _
    try go_simp
    have HSK := Lib.hid (SlI.own hko (by have := row_len hko; omega))
    have HKB : Hid (∀ ub uo, KA = some ⟨ub, uo, none⟩ → w5.heap.size ≤ ub) := Lib.hid fun ub uo e => (hko.lt ub (by rw [e]; rfl)).1
    have hkk : kk ≤ 20 := by have := row_len hko; omega
    have hkk0 : (kk : Int) ≤ 20 := by omega
    have HKI := Lib.hid hkin
    have HS7 := Lib.hid hS7
    have HX7 := Lib.hid (HX5.out.on hS7)
    have HGX : Hid (gx < w5.heap.size) := Lib.hid HX5.out.lt
    have HB7 : Hid (Below w3.heap.size w3 v7) := Lib.hid (HB5.out.trans (hS7.mono HB5.out.size))
    clear hko hkl hkin hS7
    go_wp2_with fail
    go_loopw [11] (fun iv wr => ∃ (j : Nat), iv = .int .i64 (j : Int) ∧ j ≤ kk ∧ Hid (∃ s : W4, s.Ok ∧ Cells wr gx (cW s) ∧ Kp (fun i => i = gx) v7 wr)) (fun iv _ => kk - (intOf iv).toNat)
    case atStart => exact ⟨0, rfl, Nat.zero_le _, Lib.hid ⟨sx, HSO.out, HX7.out, Kp.refl _ _⟩⟩
    case round =>
     obtain ⟨j, rfl, hj, HJ⟩ := hrel
     obtain ⟨sj, hsj, hcr, hkr⟩ := HJ.out
     have HSJ := Lib.hid hsj
     have HCR := Lib.hid hcr
     have HKR := Lib.hid hkr
     have hj0 : (0 : Int) ≤ (j : Int) := by omega
     have HBr : Hid (Below w3.heap.size w3 wr) := Lib.hid (((Kp.refl (fun i => i = gx) w3).ofBelow HB7.out).trans hkr |>.below (Nat.le_refl _) fun j h => by have := HLX.out; omega)
     clear HJ hsj hcr hkr
     by_cases hlt : j < kk
     ·have hjk : (j : Int) < (kk : Int) := by omega
      obtain ⟨ub, uo, u, rfl, hub, hu, uc0⟩ := SlR.cell1 (f := Value.int .i64) HSK.out (i := j) hlt
      obtain ⟨hu1, hu2⟩ := HKI.out u (List.mem_of_getElem? hu)
      obtain ⟨p, rfl⟩ := Int.eq_ofNat_of_zero_le hu1
      have hp6 : p < n6 := by omega
      have hp0 : (0 : Int) ≤ (p : Int) := by omega
      have hube : Hid (¬ ub = gx) := Lib.hid (by have := HKB.out ub uo rfl; have := HGX.out; omega)
      have uc := HKR.out.cellv (p := ⟨ub, uo + j, none⟩) uc0 hube.out
      have HUC := Lib.hid uc
      obtain ⟨zp, zn, zl, zf, za, zt, zr, hzo, hzc⟩ := HR6.out p hp6
      obtain ⟨-, -, -, -, q4, q5, q6, q7, q8, q9, -⟩ := hzo
      simp only at q4 q5 q6 q7 q8 q9
      obtain ⟨zf', rfl⟩ := Int.eq_ofNat_of_zero_le q6
      obtain ⟨za', rfl⟩ := Int.eq_ofNat_of_zero_le q4
      have HNP : Hid (∀ W, Below wr.heap.size wr W → W.cell? ⟨nb, no + p * 7, none⟩ = some (.int .i64 zp) ∧ W.cell? ⟨nb, no + p * 7 + 1, none⟩ = some (.int .i64 zn) ∧ W.cell? ⟨nb, no + p * 7 + 2, none⟩ = some (.int .i64 zl) ∧ W.cell? ⟨nb, no + p * 7 + 3, none⟩ = some (.int .i64 (zf' : Int)) ∧ W.cell? ⟨nb, no + p * 7 + 4, none⟩ = some (.int .i64 (za' : Int)) ∧ W.cell? ⟨nb, no + p * 7 + 5, none⟩ = some (.int .i64 zt) ∧ W.cell? ⟨nb, no + p * 7 + 6, none⟩ = some (.int .i64 zr)) := Lib.hid fun W hW => hzc W (H13.out W (HBr.out.trans (hW.mono HBr.out.size)))
      have tw : IntKind.i64.wrap ((zf' : Int) + (za' : Int)) = (zf' : Int) + (za' : Int) := by rw [wr64]; unfold wrap64; omega
      clear uc0 hu hu1 hu2 hzc
      go_upto_region 10 with fail
      refine wp_region_held (S := fun W => Below wr.heap.size wr W) (by kernel_rfl) ?_
      change wpAnyH _ _ _ _ _ _ _ _ (World.drew _)
      have hS0 : Below wr.heap.size wr wr.drew := (Below.refl _ _).drew
      refine tkH 0 rfl (by intro W hW; go_simp; first | done | rfl) hS0 ?_
      try go_simp
      refine tkH 1 rfl (by intro W hW; have x8 := (HC2.out W (HBr.out.trans (hW.mono HBr.out.size))).at_ 8 _ rfl; have u9 := (hW.cell (p := ⟨ub, uo + j, none⟩) (World.block_lt_of_cell? _ _ HUC.out)).trans HUC.out; go_simp; first | done | rfl) hS0 ?_
      try go_simp
      refine tkH 2 rfl (by intro W hW; go_simp; first | done | rfl) hS0 ?_
      try go_simp
      refine tkH 3 rfl (by intro W hW; go_simp; first | done | rfl) hS0 ?_
      try go_simp
      refine tkH 4 rfl (by intro W hW; go_simp; first | done | rfl) hS0 ?_
      try go_simp
      refine tkH 5 rfl (by intro W hW; have x8 := (HC2.out W (HBr.out.trans (hW.mono HBr.out.size))).at_ 8 _ rfl; have u9 := (hW.cell (p := ⟨ub, uo + j, none⟩) (World.block_lt_of_cell? _ _ HUC.out)).trans HUC.out; go_simp; first | done | rfl) hS0 ?_
      try go_simp
      refine tkH 6 rfl (by intro W hW; go_simp; first | done | rfl) hS0 ?_
      try go_simp
      refine tkH 7 rfl (by intro W hW; obtain ⟨b0, b1, b2, b3, b4, b5, b6⟩ := HNP.out W hW; go_simp; first | done | rfl) hS0 ?_
      try go_simp
      obtain ⟨wa, hwa⟩ : ∃ X, World.alloc wr.drew (.cells #[.int .i64 0, .int .i64 0, .int .i64 0, .int .i64 0, .int .i64 0, .int .i64 0, .int .i64 0] 238) = X := ⟨_, rfl⟩
      obtain ⟨g9, hg9⟩ : ∃ X, (World.heap wr).size = X := ⟨_, rfl⟩
      have hSa : Below wr.heap.size wr wa := by rw [← hwa]; exact hS0.alloc hS0.size _
      have hca : Cells wa g9 [.int .i64 0, .int .i64 0, .int .i64 0, .int .i64 0, .int .i64 0, .int .i64 0, .int .i64 0] := by rw [← hwa, ← hg9]; exact Cells.new wr.drew [.int .i64 0, .int .i64 0, .int .i64 0, .int .i64 0, .int .i64 0, .int .i64 0, .int .i64 0] _
      have hl9 : wr.heap.size ≤ g9 := by omega
      refine wpAnyH_one (i := 8) (by kernel_rfl) rfl (fun K hK => ?_)
      go_simp
      try rw [hwa]
      try rw [hg9]
      refine hK _ _ ⟨hSa, ?_⟩; clear hK K hwa hg9
      try go_simp
      have n0z := hca.at_ 0 _ rfl
      have f0 := hca.fz 0 (by simp)
      have n1z := hca.at_ 1 _ rfl
      have f1 := hca.fz 1 (by simp)
      have n2z := hca.at_ 2 _ rfl
      have f2 := hca.fz 2 (by simp)
      have n3z := hca.at_ 3 _ rfl
      have f3 := hca.fz 3 (by simp)
      have n4z := hca.at_ 4 _ rfl
      have f4 := hca.fz 4 (by simp)
      have n5z := hca.at_ 5 _ rfl
      have f5 := hca.fz 5 (by simp)
      have n6z := hca.at_ 6 _ rfl
      have f6 := hca.fz 6 (by simp)
      obtain ⟨w9, hw9⟩ : ∃ X, (World.setCell (World.setCell (World.setCell (World.setCell (World.setCell (World.setCell (World.setCell wa ⟨g9, 0, none⟩ (.int .i64 zp)) ⟨g9, 1, none⟩ (.int .i64 zn)) ⟨g9, 2, none⟩ (.int .i64 zl)) ⟨g9, 3, none⟩ (.int .i64 (zf' : Int))) ⟨g9, 4, none⟩ (.int .i64 (za' : Int))) ⟨g9, 5, none⟩ (.int .i64 zt)) ⟨g9, 6, none⟩ (.int .i64 zr)) = X := ⟨_, rfl⟩
      have hS9 : Below wr.heap.size wr w9 := by rw [← hw9]; exact (Below.setCell (Below.setCell (Below.setCell (Below.setCell (Below.setCell (Below.setCell (Below.setCell hSa (p := ⟨g9, 0, none⟩) hl9 (.int .i64 zp)) (p := ⟨g9, 1, none⟩) hl9 (.int .i64 zn)) (p := ⟨g9, 2, none⟩) hl9 (.int .i64 zl)) (p := ⟨g9, 3, none⟩) hl9 (.int .i64 (zf' : Int))) (p := ⟨g9, 4, none⟩) hl9 (.int .i64 (za' : Int))) (p := ⟨g9, 5, none⟩) hl9 (.int .i64 zt)) (p := ⟨g9, 6, none⟩) hl9 (.int .i64 zr))
      have hc9 : Cells w9 g9 [.int .i64 zp, .int .i64 zn, .int .i64 zl, .int .i64 (zf' : Int), .int .i64 (za' : Int), .int .i64 zt, .int .i64 zr] := by rw [← hw9]; exact (Cells.put (Cells.put (Cells.put (Cells.put (Cells.put (Cells.put (Cells.put hca 0 (by simp) (.int .i64 zp)) 1 (by simp) (.int .i64 zn)) 2 (by simp) (.int .i64 zl)) 3 (by simp) (.int .i64 (zf' : Int))) 4 (by simp) (.int .i64 (za' : Int))) 5 (by simp) (.int .i64 zt)) 6 (by simp) (.int .i64 zr))
      refine wpAnyH_one (i := 9) (by kernel_rfl) rfl (fun K hK => ?_)
      go_simp
      try rw [hw9]
      refine hK _ _ ⟨hS9, ?_⟩; clear hK K hw9
      refine wpAnyH_done (by kernel_rfl) ?_ _
      try go_simp
      clear n0z n1z n2z n3z n4z n5z n6z f0 f1 f2 f3 f4 f5 f6 hca hSa hS0
      have HC9 := Lib.hid hc9
      have HB9 := Lib.hid hS9
      have H39 : Hid (Below w3.heap.size w3 w9) := Lib.hid (HBr.out.trans (hS9.mono HBr.out.size))
      have i0 := (HC3.out w9 H39.out).at_ 0 _ rfl
      have HCR9 := Lib.hid (HCR.out.on hS9)
      have HUC9 : Hid (w9.cell? ⟨ub, uo + j, none⟩ = some (.int .i64 (p : Int))) := Lib.hid ((hS9.cell (p := ⟨ub, uo + j, none⟩) (World.block_lt_of_cell? _ _ HUC.out)).trans HUC.out)
      have hkr9 : Kp (fun i => i = gx) v7 w9 := HKR.out.ofBelow hS9
      have HKR9 := Lib.hid hkr9
      clear hc9 hS9 hkr9 hl9
      go_wp2_with fail
      obtain ⟨t, ht⟩ : ∃ t, rangeM (zf' : Int) ((zf' : Int) + (za' : Int)) = t := ⟨_, rfl⟩
      have HTO : Hid t.Ok := Lib.hid (by rw [← ht]; exact rangeM_ok _ _)
      have cQ : Hid (∀ W, Calls Tryz.prog 157 #[.int .i64 (zf' : Int), .int .i64 ((zf' : Int) + (za' : Int))] W (IsW t W)) := Lib.hid fun W => by rw [← ht]; exact rrange_any _ _ W (by omega) (by omega)
      obtain ⟨r5, hr5⟩ : ∃ d, orW sj t = d := ⟨_, rfl⟩
      have HRO : Hid r5.Ok := Lib.hid (by rw [← hr5]; exact orW_ok HSJ.out HTO.out)
      have cO5 : Hid (∀ W, Calls Tryz.prog 155 #[aggW sj, aggW t] W (IsW r5 W)) := Lib.hid fun W => by rw [← hr5]; exact ror_any sj t HSJ.out HTO.out W
      clear ht hr5 i0
      refine wp_region_piv (R := fun W => Below w9.heap.size w9 W) (pv := 10) (by kernel_rfl) ?_
      change wpAnyG _ _ _ _ _ _ _ _ _ (World.drew _)
      have hS0 : Below w9.heap.size w9 w9.drew := (Below.refl _ _).drew
      refine tkG 0 9 [0] rfl (by intro W hW; have y9 := HCR9.out.on hW; have z0 := y9.at_ 0 _ rfl; have z1 := y9.at_ 1 _ rfl; have z2 := y9.at_ 2 _ rfl; have z3 := y9.at_ 3 _ rfl; go_simp; first | done | rfl) hS0 ?_
      try go_simp
      refine tkG 1 9 [8, 2, 1] rfl (by intro W hW; go_simp; first | done | rfl) hS0 ?_
      try go_simp
      refine tkG 2 9 [8, 2] rfl (by intro W hW; have n9 := (HC9.out.on hW).at_ 3 _ rfl; go_simp; first | done | rfl) hS0 ?_
      try go_simp
      refine tkG 3 9 [8, 7, 4, 3] rfl (by intro W hW; go_simp; first | done | rfl) hS0 ?_
      try go_simp
      refine tkG 4 9 [8, 7, 4] rfl (by intro W hW; have n9 := (HC9.out.on hW).at_ 3 _ rfl; go_simp; first | done | rfl) hS0 ?_
      try go_simp
      refine tkG 5 9 [8, 7, 6, 5] rfl (by intro W hW; go_simp; first | done | rfl) hS0 ?_
      try go_simp
      refine tkG 6 9 [8, 7, 6] rfl (by intro W hW; have n9 := (HC9.out.on hW).at_ 4 _ rfl; go_simp; first | done | rfl) hS0 ?_
      try go_simp
      refine tkG 7 9 [8, 7] rfl (by intro W hW; go_simp; first | done | rfl) hS0 ?_
      try go_simp
      refine wpAnyG_one (i := 8) (by kernel_rfl) rfl (fun K hK => ?_)
      go_simp
      refine (cQ.out _).mono ?_
      rintro e v30 ⟨rfl, hb0⟩
      have hB0 : Below w9.heap.size w9 v30 := hS0.trans (hb0.mono hS0.size)
      clear hb0
      go_simp
      refine hK _ _ ⟨fun _ => hB0, ?_⟩; clear hK K
      try go_simp
      refine wpAnyG_one (i := 9) (by kernel_rfl) rfl (fun K hK => ?_)
      go_simp
      refine (cO5.out _).mono ?_
      rintro e v31 ⟨rfl, hb1⟩
      have hB1 : Below w9.heap.size w9 v31 := hB0.trans (hb1.mono hB0.size)
      clear hb1
      go_simp
      refine hK _ _ ⟨fun _ => hB1, ?_⟩; clear hK K
      try go_simp
      have hS4 : Kp (fun i => i = gx) w9 v31 := (Kp.refl _ _).ofBelow hB1
      have hc9 := HCR9.out.on hB1
      have rz0 := hc9.at_ 0 _ rfl
      have rz1 := hc9.at_ 1 _ rfl
      have rz2 := hc9.at_ 2 _ rfl
      have rz3 := hc9.at_ 3 _ rfl
      have f0 := hc9.fz 0 (by simp [cW])
      have f1 := hc9.fz 1 (by simp [cW])
      have f2 := hc9.fz 2 (by simp [cW])
      have f3 := hc9.fz 3 (by simp [cW])
      have HC10 := Lib.hid hc9
      clear hc9
      refine wpAnyG_oneL (i := 10) (by kernel_rfl) rfl (by kernel_rfl) (fun K hK => ?_)
      go_simp
      have hSX : Kp (fun i => i = gx) w9 (set4 v31 gx r5) := ((((hS4.setCell (p := ⟨gx, 0, none⟩) (fun _ => rfl) _).setCell (p := ⟨gx, 1, none⟩) (fun _ => rfl) _).setCell (p := ⟨gx, 2, none⟩) (fun _ => rfl) _).setCell (p := ⟨gx, 3, none⟩) (fun _ => rfl) _)
      refine hK _ _ ?_; clear hK K
      refine wpAnyG_done (by kernel_rfl) ?_ _
      try go_simp
      go_wp2_with fail
      go_roundw
      case rel => exact ⟨j + 1, by go_num, by omega, Lib.hid ⟨r5, HRO.out, cells_set4 HC10.out r5, HKR9.out.trans hSX⟩⟩
      case measure => first | (simp [intOf]; done) | (simp [intOf]; omega)
     ·obtain rfl : j = kk := by omega
      have x0' := HCR.out.at_ 0 _ rfl
      have x1' := HCR.out.at_ 1 _ rfl
      have x2' := HCR.out.at_ 2 _ rfl
      have x3' := HCR.out.at_ 3 _ rfl
      have i1 := (HC3.out wr HBr.out).at_ 1 _ rfl
      have cHs : Hid (Calls Tryz.prog 158 #[aggW sj, .int .i64 ya] wr fun e w' => e = .returned (.bool (memM sj ya)) ∧ Below wr.heap.size wr w') := Lib.hid (rhas_any sj HSJ.out ya wr)
      go_wp2_with fail
      refine cHs.out.mono ?_
      rintro e w8 ⟨rfl, hb8⟩
      have HB8 : Hid (Below w.heap.size w w8) := Lib.hid (HFIN.out _ (HBr.out.trans (hb8.mono HBr.out.size)))
      clear hb8 cHs
      go_wp2_with fail
      go_ret
      exact ⟨⟨_, rfl⟩, HB8.out⟩
 ·have t2 : (yo != 2) = true := by rw [bne_iff_ne]; omega
  have t3 : (yo != 3) = true := by rw [bne_iff_ne]; omega
  go_wp2_with fail
  go_ret
  exact ⟨⟨_, rfl⟩, HFIN.out _ (Below.refl _ _)⟩
end Go.Proofs.YtobmjnmcjddhcaaGreat
