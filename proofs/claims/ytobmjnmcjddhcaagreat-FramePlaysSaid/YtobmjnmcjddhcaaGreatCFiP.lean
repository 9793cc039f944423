import Derived.Test.YtobmjnmcjddhcaaGreatCTk
import Derived.Test.YtobmjnmcjddhcaaGreatCFiO
set_option linter.unusedSimpArgs false
set_option linter.unusedVariables false
set_option maxRecDepth 100000
set_option maxHeartbeats 64000000
namespace Go.Proofs.YtobmjnmcjddhcaaGreat
open Go.RowKit
theorem rlevels_any (FA : Option Addr) (fn fc : Nat) (fs : List DFunc) (f : Nat) (x0 : DFunc) (ob rb : Nat) (ff : Nat → Bool) (w : World) (h : PgC w FA fn fc fs) (hi : f < fn) (hx0 : fs[f]? = some x0) (hnb : 1 ≤ x0.nodes.length) (ho : OfW w ob x0.code.length) (hr : Cells w rb (arrB x0.code.length ff)) :
  Calls Tryz.prog 132 #[.agg #[.slice FA fn fc], .int .i64 (f : Int), .agg #[.slice (some ⟨ob, 0, none⟩) x0.code.length x0.code.length, .slice (some ⟨rb, 0, none⟩) x0.code.length x0.code.length]] w (IsBool w) := by
 obtain ⟨i0, hi', hz0, hz1, hz2⟩ := info_parts info_int
 obtain ⟨w1, hw1⟩ : ∃ X, w.alloc (.cells #[.slice FA fn fc] 24) = X := ⟨_, rfl⟩
 obtain ⟨g, hg⟩ : ∃ g, w.heap.size = g := ⟨_, rfl⟩
 have hb1 : Below w.heap.size w w1 := by rw [← hw1]; exact bl_one _
 have hc1 : Cells w1 g [.slice FA fn fc] := by rw [← hw1, ← hg]; exact Cells.new w [.slice FA fn fc] _
 have EP : Hid (∀ W, Below w1.heap.size w1 W → W.cell? ⟨g, 0, none⟩ = some (.slice FA fn fc)) := Lib.hid fun W hW => (hc1.on hW).at_ 0 _ rfl
 have HP : Hid (∀ W, Below w1.heap.size w1 W → PgC W FA fn fc fs) := Lib.hid fun W hW => h.on (hb1.trans (hW.mono hb1.size))
 have HB1 := Lib.hid hb1
 have HBW : Hid (∀ W, Below w1.heap.size w1 W → Below w.heap.size w W) := Lib.hid fun W hW => hb1.trans (hW.mono hb1.size)
 have hfn := h.pg.le
 have hn0 : (fn : Int) ≤ 50 := by omega
 have p0 := EP.out w1 (Below.refl _ _)
 clear hb1 hc1
 obtain ⟨bk, off, s, b, A0, n0, c0, A1, n1, c1, A2, n2, c2, A3, n3, c3, A4, n4, c4, A5, n5, c5, A6, n6, c6, A7, n7, c7, A8, n8, c8, x, rfl, hbk, hx, hcf, hfw, hcan⟩ := (HP.out w1 (Below.refl _ _)).get (i := f) hi
 have y0 := hcf 0 _ rfl
 have y1 := hcf 1 _ rfl
 have y2 := hcf 2 _ rfl
 have y3 := hcf 3 _ rfl
 have y4 := hcf 4 _ rfl
 have y5 := hcf 5 _ rfl
 have y6 := hcf 6 _ rfl
 have y7 := hcf 7 _ rfl
 have y8 := hcf 8 _ rfl
 have y9 := hcf 9 _ rfl
 have y10 := hcf 10 _ rfl
 simp only [Nat.add_zero] at y0
 obtain rfl : x0 = x := by rw [hx0] at hx; injection hx
 have l4 := hfw.r4.1
 have l6 := hfw.r6.1
 have l7 := hfw.r7.1
 have hsome := hcan.some_
 obtain ⟨hno, h74⟩ : nodesOk x0.nodes ∧ n7 = n4 := by
  rcases hcan.tab with ⟨e, _⟩ | ⟨a, b, c, d⟩
  ·rw [e] at hnb; simp at hnb
  ·exact ⟨a, by omega⟩
 obtain ⟨nb, no, q0, z, rfl, hnb6, -, -, -, -, -⟩ := node_get hfw.r6 (a := 0) (by omega) (by omega)
 obtain ⟨cb, co, yo0, ya0, rfl, hcb, -, -, -, -⟩ := code_get hfw.r4 (k := 0) (by omega)
 obtain ⟨ab, ao, v0, rfl, hab, -, -⟩ := SlR.cell1 (f := Value.int .i64) hfw.r7 (i := 0) (by omega)
 obtain ⟨s4, s5, s6, s7, s8, s0⟩ := hfw.sm
 have hf0 : (0 : Int) ≤ (f : Int) := by omega
 have hf1 : (f : Int) < (fn : Int) := by omega
 have hn40 : (n4 : Int) ≤ 150 := by omega
 rw [l4] at ho hr
 rw [l4]
 obtain ⟨w2, hw2⟩ : ∃ X, w1.alloc (.cells #[.slice (some ⟨ob, 0, none⟩) n4 n4, .slice (some ⟨rb, 0, none⟩) n4 n4] 178) = X := ⟨_, rfl⟩
 obtain ⟨gt, hgt⟩ : ∃ X, w1.heap.size = X := ⟨_, rfl⟩
 have hb2 : Below w1.heap.size w1 w2 := by rw [← hw2]; exact bl_one _
 have hc2 : Cells w2 gt [.slice (some ⟨ob, 0, none⟩) n4 n4, .slice (some ⟨rb, 0, none⟩) n4 n4] := by rw [← hw2, ← hgt]; exact Cells.new w1 [.slice (some ⟨ob, 0, none⟩) n4 n4, .slice (some ⟨rb, 0, none⟩) n4 n4] _
 have HX0 := Lib.hid hx0
 have HFW := Lib.hid hfw
 have HL4 : Hid (x0.code.length = n4 ∧ n7 = n4) := Lib.hid ⟨l4, h74⟩
 have HLT : Hid (cb < w1.heap.size ∧ nb < w1.heap.size ∧ ab < w1.heap.size) := Lib.hid ⟨hcb, hnb6, hab⟩
 have HOF : Hid (∀ W, Below w.heap.size w W → OfW W ob n4 ∧ Cells W rb (arrB n4 ff)) := Lib.hid fun W hW => ⟨ho.on hW, hr.on hW⟩
 have hg11 : g < w1.heap.size := World.block_lt_of_cell? _ _ p0
 have q0' := (hb2.cell (p := ⟨g, 0, none⟩) (World.block_lt_of_cell? _ _ p0)).trans p0
 have y0 := (hb2.cell hbk).trans y0
 have y1 := (hb2.cell hbk).trans y1
 have y2 := (hb2.cell hbk).trans y2
 have y3 := (hb2.cell hbk).trans y3
 have y4 := (hb2.cell hbk).trans y4
 have y5 := (hb2.cell hbk).trans y5
 have y6 := (hb2.cell hbk).trans y6
 have y7 := (hb2.cell hbk).trans y7
 have y8 := (hb2.cell hbk).trans y8
 have y9 := (hb2.cell hbk).trans y9
 have y10 := (hb2.cell hbk).trans y10
 have HB12 := Lib.hid hb2
 have HC2 := Lib.hid hc2
 have hn61 : 1 ≤ n6 := by omega
 have HNO := Lib.hid hno
 clear h hfw hcan hcf hx hx0 l4 l6 l7 hno h74 hnb ho hr z hb2 hc2 p0 hg11
 go_enter Tryz.func132, Tryz.ntmps132
 go_upto_region 2 with fail
 clear y0 y1 y2 y3 y4 y5 y6 y7 y8 y9 y10 q0'
 obtain ⟨w3, hwX⟩ : ∃ X, World.alloc w2 (.cells #[.string s, .bool b, .slice A0 n0 c0, .slice A1 n1 c1, .slice A2 n2 c2, .slice A3 n3 c3, .slice (some ⟨cb, co, none⟩) n4 c4, .slice A5 n5 c5, .slice (some ⟨nb, no, none⟩) n6 c6, .slice (some ⟨ab, ao, none⟩) n7 c7, .slice A8 n8 c8] 38) = X := ⟨_, rfl⟩
 obtain ⟨g3, hgX⟩ : ∃ X, (World.heap w2).size = X := ⟨_, rfl⟩
 have hb3 : Below (World.heap w2).size w2 w3 := by rw [← hwX]; exact bl_one _
 have hc3 : Cells w3 g3 [.string s, .bool b, .slice A0 n0 c0, .slice A1 n1 c1, .slice A2 n2 c2, .slice A3 n3 c3, .slice (some ⟨cb, co, none⟩) n4 c4, .slice A5 n5 c5, .slice (some ⟨nb, no, none⟩) n6 c6, .slice (some ⟨ab, ao, none⟩) n7 c7, .slice A8 n8 c8] := by rw [← hwX, ← hgX]; exact Cells.new w2 [.string s, .bool b, .slice A0 n0 c0, .slice A1 n1 c1, .slice A2 n2 c2, .slice A3 n3 c3, .slice (some ⟨cb, co, none⟩) n4 c4, .slice A5 n5 c5, .slice (some ⟨nb, no, none⟩) n6 c6, .slice (some ⟨ab, ao, none⟩) n7 c7, .slice A8 n8 c8] _
 rw [hwX, hgX]
 clear hwX hgX
 have hb13 : Below w1.heap.size w1 w3 := HB12.out.trans (hb3.mono HB12.out.size)
 have HCF : Hid (∀ W, Below w3.heap.size w3 W → Cells W g3 [.string s, .bool b, .slice A0 n0 c0, .slice A1 n1 c1, .slice A2 n2 c2, .slice A3 n3 c3, .slice (some ⟨cb, co, none⟩) n4 c4, .slice A5 n5 c5, .slice (some ⟨nb, no, none⟩) n6 c6, .slice (some ⟨ab, ao, none⟩) n7 c7, .slice A8 n8 c8]) := Lib.hid fun W hW => hc3.on hW
 have HCT : Hid (∀ W, Below w3.heap.size w3 W → Cells W gt [.slice (some ⟨ob, 0, none⟩) n4 n4, .slice (some ⟨rb, 0, none⟩) n4 n4]) := Lib.hid fun W hW => (HC2.out.on hb3).on hW
 have H13 : Hid (∀ W, Below w3.heap.size w3 W → Below w1.heap.size w1 W) := Lib.hid fun W hW => hb13.trans (hW.mono hb13.size)
 have HFIN : Hid (∀ W, Below w3.heap.size w3 W → Below w.heap.size w W) := Lib.hid fun W hW => HBW.out W (H13.out W hW)
 have HF3 : Hid (∀ W, Below w3.heap.size w3 W → FnW W W.heap.size s b A0 n0 c0 A1 n1 c1 A2 n2 c2 A3 n3 c3 (some ⟨cb, co, none⟩) n4 c4 A5 n5 c5 (some ⟨nb, no, none⟩) n6 c6 (some ⟨ab, ao, none⟩) n7 c7 A8 n8 c8 x0) := Lib.hid fun W hW => (HFW.out.keep (H13.out W hW)).more (H13.out W hW).size
 have HOT : Hid (∀ W, Below w3.heap.size w3 W → OfW W ob n4 ∧ Cells W rb (arrB n4 ff)) := Lib.hid fun W hW => HOF.out W (HFIN.out W hW)
 have HCO : Hid (∀ i : Nat, i < n4 → ∃ yo ya : Int, ∀ W, Below w3.heap.size w3 W → W.cell? ⟨cb, co + i * 2, none⟩ = some (.int .i64 yo) ∧ W.cell? ⟨cb, co + i * 2 + 1, none⟩ = some (.int .i64 ya)) := Lib.hid fun i hi => by
  obtain ⟨b', o', yo, ya, e, hb', _, _, u0, u1⟩ := code_get HFW.out.r4 hi
  injection e with e
  injection e with e1 e2
  subst e1
  subst e2
  exact ⟨yo, ya, fun W hW => ⟨((H13.out W hW).cell (p := ⟨cb, co + i * 2, none⟩) hb').trans u0, ((H13.out W hW).cell (p := ⟨cb, co + i * 2 + 1, none⟩) hb').trans u1⟩⟩
 have HAT : Hid (∀ i : Nat, i < n4 → ∃ v : Int, ∀ W, Below w3.heap.size w3 W → W.cell? ⟨ab, ao + i, none⟩ = some (.int .i64 v)) := Lib.hid fun i hi => by
  obtain ⟨b', o', v, e, hb', _, hv⟩ := SlR.cell1 (f := Value.int .i64) HFW.out.r7 (i := i) (by have := HL4.out.2; omega)
  injection e with e
  injection e with e1 e2
  subst e1
  subst e2
  exact ⟨v, fun W hW => ((H13.out W hW).cell (p := ⟨ab, ao + i, none⟩) hb').trans hv⟩
 clear hb3 hc3 hb13 hw1 hg hw2 hgt
 have HN6 : Hid (∀ i : Nat, i < n6 → ∃ zr : Int, 0 ≤ zr ∧ zr ≤ 1999 ∧ ∀ W, Below w3.heap.size w3 W → W.cell? ⟨nb, no + i * 7 + 6, none⟩ = some (.int .i64 zr)) := Lib.hid fun i hi => by
  obtain ⟨b', o', z', e, hb', hz', _, _, _, _, _, _, v6⟩ := sln_at HFW.out.r6 hi
  injection e with e
  injection e with e1 e2
  subst e1
  subst e2
  have hzk := HNO.out.2.2 i z' hz'
  obtain ⟨-, -, -, -, -, -, -, -, -, -, -, k0, k1⟩ := hzk
  have : 0 ≤ z'.resume ∧ z'.resume ≤ 1999 := by
   rcases Nat.eq_zero_or_pos i with e | e
   ·have := (k0 e).2.2.2; omega
   ·have := k1 e; omega
  exact ⟨z'.resume, this.1, this.2, fun W hW => ((H13.out W hW).cell (p := ⟨nb, no + i * 7 + 6, none⟩) hb').trans v6⟩
 go_wp2_with fail
 go_loopw [8] (fun iv wr => ∃ (j : Nat), iv = .int .i64 (j : Int) ∧ 1 ≤ j ∧ j ≤ n6 ∧ Hid (Below w3.heap.size w3 wr)) (fun iv _ => n6 - (intOf iv).toNat)
 case atStart => exact ⟨1, rfl, Nat.le_refl _, hn61, Lib.hid (Below.refl _ _)⟩
 case round =>
  obtain ⟨j, rfl, hj1, hj, HB⟩ := hrel
  have hj0 : (0 : Int) ≤ (j : Int) := by omega
  have e8 := (HCF.out wr HB.out).at_ 8 _ rfl
  by_cases hlt : j < n6
  ·have hjn : (j : Int) < (n6 : Int) := by omega
   obtain ⟨wo, rfl⟩ : ∃ x, x = wr := ⟨_, rfl⟩
   go_wp2_with fail
   go_loopw [9, 10] (fun ov iv wr => ∃ (q p : Nat) (A' : Option Addr) (c' : Nat), ov = .slice A' q c' ∧ iv = .int .i64 (p : Int) ∧ p ≤ n4 ∧ q ≤ p ∧ Hid (∃ l, wr.ownsRow wo.heap.size 3 1 (.slice A' q c') q (rowI l) ∧ (∀ u ∈ l, 0 ≤ u ∧ u ≤ 1999) ∧ Below wo.heap.size wo wr)) (fun _ iv _ => n4 - (intOf iv).toNat)
   case atStart => exact ⟨0, 0, none, 0, rfl, rfl, Nat.zero_le _, Nat.le_refl _, Lib.hid ⟨[], ⟨rfl, .inl ⟨rfl, rfl⟩⟩, by simp, Below.refl _ _⟩⟩
   case round =>
    obtain ⟨q, p, A', c', rfl, rfl, hp, hq, HK⟩ := hrel
    obtain ⟨l, hown, hin, hbw⟩ := HK.out
    have HO := Lib.hid hown
    have HI := Lib.hid hin
    have HBo := Lib.hid hbw
    have hp0 : (0 : Int) ≤ (p : Int) := by omega
    have hq1 : (q : Int) ≤ 150 := by omega
    have HB3 : Hid (Below w3.heap.size w3 wr) := Lib.hid (HB.out.trans (HBo.out.mono HB.out.size))
    have hZ : Hid (wo.heap.size ≤ wr.heap.size) := Lib.hid HBo.out.size
    clear hown hin hbw HK e8
    by_cases hlp : p < n4
    ·have hpn : (p : Int) < (n4 : Int) := by omega
     have e6 := (HCF.out wr HB3.out).at_ 6 _ rfl
     obtain ⟨yo, ya, hyc⟩ := HCO.out p hlp
     obtain ⟨u0, u1⟩ := hyc wr HB3.out
     clear hyc
     by_cases ho3 : yo = 33 ∨ yo = 34
     ·by_cases hya : ya = (j : Int)
      ·have hsrc := Lib.hid (src_int wr (p : Int))
       have tt : (ya == (j : Int)) = true := by rw [beq_iff_eq]; exact hya
       subst hya
       rcases ho3 with rfl | rfl
       ·go_wp2_with (first
           | (at_builtin; go_must (refine wpList_append_src _ rfl _ _ 34 rfl wo.heap.size 3 i0 (.int .i64 0) 1 8 Tryz.underlying34 hi' hz0 hz1 hz2 rfl (by decide) _ _ _ rfl (HO.out.alloc _) (some ⟨wr.heap.size, 0, none⟩) 1 1 [.int .i64 (p : Int)] rfl hsrc.out (one_int _) (by unfold maxLen; omega) (by omega) (by have := hZ.out; simp; omega) ?_)
              intro v' w7 hown' hgrow3 hat3
              obtain ⟨A', c', rfl, X1, X2, _⟩ := app_int HBo.out hZ.out HO.out hown' hgrow3
              skip
              have XR := Lib.hid X1
              have XB := Lib.hid X2
              clear X1 X2 hown' hgrow3 hat3)
           | fail)
        go_roundw
        case rel =>
         refine ⟨q + 1, p + 1, _, _, rfl, by go_num, by omega, by omega, Lib.hid ⟨l ++ [(p : Int)], ?_, ?_, XB.out⟩⟩
         ·have := XR.out
          simpa [rowI] using this
         ·intro u hu
          rcases List.mem_append.1 hu with hu | hu
          ·exact HI.out u hu
          ·obtain rfl := List.mem_singleton.1 hu
           exact ⟨by omega, by omega⟩
        case measure => first | (simp [intOf]; done) | (simp [intOf]; omega)
       ·go_wp2_with (first
           | (at_builtin; go_must (refine wpList_append_src _ rfl _ _ 34 rfl wo.heap.size 3 i0 (.int .i64 0) 1 8 Tryz.underlying34 hi' hz0 hz1 hz2 rfl (by decide) _ _ _ rfl (HO.out.alloc _) (some ⟨wr.heap.size, 0, none⟩) 1 1 [.int .i64 (p : Int)] rfl hsrc.out (one_int _) (by unfold maxLen; omega) (by omega) (by have := hZ.out; simp; omega) ?_)
              intro v' w7 hown' hgrow3 hat3
              obtain ⟨A', c', rfl, X1, X2, _⟩ := app_int HBo.out hZ.out HO.out hown' hgrow3
              skip
              have XR := Lib.hid X1
              have XB := Lib.hid X2
              clear X1 X2 hown' hgrow3 hat3)
           | fail)
        go_roundw
        case rel =>
         refine ⟨q + 1, p + 1, _, _, rfl, by go_num, by omega, by omega, Lib.hid ⟨l ++ [(p : Int)], ?_, ?_, XB.out⟩⟩
         ·have := XR.out
          simpa [rowI] using this
         ·intro u hu
          rcases List.mem_append.1 hu with hu | hu
          ·exact HI.out u hu
          ·obtain rfl := List.mem_singleton.1 hu
           exact ⟨by omega, by omega⟩
        case measure => first | (simp [intOf]; done) | (simp [intOf]; omega)
      ·have tt : (ya == (j : Int)) = false := by rw [beq_eq_false_iff_ne]; exact hya
       rcases ho3 with rfl | rfl
       ·go_wp2_with fail
        go_roundw
        case rel => exact ⟨q, p + 1, _, _, rfl, by go_num, by omega, by omega, Lib.hid ⟨l, HO.out, HI.out, HBo.out⟩⟩
        case measure => first | (simp [intOf]; done) | (simp [intOf]; omega)
       ·go_wp2_with fail
        go_roundw
        case rel => exact ⟨q, p + 1, _, _, rfl, by go_num, by omega, by omega, Lib.hid ⟨l, HO.out, HI.out, HBo.out⟩⟩
        case measure => first | (simp [intOf]; done) | (simp [intOf]; omega)
     ·have t33 : (yo == 33) = false := by rw [beq_eq_false_iff_ne]; omega
      have t34 : (yo == 34) = false := by rw [beq_eq_false_iff_ne]; omega
      go_wp2_with fail
      go_roundw
      case rel => exact ⟨q, p + 1, _, _, rfl, by go_num, by omega, by omega, Lib.hid ⟨l, HO.out, HI.out, HBo.out⟩⟩
      case measure => first | (simp [intOf]; done) | (simp [intOf]; omega)
    ·obtain rfl : p = n4 := by omega
     obtain ⟨zr, hzr0, hzr1, hzc⟩ := HN6.out j hlt
     have z6 := hzc wr HB3.out
     have e8 := (HCF.out wr HB3.out).at_ 8 _ rfl
     have e6 := (HCF.out wr HB3.out).at_ 6 _ rfl
     have hsrc := Lib.hid (src_int wr zr)
     obtain ⟨wp, rfl⟩ : ∃ x, x = wr := ⟨_, rfl⟩
     clear hzc
     go_wp2_with (first
       | (at_builtin; go_must (refine wpList_append_src _ rfl _ _ 34 rfl wo.heap.size 3 i0 (.int .i64 0) 1 8 Tryz.underlying34 hi' hz0 hz1 hz2 rfl (by decide) _ _ _ rfl (HO.out.alloc _) (some ⟨wp.heap.size, 0, none⟩) 1 1 [.int .i64 zr] rfl hsrc.out (one_int _) (by unfold maxLen; omega) (by omega) (by have := hZ.out; simp; omega) ?_)
          intro v' w7 hown' hgrow3 hat3
          obtain ⟨A', c', rfl, X1, X2, _⟩ := app_int HBo.out hZ.out HO.out hown' hgrow3
          skip
          have XR := Lib.hid X1
          have XB := Lib.hid X2
          clear X1 X2 hown' hgrow3 hat3)
       | fail)
     obtain ⟨ll, hll⟩ : ∃ ll, l ++ [zr] = ll := ⟨_, rfl⟩
     have XR' : Hid (w7.ownsRow wo.heap.size 3 1 (.slice A' (q + 1) c') (q + 1) (rowI ll)) := Lib.hid (by have := XR.out; rw [← hll]; simpa [rowI] using this)
     have HLI : Hid (∀ u ∈ ll, 0 ≤ u ∧ u ≤ 1999) := Lib.hid fun u hu => by
      rw [← hll] at hu
      rcases List.mem_append.1 hu with hu | hu
      ·exact HI.out u hu
      ·obtain rfl := List.mem_singleton.1 hu
       exact ⟨hzr0, hzr1⟩
     have HB7 : Hid (Below w3.heap.size w3 w7) := Lib.hid (HB.out.trans (XB.out.mono HB.out.size))
     have hsl := SlI.own XR'.out (by omega)
     obtain ⟨m, hm⟩ : ∃ m, q + 1 = m := ⟨_, rfl⟩
     rw [hm] at hsl
     simp only [hm]
     have hm1 : m ≤ 151 := by omega
     have hm2 : (m : Int) ≤ 151 := by omega
     have HSL := Lib.hid hsl
     clear hsl hm hll XR XR' XB e8 e6 z6
     go_wp2_with fail
     go_loopw [11, 12] (fun lv iv wr => ∃ (la : Int) (i : Nat), lv = .int .i64 la ∧ iv = .int .i64 (i : Int) ∧ i ≤ m ∧ Hid ((la = -1 ∨ (0 ≤ la ∧ la < (p : Int))) ∧ Below w7.heap.size w7 wr)) (fun _ iv _ => m - (intOf iv).toNat)
     case atStart => exact ⟨-1, 0, rfl, rfl, Nat.zero_le _, Lib.hid ⟨.inl rfl, Below.refl _ _⟩⟩
     case round =>
      obtain ⟨la, i, rfl, rfl, him, HKL⟩ := hrel
      have hi0 : (0 : Int) ≤ (i : Int) := by omega
      have HB8 : Hid (Below w3.heap.size w3 wr) := Lib.hid (HB7.out.trans (HKL.out.2.mono HB7.out.size))
      by_cases hli : i < m
      ·have him' : (i : Int) < (m : Int) := by omega
       obtain ⟨ub, uo, u, rfl, hub, hu, uc0⟩ := SlR.cell1 (f := Value.int .i64) (HSL.out.on HKL.out.2) (i := i) hli
       obtain ⟨hu0, hu1⟩ := HLI.out u (List.mem_of_getElem? hu)
       obtain ⟨un, rfl⟩ := Int.eq_ofNat_of_zero_le hu0
       have t0 := (HCT.out wr HB8.out).at_ 0 _ rfl
       have t1 := (HCT.out wr HB8.out).at_ 1 _ rfl
       by_cases c66 : un < p
       ·have t6 : decide ((un : Int) ≥ (p : Int)) = false := by rw [decide_eq_false_iff_not]; omega
        have t6b : decide (p ≤ un) = false := by rw [decide_eq_false_iff_not]; omega
        have c6i : (un : Int) < (p : Int) := by omega
        have rc := (HOT.out wr HB8.out).2.at_ un _ (arrB_at ff c66)
        obtain ⟨fu, hfu⟩ : ∃ v, ff un = v := ⟨_, rfl⟩
        rw [hfu] at rc
        clear hfu hu
        cases fu with
        | false =>
         go_wp2_with fail
         go_quiet (fail)
         go_wp2_with fail
         go_roundw
         case rel => exact ⟨la, i + 1, rfl, by go_num, by omega, Lib.hid ⟨HKL.out.1, HKL.out.2.trans (below_drewN' (Below.refl _ _) _ |>.mono HKL.out.2.size)⟩⟩
         case measure => first | (simp [intOf]; done) | (simp [intOf]; omega)
        | true =>
         have HUC := Lib.hid uc0
         go_wp2_with fail
         go_quiet (fail)
         go_wp2_with fail
         obtain ⟨w9, hw9⟩ : ∃ X, World.drewN wr nq = X := ⟨_, rfl⟩
         rw [hw9]
         have hb9 : Below wr.heap.size wr w9 := by rw [← hw9]; exact below_drewN' (Below.refl _ _) _
         have HB9 : Hid (Below w3.heap.size w3 w9) := Lib.hid (HB8.out.trans (hb9.mono HB8.out.size))
         have HB79 : Hid (Below w7.heap.size w7 w9) := Lib.hid (HKL.out.2.trans (hb9.mono HKL.out.2.size))
         have uc9 := (hb9.cell (p := ⟨ub, uo + i, none⟩) hub).trans uc0
         have HUC9 := Lib.hid uc9
         clear hb9 hw9 t0 t1 t6 t6b rc uc0
         rcases HKL.out.1 with rfl | ⟨hl0, hl1⟩
         ·have tl : decide ((-1 : Int) ≥ 0) = false := by decide
          go_wp2_with fail
          go_quiet (fail)
          go_wp2_with fail
          go_roundw
          case rel => exact ⟨(un : Int), i + 1, rfl, by go_num, by omega, Lib.hid ⟨.inr ⟨by omega, by omega⟩, HB79.out.trans (below_drewN' (Below.refl _ _) _ |>.mono HB79.out.size)⟩⟩
          case measure => first | (simp [intOf]; done) | (simp [intOf]; omega)
         ·obtain ⟨ln, rfl⟩ := Int.eq_ofNat_of_zero_le hl0
          have hln : ln < p := by omega
          have hln1 : (ln : Int) < (p : Int) := by omega
          have tl : decide ((ln : Int) ≥ 0) = true := by rw [decide_eq_true_eq]; omega
          have tl2 : decide (0 ≤ (ln : Int)) = true := by rw [decide_eq_true_eq]; omega
          obtain ⟨AL, kl, cl, ll2, hol, hkl, hsl⟩ := (HOT.out w9 HB9.out).1.at_ hln
          obtain ⟨AU, ku, cu, lu, hou, hku, hsu⟩ := (HOT.out w9 HB9.out).1.at_ c66
          have HOL := Lib.hid hol
          have HOU := Lib.hid hou
          have HSS : Hid (SlI w9 w9.heap.size AL kl cl ll2 ∧ SlI w9 w9.heap.size AU ku cu lu) := Lib.hid ⟨hsl, hsu⟩
          have cSm : Hid (∀ W, Below w9.heap.size w9 W → Calls Tryz.prog 125 #[.slice AL kl cl, .slice AU ku cu] W (IsSame ll2 lu W)) := Lib.hid fun W hW => rsame_any _ _ _ _ _ _ _ _ W (HSS.out.1.on hW) (HSS.out.2.on hW) (by omega) (by omega)
          clear hol hou hsl hsu hl0
          refine wp_region_held (S := fun W => Below w9.heap.size w9 W) (by kernel_rfl) ?_
          change wpAnyH _ _ _ _ _ _ _ _ (World.drew _)
          have hS0 : Below w9.heap.size w9 w9.drew := (Below.refl _ _).drew
          refine tkH 0 rfl (by intro W hW; go_simp; first | done | rfl) hS0 ?_
          try go_simp
          refine tkH 1 rfl (by intro W hW; go_simp; first | done | rfl) hS0 ?_
          try go_simp
          refine tkH 2 rfl (by intro W hW; go_simp; first | done | rfl) hS0 ?_
          try go_simp
          refine tkH 3 rfl (by intro W hW; go_simp; first | done | rfl) hS0 ?_
          try go_simp
          refine tkH 4 rfl (by intro W hW; have x2 := HCT.out W (HB9.out.trans (hW.mono HB9.out.size)); have t0 := x2.at_ 0 _ rfl; have t1 := x2.at_ 1 _ rfl; go_simp; first | done | rfl) hS0 ?_
          try go_simp
          refine tkH 5 rfl (by intro W hW; go_simp; first | done | rfl) hS0 ?_
          try go_simp
          refine tkH 6 rfl (by intro W hW; go_simp; first | done | rfl) hS0 ?_
          try go_simp
          refine tkH 7 rfl (by intro W hW; have o9 := (hW.cell (p := ⟨ob, ln, none⟩) (World.block_lt_of_cell? _ _ HOL.out)).trans HOL.out; go_simp; first | done | rfl) hS0 ?_
          try go_simp
          refine tkH 8 rfl (by intro W hW; go_simp; first | done | rfl) hS0 ?_
          try go_simp
          refine tkH 9 rfl (by intro W hW; have x2 := HCT.out W (HB9.out.trans (hW.mono HB9.out.size)); have t0 := x2.at_ 0 _ rfl; have t1 := x2.at_ 1 _ rfl; go_simp; first | done | rfl) hS0 ?_
          try go_simp
          refine tkH 10 rfl (by intro W hW; go_simp; first | done | rfl) hS0 ?_
          try go_simp
          refine tkH 11 rfl (by intro W hW; go_simp; first | done | rfl) hS0 ?_
          try go_simp
          refine tkH 12 rfl (by intro W hW; go_simp; first | done | rfl) hS0 ?_
          try go_simp
          refine tkH 13 rfl (by intro W hW; have o9 := (hW.cell (p := ⟨ub, uo + i, none⟩) (World.block_lt_of_cell? _ _ HUC9.out)).trans HUC9.out; go_simp; first | done | rfl) hS0 ?_
          try go_simp
          refine tkH 14 rfl (by intro W hW; go_simp; first | done | rfl) hS0 ?_
          try go_simp
          refine tkH 15 rfl (by intro W hW; have o9 := (hW.cell (p := ⟨ob, un, none⟩) (World.block_lt_of_cell? _ _ HOU.out)).trans HOU.out; go_simp; first | done | rfl) hS0 ?_
          try go_simp
          refine wpAnyH_one (i := 16) (by kernel_rfl) rfl (fun K hK => ?_)
          go_simp
          refine (cSm.out _ hS0).mono ?_
          rintro e w11 ⟨r, rfl, -, hb11⟩
          have hS7 : Below w9.heap.size w9 w11 := hS0.trans (hb11.mono hS0.size)
          clear hb11 hS0
          go_simp
          refine hK _ _ ⟨hS7, ?_⟩; clear hK K
          try go_simp
          cases r with
          | true =>
           refine tkH 17 rfl (by intro W hW; go_simp; first | done | rfl) hS7 ?_
           try go_simp
           refine tkH 18 rfl (by intro W hW; go_simp; first | done | rfl) hS7 ?_
           try go_simp
           try go_simp
           refine wpAnyH_done (by kernel_rfl) ?_ _
           try go_simp
           have HEND : Hid (Below w9.heap.size w9 w11) := Lib.hid hS7
           have uc11 := (hS7.cell (p := ⟨ub, uo + i, none⟩) (World.block_lt_of_cell? _ _ HUC9.out)).trans HUC9.out
           clear hS7
           go_wp2_with fail
           go_roundw
           case rel => exact ⟨(un : Int), i + 1, rfl, by go_num, by omega, Lib.hid ⟨.inr ⟨by omega, by omega⟩, HB79.out.trans (HEND.out.mono HB79.out.size)⟩⟩
           case measure => first | (simp [intOf]; done) | (simp [intOf]; omega)
          | false =>
           refine tkH 17 rfl (by intro W hW; go_simp; first | done | rfl) hS7 ?_
           try go_simp
           refine tkH 18 rfl (by intro W hW; go_simp; first | done | rfl) hS7 ?_
           try go_simp
           try go_simp
           refine wpAnyH_done (by kernel_rfl) ?_ _
           try go_simp
           have HEND : Hid (Below w9.heap.size w9 w11) := Lib.hid hS7
           clear hS7
           go_wp2_with fail
           go_ret
           exact ⟨⟨_, rfl⟩, HFIN.out _ (HB9.out.trans (HEND.out.mono HB9.out.size))⟩
       ·have t6 : decide ((un : Int) ≥ (p : Int)) = true := by rw [decide_eq_true_eq]; omega
        have t6b : decide (p ≤ un) = true := by rw [decide_eq_true_eq]; omega
        clear hu
        go_wp2_with fail
        go_quiet (fail)
        go_wp2_with fail
        go_roundw
        case rel => exact ⟨la, i + 1, rfl, by go_num, by omega, Lib.hid ⟨HKL.out.1, HKL.out.2.trans (below_drewN' (Below.refl _ _) _ |>.mono HKL.out.2.size)⟩⟩
        case measure => first | (simp [intOf]; done) | (simp [intOf]; omega)
      ·obtain rfl : i = m := by omega
       have cAb := Lib.hid (rabove_any _ fn fc fs f (j : Int) x0 ob rb ff wr (HP.out wr (H13.out wr HB8.out)) hi HX0.out (by have := hn61; have := HFW.out.r6.1; omega) (by rw [HL4.out.1]; exact (HOT.out wr HB8.out).1) (by rw [HL4.out.1]; exact (HOT.out wr HB8.out).2))
       rw [HL4.out.1] at cAb
       have t0 := (HCT.out wr HB8.out).at_ 0 _ rfl
       have t1 := (HCT.out wr HB8.out).at_ 1 _ rfl
       have q9 := EP.out wr (H13.out wr HB8.out)
       go_wp2_with fail
       refine cAb.out.mono ?_
       rintro e w10 ⟨⟨r, rfl⟩, hb10⟩
       have HB10 : Hid (Below w3.heap.size w3 w10) := Lib.hid (HB8.out.trans (hb10.mono HB8.out.size))
       clear hb10 cAb t0 t1 q9
       cases r with
       | true =>
        go_wp2_with fail
        go_roundw
        case rel => exact ⟨j + 1, by go_num, by omega, by omega, HB10⟩
        case measure => first | (simp [intOf]; done) | (simp [intOf]; omega)
       | false =>
        go_wp2_with fail
        go_ret
        exact ⟨⟨_, rfl⟩, HFIN.out _ HB10.out⟩
  ·obtain rfl : j = n6 := by omega
   go_wp2_with fail
   go_ret
   exact ⟨⟨_, rfl⟩, HFIN.out _ HB.out⟩
end Go.Proofs.YtobmjnmcjddhcaaGreat
