import Derived.Test.YtobmjnmcjddhcaaGreatCTk
import Derived.Test.YtobmjnmcjddhcaaGreatCFiM
set_option linter.unusedSimpArgs false
set_option linter.unusedVariables false
set_option maxRecDepth 100000
set_option maxHeartbeats 64000000
namespace Go.Proofs.YtobmjnmcjddhcaaGreat
open Go.RowKit
theorem rabove_any (FA : Option Addr) (fn fc : Nat) (fs : List DFunc) (f : Nat) (nd : Int) (x0 : DFunc) (ob rb : Nat) (ff : Nat → Bool) (w : World) (h : PgC w FA fn fc fs) (hi : f < fn) (hx0 : fs[f]? = some x0) (hnb : 1 ≤ x0.nodes.length) (ho : OfW w ob x0.code.length) (hr : Cells w rb (arrB x0.code.length ff)) :
  Calls Tryz.prog 164 #[.agg #[.slice FA fn fc], .int .i64 (f : Int), .int .i64 nd, .agg #[.slice (some ⟨ob, 0, none⟩) x0.code.length x0.code.length, .slice (some ⟨rb, 0, none⟩) x0.code.length x0.code.length]] w (IsBool w) := by
 obtain ⟨w1, hw1⟩ : ∃ X, w.alloc (.cells #[.slice FA fn fc] 24) = X := ⟨_, rfl⟩
 obtain ⟨g, hg⟩ : ∃ g, w.heap.size = g := ⟨_, rfl⟩
 have hb1 : Below w.heap.size w w1 := by rw [← hw1]; exact bl_one _
 have hc1 : Cells w1 g [.slice FA fn fc] := by rw [← hw1, ← hg]; exact Cells.new w [.slice FA fn fc] _
 have EP : Hid (∀ W, Below w1.heap.size w1 W → W.cell? ⟨g, 0, none⟩ = some (.slice FA fn fc)) := Lib.hid fun W hW => (hc1.on hW).at_ 0 _ rfl
 have HP : Hid (∀ W, Below w1.heap.size w1 W → PgC W FA fn fc fs) := Lib.hid fun W hW => h.on (hb1.trans (hW.mono hb1.size))
 have HB1 := Lib.hid hb1
 have HBW : Hid (∀ W, Below w1.heap.size w1 W → Below w.heap.size w W) := Lib.hid fun W hW => hb1.trans (hW.mono hb1.size)
 have hfn := h.pg.le
 have hn0 : (fn : Int) ≤ 50 := by omega
 have p0 := EP.out w1 (Below.refl _ _)
 clear hb1 hc1
 obtain ⟨bk, off, s, b, A0, n0, c0, A1, n1, c1, A2, n2, c2, A3, n3, c3, A4, n4, c4, A5, n5, c5, A6, n6, c6, A7, n7, c7, A8, n8, c8, x, rfl, hbk, hx, hcf, hfw, hcan⟩ := (HP.out w1 (Below.refl _ _)).get (i := f) hi
 have y0 := hcf 0 _ rfl
 have y1 := hcf 1 _ rfl
 have y2 := hcf 2 _ rfl
 have y3 := hcf 3 _ rfl
 have y4 := hcf 4 _ rfl
 have y5 := hcf 5 _ rfl
 have y6 := hcf 6 _ rfl
 have y7 := hcf 7 _ rfl
 have y8 := hcf 8 _ rfl
 have y9 := hcf 9 _ rfl
 have y10 := hcf 10 _ rfl
 simp only [Nat.add_zero] at y0
 obtain rfl : x0 = x := by rw [hx0] at hx; injection hx
 have l4 := hfw.r4.1
 have l6 := hfw.r6.1
 have l7 := hfw.r7.1
 have hsome := hcan.some_
 obtain ⟨hno, h74⟩ : nodesOk x0.nodes ∧ n7 = n4 := by
  rcases hcan.tab with ⟨e, _⟩ | ⟨a, b, c, d⟩
  ·rw [e] at hnb; simp at hnb
  ·exact ⟨a, by omega⟩
 obtain ⟨nb, no, q0, z, rfl, hnb6, -, -, -, -, -⟩ := node_get hfw.r6 (a := 0) (by omega) (by omega)
 obtain ⟨cb, co, yo0, ya0, rfl, hcb, -, -, -, -⟩ := code_get hfw.r4 (k := 0) (by omega)
 obtain ⟨ab, ao, v0, rfl, hab, -, -⟩ := SlR.cell1 (f := Value.int .i64) hfw.r7 (i := 0) (by omega)
 obtain ⟨s4, s5, s6, s7, s8, s0⟩ := hfw.sm
 have hf0 : (0 : Int) ≤ (f : Int) := by omega
 have hf1 : (f : Int) < (fn : Int) := by omega
 have hn40 : (n4 : Int) ≤ 150 := by omega
 rw [l4] at ho hr
 rw [l4]
 obtain ⟨w2, hw2⟩ : ∃ X, w1.alloc (.cells #[.slice (some ⟨ob, 0, none⟩) n4 n4, .slice (some ⟨rb, 0, none⟩) n4 n4] 178) = X := ⟨_, rfl⟩
 obtain ⟨gt, hgt⟩ : ∃ X, w1.heap.size = X := ⟨_, rfl⟩
 have hb2 : Below w1.heap.size w1 w2 := by rw [← hw2]; exact bl_one _
 have hc2 : Cells w2 gt [.slice (some ⟨ob, 0, none⟩) n4 n4, .slice (some ⟨rb, 0, none⟩) n4 n4] := by rw [← hw2, ← hgt]; exact Cells.new w1 [.slice (some ⟨ob, 0, none⟩) n4 n4, .slice (some ⟨rb, 0, none⟩) n4 n4] _
 have HX0 := Lib.hid hx0
 have HFW := Lib.hid hfw
 have HL4 : Hid (x0.code.length = n4 ∧ n7 = n4) := Lib.hid ⟨l4, h74⟩
 have HLT : Hid (cb < w1.heap.size ∧ nb < w1.heap.size ∧ ab < w1.heap.size) := Lib.hid ⟨hcb, hnb6, hab⟩
 have HOF : Hid (∀ W, Below w.heap.size w W → OfW W ob n4 ∧ Cells W rb (arrB n4 ff)) := Lib.hid fun W hW => ⟨ho.on hW, hr.on hW⟩
 have hg11 : g < w1.heap.size := World.block_lt_of_cell? _ _ p0
 have q0' := (hb2.cell (p := ⟨g, 0, none⟩) (World.block_lt_of_cell? _ _ p0)).trans p0
 have y0 := (hb2.cell hbk).trans y0
 have y1 := (hb2.cell hbk).trans y1
 have y2 := (hb2.cell hbk).trans y2
 have y3 := (hb2.cell hbk).trans y3
 have y4 := (hb2.cell hbk).trans y4
 have y5 := (hb2.cell hbk).trans y5
 have y6 := (hb2.cell hbk).trans y6
 have y7 := (hb2.cell hbk).trans y7
 have y8 := (hb2.cell hbk).trans y8
 have y9 := (hb2.cell hbk).trans y9
 have y10 := (hb2.cell hbk).trans y10
 have HB12 := Lib.hid hb2
 have HC2 := Lib.hid hc2
 clear h hfw hcan hcf hx hx0 l4 l6 l7 hno h74 hnb ho hr z hb2 hc2 p0 hg11
 go_enter Tryz.func164, Tryz.ntmps164
 go_upto_region 2 with fail
 clear y0 y1 y2 y3 y4 y5 y6 y7 y8 y9 y10 q0'
 obtain ⟨w3, hwX⟩ : ∃ X, World.alloc w2 (.cells #[.string s, .bool b, .slice A0 n0 c0, .slice A1 n1 c1, .slice A2 n2 c2, .slice A3 n3 c3, .slice (some ⟨cb, co, none⟩) n4 c4, .slice A5 n5 c5, .slice (some ⟨nb, no, none⟩) n6 c6, .slice (some ⟨ab, ao, none⟩) n7 c7, .slice A8 n8 c8] 38) = X := ⟨_, rfl⟩
 obtain ⟨g3, hgX⟩ : ∃ X, (World.heap w2).size = X := ⟨_, rfl⟩
 have hb3 : Below (World.heap w2).size w2 w3 := by rw [← hwX]; exact bl_one _
 have hc3 : Cells w3 g3 [.string s, .bool b, .slice A0 n0 c0, .slice A1 n1 c1, .slice A2 n2 c2, .slice A3 n3 c3, .slice (some ⟨cb, co, none⟩) n4 c4, .slice A5 n5 c5, .slice (some ⟨nb, no, none⟩) n6 c6, .slice (some ⟨ab, ao, none⟩) n7 c7, .slice A8 n8 c8] := by rw [← hwX, ← hgX]; exact Cells.new w2 [.string s, .bool b, .slice A0 n0 c0, .slice A1 n1 c1, .slice A2 n2 c2, .slice A3 n3 c3, .slice (some ⟨cb, co, none⟩) n4 c4, .slice A5 n5 c5, .slice (some ⟨nb, no, none⟩) n6 c6, .slice (some ⟨ab, ao, none⟩) n7 c7, .slice A8 n8 c8] _
 rw [hwX, hgX]
 clear hwX hgX
 have hb13 : Below w1.heap.size w1 w3 := HB12.out.trans (hb3.mono HB12.out.size)
 have HCF : Hid (∀ W, Below w3.heap.size w3 W → Cells W g3 [.string s, .bool b, .slice A0 n0 c0, .slice A1 n1 c1, .slice A2 n2 c2, .slice A3 n3 c3, .slice (some ⟨cb, co, none⟩) n4 c4, .slice A5 n5 c5, .slice (some ⟨nb, no, none⟩) n6 c6, .slice (some ⟨ab, ao, none⟩) n7 c7, .slice A8 n8 c8]) := Lib.hid fun W hW => hc3.on hW
 have HCT : Hid (∀ W, Below w3.heap.size w3 W → Cells W gt [.slice (some ⟨ob, 0, none⟩) n4 n4, .slice (some ⟨rb, 0, none⟩) n4 n4]) := Lib.hid fun W hW => (HC2.out.on hb3).on hW
 have H13 : Hid (∀ W, Below w3.heap.size w3 W → Below w1.heap.size w1 W) := Lib.hid fun W hW => hb13.trans (hW.mono hb13.size)
 have HFIN : Hid (∀ W, Below w3.heap.size w3 W → Below w.heap.size w W) := Lib.hid fun W hW => HBW.out W (H13.out W hW)
 have HF3 : Hid (∀ W, Below w3.heap.size w3 W → FnW W W.heap.size s b A0 n0 c0 A1 n1 c1 A2 n2 c2 A3 n3 c3 (some ⟨cb, co, none⟩) n4 c4 A5 n5 c5 (some ⟨nb, no, none⟩) n6 c6 (some ⟨ab, ao, none⟩) n7 c7 A8 n8 c8 x0) := Lib.hid fun W hW => (HFW.out.keep (H13.out W hW)).more (H13.out W hW).size
 have HOT : Hid (∀ W, Below w3.heap.size w3 W → OfW W ob n4 ∧ Cells W rb (arrB n4 ff)) := Lib.hid fun W hW => HOF.out W (HFIN.out W hW)
 have HCO : Hid (∀ i : Nat, i < n4 → ∃ yo ya : Int, ∀ W, Below w3.heap.size w3 W → W.cell? ⟨cb, co + i * 2, none⟩ = some (.int .i64 yo) ∧ W.cell? ⟨cb, co + i * 2 + 1, none⟩ = some (.int .i64 ya)) := Lib.hid fun i hi => by
  obtain ⟨b', o', yo, ya, e, hb', _, _, u0, u1⟩ := code_get HFW.out.r4 hi
  injection e with e
  injection e with e1 e2
  subst e1
  subst e2
  exact ⟨yo, ya, fun W hW => ⟨((H13.out W hW).cell (p := ⟨cb, co + i * 2, none⟩) hb').trans u0, ((H13.out W hW).cell (p := ⟨cb, co + i * 2 + 1, none⟩) hb').trans u1⟩⟩
 have HAT : Hid (∀ i : Nat, i < n4 → ∃ v : Int, ∀ W, Below w3.heap.size w3 W → W.cell? ⟨ab, ao + i, none⟩ = some (.int .i64 v)) := Lib.hid fun i hi => by
  obtain ⟨b', o', v, e, hb', _, hv⟩ := SlR.cell1 (f := Value.int .i64) HFW.out.r7 (i := i) (by have := HL4.out.2; omega)
  injection e with e
  injection e with e1 e2
  subst e1
  subst e2
  exact ⟨v, fun W hW => ((H13.out W hW).cell (p := ⟨ab, ao + i, none⟩) hb').trans hv⟩
 clear hb3 hc3 hb13 hw1 hg hw2 hgt
 go_wp2_with fail
 go_loopw [10] (fun iv wr => ∃ (j : Nat), iv = .int .i64 (j : Int) ∧ j ≤ n4 ∧ Hid (Below w3.heap.size w3 wr)) (fun iv _ => n4 - (intOf iv).toNat)
 case atStart => exact ⟨0, rfl, Nat.zero_le _, Lib.hid (Below.refl _ _)⟩
 case round =>
  obtain ⟨j, rfl, hj, HB⟩ := hrel
  have hj0 : (0 : Int) ≤ (j : Int) := by omega
  have e6 := (HCF.out wr HB.out).at_ 6 _ rfl
  have t0 := (HCT.out wr HB.out).at_ 0 _ rfl
  have t1 := (HCT.out wr HB.out).at_ 1 _ rfl
  by_cases hlt : j < n4
  ·have hjn : (j : Int) < (n4 : Int) := by omega
   obtain ⟨yo, ya, hyc⟩ := HCO.out j hlt
   obtain ⟨u0, u1⟩ := hyc wr HB.out
   have rc := (HOT.out wr HB.out).2.at_ j _ (arrB_at ff hlt)
   obtain ⟨fj, hfj⟩ : ∃ v, ff j = v := ⟨_, rfl⟩
   rw [hfj] at rc
   clear hyc hfj
   by_cases hc0 : yo = 33
   ·subst hc0
    by_cases hc1 : ya = nd
    ·have tt : (ya != nd) = false := by simpa using hc1
     subst hc1
     cases fj with
     | false =>
      go_wp2_with fail
      go_roundw
      case rel => exact ⟨j + 1, by go_num, by omega, HB⟩
      case measure => first | (simp [intOf]; done) | (simp [intOf]; omega)
     | true =>
      obtain ⟨AJ, kj, cj, lj, hoj, hkj, -⟩ := (HOT.out wr HB.out).1.at_ hlt
      have HOJ := Lib.hid hoj
      have hkj0 : (kj : Int) ≤ 60 := by omega
      clear hoj
      go_wp2_with fail
      clear u0 u1 rc tt
      go_loopw [11] (fun iv wx => ∃ (p : Nat), iv = .int .i64 (p : Int) ∧ p ≤ n4 ∧ Hid (Below wr.heap.size wr wx)) (fun iv _ => n4 - (intOf iv).toNat)
      case atStart => exact ⟨0, rfl, Nat.zero_le _, Lib.hid (Below.refl _ _)⟩
      case round =>
       rename_i wr0
       obtain ⟨p, rfl, hp, HBx⟩ := hrel
       have hp0 : (0 : Int) ≤ (p : Int) := by omega
       have HB3 : Hid (Below w3.heap.size w3 wr) := Lib.hid (HB.out.trans (HBx.out.mono HB.out.size))
       have e6 := (HCF.out wr HB3.out).at_ 6 _ rfl
       have t0 := (HCT.out wr HB3.out).at_ 0 _ rfl
       have t1 := (HCT.out wr HB3.out).at_ 1 _ rfl
       by_cases hlp : p < n4
       ·have hpn : (p : Int) < (n4 : Int) := by omega
        have rc := (HOT.out wr HB3.out).2.at_ p _ (arrB_at ff hlp)
        obtain ⟨fp, hfp⟩ : ∃ v, ff p = v := ⟨_, rfl⟩
        rw [hfp] at rc
        clear hfp
        cases fp with
        | false =>
         go_wp2_with fail
         go_quiet (fail)
         go_wp2_with fail
         go_roundw
         case rel => exact ⟨p + 1, by go_num, by omega, Lib.hid (HBx.out.trans (below_drewN' (Below.refl _ _) _ |>.mono HBx.out.size))⟩
         case measure => first | (simp [intOf]; done) | (simp [intOf]; omega)
        | true =>
         obtain ⟨AP, kp, cp, lp, hop, hkp, hsp⟩ := (HOT.out wr HB3.out).1.at_ hlp
         obtain ⟨v, hvc⟩ := HAT.out p hlp
         have HOP := Lib.hid hop
         have HSP := Lib.hid hsp
         have HRC := Lib.hid rc
         have HVC := Lib.hid hvc
         have hkp0 : (kp : Int) ≤ 60 := by omega
         have HOJ3 : Hid (wr.cell? ⟨ob, j, none⟩ = some (.slice AJ kj cj)) := Lib.hid ((HBx.out.cell (p := ⟨ob, j, none⟩) (World.block_lt_of_cell? _ _ HOJ.out)).trans HOJ.out)
         have hp7 : p < n7 := by have := HL4.out.2; omega
         have hp7i : (p : Int) < (n7 : Int) := by omega
         have cIn : Hid (∀ W, Below wr.heap.size wr W → Calls Tryz.prog 175 #[.slice (some ⟨nb, no, none⟩) n6 c6, .int .i64 v, .int .i64 ya] W (IsBool W)) := Lib.hid fun W hW => rinside13_any _ _ _ _ _ _ W (HF3.out W (HB3.out.trans (hW.mono HB3.out.size))).r6 (by omega)
         have cTk : Hid (∀ W, Below wr.heap.size wr W → Calls Tryz.prog 176 #[.agg #[.slice (some ⟨bk, off, none⟩) fn fc], .int .i64 (f : Int), .int .i64 (p : Int), .slice AP kp cp] W (IsNat W)) := Lib.hid fun W hW => rtakes_any _ fn fc fs f p x0 AP kp cp lp W (HP.out W (H13.out W (HB3.out.trans (hW.mono HB3.out.size)))) hi HX0.out (by have := HL4.out.1; omega) (HSP.out.on hW) (by omega)
         clear hop hsp rc hvc
         go_wp2_with fail
         refine wp_region_held (S := fun W => Below wr.heap.size wr W) (by kernel_rfl) ?_
         change wpAnyH _ _ _ _ _ _ _ _ (World.drew _)
         have hS0 : Below wr.heap.size wr wr.drew := (Below.refl _ _).drew
         refine tkH 0 rfl (by intro W hW; go_simp; first | done | rfl) hS0 ?_
         try go_simp
         refine tkH 1 rfl (by intro W hW; have x2 := HCT.out W (HB3.out.trans (hW.mono HB3.out.size)); have t0 := x2.at_ 0 _ rfl; have t1 := x2.at_ 1 _ rfl; go_simp; first | done | rfl) hS0 ?_
         try go_simp
         refine tkH 2 rfl (by intro W hW; go_simp; first | done | rfl) hS0 ?_
         try go_simp
         refine tkH 3 rfl (by intro W hW; go_simp; first | done | rfl) hS0 ?_
         try go_simp
         refine tkH 4 rfl (by intro W hW; have o9 := (hW.cell (p := ⟨rb, p, none⟩) (World.block_lt_of_cell? _ _ HRC.out)).trans HRC.out; go_simp; first | done | rfl) hS0 ?_
         try go_simp
         refine tkH 5 rfl (by intro W hW; go_simp; first | done | rfl) hS0 ?_
         try go_simp
         refine tkH 6 rfl (by intro W hW; go_simp; first | done | rfl) hS0 ?_
         try go_simp
         refine tkH 7 rfl (by intro W hW; have x3 := HCF.out W (HB3.out.trans (hW.mono HB3.out.size)); have e8 := x3.at_ 8 _ rfl; have e9 := x3.at_ 9 _ rfl; go_simp; first | done | rfl) hS0 ?_
         try go_simp
         refine tkH 8 rfl (by intro W hW; go_simp; first | done | rfl) hS0 ?_
         try go_simp
         refine tkH 9 rfl (by intro W hW; have x3 := HCF.out W (HB3.out.trans (hW.mono HB3.out.size)); have e8 := x3.at_ 8 _ rfl; have e9 := x3.at_ 9 _ rfl; go_simp; first | done | rfl) hS0 ?_
         try go_simp
         refine tkH 10 rfl (by intro W hW; go_simp; first | done | rfl) hS0 ?_
         try go_simp
         refine tkH 11 rfl (by intro W hW; go_simp; first | done | rfl) hS0 ?_
         try go_simp
         refine tkH 12 rfl (by intro W hW; have v9 := HVC.out W (HB3.out.trans (hW.mono HB3.out.size)); go_simp; first | done | rfl) hS0 ?_
         try go_simp
         refine tkH 13 rfl (by intro W hW; go_simp; first | done | rfl) hS0 ?_
         try go_simp
         refine wpAnyH_one (i := 14) (by kernel_rfl) rfl (fun K hK => ?_)
         go_simp
         refine (cIn.out _ hS0).mono ?_
         rintro e w7 ⟨⟨r, rfl⟩, hb7⟩
         have hS7 : Below wr.heap.size wr w7 := hS0.trans (hb7.mono hS0.size)
         clear hb7 hS0
         go_simp
         refine hK _ _ ⟨hS7, ?_⟩; clear hK K
         try go_simp
         cases r with
         | false =>
          refine tkH 15 rfl (by intro W hW; go_simp; first | done | rfl) hS7 ?_
          try go_simp
          refine tkH 16 rfl (by intro W hW; go_simp; first | done | rfl) hS7 ?_
          try go_simp
          refine wpAnyH_off (i := 17) rfl (by kernel_rfl) (by kernel_rfl) (by kernel_rfl) (by rfl) (by intro _ _ _ h; exact h) hS7 ?_
          try go_simp
          refine wpAnyH_off (i := 18) rfl (by kernel_rfl) (by kernel_rfl) (by kernel_rfl) (by rfl) (by intro _ _ _ h; exact h) hS7 ?_
          try go_simp
          refine wpAnyH_off (i := 19) rfl (by kernel_rfl) (by kernel_rfl) (by kernel_rfl) (by rfl) (by intro _ _ _ h; exact h) hS7 ?_
          try go_simp
          refine wpAnyH_off (i := 20) rfl (by kernel_rfl) (by kernel_rfl) (by kernel_rfl) (by rfl) (by intro _ _ _ h; exact h) hS7 ?_
          try go_simp
          refine wpAnyH_off (i := 21) rfl (by kernel_rfl) (by kernel_rfl) (by kernel_rfl) (by rfl) (by intro _ _ _ h; exact h) hS7 ?_
          try go_simp
          refine wpAnyH_off (i := 22) rfl (by kernel_rfl) (by kernel_rfl) (by kernel_rfl) (by rfl) (by intro _ _ _ h; exact h) hS7 ?_
          try go_simp
          refine wpAnyH_off (i := 23) rfl (by kernel_rfl) (by kernel_rfl) (by kernel_rfl) (by rfl) (by intro _ _ _ h; exact h) hS7 ?_
          try go_simp
          refine wpAnyH_off (i := 24) rfl (by kernel_rfl) (by kernel_rfl) (by kernel_rfl) (by rfl) (by intro _ _ _ h; exact h) hS7 ?_
          try go_simp
          refine wpAnyH_off (i := 25) rfl (by kernel_rfl) (by kernel_rfl) (by kernel_rfl) (by rfl) (by intro _ _ _ h; exact h) hS7 ?_
          try go_simp
          refine wpAnyH_off (i := 26) rfl (by kernel_rfl) (by kernel_rfl) (by kernel_rfl) (by rfl) (by intro _ _ _ h; exact h) hS7 ?_
          try go_simp
          refine wpAnyH_off (i := 27) rfl (by kernel_rfl) (by kernel_rfl) (by kernel_rfl) (by rfl) (by intro _ _ _ h; exact h) hS7 ?_
          try go_simp
          refine wpAnyH_off (i := 28) rfl (by kernel_rfl) (by kernel_rfl) (by kernel_rfl) (by rfl) (by intro _ _ _ h; exact h) hS7 ?_
          try go_simp
          refine wpAnyH_off (i := 29) rfl (by kernel_rfl) (by kernel_rfl) (by kernel_rfl) (by rfl) (by intro _ _ _ h; exact h) hS7 ?_
          try go_simp
          refine wpAnyH_off (i := 30) rfl (by kernel_rfl) (by kernel_rfl) (by kernel_rfl) (by rfl) (by intro _ _ _ h; exact h) hS7 ?_
          try go_simp
          refine wpAnyH_off (i := 31) rfl (by kernel_rfl) (by kernel_rfl) (by kernel_rfl) (by rfl) (by intro _ _ _ h; exact h) hS7 ?_
          try go_simp
          refine wpAnyH_off (i := 32) rfl (by kernel_rfl) (by kernel_rfl) (by kernel_rfl) (by rfl) (by intro _ _ _ h; exact h) hS7 ?_
          try go_simp
          refine wpAnyH_off (i := 33) rfl (by kernel_rfl) (by kernel_rfl) (by kernel_rfl) (by rfl) (by intro _ _ _ h; exact h) hS7 ?_
          try go_simp
          refine wpAnyH_off (i := 34) rfl (by kernel_rfl) (by kernel_rfl) (by kernel_rfl) (by rfl) (by intro _ _ _ h; exact h) hS7 ?_
          try go_simp
          refine wpAnyH_off (i := 35) rfl (by kernel_rfl) (by kernel_rfl) (by kernel_rfl) (by rfl) (by intro _ _ _ h; exact h) hS7 ?_
          try go_simp
          refine wpAnyH_off (i := 36) rfl (by kernel_rfl) (by kernel_rfl) (by kernel_rfl) (by rfl) (by intro _ _ _ h; exact h) hS7 ?_
          try go_simp
          refine wpAnyH_off (i := 37) rfl (by kernel_rfl) (by kernel_rfl) (by kernel_rfl) (by rfl) (by intro _ _ _ h; exact h) hS7 ?_
          try go_simp
          refine wpAnyH_off (i := 38) rfl (by kernel_rfl) (by kernel_rfl) (by kernel_rfl) (by rfl) (by intro _ _ _ h; exact h) hS7 ?_
          try go_simp
          refine wpAnyH_off (i := 39) rfl (by kernel_rfl) (by kernel_rfl) (by kernel_rfl) (by rfl) (by intro _ _ _ h; exact h) hS7 ?_
          try go_simp
          refine tkH 40 rfl (by intro W hW; go_simp; first | done | rfl) hS7 ?_
          try go_simp
          try go_simp
          refine wpAnyH_done (by kernel_rfl) ?_ _
          try go_simp
          have HEND : Hid (Below wr.heap.size wr w7) := Lib.hid hS7
          clear hS7
          go_wp2_with fail
          go_roundw
          case rel => exact ⟨p + 1, by go_num, by omega, Lib.hid (HBx.out.trans (HEND.out.mono HBx.out.size))⟩
          case measure => first | (simp [intOf]; done) | (simp [intOf]; omega)
         | true =>
          refine tkH 15 rfl (by intro W hW; go_simp; first | done | rfl) hS7 ?_
          try go_simp
          refine tkH 16 rfl (by intro W hW; go_simp; first | done | rfl) hS7 ?_
          try go_simp
          refine tkH 17 rfl (by intro W hW; go_simp; first | done | rfl) hS7 ?_
          try go_simp
          refine tkH 18 rfl (by intro W hW; have x2 := HCT.out W (HB3.out.trans (hW.mono HB3.out.size)); have t0 := x2.at_ 0 _ rfl; have t1 := x2.at_ 1 _ rfl; go_simp; first | done | rfl) hS7 ?_
          try go_simp
          refine tkH 19 rfl (by intro W hW; go_simp; first | done | rfl) hS7 ?_
          try go_simp
          refine tkH 20 rfl (by intro W hW; go_simp; first | done | rfl) hS7 ?_
          try go_simp
          refine tkH 21 rfl (by intro W hW; have o9 := (hW.cell (p := ⟨ob, p, none⟩) (World.block_lt_of_cell? _ _ HOP.out)).trans HOP.out; go_simp; first | done | rfl) hS7 ?_
          try go_simp
          refine tkH 22 rfl (by intro W hW; go_simp; first | done | rfl) hS7 ?_
          try go_simp
          refine tkH 23 rfl (by intro W hW; have q9 := EP.out W (H13.out W (HB3.out.trans (hW.mono HB3.out.size))); go_simp; first | done | rfl) hS7 ?_
          try go_simp
          refine tkH 24 rfl (by intro W hW; go_simp; first | done | rfl) hS7 ?_
          try go_simp
          refine tkH 25 rfl (by intro W hW; go_simp; first | done | rfl) hS7 ?_
          try go_simp
          refine tkH 26 rfl (by intro W hW; go_simp; first | done | rfl) hS7 ?_
          try go_simp
          refine tkH 27 rfl (by intro W hW; have x2 := HCT.out W (HB3.out.trans (hW.mono HB3.out.size)); have t0 := x2.at_ 0 _ rfl; have t1 := x2.at_ 1 _ rfl; go_simp; first | done | rfl) hS7 ?_
          try go_simp
          refine tkH 28 rfl (by intro W hW; go_simp; first | done | rfl) hS7 ?_
          try go_simp
          refine tkH 29 rfl (by intro W hW; go_simp; first | done | rfl) hS7 ?_
          try go_simp
          refine tkH 30 rfl (by intro W hW; have o9 := (hW.cell (p := ⟨ob, p, none⟩) (World.block_lt_of_cell? _ _ HOP.out)).trans HOP.out; go_simp; first | done | rfl) hS7 ?_
          try go_simp
          refine tkH 33 rfl (by intro W hW; go_simp; first | done | rfl) hS7 ?_
          try go_simp
          refine tkH 34 rfl (by intro W hW; have x2 := HCT.out W (HB3.out.trans (hW.mono HB3.out.size)); have t0 := x2.at_ 0 _ rfl; have t1 := x2.at_ 1 _ rfl; go_simp; first | done | rfl) hS7 ?_
          try go_simp
          refine tkH 35 rfl (by intro W hW; go_simp; first | done | rfl) hS7 ?_
          try go_simp
          refine tkH 36 rfl (by intro W hW; go_simp; first | done | rfl) hS7 ?_
          try go_simp
          refine tkH 37 rfl (by intro W hW; have o9 := (hW.cell (p := ⟨ob, j, none⟩) (World.block_lt_of_cell? _ _ HOJ3.out)).trans HOJ3.out; go_simp; first | done | rfl) hS7 ?_
          try go_simp
          refine tkH 38 rfl (by intro W hW; go_simp; first | done | rfl) hS7 ?_
          try go_simp
          refine wpAnyH_one (i := 31) (by kernel_rfl) rfl (fun K hK => ?_)
          go_simp
          refine (cTk.out _ hS7).mono ?_
          rintro e w8 ⟨tn, rfl, htn, hb8⟩
          have hS8 : Below wr.heap.size wr w8 := hS7.trans (hb8.mono hS7.size)
          have htn0 : (tn : Int) ≤ 300 := by omega
          have tw : IntKind.i64.wrap ((kp : Int) - (tn : Int)) = (kp : Int) - (tn : Int) := by rw [wr64]; unfold wrap64; omega
          clear hb8 hS7
          go_simp
          refine hK _ _ ⟨hS8, ?_⟩; clear hK K
          try go_simp
          by_cases hcl : (kp : Int) - (tn : Int) < (kj : Int)
          ·have td : decide ((kp : Int) - (tn : Int) < (kj : Int)) = true := by rw [decide_eq_true_eq]; exact hcl
           refine tkH 32 rfl (by intro W hW; go_simp; first | done | rfl) hS8 ?_
           try go_simp
           refine tkH 39 rfl (by intro W hW; go_simp; first | done | rfl) hS8 ?_
           try go_simp
           refine tkH 40 rfl (by intro W hW; go_simp; first | done | rfl) hS8 ?_
           try go_simp
           try go_simp
           refine wpAnyH_done (by kernel_rfl) ?_ _
           try go_simp
           have HEND : Hid (Below wr.heap.size wr w8) := Lib.hid hS8
           clear hS8
           go_wp2_with fail
           go_ret
           exact ⟨⟨_, rfl⟩, HFIN.out _ (HB3.out.trans (HEND.out.mono HB3.out.size))⟩
          ·have td : decide ((kp : Int) - (tn : Int) < (kj : Int)) = false := by rw [decide_eq_false_iff_not]; exact hcl
           refine tkH 32 rfl (by intro W hW; go_simp; first | done | rfl) hS8 ?_
           try go_simp
           refine tkH 39 rfl (by intro W hW; go_simp; first | done | rfl) hS8 ?_
           try go_simp
           refine tkH 40 rfl (by intro W hW; go_simp; first | done | rfl) hS8 ?_
           try go_simp
           try go_simp
           refine wpAnyH_done (by kernel_rfl) ?_ _
           try go_simp
           have HEND : Hid (Below wr.heap.size wr w8) := Lib.hid hS8
           clear hS8
           go_wp2_with fail
           go_roundw
           case rel => exact ⟨p + 1, by go_num, by omega, Lib.hid (HBx.out.trans (HEND.out.mono HBx.out.size))⟩
           case measure => first | (simp [intOf]; done) | (simp [intOf]; omega)
       ·obtain rfl : p = n4 := by omega
        go_wp2_with fail
        go_roundw
        case rel => exact ⟨j + 1, by go_num, by omega, HB3⟩
        case measure => first | (simp [intOf]; done) | (simp [intOf]; omega)
    ·have tt : (ya != nd) = true := by simpa using hc1
     go_wp2_with fail
     go_roundw
     case rel => exact ⟨j + 1, by go_num, by omega, HB⟩
     case measure => first | (simp [intOf]; done) | (simp [intOf]; omega)
   ·have tt : (yo != 33) = true := by simpa using hc0
    go_wp2_with fail
    go_roundw
    case rel => exact ⟨j + 1, by go_num, by omega, HB⟩
    case measure => first | (simp [intOf]; done) | (simp [intOf]; omega)
  ·obtain rfl : j = n4 := by omega
   go_wp2_with fail
   go_ret
   exact ⟨⟨_, rfl⟩, HFIN.out _ HB.out⟩
end Go.Proofs.YtobmjnmcjddhcaaGreat
