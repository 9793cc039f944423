import Derived.Test.YtobmjnmcjddhcaaGreatRg15
import Derived.Test.YtobmjnmcjddhcaaGreatRg16
import Derived.Test.YtobmjnmcjddhcaaGreatRg4
import Derived.Test.YtobmjnmcjddhcaaGreatRg1
import Derived.BigQuiet
set_option linter.unusedSimpArgs false
set_option linter.unusedVariables false
namespace Go.Proofs.YtobmjnmcjddhcaaGreat
section
set_option maxRecDepth 100000
set_option maxHeartbeats 32000000
open Go.RowKit
structure FnFine (fs : List DFunc) (f : Nat) (x : DFunc) : Prop where
 entry : f = 0 → EntryR fs
 calls : ∀ k, k < x.code.length → CallsR fs x k
 ty : TyOk fs x
structure FineB (fs : List DFunc) : Prop where
 one : 1 ≤ fs.length
 le : fs.length ≤ 40
 can : ∀ x ∈ fs, canOk x
 may : ∀ x ∈ fs, MayF x
 fn : ∀ (i : Nat) (x : DFunc), fs[i]? = some x → FnFine fs i x
def IsChkX (fs : List DFunc) (w : World) (e : Ending) (w' : World) : Prop := ∃ r a b : Int, e = .returned (.tuple #[.int .i64 r, .agg #[.int .i64 a, .int .i64 b]]) ∧ (r = 0 → FineB fs) ∧ Below w.heap.size w w'
def IsFineX (fs : List DFunc) (w : World) (e : Ending) (w' : World) : Prop := ∃ r : Bool, e = .returned (.bool r) ∧ (r = true → FineB fs) ∧ Below w.heap.size w w'
theorem rfunc24x_any (FA : Option Addr) (fn fc : Nat) (fs : List DFunc) (f : Nat) (x0 : DFunc) (w : World) (h : PgC w FA fn fc fs) (hi : f < fn) (hx0 : fs[f]? = some x0) (hbare : bareF x0 = true) :
  Calls Tryz.prog 65 #[.agg #[.slice FA fn fc], .int .i64 (f : Int)] w (IsTwoX (FnFine fs f x0) w) := by
 obtain ⟨w1, hw1⟩ : ∃ X, w.alloc (.cells #[.slice FA fn fc] 24) = X := ⟨_, rfl⟩
 obtain ⟨g, hg⟩ : ∃ g, w.heap.size = g := ⟨_, rfl⟩
 have hb1 : Below w.heap.size w w1 := by rw [← hw1]; exact bl_one _
 have hc1 : Cells w1 g [.slice FA fn fc] := by rw [← hw1, ← hg]; exact Cells.new w [.slice FA fn fc] _
 have EP : Hid (∀ W, Below w1.heap.size w1 W → W.cell? ⟨g, 0, none⟩ = some (.slice FA fn fc)) := Hd fun W hW => (hc1.on hW).at_ 0 _ rfl
 have HP : Hid (∀ W, Below w1.heap.size w1 W → PgC W FA fn fc fs) := Hd fun W hW => h.on (hb1.trans (hW.mono hb1.size))
 have HB1 := Hd hb1
 have HBW : Hid (∀ W, Below w1.heap.size w1 W → Below w.heap.size w W) := Hd fun W hW => hb1.trans (hW.mono hb1.size)
 have hfn := h.pg.le
 have hn0 : (fn : Int) ≤ 50 := by omega
 have p0 := EP.out w1 (Below.refl _ _)
 clear hb1 hc1
 obtain ⟨bk, off, s, b, A0, n0, c0, A1, n1, c1, A2, n2, c2, A3, n3, c3, A4, n4, c4, A5, n5, c5, A6, n6, c6, A7, n7, c7, A8, n8, c8, x, rfl, hbk, hx, hcf, hfw, hcan⟩ := (HP.out w1 (Below.refl _ _)).get (i := f) hi
 have y0 := hcf 0 _ rfl
 have y1 := hcf 1 _ rfl
 have y2 := hcf 2 _ rfl
 have y3 := hcf 3 _ rfl
 have y4 := hcf 4 _ rfl
 have y5 := hcf 5 _ rfl
 have y6 := hcf 6 _ rfl
 have y7 := hcf 7 _ rfl
 have y8 := hcf 8 _ rfl
 have y9 := hcf 9 _ rfl
 have y10 := hcf 10 _ rfl
 simp only [Nat.add_zero] at y0
 obtain rfl : x0 = x := by rw [hx0] at hx; injection hx
 have l4 := hfw.r4.1
 have l6 := hfw.r6.1
 have l7 := hfw.r7.1
 have l8 := hfw.r8.1
 obtain ⟨s4, s5, s6, s7, s8, s0⟩ := hfw.sm
 have hf0 : (0 : Int) ≤ (f : Int) := by omega
 have hf1 : (f : Int) < (fn : Int) := by omega
 have t0 : decide ((f : Int) < 0) = false := dcF (by omega)
 have t0b : decide (f < 0) = false := dcF (by omega)
 have t1 : decide ((f : Int) ≥ (fn : Int)) = false := dcF (by omega)
 have t1b : decide (fn ≤ f) = false := dcF (by omega)
 have HFW := Hd hfw
 have HX0 := Hd hx0
 have HBA := Hd hbare
 have HBF : Hid (bareF x0 = decide (n6 + n7 + n8 = 0)) := Hd (by unfold bareF; rw [l6, l7, l8])
 have HYY : Hid (∀ W, Below w1.heap.size w1 W → W.cell? ⟨bk, off + f * 11, none⟩ = some (.string s) ∧ W.cell? ⟨bk, off + f * 11 + 1, none⟩ = some (.bool b) ∧ W.cell? ⟨bk, off + f * 11 + 2, none⟩ = some (.slice A0 n0 c0) ∧ W.cell? ⟨bk, off + f * 11 + 3, none⟩ = some (.slice A1 n1 c1) ∧ W.cell? ⟨bk, off + f * 11 + 4, none⟩ = some (.slice A2 n2 c2) ∧ W.cell? ⟨bk, off + f * 11 + 5, none⟩ = some (.slice A3 n3 c3) ∧ W.cell? ⟨bk, off + f * 11 + 6, none⟩ = some (.slice A4 n4 c4) ∧ W.cell? ⟨bk, off + f * 11 + 7, none⟩ = some (.slice A5 n5 c5) ∧ W.cell? ⟨bk, off + f * 11 + 8, none⟩ = some (.slice A6 n6 c6) ∧ W.cell? ⟨bk, off + f * 11 + 9, none⟩ = some (.slice A7 n7 c7) ∧ W.cell? ⟨bk, off + f * 11 + 10, none⟩ = some (.slice A8 n8 c8)) := Hd fun W hW => ⟨(hW.cell (p := ⟨bk, off + f * 11, none⟩) hbk).trans y0, (hW.cell (p := ⟨bk, off + f * 11 + 1, none⟩) hbk).trans y1, (hW.cell (p := ⟨bk, off + f * 11 + 2, none⟩) hbk).trans y2, (hW.cell (p := ⟨bk, off + f * 11 + 3, none⟩) hbk).trans y3, (hW.cell (p := ⟨bk, off + f * 11 + 4, none⟩) hbk).trans y4, (hW.cell (p := ⟨bk, off + f * 11 + 5, none⟩) hbk).trans y5, (hW.cell (p := ⟨bk, off + f * 11 + 6, none⟩) hbk).trans y6, (hW.cell (p := ⟨bk, off + f * 11 + 7, none⟩) hbk).trans y7, (hW.cell (p := ⟨bk, off + f * 11 + 8, none⟩) hbk).trans y8, (hW.cell (p := ⟨bk, off + f * 11 + 9, none⟩) hbk).trans y9, (hW.cell (p := ⟨bk, off + f * 11 + 10, none⟩) hbk).trans y10⟩
 have c21 := Hd (rcheck21x_any _ fn fc fs f x0 w1 (HP.out w1 (Below.refl _ _)) hi hx0 hbare)
 clear h hfw hcan hcf hx hx0 l4 l6 l7 l8 y0 y1 y2 y3 y4 y5 y6 y7 y8 y9 y10
 go_in
 go_wp2_with fail
 refine c21.out.mono ?_
 rintro e w2 ⟨r, a, rfl, hb2, hcr⟩
 have HCR := Hd hcr
 clear hcr
 have HB2 := Hd hb2
 have p2 := EP.out w2 hb2
 have cS := Hd (rstacksx_any _ fn fc fs f x0 w2 (HP.out w2 hb2) hi HX0.out hbare)
 clear hb2 c21 p0
 by_cases hr : r = 0
 ·subst hr
  go_wp2_with fail
  refine cS.out.mono ?_
  clear cS p2
  rintro e w3 (⟨r, at_, hr0, rfl, hb3⟩ | ⟨ob2, rb2, ff, fT, rfl, hob, hrb, -, hb3, hty⟩)
  ·have HB3 : Hid (Below w1.heap.size w1 w3) := Hd (HB2.out.trans (hb3.mono HB2.out.size))
   have t5 : (r != 0) = true := by simpa using hr0
   have HR0 := Hd hr0
   clear hb3 hr0
   go_wp2_with fail
   go_ret2
   exact ⟨r, _, rfl, HBW.out _ (HB3.out.trans ((bl_one _).mono HB3.out.size)), fun h => absurd h HR0.out⟩
  ·have HB3 : Hid (Below w1.heap.size w1 w3) := Hd (HB2.out.trans (hb3.mono HB2.out.size))
   have HTY := Hd hty
   clear hb3 hob hrb hty
   go_upto_region 9 with fail
   obtain ⟨w4, hwX⟩ : ∃ X, World.alloc w3 (.cells #[.slice (some ⟨ob2, 0, none⟩) x0.code.length x0.code.length, .slice (some ⟨rb2, 0, none⟩) x0.code.length x0.code.length] 178) = X := ⟨_, rfl⟩
   obtain ⟨g4, hgX⟩ : ∃ X, (World.heap w3).size = X := ⟨_, rfl⟩
   have hb4 : Below (World.heap w3).size w3 w4 := by rw [← hwX]; exact bl_one _
   have hc4 : Cells w4 g4 [.slice (some ⟨ob2, 0, none⟩) x0.code.length x0.code.length, .slice (some ⟨rb2, 0, none⟩) x0.code.length x0.code.length] := by rw [← hwX, ← hgX]; exact Cells.new w3 [.slice (some ⟨ob2, 0, none⟩) x0.code.length x0.code.length, .slice (some ⟨rb2, 0, none⟩) x0.code.length x0.code.length] _
   rw [hwX, hgX]
   clear hwX hgX
   have HB4 : Hid (Below w1.heap.size w1 w4) := Hd (HB3.out.trans (hb4.mono HB3.out.size))
   have p4 := EP.out w4 HB4.out
   obtain ⟨y0, y1, y2, y3, y4, y5, y6, y7, y8, y9, y10⟩ := HYY.out w4 HB4.out
   obtain ⟨bq, hbq⟩ : ∃ b, decide (n6 + n7 + n8 = 0) = b := ⟨_, rfl⟩
   have cB := Hd (rbare_any s b A0 n0 c0 A1 n1 c1 A2 n2 c2 A3 n3 c3 A4 n4 c4 A5 n5 c5 A6 n6 c6 A7 n7 c7 A8 n8 c8 w4 (by omega) (by omega) (by omega) bq hbq.symm)
   rw [hbq] at HBF
   clear hb4 hc4 hbq
   go_wp2_with fail
   refine cB.out.mono ?_
   rintro e w5 ⟨rfl, hb5⟩
   have HB5 : Hid (Below w1.heap.size w1 w5) := Hd (HB4.out.trans (hb5.mono HB4.out.size))
   clear hb5 cB p4 y0 y1 y2 y3 y4 y5 y6 y7 y8 y9 y10
   cases bq with
   | true =>
    go_wp2_with fail
    go_ret2
    exact ⟨0, _, rfl, HBW.out _ HB5.out, fun _ => ⟨(HCR.out (by trivial)).1, (HCR.out (by trivial)).2, HTY.out⟩⟩
   | false => exact absurd (HBF.out.symm.trans HBA.out) (by decide)
 ·have t4 : (r != 0) = true := by simpa using hr
  have HR := Hd hr
  clear hr
  go_wp2_with fail
  go_ret2
  exact ⟨r, _, rfl, HBW.out _ HB2.out, fun h => absurd h HR.out⟩
theorem rcheck24x_any (FA : Option Addr) (fn fc : Nat) (fs : List DFunc) (w : World) (h : PgO w FA fn fc fs) (hbare : ∀ x ∈ fs, bareF x = true) :
  Calls Tryz.prog 35 #[.agg #[.slice FA fn fc]] w (IsChkX fs w) := by
 obtain ⟨w1, hw1⟩ : ∃ X, w.alloc (.cells #[.slice FA fn fc] 24) = X := ⟨_, rfl⟩
 obtain ⟨g, hg⟩ : ∃ g, w.heap.size = g := ⟨_, rfl⟩
 have hb1 : Below w.heap.size w w1 := by rw [← hw1]; exact bl_one _
 have hc1 : Cells w1 g [.slice FA fn fc] := by rw [← hw1, ← hg]; exact Cells.new w [.slice FA fn fc] _
 have EP : Hid (∀ W, Below w1.heap.size w1 W → W.cell? ⟨g, 0, none⟩ = some (.slice FA fn fc)) := Hd fun W hW => (hc1.on hW).at_ 0 _ rfl
 have HP : Hid (∀ W, Below w1.heap.size w1 W → PgO W FA fn fc fs) := Hd fun W hW => h.on (hb1.trans (hW.mono hb1.size))
 have HB1 := Hd hb1
 have HBW : Hid (∀ W, Below w1.heap.size w1 W → Below w.heap.size w W) := Hd fun W hW => hb1.trans (hW.mono hb1.size)
 have hfn := h.le
 have hn0 : (fn : Int) ≤ 50 := by omega
 have p0 := EP.out w1 (Below.refl _ _)
 clear hb1 hc1
 have HBA := Hd hbare
 have HLN : Hid (fs.length = fn) := Hd h.len
 obtain ⟨w2, hw2⟩ : ∃ X, w1.alloc (.cells #[.int .i64 0, .int .i64 0] 84) = X := ⟨_, rfl⟩
 obtain ⟨g2, hg2⟩ : ∃ X, w1.heap.size = X := ⟨_, rfl⟩
 have hb2 : Below w1.heap.size w1 w2 := by rw [← hw2]; exact bl_one _
 have hc2 : Cells w2 g2 [.int .i64 0, .int .i64 0] := by rw [← hw2, ← hg2]; exact Cells.new w1 [.int .i64 0, .int .i64 0] _
 have HC2 : Hid (∀ W, Below w2.heap.size w2 W → Cells W g2 [.int .i64 0, .int .i64 0]) := Hd fun W hW => hc2.on hW
 have H12 : Hid (∀ W, Below w2.heap.size w2 W → Below w1.heap.size w1 W) := Hd fun W hW => hb2.trans (hW.mono hb2.size)
 have HFIN : Hid (∀ W, Below w2.heap.size w2 W → Below w.heap.size w W) := Hd fun W hW => HBW.out W (H12.out W hW)
 have HLOW : Hid (w.heap.size ≤ g2) := Hd (by have := HB1.out.size; omega)
 have p2 := EP.out w2 hb2
 have cC := Hd (canpx_any _ fn fc fs w2 (HP.out w2 hb2))
 clear h hb2 hc2 p0 hbare
 go_in
 go_wp2_with fail
 refine cC.out.mono ?_
 rintro e w3 ⟨r, rfl, hrc, hb3⟩
 have HB3 := Hd hb3
 clear hb3 cC p2
 by_cases hr : r = 0
 ·have HCAN : Hid (1 ≤ fs.length ∧ fs.length ≤ 40 ∧ ∀ x ∈ fs, canMay x) := Hd (hrc hr)
  subst hr
  clear hrc
  go_wp2_with fail
  go_loopw [5] (fun iv wr => ∃ (j : Nat), iv = .int .i64 (j : Int) ∧ j ≤ fn ∧ Hid (Below w2.heap.size w2 wr ∧ ∀ i x, i < j → fs[i]? = some x → FnFine fs i x)) (fun iv _ => fn - (intOf iv).toNat)
  case atStart => exact ⟨0, rfl, Nat.zero_le _, Hd ⟨HB3.out, fun i x hi => by omega⟩⟩
  case round =>
   obtain ⟨j, rfl, hj, HK⟩ := hrel
   have hj0 : (0 : Int) ≤ (j : Int) := by omega
   have pr := EP.out wr (H12.out wr HK.out.1)
   have v0 := (HC2.out wr HK.out.1).at_ 0 _ rfl
   have v1 := (HC2.out wr HK.out.1).at_ 1 _ rfl
   have f0 := (HC2.out wr HK.out.1).fz 0 (by simp)
   have f1 := (HC2.out wr HK.out.1).fz 1 (by simp)
   by_cases hlt : j < fn
   ·have hjn : (j : Int) < (fn : Int) := by omega
    obtain ⟨x, hx⟩ : ∃ x, fs[j]? = some x := ⟨_, List.getElem?_eq_getElem (by have := HLN.out; omega)⟩
    have cF := Hd (rfunc24x_any _ fn fc fs j x wr ⟨HP.out wr (H12.out wr HK.out.1), fun x hx => (HCAN.out.2.2 x hx).1⟩ hlt hx (HBA.out x (List.mem_of_getElem? hx)))
    have HX := Hd hx
    clear hx v0 v1 f0 f1
    go_wp2_with fail
    refine cF.out.mono ?_
    rintro e w4 ⟨r, a, rfl, hb4, hra⟩
    have HB4 : Hid (Below w2.heap.size w2 w4) := Hd (HK.out.1.trans (hb4.mono HK.out.1.size))
    have HRA := Hd hra
    clear hb4 hra cF pr
    by_cases hr : r = 0
    ·have HR2 : Hid (FnFine fs j x) := Hd (HRA.out hr)
     subst hr
     go_wp2_with fail
     go_roundw
     case rel =>
      refine ⟨j + 1, by go_num, by omega, Hd ⟨HB4.out, fun i y hi hy => ?_⟩⟩
      rcases Nat.lt_or_ge i j with hij | hij
      ·exact HK.out.2 i y hij hy
      ·obtain rfl : i = j := by omega
       have : x = y := by have := HX.out; rw [hy] at this; injection this with this; exact this.symm
       subst this
       exact HR2.out
     case measure => first | (simp [intOf]; done) | (simp [intOf]; omega)
    ·have t4 : (r != 0) = true := by simpa using hr
     have HR := Hd hr
     have v0 := (HC2.out w4 HB4.out).at_ 0 _ rfl
     have v1 := (HC2.out w4 HB4.out).at_ 1 _ rfl
     have f0 := (HC2.out w4 HB4.out).fz 0 (by simp)
     have f1 := (HC2.out w4 HB4.out).fz 1 (by simp)
     clear hr
     go_wp2_with fail
     obtain ⟨wx, hwx⟩ : ∃ X, (World.setCell (World.setCell w4 ⟨g2, 0, none⟩ (.int .i64 (j : Int))) ⟨g2, 1, none⟩ (.int .i64 a)) = X := ⟨_, rfl⟩
     have hcx : Cells wx g2 [.int .i64 (j : Int), .int .i64 a] := by rw [← hwx]; exact (Cells.put (Cells.put (HC2.out w4 HB4.out) 0 (by simp) (.int .i64 (j : Int))) 1 (by simp) (.int .i64 a))
     have hbx : Below w.heap.size w wx := by rw [← hwx]; exact (Below.setCell (Below.setCell (HFIN.out w4 HB4.out) (p := ⟨g2, 0, none⟩) HLOW.out (.int .i64 (j : Int))) (p := ⟨g2, 1, none⟩) HLOW.out (.int .i64 a))
     have rz0 := hcx.at_ 0 _ rfl
     have rz1 := hcx.at_ 1 _ rfl
     try rw [hwx]
     refine bodyPost_ret (v := .tuple #[.int .i64 r, .agg #[.int .i64 (j : Int), .int .i64 a]]) (by simp [results, Tryz.results35, go_sem, rz0, rz1]) rfl ⟨_, _, _, rfl, fun h => absurd h HR.out, hbx⟩
   ·obtain rfl : j = fn := by omega
    go_wp2_with fail
    have HFM : Hid (FineB fs) := Hd ⟨HCAN.out.1, HCAN.out.2.1, fun x hx => (HCAN.out.2.2 x hx).1, fun x hx => (HCAN.out.2.2 x hx).2, fun i x hx => HK.out.2 i x (by have := (List.getElem?_eq_some_iff.1 hx).1; have := HLN.out; omega) hx⟩
    obtain ⟨wx, hwx⟩ : ∃ X, (World.setCell (World.setCell wr ⟨g2, 0, none⟩ (.int .i64 0)) ⟨g2, 1, none⟩ (.int .i64 0)) = X := ⟨_, rfl⟩
    have hcx : Cells wx g2 [.int .i64 0, .int .i64 0] := by rw [← hwx]; exact (Cells.put (Cells.put (HC2.out wr HK.out.1) 0 (by simp) (.int .i64 0)) 1 (by simp) (.int .i64 0))
    have hbx : Below w.heap.size w wx := by rw [← hwx]; exact (Below.setCell (Below.setCell (HFIN.out wr HK.out.1) (p := ⟨g2, 0, none⟩) HLOW.out (.int .i64 0)) (p := ⟨g2, 1, none⟩) HLOW.out (.int .i64 0))
    have rz0 := hcx.at_ 0 _ rfl
    have rz1 := hcx.at_ 1 _ rfl
    try rw [hwx]
    refine bodyPost_ret (v := .tuple #[.int .i64 0, .agg #[.int .i64 0, .int .i64 0]]) (by simp [results, Tryz.results35, go_sem, rz0, rz1]) rfl ⟨_, _, _, rfl, fun _ => HFM.out, hbx⟩
 ·have t4 : (r != 0) = true := by simpa using hr
  have HR := Hd hr
  have v0 := (HC2.out w3 HB3.out).at_ 0 _ rfl
  have v1 := (HC2.out w3 HB3.out).at_ 1 _ rfl
  have f0 := (HC2.out w3 HB3.out).fz 0 (by simp)
  have f1 := (HC2.out w3 HB3.out).fz 1 (by simp)
  clear hr hrc
  go_wp2_with fail
  obtain ⟨wx, hwx⟩ : ∃ X, (World.setCell (World.setCell w3 ⟨g2, 0, none⟩ (.int .i64 0)) ⟨g2, 1, none⟩ (.int .i64 0)) = X := ⟨_, rfl⟩
  have hcx : Cells wx g2 [.int .i64 0, .int .i64 0] := by rw [← hwx]; exact (Cells.put (Cells.put (HC2.out w3 HB3.out) 0 (by simp) (.int .i64 0)) 1 (by simp) (.int .i64 0))
  have hbx : Below w.heap.size w wx := by rw [← hwx]; exact (Below.setCell (Below.setCell (HFIN.out w3 HB3.out) (p := ⟨g2, 0, none⟩) HLOW.out (.int .i64 0)) (p := ⟨g2, 1, none⟩) HLOW.out (.int .i64 0))
  have rz0 := hcx.at_ 0 _ rfl
  have rz1 := hcx.at_ 1 _ rfl
  try rw [hwx]
  refine bodyPost_ret (v := .tuple #[.int .i64 r, .agg #[.int .i64 0, .int .i64 0]]) (by simp [results, Tryz.results35, go_sem, rz0, rz1]) rfl ⟨_, _, _, rfl, fun h => absurd h HR.out, hbx⟩
theorem rfinex_any (FA : Option Addr) (fn fc : Nat) (fs : List DFunc) (w : World) (h : PgO w FA fn fc fs) (hbare : ∀ x ∈ fs, bareF x = true) :
  Calls Tryz.prog 9 #[.agg #[.slice FA fn fc]] w (IsFineX fs w) := by
 obtain ⟨w1, hw1⟩ : ∃ X, w.alloc (.cells #[.slice FA fn fc] 24) = X := ⟨_, rfl⟩
 obtain ⟨g, hg⟩ : ∃ g, w.heap.size = g := ⟨_, rfl⟩
 have hb1 : Below w.heap.size w w1 := by rw [← hw1]; exact bl_one _
 have hc1 : Cells w1 g [.slice FA fn fc] := by rw [← hw1, ← hg]; exact Cells.new w [.slice FA fn fc] _
 have EP : Hid (∀ W, Below w1.heap.size w1 W → W.cell? ⟨g, 0, none⟩ = some (.slice FA fn fc)) := Hd fun W hW => (hc1.on hW).at_ 0 _ rfl
 have HP : Hid (∀ W, Below w1.heap.size w1 W → PgO W FA fn fc fs) := Hd fun W hW => h.on (hb1.trans (hW.mono hb1.size))
 have HB1 := Hd hb1
 have HBW : Hid (∀ W, Below w1.heap.size w1 W → Below w.heap.size w W) := Hd fun W hW => hb1.trans (hW.mono hb1.size)
 have hfn := h.le
 have hn0 : (fn : Int) ≤ 50 := by omega
 have p0 := EP.out w1 (Below.refl _ _)
 clear hb1 hc1
 have cC := Hd (rcheck24x_any _ fn fc fs w1 (HP.out w1 (Below.refl _ _)) hbare)
 clear h hbare
 go_in
 go_wp2_with fail
 refine cC.out.mono ?_
 rintro e w3 ⟨r, a, b, rfl, hrc, hb3⟩
 have HB3 := Hd hb3
 have HRC := Hd hrc
 clear hb3 hrc cC p0
 by_cases hr : r = 0
 ·have HF := Hd (HRC.out hr)
  subst hr
  go_wp2_with fail
  go_ret
  exact ⟨true, rfl, fun _ => HF.out, HBW.out _ (HB3.out.trans ((bl_one _).mono HB3.out.size))⟩
 ·have t4 : (r == 0) = false := by rw [beq_eq_false_iff_ne]; exact hr
  clear hr
  go_wp2_with fail
  go_ret
  exact ⟨false, rfl, (fun h => by cases h), HBW.out _ (HB3.out.trans ((bl_one _).mono HB3.out.size))⟩
end
section
open Go.RowKit
section
variable {P : Program} {ops : Array Oper} {Q : Exit → Act → World → Prop} {md : Region.Mode} {S : World → Prop}
theorem wpAnyH_tk {i : Nat} {oi : Oper} {v : Value} {fuel : Nat} {listed : Array Bool} {a : Act} {w : World} (hi : ops[i]? = some oi)
  (hs : Region.noSelect ops = true) (hf : Region.free md ops listed i = true) (hr : (Region.ready md ops listed).contains i = true)
  (hw : Region.wanted oi (yielded ops a.tmps) = true) (hv : ∀ w, S w → (execOp a.eval oi).run P w = .ok (.value v) w)
  (hQ : ∀ c a w, Q (.panic c) (a.put oi.dst v) w → Q (.panic c) a w) (hS : S w)
  (h : wpAnyH P md ops Q S fuel (listed.setIfInBounds i true) (a.put oi.dst v) w) : wpAnyH P md ops Q S (fuel + 1) listed a w :=
 wpAnyH_take hi hs hf hr hQ (Or.inl ⟨hw, hv⟩) hS h
end
end
end Go.Proofs.YtobmjnmcjddhcaaGreat
