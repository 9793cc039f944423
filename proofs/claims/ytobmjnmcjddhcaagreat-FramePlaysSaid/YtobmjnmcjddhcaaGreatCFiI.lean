import Derived.Test.YtobmjnmcjddhcaaGreatCTk
import Derived.Test.YtobmjnmcjddhcaaGreatCFiH
import Derived.Test.YtobmjnmcjddhcaaGreatCPiv
import Derived.BigQuiet
set_option linter.unusedSimpArgs false
set_option linter.unusedVariables false
set_option maxRecDepth 100000
set_option maxHeartbeats 32000000
namespace Go.Proofs.YtobmjnmcjddhcaaGreat
open Go.RowKit
def boolN (v : Value) : Nat := match v with
 | .bool true => 1
 | _ => 0
def eq4 (s t : W4) : Bool := ((s.a0 : Int) == (t.a0 : Int)) && (((s.a1 : Int) == (t.a1 : Int)) && (((s.a2 : Int) == (t.a2 : Int)) && ((s.a3 : Int) == (t.a3 : Int))))
theorem eq4_ne {s t : W4} (h : eq4 s t = false) : s ≠ t := fun e => by
 subst e
 simp [eq4] at h
def IsTab (n : Nat) (w : World) (e : Ending) (w' : World) : Prop := ∃ ob l, e = .returned (.slice (some ⟨ob, 0, none⟩) n n) ∧ l.length = n ∧ AllOk l ∧ Cells w' ob (l.flatMap cW) ∧ Below w.heap.size w w'
theorem rof22_any (FA : Option Addr) (fn fc : Nat) (fs : List DFunc) (f : Nat) (x0 : DFunc) (w : World) (h : PgC w FA fn fc fs) (hi : f < fn) (hx0 : fs[f]? = some x0) :
  Calls Tryz.prog 130 #[.agg #[.slice FA fn fc], .int .i64 (f : Int)] w (IsTab x0.code.length w) := by
 obtain ⟨w1, hw1⟩ : ∃ X, w.alloc (.cells #[.slice FA fn fc] 24) = X := ⟨_, rfl⟩
 obtain ⟨g, hg⟩ : ∃ g, w.heap.size = g := ⟨_, rfl⟩
 have hb1 : Below w.heap.size w w1 := by rw [← hw1]; exact bl_one _
 have hc1 : Cells w1 g [.slice FA fn fc] := by rw [← hw1, ← hg]; exact Cells.new w [.slice FA fn fc] _
 have EP : Hid (∀ W, Below w1.heap.size w1 W → W.cell? ⟨g, 0, none⟩ = some (.slice FA fn fc)) := Lib.hid fun W hW => (hc1.on hW).at_ 0 _ rfl
 have HP : Hid (∀ W, Below w1.heap.size w1 W → PgC W FA fn fc fs) := Lib.hid fun W hW => h.on (hb1.trans (hW.mono hb1.size))
 have HB1 := Lib.hid hb1
 have HBW : Hid (∀ W, Below w1.heap.size w1 W → Below w.heap.size w W) := Lib.hid fun W hW => hb1.trans (hW.mono hb1.size)
 have hfn := h.pg.le
 have hn0 : (fn : Int) ≤ 50 := by omega
 have p0 := EP.out w1 (Below.refl _ _)
 clear hb1 hc1
 obtain ⟨bk, off, s, b, A0, n0, c0, A1, n1, c1, A2, n2, c2, A3, n3, c3, A4, n4, c4, A5, n5, c5, A6, n6, c6, A7, n7, c7, A8, n8, c8, x, rfl, hbk, hx, hcf0, hfw, hcan⟩ := (HP.out w1 (Below.refl _ _)).get hi
 obtain rfl : x0 = x := by rw [hx0] at hx; injection hx
 have l4 := hfw.r4.1
 have HL4 : Hid (x0.code.length = n4) := Lib.hid l4
 have HN6 : Hid (x0.nodes.length = n6 ∧ n6 ≤ 20) := Lib.hid ⟨hfw.r6.1, by have := hfw.sm; omega⟩
 have HGG : Hid (g < w1.heap.size) := Lib.hid (World.block_lt_of_cell? _ _ p0)
 have y0 := hcf0 0 _ rfl
 have y1 := hcf0 1 _ rfl
 have y2 := hcf0 2 _ rfl
 have y3 := hcf0 3 _ rfl
 have y4 := hcf0 4 _ rfl
 have y5 := hcf0 5 _ rfl
 have y6 := hcf0 6 _ rfl
 have y7 := hcf0 7 _ rfl
 have y8 := hcf0 8 _ rfl
 have y9 := hcf0 9 _ rfl
 have y10 := hcf0 10 _ rfl
 simp only [Nat.add_zero] at y0
 obtain ⟨s4, s5, s6, s7, s8, s0⟩ := hfw.sm
 have hn40 : (n4 : Int) ≤ 150 := by omega
 have hf0 : (0 : Int) ≤ (f : Int) := by omega
 have hf1 : (f : Int) < (fn : Int) := by omega
 have HFW := Lib.hid hfw
 have HCAN := Lib.hid hcan
 have cH : Hid (∀ W, Below w1.heap.size w1 W → ∀ k, k < n4 → Calls Tryz.prog 163 #[.agg #[.slice (some ⟨bk, off, none⟩) fn fc], .int .i64 (f : Int), .int .i64 (k : Int)] W (IsW (heldM fs x0 k) W)) := Lib.hid fun W hW k hk => rheld_any _ fn fc fs f k x0 W (HP.out W hW) hi hx0 (by omega)
 obtain ⟨zc, hzc, hmk⟩ := made_set n4 (by omega)
 rw [l4]
 clear h hfw hcan hcf0 hx hx0 l4
 go_enter Tryz.func130, Tryz.ntmps130
 go_upto_region 2 with fail
 clear y0 y1 y2 y3 y4 y5 y6 y7 y8 y9 y10
 obtain ⟨w2, hw2⟩ : ∃ X, w1.alloc (.cells #[.string s, .bool b, .slice A0 n0 c0, .slice A1 n1 c1, .slice A2 n2 c2, .slice A3 n3 c3, .slice A4 n4 c4, .slice A5 n5 c5, .slice A6 n6 c6, .slice A7 n7 c7, .slice A8 n8 c8] 38) = X := ⟨_, rfl⟩
 obtain ⟨g2, hg2⟩ : ∃ X, w1.heap.size = X := ⟨_, rfl⟩
 have hb2 : Below w1.heap.size w1 w2 := by rw [← hw2]; exact bl_one _
 have hc2 : Cells w2 g2 [.string s, .bool b, .slice A0 n0 c0, .slice A1 n1 c1, .slice A2 n2 c2, .slice A3 n3 c3, .slice A4 n4 c4, .slice A5 n5 c5, .slice A6 n6 c6, .slice A7 n7 c7, .slice A8 n8 c8] := by rw [← hw2, ← hg2]; exact Cells.new w1 [.string s, .bool b, .slice A0 n0 c0, .slice A1 n1 c1, .slice A2 n2 c2, .slice A3 n3 c3, .slice A4 n4 c4, .slice A5 n5 c5, .slice A6 n6 c6, .slice A7 n7 c7, .slice A8 n8 c8] _
 rw [hw2, hg2]
 have HCT : Hid (∀ W, Below w2.heap.size w2 W → Cells W g2 [.string s, .bool b, .slice A0 n0 c0, .slice A1 n1 c1, .slice A2 n2 c2, .slice A3 n3 c3, .slice A4 n4 c4, .slice A5 n5 c5, .slice A6 n6 c6, .slice A7 n7 c7, .slice A8 n8 c8]) := Lib.hid fun W hW => hc2.on hW
 have H12 : Hid (∀ W, Below w2.heap.size w2 W → Below w1.heap.size w1 W) := Lib.hid fun W hW => hb2.trans (hW.mono hb2.size)
 have HF2 : Hid (∀ W, Below w2.heap.size w2 W → FnW W W.heap.size s b A0 n0 c0 A1 n1 c1 A2 n2 c2 A3 n3 c3 A4 n4 c4 A5 n5 c5 A6 n6 c6 A7 n7 c7 A8 n8 c8 x0) := Lib.hid fun W hW => (HFW.out.keep (hb2.trans (hW.mono hb2.size))).more (hb2.trans (hW.mono hb2.size)).size
 have HG2 : Hid (g < w2.heap.size ∧ g2 < w2.heap.size) := Lib.hid ⟨by have := HGG.out; have := hb2.size; omega, hc2.lt⟩
 have HBX : Hid (∀ W, Below w2.heap.size w2 W → Below w.heap.size w W) := Lib.hid fun W hW => HBW.out W (H12.out W hW)
 have e0 := hc2.at_ 0 _ rfl
 have e1 := hc2.at_ 1 _ rfl
 have e2 := hc2.at_ 2 _ rfl
 have e3 := hc2.at_ 3 _ rfl
 have e4 := hc2.at_ 4 _ rfl
 have e5 := hc2.at_ 5 _ rfl
 have e6 := hc2.at_ 6 _ rfl
 have e7 := hc2.at_ 7 _ rfl
 have e8 := hc2.at_ 8 _ rfl
 have e9 := hc2.at_ 9 _ rfl
 have e10 := hc2.at_ 10 _ rfl
 clear hw2 hg2 hb2 hc2 hw1 hg HFW
 go_wp2_with fail
 obtain ⟨ob, hob⟩ : ∃ X, w2.heap.size = X := ⟨_, rfl⟩
 obtain ⟨w3, hw3⟩ : ∃ X, w2.alloc (.cells zc 216) = X := ⟨_, rfl⟩
 have hb3 : Below w2.heap.size w2 w3 := by rw [← hw3]; exact bl_one _
 have ho3 : Cells w3 ob ((List.replicate n4 zW).flatMap cW) := by rw [← hw3, ← hob, ← hzc]; exact Cells.new w2 zc.toList _
 obtain ⟨w4, hw4⟩ : ∃ X, w3.alloc (.cells #[.slice (some ⟨ob, 0, none⟩) n4 n4] 246) = X := ⟨_, rfl⟩
 obtain ⟨gt, hgt⟩ : ∃ X, ob + 1 = X := ⟨_, rfl⟩
 have hg3 : w3.heap.size = gt := by rw [← hw3, ← hgt]; simp; omega
 have hb4 : Below w3.heap.size w3 w4 := by rw [← hw4]; exact bl_one _
 have ht4 : Cells w4 gt [.slice (some ⟨ob, 0, none⟩) n4 n4] := by rw [← hw4, ← hg3]; exact Cells.new w3 [.slice (some ⟨ob, 0, none⟩) n4 n4] _
 rw [hob, hw3, hw4, hgt]
 have HB4 : Hid (Below w2.heap.size w2 w4) := Lib.hid (hb3.trans (hb4.mono hb3.size))
 have HO4 := Lib.hid (ho3.on hb4)
 have HT : Hid (∀ W, Below w4.heap.size w4 W → Cells W gt [.slice (some ⟨ob, 0, none⟩) n4 n4]) := Lib.hid fun W hW => ht4.on hW
 have HGO : Hid (w2.heap.size = ob ∧ ob < gt ∧ gt < w4.heap.size) := Lib.hid ⟨hob, by omega, ht4.lt⟩
 clear hb3 ho3 hb4 ht4 hob hw3 hw4 hgt hg3 hzc hmk e0 e1 e2 e3 e4 e5 e6 e7 e8 e9 e10
 go_loopw [8] (fun av wr => ∃ (again : Bool) (l : List W4), av = .bool again ∧ Hid (l.length = n4 ∧ AllOk l ∧ Grows (ruF fs x0) l ∧ Cells wr ob (l.flatMap cW) ∧ Kp (fun i => i = ob) w4 wr)) (fun av wr => 2 * muT wr ob n4 + boolN av)
 case atStart => exact ⟨true, List.replicate n4 zW, rfl, Lib.hid ⟨by simp, allOk_zero _, grows_zero _ _, HO4.out, Kp.refl _ _⟩⟩
 case round =>
  obtain ⟨again, l, rfl, HK⟩ := hrel
  have HWr : Hid (Below w2.heap.size w2 wr) := Lib.hid (((Kp.refl (fun i => i = ob) w2).ofBelow HB4.out).trans HK.out.2.2.2.2 |>.below (Nat.le_refl _) fun j h => by have := HGO.out; omega)
  cases again with
  | false =>
   go_wp2_with fail
   go_ret
   exact ⟨ob, l, rfl, HK.out.1, HK.out.2.1, HK.out.2.2.2.1, HBX.out _ HWr.out⟩
  | true =>
   have hs256 : Hid (∀ l : List W4, l.length = n4 → sumW l ≤ 256 * n4) := Lib.hid fun l hl => by have := sumW_le l; rw [hl] at this; exact this
   go_wp2_with fail
   go_loopw [8, 9] (fun av pv wx => ∃ (ag : Bool) (p : Nat) (l2 : List W4), av = .bool ag ∧ pv = .int .i64 ((p : Int) - 1) ∧ p ≤ n4 ∧ Hid (l2.length = n4 ∧ AllOk l2 ∧ Grows (ruF fs x0) l2 ∧ Cells wx ob (l2.flatMap cW) ∧ Kp (fun i => i = ob) w4 wx ∧ (if ag = true then sumW l < sumW l2 else sumW l2 = sumW l))) (fun _ pv _ => (intOf pv + 1).toNat)
   case atStart => exact ⟨false, n4, l, rfl, by first | rfl | simp, Nat.le_refl _, Lib.hid ⟨HK.out.1, HK.out.2.1, HK.out.2.2.1, HK.out.2.2.2.1, HK.out.2.2.2.2, by simp⟩⟩
   case round =>
    obtain ⟨ag, p, l2, rfl, rfl, hp, HK2⟩ := hrel
    have hp0 : (0 : Int) ≤ (p : Int) := by omega
    have hp1 : (p : Int) ≤ 150 := by omega
    by_cases h0 : p = 0
    ·subst h0
     go_wp2_with fail
     go_roundw
     case rel => exact ⟨ag, l2, rfl, Lib.hid ⟨HK2.out.1, HK2.out.2.1, HK2.out.2.2.1, HK2.out.2.2.2.1, HK2.out.2.2.2.2.1⟩⟩
     case measure =>
      have m1 := muT_of HK.out.2.2.2.1 HK.out.1
      have m2 := muT_of HK2.out.2.2.2.1 HK2.out.1
      have h1 := hs256.out l HK.out.1
      have h2 := hs256.out l2 HK2.out.1
      have h3 := HK2.out.2.2.2.2.2
      rw [m1, m2]
      cases ag <;> simp [boolN] at h3 ⊢ <;> omega
    ·obtain ⟨q, rfl⟩ : ∃ q, p = q + 1 := ⟨p - 1, by omega⟩
     have hpc : (((q + 1 : Nat) : Int) - 1) = (q : Int) := by omega
     rw [hpc]
     have hq0 : (0 : Int) ≤ (q : Int) := by omega
     have hq1 : (q : Int) ≤ 150 := by omega
     have hqn : q < n4 := by omega
     have HWx : Hid (Below w2.heap.size w2 wr) := Lib.hid (((Kp.refl (fun i => i = ob) w2).ofBelow HB4.out).trans HK2.out.2.2.2.2.1 |>.below (Nat.le_refl _) fun j h => by have := HGO.out; omega)
     clear hpc h0
     go_upto_region 11 with fail
     obtain ⟨w5, hw5⟩ : ∃ X, wr.alloc (.cells #[.int .u64 0, .int .u64 0, .int .u64 0, .int .u64 0] 216) = X := ⟨_, rfl⟩
     obtain ⟨gx, hgx⟩ : ∃ X, wr.heap.size = X := ⟨_, rfl⟩
     have hb5 : Below wr.heap.size wr w5 := by rw [← hw5]; exact bl_one _
     have hc5 : Cells w5 gx (cW zW) := by rw [← hw5, ← hgx]; exact Cells.new wr [.int .u64 0, .int .u64 0, .int .u64 0, .int .u64 0] _
     rw [hw5, hgx]
     have HB5 : Hid (Below w2.heap.size w2 w5) := Lib.hid (HWx.out.trans (hb5.mono HWx.out.size))
     have HC5 := Lib.hid hc5
     have HK5 : Hid (Kp (fun i => i = ob) w4 w5) := Lib.hid (HK2.out.2.2.2.2.1.ofBelow hb5)
     have HO5 : Hid (Cells w5 ob (l2.flatMap cW)) := Lib.hid (HK2.out.2.2.2.1.on hb5)
     have HG5 : Hid (ob < gx ∧ gt < gx ∧ g2 < gx ∧ g < gx ∧ w4.heap.size ≤ gx) := Lib.hid (by have h1 := HK2.out.2.2.2.1.lt; have h2 := HK2.out.2.2.2.2.1.size; have h3 := HGO.out; have h4 := HG2.out; exact ⟨by omega, by omega, by omega, by omega, by omega⟩)
     have cN := Lib.hid (rnext_any s b A0 n0 c0 A1 n1 c1 A2 n2 c2 A3 n3 c3 A4 n4 c4 A5 n5 c5 A6 n6 c6 A7 n7 c7 A8 n8 c8 x0 q w5 (HF2.out w5 HB5.out) hqn)
     clear hb5 hc5 hw5 hgx
     have e0 := (HCT.out w5 HB5.out).at_ 0 _ rfl
     have e1 := (HCT.out w5 HB5.out).at_ 1 _ rfl
     have e2 := (HCT.out w5 HB5.out).at_ 2 _ rfl
     have e3 := (HCT.out w5 HB5.out).at_ 3 _ rfl
     have e4 := (HCT.out w5 HB5.out).at_ 4 _ rfl
     have e5 := (HCT.out w5 HB5.out).at_ 5 _ rfl
     have e6 := (HCT.out w5 HB5.out).at_ 6 _ rfl
     have e7 := (HCT.out w5 HB5.out).at_ 7 _ rfl
     have e8 := (HCT.out w5 HB5.out).at_ 8 _ rfl
     have e9 := (HCT.out w5 HB5.out).at_ 9 _ rfl
     have e10 := (HCT.out w5 HB5.out).at_ 10 _ rfl
     go_wp2_with fail
     refine cN.out.mono ?_
     rintro e w6 ⟨U, m, cu, rfl, hou, hb6⟩
     have HSU := Lib.hid (SlI.own hou (by have := row_len hou; have := nextM_len x0 q; omega))
     have HML : Hid (m = (nextM x0 q).length) := Lib.hid (row_len hou).symm
     have hm21 : m ≤ 2 := by have := row_len hou; have := nextM_len x0 q; omega
     have hm0 : (m : Int) ≤ 2 := by omega
     have HOU := Lib.hid hou
     have HB6 : Hid (Below w2.heap.size w2 w6) := Lib.hid (HB5.out.trans (hb6.mono HB5.out.size))
     have HC6 := Lib.hid (HC5.out.on hb6)
     have HO6 := Lib.hid (HO5.out.on hb6)
     have HT6 := Lib.hid ((((HT.out w4 (Below.refl _ _)).kp HK5.out (fun e => by have := HGO.out; omega))).on hb6)
     have HK6 : Hid (Kp (fun i => i = ob) w4 w6) := Lib.hid (HK5.out.ofBelow hb6)
     have HGX : Hid (gx < w5.heap.size) := Lib.hid HC5.out.lt
     clear hou hb6 cN e0 e1 e2 e3 e4 e5 e6 e7 e8 e9 e10
     go_wp2_with fail
     go_loopw [12] (fun iv wQ => ∃ (j : Nat), iv = .int .i64 (j : Int) ∧ j ≤ m ∧ Hid (Cells wQ gx (cW (sumOr l2 zW ((nextM x0 q).take j))) ∧ Kp (fun i => i = gx) w6 wQ)) (fun iv _ => m - (intOf iv).toNat)
     case atStart => exact ⟨0, rfl, Nat.zero_le _, Lib.hid ⟨HC6.out, Kp.refl _ _⟩⟩
     case round =>
      obtain ⟨j, rfl, hj, HKJ⟩ := hrel
      have hj0 : (0 : Int) ≤ (j : Int) := by omega
      have hj1 : (j : Int) ≤ 2 := by omega
      obtain ⟨sj, hsj⟩ : ∃ s, sumOr l2 zW ((nextM x0 q).take j) = s := ⟨_, rfl⟩
      have HSJ : Hid sj.Ok := Lib.hid (by rw [← hsj]; exact sumOr_ok HK2.out.2.1 _ zW_ok)
      have HSE := Lib.hid hsj
      rw [hsj] at HKJ
      have HCR := Lib.hid HKJ.out.1
      have HKR := Lib.hid HKJ.out.2
      have HTr := Lib.hid (HT6.out.kp HKR.out (fun e => by have := HG5.out; omega))
      have HOr := Lib.hid (HO6.out.kp HKR.out (fun e => by have := HG5.out; omega))
      clear HKJ hsj
      by_cases hlt : j < m
      ·have hjn : (j : Int) < (m : Int) := by omega
       obtain ⟨ub, uo, u, rfl, hub, hu, uc0⟩ := SlR.cell1 (f := Value.int .i64) HSU.out (i := j) hlt
       have hube : Hid (¬ ub = gx) := Lib.hid (by have := (HOU.out.lt ub rfl).1; have := HGX.out; omega)
       have uc := HKR.out.cellv (p := ⟨ub, uo + j, none⟩) uc0 hube.out
       obtain ⟨t, ht⟩ : ∃ t, ofM l2 u = t := ⟨_, rfl⟩
       have HTO : Hid t.Ok := Lib.hid (by rw [← ht]; exact ofM_ok HK2.out.2.1 _)
       have cQu : Hid (∀ W, Below wr.heap.size wr W → Calls Tryz.prog 159 #[.agg #[.slice (some ⟨ob, 0, none⟩) n4 n4], .int .i64 u] W (IsW t W)) := Lib.hid fun W hW => by rw [← ht]; exact rtof_any ob n4 l2 u W (HOr.out.on hW) HK2.out.1 (by omega)
       obtain ⟨r, hr⟩ : ∃ r, orW sj t = r := ⟨_, rfl⟩
       have HRN : Hid (sumOr l2 zW ((nextM x0 q).take (j + 1)) = r) := Lib.hid (by rw [← take_snoc' _ _ _ hu, sumOr_snoc, HSE.out, ht, hr])
       have cO : Hid (∀ W, Calls Tryz.prog 155 #[aggW sj, aggW t] W (IsW r W)) := Lib.hid fun W => by rw [← hr]; exact ror_any sj t HSJ.out HTO.out W
       have HUC := Lib.hid uc
       clear uc0 hr ht hu
       go_wp2_with fail
       refine wp_region_held (S := fun W => Kp (fun i => i = gx) wr W) (by kernel_rfl) ?_
       change wpAnyH _ _ _ _ _ _ _ _ (World.drew _)
       refine teH 1 (.agg #[.slice (some ⟨ob, 0, none⟩) n4 n4]) rfl (by intro W hW; have t9 := HTr.out.kp hW (fun e => by have := HG5.out; omega); have q9 := t9.at_ 0 _ rfl; go_simp; try (first | (with_reducible rfl) | omega)) ((Kp.refl (fun i => i = gx) wr).drew) ?_
       refine teH 2 (.slice (some ⟨ub, uo, none⟩) m cu) rfl (by intro W hW; go_simp; try (first | (with_reducible rfl) | omega)) ((Kp.refl (fun i => i = gx) wr).drew) ?_
       refine teH 3 (.int .i64 (j : Int)) rfl (by intro W hW; go_simp; try (first | (with_reducible rfl) | omega)) ((Kp.refl (fun i => i = gx) wr).drew) ?_
       try go_simp
       refine teH 4 (.pointer (some ⟨ub, uo + j, none⟩)) rfl (by intro W hW; go_simp; try (first | (with_reducible rfl) | omega)) ((Kp.refl (fun i => i = gx) wr).drew) ?_
       try go_simp
       refine teH 5 (.int .i64 u) rfl (by intro W hW; have u9 := hW.cellv (p := ⟨ub, uo + j, none⟩) HUC.out hube.out; go_simp; try (first | (with_reducible rfl) | omega)) ((Kp.refl (fun i => i = gx) wr).drew) ?_
       try go_simp
       have x0' := HCR.out.at_ 0 _ rfl
       have x1' := HCR.out.at_ 1 _ rfl
       have x2' := HCR.out.at_ 2 _ rfl
       have x3' := HCR.out.at_ 3 _ rfl
       refine wpAnyH_two (i := 0) (j := 6) (by kernel_rfl) rfl rfl (fun K hK => ?_) (fun K hK => ?_)
       ·go_simp
        refine hK _ _ ⟨((Kp.refl (fun i => i = gx) wr).drew), ?_⟩; clear hK K
        try go_simp
        refine wpAnyH_one (i := 6) (by kernel_rfl) rfl (fun K hK => ?_)
        go_simp
        refine (cQu.out _ (below_drewN' (Below.refl wr.heap.size wr) 1)).mono ?_
        rintro e v3 ⟨rfl, hb3⟩
        have hB3 : Below wr.heap.size wr v3 := below_drew_of hb3
        clear hb3
        go_simp
        refine hK _ _ ⟨(Kp.refl _ _).ofBelow hB3, ?_⟩; clear hK K
        try go_simp
        refine wpAnyH_one (i := 7) (by kernel_rfl) rfl (fun K hK => ?_)
        go_simp
        refine (cO.out _).mono ?_
        rintro e v4 ⟨rfl, hb4⟩
        have hB4 : Below wr.heap.size wr v4 := hB3.trans (hb4.mono hB3.size)
        have hS4 : Kp (fun i => i = gx) wr v4 := (Kp.refl _ _).ofBelow hB4
        have hc9 := HCR.out.on hB4
        have rz0 := hc9.at_ 0 _ rfl
        have rz1 := hc9.at_ 1 _ rfl
        have rz2 := hc9.at_ 2 _ rfl
        have rz3 := hc9.at_ 3 _ rfl
        have f0 := hc9.fz 0 (by simp [cW])
        have f1 := hc9.fz 1 (by simp [cW])
        have f2 := hc9.fz 2 (by simp [cW])
        have f3 := hc9.fz 3 (by simp [cW])
        have HC9 := Lib.hid hc9
        clear hc9 hb4 hB3
        go_simp
        refine hK _ _ ⟨hS4, ?_⟩; clear hK K
        try go_simp
        refine wpAnyH_one (i := 8) (by kernel_rfl) rfl (fun K hK => ?_)
        go_simp
        have hSX : Kp (fun i => i = gx) wr (set4 v4 gx r) := ((((hS4.setCell (p := ⟨gx, 0, none⟩) (fun _ => rfl) _).setCell (p := ⟨gx, 1, none⟩) (fun _ => rfl) _).setCell (p := ⟨gx, 2, none⟩) (fun _ => rfl) _).setCell (p := ⟨gx, 3, none⟩) (fun _ => rfl) _)
        refine hK _ _ ⟨hSX, ?_⟩; clear hK K
        refine wpAnyH_done (by kernel_rfl) ?_ _
        try go_simp
        go_wp2_with fail
        go_roundw
        case rel => exact ⟨j + 1, by go_num, by omega, Lib.hid ⟨by rw [HRN.out]; exact cells_set4 HC9.out r, HKR.out.trans hSX⟩⟩
        case measure => simp [intOf]; omega
       ·go_simp
        refine (cQu.out _ (below_drewN' (Below.refl wr.heap.size wr) 1)).mono ?_
        rintro e v3 ⟨rfl, hb3⟩
        have hB3 : Below wr.heap.size wr v3 := below_drew_of hb3
        clear hb3
        go_simp
        refine hK _ _ ⟨(Kp.refl _ _).ofBelow hB3, ?_⟩; clear hK K
        try go_simp
        have hc8 := HCR.out.on hB3
        have x0' := hc8.at_ 0 _ rfl
        have x1' := hc8.at_ 1 _ rfl
        have x2' := hc8.at_ 2 _ rfl
        have x3' := hc8.at_ 3 _ rfl
        refine wpAnyH_one (i := 0) (by kernel_rfl) rfl (fun K hK => ?_)
        go_simp
        refine hK _ _ ⟨(Kp.refl _ _).ofBelow hB3, ?_⟩; clear hK K x0' x1' x2' x3' hc8
        try go_simp
        refine wpAnyH_one (i := 7) (by kernel_rfl) rfl (fun K hK => ?_)
        go_simp
        refine (cO.out _).mono ?_
        rintro e v4 ⟨rfl, hb4⟩
        have hB4 : Below wr.heap.size wr v4 := hB3.trans (hb4.mono hB3.size)
        have hS4 : Kp (fun i => i = gx) wr v4 := (Kp.refl _ _).ofBelow hB4
        have hc9 := HCR.out.on hB4
        have rz0 := hc9.at_ 0 _ rfl
        have rz1 := hc9.at_ 1 _ rfl
        have rz2 := hc9.at_ 2 _ rfl
        have rz3 := hc9.at_ 3 _ rfl
        have f0 := hc9.fz 0 (by simp [cW])
        have f1 := hc9.fz 1 (by simp [cW])
        have f2 := hc9.fz 2 (by simp [cW])
        have f3 := hc9.fz 3 (by simp [cW])
        have HC9 := Lib.hid hc9
        clear hc9 hb4 hB3
        go_simp
        refine hK _ _ ⟨hS4, ?_⟩; clear hK K
        try go_simp
        refine wpAnyH_one (i := 8) (by kernel_rfl) rfl (fun K hK => ?_)
        go_simp
        have hSX : Kp (fun i => i = gx) wr (set4 v4 gx r) := ((((hS4.setCell (p := ⟨gx, 0, none⟩) (fun _ => rfl) _).setCell (p := ⟨gx, 1, none⟩) (fun _ => rfl) _).setCell (p := ⟨gx, 2, none⟩) (fun _ => rfl) _).setCell (p := ⟨gx, 3, none⟩) (fun _ => rfl) _)
        refine hK _ _ ⟨hSX, ?_⟩; clear hK K
        refine wpAnyH_done (by kernel_rfl) ?_ _
        try go_simp
        go_wp2_with fail
        go_roundw
        case rel => exact ⟨j + 1, by go_num, by omega, Lib.hid ⟨by rw [HRN.out]; exact cells_set4 HC9.out r, HKR.out.trans hSX⟩⟩
        case measure => simp [intOf]; omega
      ·obtain rfl : j = m := by omega
       have HWy : Hid (Below w2.heap.size w2 wr) := Lib.hid (((Kp.refl (fun i => i = gx) w2).ofBelow HB6.out).trans HKR.out |>.below (Nat.le_refl _) fun j h => by have := HG5.out; have := HGO.out; omega)
       have HSE1 : Hid (sumOr l2 zW (nextM x0 q) = sj) := Lib.hid (by rw [← HSE.out, List.take_of_length_le (by have := HML.out; omega)])
       obtain ⟨d, hd⟩ : ∃ d, defM x0 q = d := ⟨_, rfl⟩
       have cD := Lib.hid (fun W (hW : Below w2.heap.size w2 W) => rdefines_any s b A0 n0 c0 A1 n1 c1 A2 n2 c2 A3 n3 c3 A4 n4 c4 A5 n5 c5 A6 n6 c6 A7 n7 c7 A8 n8 c8 x0 q W (HF2.out W hW) HCAN.out hqn)
       rw [hd] at cD
       obtain ⟨s2, hs2⟩ : ∃ d2, subW sj d = d2 := ⟨_, rfl⟩
       have HSO2 : Hid s2.Ok := Lib.hid (by rw [← hs2]; exact subW_ok HSJ.out)
       have cS : Hid (∀ W, Calls Tryz.prog 160 #[aggW sj, aggW d] W (IsW s2 W)) := Lib.hid fun W => by rw [← hs2, ← hd]; exact rsub_any sj (defM x0 q) HSJ.out (defM_ok _ _) W
       have HS2 : Hid (subW (sumOr l2 zW (nextM x0 q)) (defM x0 q) = s2) := Lib.hid (by rw [HSE1.out, hd, hs2])
       clear hd hs2
       go_wp2_with fail
       go_cut [9] (fun pv wQ => pv = .int .i64 (q : Int) ∧ Hid (Cells wQ gx (cW s2) ∧ Kp (fun i => i = gx) wr wQ))
       case first =>
        refine wp_region_held (S := fun W => Kp (fun i => i = gx) wr W) (by kernel_rfl) ?_
        change wpAnyH _ _ _ _ _ _ _ _ (World.drew _)
        refine teH 1 (.agg #[.string s, .bool b, .slice A0 n0 c0, .slice A1 n1 c1, .slice A2 n2 c2, .slice A3 n3 c3, .slice A4 n4 c4, .slice A5 n5 c5, .slice A6 n6 c6, .slice A7 n7 c7, .slice A8 n8 c8]) rfl (by intro W hW; have c9 := (HCT.out wr HWy.out).kp hW (fun e => by have := HG5.out; omega); obtain ⟨e0, e1, e2, e3, e4, e5, e6, e7, e8, e9, e10⟩ := c11 c9; go_simp; try (first | (with_reducible rfl) | omega)) ((Kp.refl (fun i => i = gx) wr).drew) ?_
        refine teH 2 (.int .i64 (q : Int)) rfl (by intro W hW; go_simp; try (first | (with_reducible rfl) | omega)) ((Kp.refl (fun i => i = gx) wr).drew) ?_
        try go_simp
        have x0' := HCR.out.at_ 0 _ rfl
        have x1' := HCR.out.at_ 1 _ rfl
        have x2' := HCR.out.at_ 2 _ rfl
        have x3' := HCR.out.at_ 3 _ rfl
        refine wpAnyH_two (i := 0) (j := 3) (by kernel_rfl) rfl rfl (fun K hK => ?_) (fun K hK => ?_)
        ·go_simp
         refine hK _ _ ⟨((Kp.refl (fun i => i = gx) wr).drew), ?_⟩; clear hK K
         try go_simp
         refine wpAnyH_one (i := 3) (by kernel_rfl) rfl (fun K hK => ?_)
         go_simp
         refine (cD.out _ (HWy.out.trans ((below_drewN' (Below.refl wr.heap.size wr) 1).mono HWy.out.size))).mono ?_
         rintro e v3 ⟨rfl, hb3⟩
         have hB3 : Below wr.heap.size wr v3 := below_drew_of hb3
         clear hb3
         go_simp
         refine hK _ _ ⟨(Kp.refl _ _).ofBelow hB3, ?_⟩; clear hK K
         try go_simp
         refine wpAnyH_one (i := 4) (by kernel_rfl) rfl (fun K hK => ?_)
         go_simp
         refine (cS.out _).mono ?_
         rintro e v4 ⟨rfl, hb4⟩
         have hB4 : Below wr.heap.size wr v4 := hB3.trans (hb4.mono hB3.size)
         have hS4 : Kp (fun i => i = gx) wr v4 := (Kp.refl _ _).ofBelow hB4
         have hc9 := HCR.out.on hB4
         have rz0 := hc9.at_ 0 _ rfl
         have rz1 := hc9.at_ 1 _ rfl
         have rz2 := hc9.at_ 2 _ rfl
         have rz3 := hc9.at_ 3 _ rfl
         have f0 := hc9.fz 0 (by simp [cW])
         have f1 := hc9.fz 1 (by simp [cW])
         have f2 := hc9.fz 2 (by simp [cW])
         have f3 := hc9.fz 3 (by simp [cW])
         have HC9 := Lib.hid hc9
         clear hc9 hb4 hB3
         go_simp
         refine hK _ _ ⟨hS4, ?_⟩; clear hK K
         try go_simp
         refine wpAnyH_one (i := 5) (by kernel_rfl) rfl (fun K hK => ?_)
         go_simp
         have hSX : Kp (fun i => i = gx) wr (set4 v4 gx s2) := ((((hS4.setCell (p := ⟨gx, 0, none⟩) (fun _ => rfl) _).setCell (p := ⟨gx, 1, none⟩) (fun _ => rfl) _).setCell (p := ⟨gx, 2, none⟩) (fun _ => rfl) _).setCell (p := ⟨gx, 3, none⟩) (fun _ => rfl) _)
         refine hK _ _ ⟨hSX, ?_⟩; clear hK K
         refine wpAnyH_done (by kernel_rfl) ?_ _
         try go_simp
         apply_assumption
         go_meet
         exact ⟨rfl, Lib.hid ⟨cells_set4 HC9.out s2, hSX⟩⟩
        ·go_simp
         refine (cD.out _ (HWy.out.trans ((below_drewN' (Below.refl wr.heap.size wr) 1).mono HWy.out.size))).mono ?_
         rintro e v3 ⟨rfl, hb3⟩
         have hB3 : Below wr.heap.size wr v3 := below_drew_of hb3
         clear hb3
         go_simp
         refine hK _ _ ⟨(Kp.refl _ _).ofBelow hB3, ?_⟩; clear hK K
         try go_simp
         have hc8 := HCR.out.on hB3
         have x0' := hc8.at_ 0 _ rfl
         have x1' := hc8.at_ 1 _ rfl
         have x2' := hc8.at_ 2 _ rfl
         have x3' := hc8.at_ 3 _ rfl
         refine wpAnyH_one (i := 0) (by kernel_rfl) rfl (fun K hK => ?_)
         go_simp
         refine hK _ _ ⟨(Kp.refl _ _).ofBelow hB3, ?_⟩; clear hK K x0' x1' x2' x3' hc8
         try go_simp
         refine wpAnyH_one (i := 4) (by kernel_rfl) rfl (fun K hK => ?_)
         go_simp
         refine (cS.out _).mono ?_
         rintro e v4 ⟨rfl, hb4⟩
         have hB4 : Below wr.heap.size wr v4 := hB3.trans (hb4.mono hB3.size)
         have hS4 : Kp (fun i => i = gx) wr v4 := (Kp.refl _ _).ofBelow hB4
         have hc9 := HCR.out.on hB4
         have rz0 := hc9.at_ 0 _ rfl
         have rz1 := hc9.at_ 1 _ rfl
         have rz2 := hc9.at_ 2 _ rfl
         have rz3 := hc9.at_ 3 _ rfl
         have f0 := hc9.fz 0 (by simp [cW])
         have f1 := hc9.fz 1 (by simp [cW])
         have f2 := hc9.fz 2 (by simp [cW])
         have f3 := hc9.fz 3 (by simp [cW])
         have HC9 := Lib.hid hc9
         clear hc9 hb4 hB3
         go_simp
         refine hK _ _ ⟨hS4, ?_⟩; clear hK K
         try go_simp
         refine wpAnyH_one (i := 5) (by kernel_rfl) rfl (fun K hK => ?_)
         go_simp
         have hSX : Kp (fun i => i = gx) wr (set4 v4 gx s2) := ((((hS4.setCell (p := ⟨gx, 0, none⟩) (fun _ => rfl) _).setCell (p := ⟨gx, 1, none⟩) (fun _ => rfl) _).setCell (p := ⟨gx, 2, none⟩) (fun _ => rfl) _).setCell (p := ⟨gx, 3, none⟩) (fun _ => rfl) _)
         refine hK _ _ ⟨hSX, ?_⟩; clear hK K
         refine wpAnyH_done (by kernel_rfl) ?_ _
         try go_simp
         apply_assumption
         go_meet
         exact ⟨rfl, Lib.hid ⟨cells_set4 HC9.out s2, hSX⟩⟩
       case rest =>
        obtain ⟨rfl, HQ7⟩ := hcut
        obtain ⟨wa, rfl⟩ : ∃ x, x = wc := ⟨_, rfl⟩
        have HK7 : Hid (Kp (fun i => i = gx) w6 wa) := Lib.hid (HKR.out.trans HQ7.out.2)
        have HB7 : Hid (Below w2.heap.size w2 wa) := Lib.hid (((Kp.refl (fun i => i = gx) w2).ofBelow HB6.out).trans HK7.out |>.below (Nat.le_refl _) fun j h => by have := HG5.out; have := HGO.out; omega)
        have HC7 := Lib.hid HQ7.out.1
        have HG7 : Hid (gx < wa.heap.size) := Lib.hid HC7.out.lt
        have HO7 : Hid (Cells wa ob (l2.flatMap cW)) := Lib.hid (HO6.out.kp HK7.out (fun e => by have := HG5.out; omega))
        have HT7 : Hid (Cells wa gt [.slice (some ⟨ob, 0, none⟩) n4 n4]) := Lib.hid (HT6.out.kp HK7.out (fun e => by have := HG5.out; omega))
        have cCt := Lib.hid (rcatch_any s b A0 n0 c0 A1 n1 c1 A2 n2 c2 A3 n3 c3 A4 n4 c4 A5 n5 c5 A6 n6 c6 A7 n7 c7 A8 n8 c8 x0 q wa (HF2.out wa HB7.out) hqn)
        clear HSU HML HOU HSJ HSE HCR HKR HTr HOr HWy cD cS HSE1 HQ7
        have e0 := (HCT.out wa HB7.out).at_ 0 _ rfl
        have e1 := (HCT.out wa HB7.out).at_ 1 _ rfl
        have e2 := (HCT.out wa HB7.out).at_ 2 _ rfl
        have e3 := (HCT.out wa HB7.out).at_ 3 _ rfl
        have e4 := (HCT.out wa HB7.out).at_ 4 _ rfl
        have e5 := (HCT.out wa HB7.out).at_ 5 _ rfl
        have e6 := (HCT.out wa HB7.out).at_ 6 _ rfl
        have e7 := (HCT.out wa HB7.out).at_ 7 _ rfl
        have e8 := (HCT.out wa HB7.out).at_ 8 _ rfl
        have e9 := (HCT.out wa HB7.out).at_ 9 _ rfl
        have e10 := (HCT.out wa HB7.out).at_ 10 _ rfl
        go_wp2_with fail
        refine cCt.out.mono ?_
        rintro e w8 ⟨V, m2, cv, rfl, hov, hb8⟩
        have HSV := Lib.hid (SlI.own hov (by have := row_len hov; have := catchM_len x0 q; have := HN6.out; omega))
        have HMM : Hid (m2 = (catchM x0 q).length) := Lib.hid (row_len hov).symm
        have hm22 : m2 ≤ 21 := by have := row_len hov; have := catchM_len x0 q; have := HN6.out; omega
        have hm23 : (m2 : Int) ≤ 21 := by omega
        have HOV := Lib.hid hov
        have HB8 : Hid (Below w2.heap.size w2 w8) := Lib.hid (HB7.out.trans (hb8.mono HB7.out.size))
        have HC8 := Lib.hid (HC7.out.on hb8)
        have HO8 := Lib.hid (HO7.out.on hb8)
        have HT8 := Lib.hid (HT7.out.on hb8)
        have HK8 : Hid (Kp (fun i => i = gx) w6 w8) := Lib.hid (HK7.out.ofBelow hb8)
        clear hov hb8 cCt e0 e1 e2 e3 e4 e5 e6 e7 e8 e9 e10
        go_wp2_with fail
        go_loopw [13] (fun iv wQ => ∃ (j : Nat), iv = .int .i64 (j : Int) ∧ j ≤ m2 ∧ Hid (Cells wQ gx (cW (sumOr l2 s2 ((catchM x0 q).take j))) ∧ Kp (fun i => i = gx) w8 wQ)) (fun iv _ => m2 - (intOf iv).toNat)
        case atStart => exact ⟨0, rfl, Nat.zero_le _, Lib.hid ⟨HC8.out, Kp.refl _ _⟩⟩
        case round =>
         obtain ⟨j, rfl, hj, HKJ⟩ := hrel
         have hj0 : (0 : Int) ≤ (j : Int) := by omega
         have hj1 : (j : Int) ≤ 21 := by omega
         obtain ⟨sj, hsj⟩ : ∃ s, sumOr l2 s2 ((catchM x0 q).take j) = s := ⟨_, rfl⟩
         have HSJ : Hid sj.Ok := Lib.hid (by rw [← hsj]; exact sumOr_ok HK2.out.2.1 _ HSO2.out)
         have HSE := Lib.hid hsj
         rw [hsj] at HKJ
         have HCR := Lib.hid HKJ.out.1
         have HKR := Lib.hid HKJ.out.2
         have HTr := Lib.hid (HT8.out.kp HKR.out (fun e => by have := HG5.out; omega))
         have HOr := Lib.hid (HO8.out.kp HKR.out (fun e => by have := HG5.out; omega))
         clear HKJ hsj
         by_cases hlt : j < m2
         ·have hjn : (j : Int) < (m2 : Int) := by omega
          obtain ⟨ub, uo, u, rfl, hub, hu, uc0⟩ := SlR.cell1 (f := Value.int .i64) HSV.out (i := j) hlt
          have hube : Hid (¬ ub = gx) := Lib.hid (by have := (HOV.out.lt ub rfl).1; have := HG7.out; omega)
          have uc := HKR.out.cellv (p := ⟨ub, uo + j, none⟩) uc0 hube.out
          obtain ⟨t, ht⟩ : ∃ t, ofM l2 u = t := ⟨_, rfl⟩
          have HTO : Hid t.Ok := Lib.hid (by rw [← ht]; exact ofM_ok HK2.out.2.1 _)
          have cQu : Hid (∀ W, Below wr.heap.size wr W → Calls Tryz.prog 159 #[.agg #[.slice (some ⟨ob, 0, none⟩) n4 n4], .int .i64 u] W (IsW t W)) := Lib.hid fun W hW => by rw [← ht]; exact rtof_any ob n4 l2 u W (HOr.out.on hW) HK2.out.1 (by omega)
          obtain ⟨r, hr⟩ : ∃ r, orW sj t = r := ⟨_, rfl⟩
          have HRN : Hid (sumOr l2 s2 ((catchM x0 q).take (j + 1)) = r) := Lib.hid (by rw [← take_snoc' _ _ _ hu, sumOr_snoc, HSE.out, ht, hr])
          have cO : Hid (∀ W, Calls Tryz.prog 155 #[aggW sj, aggW t] W (IsW r W)) := Lib.hid fun W => by rw [← hr]; exact ror_any sj t HSJ.out HTO.out W
          have HUC := Lib.hid uc
          clear uc0 hr ht hu
          go_wp2_with fail
          refine wp_region_held (S := fun W => Kp (fun i => i = gx) wr W) (by kernel_rfl) ?_
          change wpAnyH _ _ _ _ _ _ _ _ (World.drew _)
          refine teH 1 (.agg #[.slice (some ⟨ob, 0, none⟩) n4 n4]) rfl (by intro W hW; have t9 := HTr.out.kp hW (fun e => by have := HG5.out; omega); have q9 := t9.at_ 0 _ rfl; go_simp; try (first | (with_reducible rfl) | omega)) ((Kp.refl (fun i => i = gx) wr).drew) ?_
          refine teH 2 (.slice (some ⟨ub, uo, none⟩) m2 cv) rfl (by intro W hW; go_simp; try (first | (with_reducible rfl) | omega)) ((Kp.refl (fun i => i = gx) wr).drew) ?_
          refine teH 3 (.int .i64 (j : Int)) rfl (by intro W hW; go_simp; try (first | (with_reducible rfl) | omega)) ((Kp.refl (fun i => i = gx) wr).drew) ?_
          try go_simp
          refine teH 4 (.pointer (some ⟨ub, uo + j, none⟩)) rfl (by intro W hW; go_simp; try (first | (with_reducible rfl) | omega)) ((Kp.refl (fun i => i = gx) wr).drew) ?_
          try go_simp
          refine teH 5 (.int .i64 u) rfl (by intro W hW; have u9 := hW.cellv (p := ⟨ub, uo + j, none⟩) HUC.out hube.out; go_simp; try (first | (with_reducible rfl) | omega)) ((Kp.refl (fun i => i = gx) wr).drew) ?_
          try go_simp
          have x0' := HCR.out.at_ 0 _ rfl
          have x1' := HCR.out.at_ 1 _ rfl
          have x2' := HCR.out.at_ 2 _ rfl
          have x3' := HCR.out.at_ 3 _ rfl
          refine wpAnyH_two (i := 0) (j := 6) (by kernel_rfl) rfl rfl (fun K hK => ?_) (fun K hK => ?_)
          ·go_simp
           refine hK _ _ ⟨((Kp.refl (fun i => i = gx) wr).drew), ?_⟩; clear hK K
           try go_simp
           refine wpAnyH_one (i := 6) (by kernel_rfl) rfl (fun K hK => ?_)
           go_simp
           refine (cQu.out _ (below_drewN' (Below.refl wr.heap.size wr) 1)).mono ?_
           rintro e v3 ⟨rfl, hb3⟩
           have hB3 : Below wr.heap.size wr v3 := below_drew_of hb3
           clear hb3
           go_simp
           refine hK _ _ ⟨(Kp.refl _ _).ofBelow hB3, ?_⟩; clear hK K
           try go_simp
           refine wpAnyH_one (i := 7) (by kernel_rfl) rfl (fun K hK => ?_)
           go_simp
           refine (cO.out _).mono ?_
           rintro e v4 ⟨rfl, hb4⟩
           have hB4 : Below wr.heap.size wr v4 := hB3.trans (hb4.mono hB3.size)
           have hS4 : Kp (fun i => i = gx) wr v4 := (Kp.refl _ _).ofBelow hB4
           have hc9 := HCR.out.on hB4
           have rz0 := hc9.at_ 0 _ rfl
           have rz1 := hc9.at_ 1 _ rfl
           have rz2 := hc9.at_ 2 _ rfl
           have rz3 := hc9.at_ 3 _ rfl
           have f0 := hc9.fz 0 (by simp [cW])
           have f1 := hc9.fz 1 (by simp [cW])
           have f2 := hc9.fz 2 (by simp [cW])
           have f3 := hc9.fz 3 (by simp [cW])
           have HC9 := Lib.hid hc9
           clear hc9 hb4 hB3
           go_simp
           refine hK _ _ ⟨hS4, ?_⟩; clear hK K
           try go_simp
           refine wpAnyH_one (i := 8) (by kernel_rfl) rfl (fun K hK => ?_)
           go_simp
           have hSX : Kp (fun i => i = gx) wr (set4 v4 gx r) := ((((hS4.setCell (p := ⟨gx, 0, none⟩) (fun _ => rfl) _).setCell (p := ⟨gx, 1, none⟩) (fun _ => rfl) _).setCell (p := ⟨gx, 2, none⟩) (fun _ => rfl) _).setCell (p := ⟨gx, 3, none⟩) (fun _ => rfl) _)
           refine hK _ _ ⟨hSX, ?_⟩; clear hK K
           refine wpAnyH_done (by kernel_rfl) ?_ _
           try go_simp
           go_wp2_with fail
           go_roundw
           case rel => exact ⟨j + 1, by go_num, by omega, Lib.hid ⟨by rw [HRN.out]; exact cells_set4 HC9.out r, HKR.out.trans hSX⟩⟩
           case measure => simp [intOf]; omega
          ·go_simp
           refine (cQu.out _ (below_drewN' (Below.refl wr.heap.size wr) 1)).mono ?_
           rintro e v3 ⟨rfl, hb3⟩
           have hB3 : Below wr.heap.size wr v3 := below_drew_of hb3
           clear hb3
           go_simp
           refine hK _ _ ⟨(Kp.refl _ _).ofBelow hB3, ?_⟩; clear hK K
           try go_simp
           have hc8 := HCR.out.on hB3
           have x0' := hc8.at_ 0 _ rfl
           have x1' := hc8.at_ 1 _ rfl
           have x2' := hc8.at_ 2 _ rfl
           have x3' := hc8.at_ 3 _ rfl
           refine wpAnyH_one (i := 0) (by kernel_rfl) rfl (fun K hK => ?_)
           go_simp
           refine hK _ _ ⟨(Kp.refl _ _).ofBelow hB3, ?_⟩; clear hK K x0' x1' x2' x3' hc8
           try go_simp
           refine wpAnyH_one (i := 7) (by kernel_rfl) rfl (fun K hK => ?_)
           go_simp
           refine (cO.out _).mono ?_
           rintro e v4 ⟨rfl, hb4⟩
           have hB4 : Below wr.heap.size wr v4 := hB3.trans (hb4.mono hB3.size)
           have hS4 : Kp (fun i => i = gx) wr v4 := (Kp.refl _ _).ofBelow hB4
           have hc9 := HCR.out.on hB4
           have rz0 := hc9.at_ 0 _ rfl
           have rz1 := hc9.at_ 1 _ rfl
           have rz2 := hc9.at_ 2 _ rfl
           have rz3 := hc9.at_ 3 _ rfl
           have f0 := hc9.fz 0 (by simp [cW])
           have f1 := hc9.fz 1 (by simp [cW])
           have f2 := hc9.fz 2 (by simp [cW])
           have f3 := hc9.fz 3 (by simp [cW])
           have HC9 := Lib.hid hc9
           clear hc9 hb4 hB3
           go_simp
           refine hK _ _ ⟨hS4, ?_⟩; clear hK K
           try go_simp
           refine wpAnyH_one (i := 8) (by kernel_rfl) rfl (fun K hK => ?_)
           go_simp
           have hSX : Kp (fun i => i = gx) wr (set4 v4 gx r) := ((((hS4.setCell (p := ⟨gx, 0, none⟩) (fun _ => rfl) _).setCell (p := ⟨gx, 1, none⟩) (fun _ => rfl) _).setCell (p := ⟨gx, 2, none⟩) (fun _ => rfl) _).setCell (p := ⟨gx, 3, none⟩) (fun _ => rfl) _)
           refine hK _ _ ⟨hSX, ?_⟩; clear hK K
           refine wpAnyH_done (by kernel_rfl) ?_ _
           try go_simp
           go_wp2_with fail
           go_roundw
           case rel => exact ⟨j + 1, by go_num, by omega, Lib.hid ⟨by rw [HRN.out]; exact cells_set4 HC9.out r, HKR.out.trans hSX⟩⟩
           case measure => simp [intOf]; omega
         ·obtain rfl : j = m2 := by omega
          have HWy : Hid (Below w2.heap.size w2 wr) := Lib.hid (((Kp.refl (fun i => i = gx) w2).ofBelow HB8.out).trans HKR.out |>.below (Nat.le_refl _) fun j h => by have := HG5.out; have := HGO.out; omega)
          have HSE2 : Hid (sumOr l2 s2 (catchM x0 q) = sj) := Lib.hid (by rw [← HSE.out, List.take_of_length_le (by have := HMM.out; omega)])
          obtain ⟨tu, htu⟩ : ∃ d, usesM x0 q = d := ⟨_, rfl⟩
          have HUO : Hid tu.Ok := Lib.hid (by rw [← htu]; exact usesM_ok _ _)
          have cUs := Lib.hid (fun W (hW : Below w2.heap.size w2 W) => ruses_any s b A0 n0 c0 A1 n1 c1 A2 n2 c2 A3 n3 c3 A4 n4 c4 A5 n5 c5 A6 n6 c6 A7 n7 c7 A8 n8 c8 x0 q W (HF2.out W hW) hqn)
          rw [htu] at cUs
          obtain ⟨th, hth⟩ : ∃ d, heldM fs x0 q = d := ⟨_, rfl⟩
          have HHO : Hid th.Ok := Lib.hid (by rw [← hth]; exact heldM_ok _ _ _)
          have cHl := Lib.hid (fun W (hW : Below w2.heap.size w2 W) => cH.out W (H12.out W hW) q hqn)
          rw [hth] at cHl
          obtain ⟨r4, hr4⟩ : ∃ d, orW sj tu = d := ⟨_, rfl⟩
          obtain ⟨r5, hr5⟩ : ∃ d, orW r4 th = d := ⟨_, rfl⟩
          have HRO : Hid r4.Ok := Lib.hid (by rw [← hr4]; exact orW_ok HSJ.out HUO.out)
          have cO4 : Hid (∀ W, Calls Tryz.prog 155 #[aggW sj, aggW tu] W (IsW r4 W)) := Lib.hid fun W => by rw [← hr4]; exact ror_any sj tu HSJ.out HUO.out W
          have cO5 : Hid (∀ W, Calls Tryz.prog 155 #[aggW r4, aggW th] W (IsW r5 W)) := Lib.hid fun W => by rw [← hr5]; exact ror_any r4 th HRO.out HHO.out W
          have HR5 : Hid (ruM (ruF fs x0) l2 q = r5) := Lib.hid (by rw [← hr5, ← hr4, ← htu, ← hth, ← HSE2.out, ← HS2.out]; rfl)
          have HRW : Hid (Kp (fun i => i = gx) w6 wr) := Lib.hid (HK8.out.trans HKR.out)
          clear htu hth hr4 hr5
          go_wp2_with fail
          go_cut [9] (fun pv wQ => pv = .int .i64 (q : Int) ∧ Hid (Cells wQ gx (cW r5) ∧ Kp (fun i => i = gx) wr wQ))
          case first =>
           refine wp_region_piv (R := fun W => Below wr.heap.size wr W) (pv := 10) (by kernel_rfl) ?_
           change wpAnyG _ _ _ _ _ _ _ _ _ (World.drew _)
           have hS0 : Below wr.heap.size wr wr.drew := (Below.refl _ _).drew
           refine wpAnyG_take (i := 0) (v := .agg #[.int .u64 (sj.a0 : Int), .int .u64 (sj.a1 : Int), .int .u64 (sj.a2 : Int), .int .u64 (sj.a3 : Int)]) (k := 9) [4, 0] rfl (by kernel_rfl) (by kernel_rfl) (by kernel_rfl) (by kernel_rfl) (by kernel_rfl) (fun _ _ _ h => h) (Or.inl ⟨by rfl, by intro W hW; have y9 := HCR.out.on hW; have z0 := y9.at_ 0 _ rfl; have z1 := y9.at_ 1 _ rfl; have z2 := y9.at_ 2 _ rfl; have z3 := y9.at_ 3 _ rfl; go_simp; try (first | (with_reducible rfl) | omega)⟩) (by kernel_rfl) (by kernel_rfl) hS0 ?_
           refine wpAnyG_take (i := 1) (v := .agg #[.string s, .bool b, .slice A0 n0 c0, .slice A1 n1 c1, .slice A2 n2 c2, .slice A3 n3 c3, .slice A4 n4 c4, .slice A5 n5 c5, .slice A6 n6 c6, .slice A7 n7 c7, .slice A8 n8 c8]) (k := 9) [4, 3, 1] rfl (by kernel_rfl) (by kernel_rfl) (by kernel_rfl) (by kernel_rfl) (by kernel_rfl) (fun _ _ _ h => h) (Or.inl ⟨by rfl, by intro W hW; have c9 := HCT.out W (HWy.out.trans (hW.mono HWy.out.size)); obtain ⟨e0, e1, e2, e3, e4, e5, e6, e7, e8, e9, e10⟩ := c11 c9; go_simp; try (first | (with_reducible rfl) | omega)⟩) (by kernel_rfl) (by kernel_rfl) hS0 ?_
           refine wpAnyG_take (i := 5) (v := .agg #[.slice (some ⟨bk, off, none⟩) fn fc]) (k := 9) [8, 5] rfl (by kernel_rfl) (by kernel_rfl) (by kernel_rfl) (by kernel_rfl) (by kernel_rfl) (fun _ _ _ h => h) (Or.inl ⟨by rfl, by intro W hW; have q9 := EP.out W (H12.out W (HWy.out.trans (hW.mono HWy.out.size))); go_simp; try (first | (with_reducible rfl) | omega)⟩) (by kernel_rfl) (by kernel_rfl) hS0 ?_
           refine wpAnyG_take (i := 2) (v := .int .i64 (q : Int)) (k := 9) [4, 3, 2] rfl (by kernel_rfl) (by kernel_rfl) (by kernel_rfl) (by kernel_rfl) (by kernel_rfl) (fun _ _ _ h => h) (Or.inl ⟨by rfl, by intro W hW; go_simp; try (first | (with_reducible rfl) | omega)⟩) (by kernel_rfl) (by kernel_rfl) hS0 ?_
           refine wpAnyG_take (i := 6) (v := .int .i64 (f : Int)) (k := 9) [8, 6] rfl (by kernel_rfl) (by kernel_rfl) (by kernel_rfl) (by kernel_rfl) (by kernel_rfl) (fun _ _ _ h => h) (Or.inl ⟨by rfl, by intro W hW; go_simp; try (first | (with_reducible rfl) | omega)⟩) (by kernel_rfl) (by kernel_rfl) hS0 ?_
           refine wpAnyG_take (i := 7) (v := .int .i64 (q : Int)) (k := 9) [8, 7] rfl (by kernel_rfl) (by kernel_rfl) (by kernel_rfl) (by kernel_rfl) (by kernel_rfl) (fun _ _ _ h => h) (Or.inl ⟨by rfl, by intro W hW; go_simp; try (first | (with_reducible rfl) | omega)⟩) (by kernel_rfl) (by kernel_rfl) hS0 ?_
           try go_simp
           refine wpAnyG_one (i := 3) (by kernel_rfl) rfl (fun K hK => ?_)
           go_simp
           refine (cUs.out _ (HWy.out.trans (hS0.mono HWy.out.size))).mono ?_
           rintro e v21 ⟨rfl, hb21⟩
           have hB21 : Below wr.heap.size wr v21 := hS0.trans (hb21.mono hS0.size)
           clear hb21
           go_simp
           refine hK _ _ ⟨fun _ => hB21, ?_⟩; clear hK K
           try go_simp
           refine wpAnyG_one (i := 4) (by kernel_rfl) rfl (fun K hK => ?_)
           go_simp
           refine (cO4.out _).mono ?_
           rintro e v22 ⟨rfl, hb22⟩
           have hB22 : Below wr.heap.size wr v22 := hB21.trans (hb22.mono hB21.size)
           clear hb22
           go_simp
           refine hK _ _ ⟨fun _ => hB22, ?_⟩; clear hK K
           try go_simp
           refine wpAnyG_one (i := 8) (by kernel_rfl) rfl (fun K hK => ?_)
           go_simp
           refine (cHl.out _ (HWy.out.trans (hB22.mono HWy.out.size))).mono ?_
           rintro e v23 ⟨rfl, hb23⟩
           have hB23 : Below wr.heap.size wr v23 := hB22.trans (hb23.mono hB22.size)
           clear hb23
           go_simp
           refine hK _ _ ⟨fun _ => hB23, ?_⟩; clear hK K
           try go_simp
           refine wpAnyG_one (i := 9) (by kernel_rfl) rfl (fun K hK => ?_)
           go_simp
           refine (cO5.out _).mono ?_
           rintro e v24 ⟨rfl, hb24⟩
           have hB24 : Below wr.heap.size wr v24 := hB23.trans (hb24.mono hB23.size)
           clear hb24
           go_simp
           refine hK _ _ ⟨fun _ => hB24, ?_⟩; clear hK K
           try go_simp
           have hS4 : Kp (fun i => i = gx) wr v24 := (Kp.refl _ _).ofBelow hB24
           have hc9 := HCR.out.on hB24
           have rz0 := hc9.at_ 0 _ rfl
           have rz1 := hc9.at_ 1 _ rfl
           have rz2 := hc9.at_ 2 _ rfl
           have rz3 := hc9.at_ 3 _ rfl
           have f0 := hc9.fz 0 (by simp [cW])
           have f1 := hc9.fz 1 (by simp [cW])
           have f2 := hc9.fz 2 (by simp [cW])
           have f3 := hc9.fz 3 (by simp [cW])
           have HC9 := Lib.hid hc9
           clear hc9
           refine wpAnyG_oneL (i := 10) (by kernel_rfl) rfl (by kernel_rfl) (fun K hK => ?_)
           go_simp
           have hSX : Kp (fun i => i = gx) wr (set4 v24 gx r5) := ((((hS4.setCell (p := ⟨gx, 0, none⟩) (fun _ => rfl) _).setCell (p := ⟨gx, 1, none⟩) (fun _ => rfl) _).setCell (p := ⟨gx, 2, none⟩) (fun _ => rfl) _).setCell (p := ⟨gx, 3, none⟩) (fun _ => rfl) _)
           refine hK _ _ ?_; clear hK K
           refine wpAnyG_done (by kernel_rfl) ?_ _
           try go_simp
           apply_assumption
           go_meet
           exact ⟨rfl, Lib.hid ⟨cells_set4 HC9.out r5, hSX⟩⟩
          case rest =>
           obtain ⟨rfl, HQ9⟩ := hcut
           have HKZ : Hid (Kp (fun i => i = gx) w6 wc) := Lib.hid (HRW.out.trans HQ9.out.2)
           have HKY : Hid (Kp (fun i => i = ob) w4 wc) := Lib.hid (HK6.out.trans' HKZ.out fun k hk h => h.elim id fun e => by have := HG5.out; omega)
           have hoc : Cells wc ob (l2.flatMap cW) := HO6.out.kp HKZ.out (fun e => by have := HG5.out; omega)
           obtain ⟨t5, ht5⟩ : ∃ t, l2[q]? = some t := ⟨_, List.getElem?_eq_getElem (by have := HK2.out.1; omega)⟩
           obtain ⟨o0, o1, o2, o3⟩ := cW_at hoc ht5
           have HT5 : Hid (l2.getD q zW = t5) := Lib.hid (by rw [List.getD_eq_getElem?_getD, ht5]; rfl)
           have hLen : (l2.flatMap cW).length = n4 * 4 := by rw [cW_len, HK2.out.1]; omega
           have fo0 := hoc.fz (q * 4) (by omega)
           have fo1 := hoc.fz (q * 4 + 1) (by omega)
           have fo2 := hoc.fz (q * 4 + 2) (by omega)
           have fo3 := hoc.fz (q * 4 + 3) (by omega)
           have x0' := HQ9.out.1.at_ 0 _ rfl
           have x1' := HQ9.out.1.at_ 1 _ rfl
           have x2' := HQ9.out.1.at_ 2 _ rfl
           have x3' := HQ9.out.1.at_ 3 _ rfl
           have HOC := Lib.hid hoc
           obtain ⟨bq, hbq⟩ : ∃ b, eq4 r5 t5 = b := ⟨_, rfl⟩
           have heq : ∀ W, (Op.equalIn 10000 216 (.agg #[.int .u64 (r5.a0 : Int), .int .u64 (r5.a1 : Int), .int .u64 (r5.a2 : Int), .int .u64 (r5.a3 : Int)]) (.agg #[.int .u64 (t5.a0 : Int), .int .u64 (t5.a1 : Int), .int .u64 (t5.a2 : Int), .int .u64 (t5.a3 : Int)])).run Tryz.prog W = .ok bq W := fun W => by rw [← hbq]; exact eq_arr 9998 r5.a0 r5.a1 r5.a2 r5.a3 t5.a0 t5.a1 t5.a2 t5.a3 W
           have hguard := eq_guard
           have HBQ := Lib.hid hbq
           clear hoc ht5 hLen hbq
           have hqc : (q : Int) < (n4 : Int) := by omega
           cases bq with
           | true =>
            go_wp2_with (first | go_quiet (fail) | fail)
            go_roundw
            case rel => exact ⟨ag, q, l2, rfl, by first | rfl | go_num, by omega, Lib.hid ⟨HK2.out.1, HK2.out.2.1, HK2.out.2.2.1, HOC.out.on (by first | exact Below.refl _ _ | exact below_drewN' (Below.refl _ _) _), HKY.out.ofBelow (by first | exact Below.refl _ _ | exact below_drewN' (Below.refl _ _) _), HK2.out.2.2.2.2.2⟩⟩
            case measure => first | (simp [intOf]; done) | (simp [intOf]; omega)
           | false =>
            have HNE : Hid (ruM (ruF fs x0) l2 q ≠ l2.getD q zW) := Lib.hid (by rw [HR5.out, HT5.out]; exact eq4_ne HBQ.out)
            have hL : (l2.flatMap cW).length = n4 * 4 := by rw [cW_len, HK2.out.1]; omega
            have hsm := sumW_grow (ruF_ok fs x0) HK2.out.2.1 HK2.out.2.2.1 (i := q) (by have := HK2.out.1; omega) HNE.out
            have hgr := HK2.out.2.2.1.set (ruF_ok fs x0) (i := q) (by have := HK2.out.1; omega)
            have hao := HK2.out.2.1.set q (ruM_ok (ruF_ok fs x0) HK2.out.2.1 q)
            rw [HR5.out] at hsm hgr hao
            have HSM : Hid (if true = true then sumW l < sumW (l2.set q r5) else sumW (l2.set q r5) = sumW l) := Lib.hid (by have h3 := HK2.out.2.2.2.2.2; cases ag <;> simp at h3 ⊢ <;> omega)
            have HGR := Lib.hid hgr
            have HAO := Lib.hid hao
            have HLL := Lib.hid hL
            clear hsm hgr hao hL
            go_wp2_with (first | go_quiet (fail) | fail)
            go_roundw
            case rel =>
             refine ⟨true, q, l2.set q r5, rfl, by first | rfl | go_num, by omega, Lib.hid ⟨by rw [List.length_set]; exact HK2.out.1, HAO.out, HGR.out, ?cells, ?kps, HSM.out⟩⟩
             case cells =>
              rw [← cW_set]
              exact ((((HOC.out.on (below_drewN' (Below.refl _ _) _)).put (q * 4) (by have := HLL.out; omega) _).put (q * 4 + 1) (by simp only [List.length_set]; have := HLL.out; omega) _).put (q * 4 + 2) (by simp only [List.length_set]; have := HLL.out; omega) _).put (q * 4 + 3) (by simp only [List.length_set]; have := HLL.out; omega) _
             case kps =>
              exact ((((HKY.out.drewN _).setCell (p := ⟨ob, q * 4, none⟩) (fun _ => rfl) _).setCell (p := ⟨ob, q * 4 + 1, none⟩) (fun _ => rfl) _).setCell (p := ⟨ob, q * 4 + 2, none⟩) (fun _ => rfl) _).setCell (p := ⟨ob, q * 4 + 3, none⟩) (fun _ => rfl) _
            case measure => first | (simp [intOf]; done) | (simp [intOf]; omega)
end Go.Proofs.YtobmjnmcjddhcaaGreat
