import Derived.Test.YtobmjnmcjddhcaaGreatCTk
import Derived.Test.YtobmjnmcjddhcaaGreatCFiD
import Derived.Test.YtobmjnmcjddhcaaGreatCFs2
set_option linter.unusedSimpArgs false
set_option linter.unusedVariables false
set_option maxRecDepth 100000
set_option maxHeartbeats 32000000
namespace Go.Proofs.YtobmjnmcjddhcaaGreat
open Go.RowKit
def cW (s : W4) : List Value := [.int .u64 (s.a0 : Int), .int .u64 (s.a1 : Int), .int .u64 (s.a2 : Int), .int .u64 (s.a3 : Int)]
theorem cW_at {W : World} {ob : Nat} {l : List W4} (h : Cells W ob (l.flatMap cW)) {q : Nat} {s : W4} (hq : l[q]? = some s) : W.cell? ⟨ob, q * 4, none⟩ = some (.int .u64 (s.a0 : Int)) ∧ W.cell? ⟨ob, q * 4 + 1, none⟩ = some (.int .u64 (s.a1 : Int)) ∧ W.cell? ⟨ob, q * 4 + 2, none⟩ = some (.int .u64 (s.a2 : Int)) ∧ W.cell? ⟨ob, q * 4 + 3, none⟩ = some (.int .u64 (s.a3 : Int)) := by
 have hk : ∀ j u, (cW s)[j]? = some u → j < 4 → W.cell? ⟨ob, q * 4 + j, none⟩ = some u := fun j u hu hj => h.at_ (q * 4 + j) u (flatMap_at cW (sz := 4) (fun _ => rfl) l q j s u hj hq hu)
 exact ⟨hk 0 _ rfl (by omega), hk 1 _ rfl (by omega), hk 2 _ rfl (by omega), hk 3 _ rfl (by omega)⟩
abbrev set4 (W : World) (g : Nat) (s : W4) : World := (((W.setCell ⟨g, 0, none⟩ (.int .u64 (s.a0 : Int))).setCell ⟨g, 1, none⟩ (.int .u64 (s.a1 : Int))).setCell ⟨g, 2, none⟩ (.int .u64 (s.a2 : Int))).setCell ⟨g, 3, none⟩ (.int .u64 (s.a3 : Int))
theorem cells_set4 {W : World} {g : Nat} {u0 u1 u2 u3 : Value} (h : Cells W g [u0, u1, u2, u3]) (s : W4) : Cells (set4 W g s) g (cW s) := (((h.put 0 (by simp) _).put 1 (by simp) _).put 2 (by simp) _).put 3 (by simp) _
theorem bl_set4 {W w : World} {B g : Nat} (h : Below B w W) (hg : B ≤ g) (s : W4) : Below B w (set4 W g s) := (((h.setCell (p := ⟨g, 0, none⟩) hg _).setCell (p := ⟨g, 1, none⟩) hg _).setCell (p := ⟨g, 2, none⟩) hg _).setCell (p := ⟨g, 3, none⟩) hg _
theorem rtof_any (ob n : Nat) (l : List W4) (k : Int) (w : World) (h : Cells w ob (l.flatMap cW)) (hl : l.length = n) (hn : n ≤ 1000) :
  Calls Tryz.prog 159 #[.agg #[.slice (some ⟨ob, 0, none⟩) n n], .int .i64 k] w (IsW (ofM l k) w) := by
 obtain ⟨w1, hw1⟩ : ∃ X, w.alloc (.cells #[.slice (some ⟨ob, 0, none⟩) n n] 246) = X := ⟨_, rfl⟩
 obtain ⟨g, hg⟩ : ∃ X, w.heap.size = X := ⟨_, rfl⟩
 have hb1 : Below w.heap.size w w1 := by rw [← hw1]; exact bl_one _
 have hc1 : Cells w1 g [.slice (some ⟨ob, 0, none⟩) n n] := by rw [← hw1, ← hg]; exact Cells.new w [.slice (some ⟨ob, 0, none⟩) n n] _
 obtain ⟨w2, hw2⟩ : ∃ X, w1.alloc (.cells #[.int .u64 0, .int .u64 0, .int .u64 0, .int .u64 0] 216) = X := ⟨_, rfl⟩
 obtain ⟨g1, hg1⟩ : ∃ X, w1.heap.size = X := ⟨_, rfl⟩
 have hb2 : Below w1.heap.size w1 w2 := by rw [← hw2]; exact bl_one _
 have hc2 : Cells w2 g1 [.int .u64 0, .int .u64 0, .int .u64 0, .int .u64 0] := by rw [← hw2, ← hg1]; exact Cells.new w1 [.int .u64 0, .int .u64 0, .int .u64 0, .int .u64 0] _
 have hlow : w.heap.size ≤ g1 := by have := hb1.size; omega
 have hb12 : Below w.heap.size w w2 := hb1.trans (hb2.mono hb1.size)
 have hct := hc1.on hb2
 have e0 := hct.at_ 0 _ rfl
 have HC2 := Lib.hid hc2
 have HB12 := Lib.hid hb12
 have HLOW := Lib.hid hlow
 have v0 := hc2.at_ 0 _ rfl
 have v1 := hc2.at_ 1 _ rfl
 have v2 := hc2.at_ 2 _ rfl
 have v3 := hc2.at_ 3 _ rfl
 have f0 := hc2.fz 0 (by simp)
 have f1 := hc2.fz 1 (by simp)
 have f2 := hc2.fz 2 (by simp)
 have f3 := hc2.fz 3 (by simp)
 have hn0 : (n : Int) ≤ 1000 := by omega
 have HX := Lib.hid (h.on hb12)
 have HL := Lib.hid hl
 clear hb1 hc1 hb2 hc2 hb12 hct h hl hlow
 go_enter Tryz.func159, Tryz.ntmps159
 by_cases hk0 : k < 0
 ·have d0 : decide (k < 0) = true := by rw [decide_eq_true_eq]; omega
  have HE : Hid (ofM l k = zW) := Lib.hid (by unfold ofM; rw [if_neg (by omega)])
  rw [HE.out]
  go_wp2_with fail
  obtain ⟨wx, hwx⟩ : ∃ X, (World.setCell (World.setCell (World.setCell (World.setCell w2 ⟨g1, 0, none⟩ (.int .u64 0)) ⟨g1, 1, none⟩ (.int .u64 0)) ⟨g1, 2, none⟩ (.int .u64 0)) ⟨g1, 3, none⟩ (.int .u64 0)) = X := ⟨_, rfl⟩
  have hcx : Cells wx g1 [.int .u64 0, .int .u64 0, .int .u64 0, .int .u64 0] := by rw [← hwx]; exact (Cells.put (Cells.put (Cells.put (Cells.put HC2.out 0 (by simp) (.int .u64 0)) 1 (by simp) (.int .u64 0)) 2 (by simp) (.int .u64 0)) 3 (by simp) (.int .u64 0))
  have hbx : Below w.heap.size w wx := by rw [← hwx]; exact (Below.setCell (Below.setCell (Below.setCell (Below.setCell HB12.out (p := ⟨g1, 0, none⟩) HLOW.out (.int .u64 0)) (p := ⟨g1, 1, none⟩) HLOW.out (.int .u64 0)) (p := ⟨g1, 2, none⟩) HLOW.out (.int .u64 0)) (p := ⟨g1, 3, none⟩) HLOW.out (.int .u64 0))
  have rz0 := hcx.at_ 0 _ rfl
  have rz1 := hcx.at_ 1 _ rfl
  have rz2 := hcx.at_ 2 _ rfl
  have rz3 := hcx.at_ 3 _ rfl
  try rw [hwx]
  refine bodyPost_ret (v := aggU 0 0 0 0) (by simp [results, Tryz.results159, go_sem, rz0, rz1, rz2, rz3]) rfl ⟨by first | rfl | (rw [HE2.out]; done) | (rw [HE2.out]; rfl), hbx⟩
 ·have d0 : decide (k < 0) = false := by rw [decide_eq_false_iff_not]; omega
  obtain ⟨q, rfl⟩ := Int.eq_ofNat_of_zero_le (show 0 ≤ k by omega)
  by_cases hq : q < n
  ·have d1 : decide ((q : Int) ≥ (n : Int)) = false := by rw [decide_eq_false_iff_not]; omega
   have d1b : decide (n ≤ q) = false := by rw [decide_eq_false_iff_not]; omega
   have hqn : (q : Int) < (n : Int) := by omega
   have hq0 : (0 : Int) ≤ (q : Int) := by omega
   obtain ⟨s, hs⟩ : ∃ s, l[q]? = some s := ⟨_, List.getElem?_eq_getElem (by have := HL.out; omega)⟩
   have HE : Hid (ofM l (q : Int) = s) := Lib.hid (by
    unfold ofM
    rw [if_pos ⟨by omega, by have := HL.out; omega⟩, List.getD_eq_getElem?_getD, show ((q : Int).toNat) = q from rfl, hs]; rfl)
   obtain ⟨y0, y1, y2, y3⟩ := cW_at HX.out hs
   rw [HE.out]
   clear hs
   go_wp2_with fail
   obtain ⟨wx, hwx⟩ : ∃ X, (World.setCell (World.setCell (World.setCell (World.setCell w2 ⟨g1, 0, none⟩ (.int .u64 (s.a0 : Int))) ⟨g1, 1, none⟩ (.int .u64 (s.a1 : Int))) ⟨g1, 2, none⟩ (.int .u64 (s.a2 : Int))) ⟨g1, 3, none⟩ (.int .u64 (s.a3 : Int))) = X := ⟨_, rfl⟩
   have hcx : Cells wx g1 [.int .u64 (s.a0 : Int), .int .u64 (s.a1 : Int), .int .u64 (s.a2 : Int), .int .u64 (s.a3 : Int)] := by rw [← hwx]; exact (Cells.put (Cells.put (Cells.put (Cells.put HC2.out 0 (by simp) (.int .u64 (s.a0 : Int))) 1 (by simp) (.int .u64 (s.a1 : Int))) 2 (by simp) (.int .u64 (s.a2 : Int))) 3 (by simp) (.int .u64 (s.a3 : Int)))
   have hbx : Below w.heap.size w wx := by rw [← hwx]; exact (Below.setCell (Below.setCell (Below.setCell (Below.setCell HB12.out (p := ⟨g1, 0, none⟩) HLOW.out (.int .u64 (s.a0 : Int))) (p := ⟨g1, 1, none⟩) HLOW.out (.int .u64 (s.a1 : Int))) (p := ⟨g1, 2, none⟩) HLOW.out (.int .u64 (s.a2 : Int))) (p := ⟨g1, 3, none⟩) HLOW.out (.int .u64 (s.a3 : Int)))
   have rz0 := hcx.at_ 0 _ rfl
   have rz1 := hcx.at_ 1 _ rfl
   have rz2 := hcx.at_ 2 _ rfl
   have rz3 := hcx.at_ 3 _ rfl
   try rw [hwx]
   refine bodyPost_ret (v := aggW s) (by simp [results, Tryz.results159, go_sem, rz0, rz1, rz2, rz3]) rfl ⟨by first | rfl | (rw [HE2.out]; done) | (rw [HE2.out]; rfl), hbx⟩
  ·have d1 : decide ((q : Int) ≥ (n : Int)) = true := by rw [decide_eq_true_eq]; omega
   have d1b : decide (n ≤ q) = true := by rw [decide_eq_true_eq]; omega
   have HE : Hid (ofM l (q : Int) = zW) := Lib.hid (by unfold ofM; rw [if_neg (by have := HL.out; omega)])
   rw [HE.out]
   go_wp2_with fail
   obtain ⟨wx, hwx⟩ : ∃ X, (World.setCell (World.setCell (World.setCell (World.setCell w2 ⟨g1, 0, none⟩ (.int .u64 0)) ⟨g1, 1, none⟩ (.int .u64 0)) ⟨g1, 2, none⟩ (.int .u64 0)) ⟨g1, 3, none⟩ (.int .u64 0)) = X := ⟨_, rfl⟩
   have hcx : Cells wx g1 [.int .u64 0, .int .u64 0, .int .u64 0, .int .u64 0] := by rw [← hwx]; exact (Cells.put (Cells.put (Cells.put (Cells.put HC2.out 0 (by simp) (.int .u64 0)) 1 (by simp) (.int .u64 0)) 2 (by simp) (.int .u64 0)) 3 (by simp) (.int .u64 0))
   have hbx : Below w.heap.size w wx := by rw [← hwx]; exact (Below.setCell (Below.setCell (Below.setCell (Below.setCell HB12.out (p := ⟨g1, 0, none⟩) HLOW.out (.int .u64 0)) (p := ⟨g1, 1, none⟩) HLOW.out (.int .u64 0)) (p := ⟨g1, 2, none⟩) HLOW.out (.int .u64 0)) (p := ⟨g1, 3, none⟩) HLOW.out (.int .u64 0))
   have rz0 := hcx.at_ 0 _ rfl
   have rz1 := hcx.at_ 1 _ rfl
   have rz2 := hcx.at_ 2 _ rfl
   have rz3 := hcx.at_ 3 _ rfl
   try rw [hwx]
   refine bodyPost_ret (v := aggU 0 0 0 0) (by simp [results, Tryz.results159, go_sem, rz0, rz1, rz2, rz3]) rfl ⟨by first | rfl | (rw [HE2.out]; done) | (rw [HE2.out]; rfl), hbx⟩
def usesM (x : DFunc) (k : Nat) : W4 := if (codeAt x k).op = 2 then withM zW (codeAt x k).a else zW
theorem usesM_ok (x : DFunc) (k : Nat) : (usesM x k).Ok := by
 unfold usesM
 split
 ·exact withM_ok zW_ok _
 ·exact zW_ok
theorem ruses_any (s : ByteArray) (b : Bool) (A0 : Option Addr) (n0 c0 : Nat) (A1 : Option Addr) (n1 c1 : Nat) (A2 : Option Addr) (n2 c2 : Nat) (A3 : Option Addr) (n3 c3 : Nat) (A4 : Option Addr) (n4 c4 : Nat) (A5 : Option Addr) (n5 c5 : Nat) (A6 : Option Addr) (n6 c6 : Nat) (A7 : Option Addr) (n7 c7 : Nat) (A8 : Option Addr) (n8 c8 : Nat) (x : DFunc) (k : Nat) (w : World) (h : FnW w w.heap.size s b A0 n0 c0 A1 n1 c1 A2 n2 c2 A3 n3 c3 A4 n4 c4 A5 n5 c5 A6 n6 c6 A7 n7 c7 A8 n8 c8 x) (hk : k < n4) : Calls Tryz.prog 162 #[.agg #[.string s, .bool b, .slice A0 n0 c0, .slice A1 n1 c1, .slice A2 n2 c2, .slice A3 n3 c3, .slice A4 n4 c4, .slice A5 n5 c5, .slice A6 n6 c6, .slice A7 n7 c7, .slice A8 n8 c8], .int .i64 (k : Int)] w (IsW (usesM x k) w) := by
 obtain ⟨w1, hw1⟩ : ∃ X, w.alloc (.cells #[.string s, .bool b, .slice A0 n0 c0, .slice A1 n1 c1, .slice A2 n2 c2, .slice A3 n3 c3, .slice A4 n4 c4, .slice A5 n5 c5, .slice A6 n6 c6, .slice A7 n7 c7, .slice A8 n8 c8] 38) = X := ⟨_, rfl⟩
 obtain ⟨g, hg⟩ : ∃ X, w.heap.size = X := ⟨_, rfl⟩
 have hb1 : Below w.heap.size w w1 := by rw [← hw1]; exact bl_one _
 have hc1 : Cells w1 g [.string s, .bool b, .slice A0 n0 c0, .slice A1 n1 c1, .slice A2 n2 c2, .slice A3 n3 c3, .slice A4 n4 c4, .slice A5 n5 c5, .slice A6 n6 c6, .slice A7 n7 c7, .slice A8 n8 c8] := by rw [← hw1, ← hg]; exact Cells.new w [.string s, .bool b, .slice A0 n0 c0, .slice A1 n1 c1, .slice A2 n2 c2, .slice A3 n3 c3, .slice A4 n4 c4, .slice A5 n5 c5, .slice A6 n6 c6, .slice A7 n7 c7, .slice A8 n8 c8] _
 obtain ⟨w2, hw2⟩ : ∃ X, w1.alloc (.cells #[.int .u64 0, .int .u64 0, .int .u64 0, .int .u64 0] 216) = X := ⟨_, rfl⟩
 obtain ⟨g1, hg1⟩ : ∃ X, w1.heap.size = X := ⟨_, rfl⟩
 have hb2 : Below w1.heap.size w1 w2 := by rw [← hw2]; exact bl_one _
 have hc2 : Cells w2 g1 [.int .u64 0, .int .u64 0, .int .u64 0, .int .u64 0] := by rw [← hw2, ← hg1]; exact Cells.new w1 [.int .u64 0, .int .u64 0, .int .u64 0, .int .u64 0] _
 have hlow : w.heap.size ≤ g1 := by have := hb1.size; omega
 have hb12 : Below w.heap.size w w2 := hb1.trans (hb2.mono hb1.size)
 have hct := hc1.on hb2
 have HCT : Hid (∀ W, Below w2.heap.size w2 W → Cells W g [.string s, .bool b, .slice A0 n0 c0, .slice A1 n1 c1, .slice A2 n2 c2, .slice A3 n3 c3, .slice A4 n4 c4, .slice A5 n5 c5, .slice A6 n6 c6, .slice A7 n7 c7, .slice A8 n8 c8]) := Lib.hid fun W hW => hct.on hW
 have HC2 : Hid (∀ W, Below w2.heap.size w2 W → Cells W g1 [.int .u64 0, .int .u64 0, .int .u64 0, .int .u64 0]) := Lib.hid fun W hW => hc2.on hW
 have HB12 : Hid (∀ W, Below w2.heap.size w2 W → Below w.heap.size w W) := Lib.hid fun W hW => hb12.trans (hW.mono hb12.size)
 have HLOW := Lib.hid hlow
 have h1 := (h.keep hb12).more hb12.size
 obtain ⟨s4, s5, s6, s7, s8, s0⟩ := h.sm
 obtain ⟨bb, off, yo, ya, rfl, hbb, hca, hcd, y0, y1⟩ := code_get h1.r4 hk
 have e0 := hct.at_ 0 _ rfl
 have e1 := hct.at_ 1 _ rfl
 have e2 := hct.at_ 2 _ rfl
 have e3 := hct.at_ 3 _ rfl
 have e4 := hct.at_ 4 _ rfl
 have e5 := hct.at_ 5 _ rfl
 have e6 := hct.at_ 6 _ rfl
 have e7 := hct.at_ 7 _ rfl
 have e8 := hct.at_ 8 _ rfl
 have e9 := hct.at_ 9 _ rfl
 have e10 := hct.at_ 10 _ rfl
 have hk0 : (0 : Int) ≤ (k : Int) := by omega
 have hk1 : (k : Int) ≤ 150 := by omega
 have hkn : (k : Int) < (n4 : Int) := by omega
 have HE : Hid (usesM x k = if yo = 2 then withM zW ya else zW) := Lib.hid (by unfold usesM; rw [hca])
 have t0 : decide ((k : Int) ≥ 0) = true := by rw [decide_eq_true_eq]; omega
 have t1 : decide ((k : Int) < (n4 : Int)) = true := by rw [decide_eq_true_eq]; omega
 have t1b : decide (k < n4) = true := by rw [decide_eq_true_eq]; omega
 clear hb1 hc1 hb2 hc2 hb12 hct h h1 hlow hca hcd
 go_enter Tryz.func162, Tryz.ntmps162
 by_cases o2 : yo = 2
 ·subst o2
  have HE2 : Hid (usesM x k = withM zW ya) := Lib.hid (by rw [HE.out, if_pos rfl])
  rw [HE2.out]
  obtain ⟨s, hs⟩ : ∃ s, withM zW ya = s := ⟨_, rfl⟩
  rw [hs]
  obtain ⟨w3, hw3⟩ : ∃ X, w2.alloc (.cells #[.int .i64 ya] 3) = X := ⟨_, rfl⟩
  obtain ⟨g3, hg3⟩ : ∃ X, w2.heap.size = X := ⟨_, rfl⟩
  have hb3 : Below w2.heap.size w2 w3 := by rw [← hw3]; exact bl_one _
  have hsl : SlI w3 w3.heap.size (some ⟨g3, 0, none⟩) 1 1 [ya] := SlI.own (base := w2.heap.size) (by rw [← hw3]; exact own_at hg3 w2.heap.size (by omega) [.int .i64 ya] 3 1 1 (by unfold maxLen; omega) rfl) (by omega)
  have cO := Lib.hid (rofs_any (some ⟨g3, 0, none⟩) 1 1 w3.heap.size [ya] w3 hsl (Nat.le_refl _) (by omega))
  have HS : Hid (foldW zW [ya] = s) := Lib.hid (by rw [← hs]; rfl)
  rw [HS.out] at cO
  have HB3 := Lib.hid hb3
  clear hb3 hsl hs
  go_wp2_with fail
  refine cO.out.mono ?_
  rintro e w4 ⟨rfl, hb4⟩
  have HB4 : Hid (Below w2.heap.size w2 w4) := Lib.hid (HB3.out.trans (hb4.mono HB3.out.size))
  clear hb4 cO e0 e1 e2 e3 e4 e5 e6 e7 e8 e9 e10 y0 y1
  have v0 := (HC2.out w4 HB4.out).at_ 0 _ rfl
  have v1 := (HC2.out w4 HB4.out).at_ 1 _ rfl
  have v2 := (HC2.out w4 HB4.out).at_ 2 _ rfl
  have v3 := (HC2.out w4 HB4.out).at_ 3 _ rfl
  have f0 := (HC2.out w4 HB4.out).fz 0 (by simp)
  have f1 := (HC2.out w4 HB4.out).fz 1 (by simp)
  have f2 := (HC2.out w4 HB4.out).fz 2 (by simp)
  have f3 := (HC2.out w4 HB4.out).fz 3 (by simp)
  go_wp2_with fail
  obtain ⟨wx, hwx⟩ : ∃ X, (World.setCell (World.setCell (World.setCell (World.setCell w4 ⟨g1, 0, none⟩ (.int .u64 (s.a0 : Int))) ⟨g1, 1, none⟩ (.int .u64 (s.a1 : Int))) ⟨g1, 2, none⟩ (.int .u64 (s.a2 : Int))) ⟨g1, 3, none⟩ (.int .u64 (s.a3 : Int))) = X := ⟨_, rfl⟩
  have hcx : Cells wx g1 [.int .u64 (s.a0 : Int), .int .u64 (s.a1 : Int), .int .u64 (s.a2 : Int), .int .u64 (s.a3 : Int)] := by rw [← hwx]; exact (Cells.put (Cells.put (Cells.put (Cells.put (HC2.out w4 HB4.out) 0 (by simp) (.int .u64 (s.a0 : Int))) 1 (by simp) (.int .u64 (s.a1 : Int))) 2 (by simp) (.int .u64 (s.a2 : Int))) 3 (by simp) (.int .u64 (s.a3 : Int)))
  have hbx : Below w.heap.size w wx := by rw [← hwx]; exact (Below.setCell (Below.setCell (Below.setCell (Below.setCell (HB12.out w4 HB4.out) (p := ⟨g1, 0, none⟩) HLOW.out (.int .u64 (s.a0 : Int))) (p := ⟨g1, 1, none⟩) HLOW.out (.int .u64 (s.a1 : Int))) (p := ⟨g1, 2, none⟩) HLOW.out (.int .u64 (s.a2 : Int))) (p := ⟨g1, 3, none⟩) HLOW.out (.int .u64 (s.a3 : Int)))
  have rz0 := hcx.at_ 0 _ rfl
  have rz1 := hcx.at_ 1 _ rfl
  have rz2 := hcx.at_ 2 _ rfl
  have rz3 := hcx.at_ 3 _ rfl
  try rw [hwx]
  refine bodyPost_ret (v := aggW s) (by simp [results, Tryz.results162, go_sem, rz0, rz1, rz2, rz3]) rfl ⟨by first | rfl | (rw [HE2.out]; done) | (rw [HE2.out]; rfl), hbx⟩
 ·have e2 : (yo == 2) = false := by rw [beq_eq_false_iff_ne]; exact o2
  have HE2 : Hid (usesM x k = zW) := Lib.hid (by rw [HE.out, if_neg o2])
  rw [HE2.out]
  have v0 := (HC2.out w2 (Below.refl _ _)).at_ 0 _ rfl
  have v1 := (HC2.out w2 (Below.refl _ _)).at_ 1 _ rfl
  have v2 := (HC2.out w2 (Below.refl _ _)).at_ 2 _ rfl
  have v3 := (HC2.out w2 (Below.refl _ _)).at_ 3 _ rfl
  have f0 := (HC2.out w2 (Below.refl _ _)).fz 0 (by simp)
  have f1 := (HC2.out w2 (Below.refl _ _)).fz 1 (by simp)
  have f2 := (HC2.out w2 (Below.refl _ _)).fz 2 (by simp)
  have f3 := (HC2.out w2 (Below.refl _ _)).fz 3 (by simp)
  go_wp2_with fail
  obtain ⟨wx, hwx⟩ : ∃ X, (World.setCell (World.setCell (World.setCell (World.setCell w2 ⟨g1, 0, none⟩ (.int .u64 0)) ⟨g1, 1, none⟩ (.int .u64 0)) ⟨g1, 2, none⟩ (.int .u64 0)) ⟨g1, 3, none⟩ (.int .u64 0)) = X := ⟨_, rfl⟩
  have hcx : Cells wx g1 [.int .u64 0, .int .u64 0, .int .u64 0, .int .u64 0] := by rw [← hwx]; exact (Cells.put (Cells.put (Cells.put (Cells.put (HC2.out w2 (Below.refl _ _)) 0 (by simp) (.int .u64 0)) 1 (by simp) (.int .u64 0)) 2 (by simp) (.int .u64 0)) 3 (by simp) (.int .u64 0))
  have hbx : Below w.heap.size w wx := by rw [← hwx]; exact (Below.setCell (Below.setCell (Below.setCell (Below.setCell (HB12.out w2 (Below.refl _ _)) (p := ⟨g1, 0, none⟩) HLOW.out (.int .u64 0)) (p := ⟨g1, 1, none⟩) HLOW.out (.int .u64 0)) (p := ⟨g1, 2, none⟩) HLOW.out (.int .u64 0)) (p := ⟨g1, 3, none⟩) HLOW.out (.int .u64 0))
  have rz0 := hcx.at_ 0 _ rfl
  have rz1 := hcx.at_ 1 _ rfl
  have rz2 := hcx.at_ 2 _ rfl
  have rz3 := hcx.at_ 3 _ rfl
  try rw [hwx]
  refine bodyPost_ret (v := aggU 0 0 0 0) (by simp [results, Tryz.results162, go_sem, rz0, rz1, rz2, rz3]) rfl ⟨by first | rfl | (rw [HE2.out]; done) | (rw [HE2.out]; rfl), hbx⟩
def defM (x : DFunc) (k : Nat) : W4 := if (codeAt x k).op = 3 then withM zW (codeAt x k).a else if (codeAt x k).op = 33 ∧ (codeAt x k).a < (x.nodes.length : Int) then rangeM (wrap64 ((x.nodes.getD (codeAt x k).a.toNat zN).from_ + (x.nodes.getD (codeAt x k).a.toNat zN).args)) (x.nodes.getD (codeAt x k).a.toNat zN).to_ else zW
theorem foldW_ok (xs : List Int) : ∀ {s : W4}, s.Ok → (foldW s xs).Ok := by
 induction xs with
 | nil => exact fun h => h
 | cons x xs ih => exact fun h => ih (withM_ok h x)
theorem rangeM_ok (f t : Int) : (rangeM f t).Ok := foldW_ok _ zW_ok
theorem defM_ok (x : DFunc) (k : Nat) : (defM x k).Ok := by
 unfold defM
 split
 ·exact withM_ok zW_ok _
 split
 ·exact rangeM_ok _ _
 ·exact zW_ok
theorem wrap64_rng (z : Int) : -9223372036854775808 ≤ wrap64 z ∧ wrap64 z < 9223372036854775808 := by
 unfold wrap64
 omega
theorem below_drew_of {w w' : World} (h : Below w.drew.heap.size w.drew w') : Below w.heap.size w w' := ⟨h.os, h.tape, h.output, h.size, h.block⟩
theorem wr64 (x : Int) : IntKind.i64.wrap x = wrap64 x := by unfold wrap64; exact IntKind.wrap_i64 x
theorem rdefines_any (s : ByteArray) (b : Bool) (A0 : Option Addr) (n0 c0 : Nat) (A1 : Option Addr) (n1 c1 : Nat) (A2 : Option Addr) (n2 c2 : Nat) (A3 : Option Addr) (n3 c3 : Nat) (A4 : Option Addr) (n4 c4 : Nat) (A5 : Option Addr) (n5 c5 : Nat) (A6 : Option Addr) (n6 c6 : Nat) (A7 : Option Addr) (n7 c7 : Nat) (A8 : Option Addr) (n8 c8 : Nat) (x : DFunc) (k : Nat) (w : World) (h : FnW w w.heap.size s b A0 n0 c0 A1 n1 c1 A2 n2 c2 A3 n3 c3 A4 n4 c4 A5 n5 c5 A6 n6 c6 A7 n7 c7 A8 n8 c8 x) (hcan : canOk x) (hk : k < n4) : Calls Tryz.prog 161 #[.agg #[.string s, .bool b, .slice A0 n0 c0, .slice A1 n1 c1, .slice A2 n2 c2, .slice A3 n3 c3, .slice A4 n4 c4, .slice A5 n5 c5, .slice A6 n6 c6, .slice A7 n7 c7, .slice A8 n8 c8], .int .i64 (k : Int)] w (IsW (defM x k) w) := by
 obtain ⟨w1, hw1⟩ : ∃ X, w.alloc (.cells #[.string s, .bool b, .slice A0 n0 c0, .slice A1 n1 c1, .slice A2 n2 c2, .slice A3 n3 c3, .slice A4 n4 c4, .slice A5 n5 c5, .slice A6 n6 c6, .slice A7 n7 c7, .slice A8 n8 c8] 38) = X := ⟨_, rfl⟩
 obtain ⟨g, hg⟩ : ∃ X, w.heap.size = X := ⟨_, rfl⟩
 have hb1 : Below w.heap.size w w1 := by rw [← hw1]; exact bl_one _
 have hc1 : Cells w1 g [.string s, .bool b, .slice A0 n0 c0, .slice A1 n1 c1, .slice A2 n2 c2, .slice A3 n3 c3, .slice A4 n4 c4, .slice A5 n5 c5, .slice A6 n6 c6, .slice A7 n7 c7, .slice A8 n8 c8] := by rw [← hw1, ← hg]; exact Cells.new w [.string s, .bool b, .slice A0 n0 c0, .slice A1 n1 c1, .slice A2 n2 c2, .slice A3 n3 c3, .slice A4 n4 c4, .slice A5 n5 c5, .slice A6 n6 c6, .slice A7 n7 c7, .slice A8 n8 c8] _
 obtain ⟨w2, hw2⟩ : ∃ X, w1.alloc (.cells #[.int .u64 0, .int .u64 0, .int .u64 0, .int .u64 0] 216) = X := ⟨_, rfl⟩
 obtain ⟨g1, hg1⟩ : ∃ X, w1.heap.size = X := ⟨_, rfl⟩
 have hb2 : Below w1.heap.size w1 w2 := by rw [← hw2]; exact bl_one _
 have hc2 : Cells w2 g1 [.int .u64 0, .int .u64 0, .int .u64 0, .int .u64 0] := by rw [← hw2, ← hg1]; exact Cells.new w1 [.int .u64 0, .int .u64 0, .int .u64 0, .int .u64 0] _
 have hlow : w.heap.size ≤ g1 := by have := hb1.size; omega
 have hb12 : Below w.heap.size w w2 := hb1.trans (hb2.mono hb1.size)
 have hct := hc1.on hb2
 have HCT : Hid (∀ W, Below w2.heap.size w2 W → Cells W g [.string s, .bool b, .slice A0 n0 c0, .slice A1 n1 c1, .slice A2 n2 c2, .slice A3 n3 c3, .slice A4 n4 c4, .slice A5 n5 c5, .slice A6 n6 c6, .slice A7 n7 c7, .slice A8 n8 c8]) := Lib.hid fun W hW => hct.on hW
 have HC2 : Hid (∀ W, Below w2.heap.size w2 W → Cells W g1 [.int .u64 0, .int .u64 0, .int .u64 0, .int .u64 0]) := Lib.hid fun W hW => hc2.on hW
 have HB12 : Hid (∀ W, Below w2.heap.size w2 W → Below w.heap.size w W) := Lib.hid fun W hW => hb12.trans (hW.mono hb12.size)
 have HLOW := Lib.hid hlow
 have h1 := (h.keep hb12).more hb12.size
 obtain ⟨s4, s5, s6, s7, s8, s0⟩ := h.sm
 obtain ⟨bb, off, yo, ya, rfl, hbb, hca, hcd, y0, y1⟩ := code_get h1.r4 hk
 have e0 := hct.at_ 0 _ rfl
 have e1 := hct.at_ 1 _ rfl
 have e2 := hct.at_ 2 _ rfl
 have e3 := hct.at_ 3 _ rfl
 have e4 := hct.at_ 4 _ rfl
 have e5 := hct.at_ 5 _ rfl
 have e6 := hct.at_ 6 _ rfl
 have e7 := hct.at_ 7 _ rfl
 have e8 := hct.at_ 8 _ rfl
 have e9 := hct.at_ 9 _ rfl
 have e10 := hct.at_ 10 _ rfl
 have hk0 : (0 : Int) ≤ (k : Int) := by omega
 have hk1 : (k : Int) ≤ 150 := by omega
 have hkn : (k : Int) < (n4 : Int) := by omega
 have hins := hcan.ins _ (List.mem_of_getElem? hcd)
 have HIN : Hid (opndM yo ≠ 1 → 0 ≤ ya) := Lib.hid fun h1 => (hins.2.2.resolve_left h1).1
 have HE : Hid (defM x k = if yo = 3 then withM zW ya else if yo = 33 ∧ ya < (x.nodes.length : Int) then rangeM (wrap64 ((x.nodes.getD ya.toNat zN).from_ + (x.nodes.getD ya.toNat zN).args)) (x.nodes.getD ya.toNat zN).to_ else zW) := Lib.hid (by unfold defM; rw [hca])
 have HN6 : Hid (x.nodes.length = n6) := Lib.hid h1.r6.1
 have HR6 := Lib.hid h.r6
 have HG1 : Hid (w.heap.size ≤ g1 ∧ g < g1) := Lib.hid ⟨hlow, by rw [← hg1]; exact hc1.lt⟩
 have t0 : decide ((k : Int) < 0) = false := by rw [decide_eq_false_iff_not]; omega
 have t1 : decide ((k : Int) ≥ (n4 : Int)) = false := by rw [decide_eq_false_iff_not]; omega
 have t1b : decide (n4 ≤ k) = false := by rw [decide_eq_false_iff_not]; omega
 clear hb1 hc1 hb2 hc2 hb12 hct h h1 hlow hca hcd hins hcan
 go_enter Tryz.func161, Tryz.ntmps161
 go_upto_region 4 with fail
 clear e0 e1 e2 e3 e4 e5 e6 e7 e8 e9 e10 y0 y1
 obtain ⟨w3, hw3⟩ : ∃ X, w2.alloc (.cells #[.int .i64 yo, .int .i64 ya] 113) = X := ⟨_, rfl⟩
 obtain ⟨g3, hg3⟩ : ∃ X, w2.heap.size = X := ⟨_, rfl⟩
 have hb3 : Below w2.heap.size w2 w3 := by rw [← hw3]; exact bl_one _
 have hc3 : Cells w3 g3 [.int .i64 yo, .int .i64 ya] := by rw [← hw3, ← hg3]; exact Cells.new w2 [.int .i64 yo, .int .i64 ya] _
 rw [hw3, hg3]
 have HC3 := Lib.hid hc3
 have HB3 := Lib.hid hb3
 have HG3 : Hid (g1 < g3 ∧ g1 < w3.heap.size) := Lib.hid ⟨by rw [← hg3]; exact (HC2.out w2 (Below.refl _ _)).lt, by have := (HC2.out w3 hb3).lt; omega⟩
 have i0 := hc3.at_ 0 _ rfl
 have i1 := hc3.at_ 1 _ rfl
 have e8 := (HCT.out w3 hb3).at_ 8 _ rfl
 clear hw3 hg3 hb3 hc3 hw1 hg hw2 hg1
 by_cases o3 : yo = 3
 ·subst o3
  have HE2 : Hid (defM x k = withM zW ya) := Lib.hid (by rw [HE.out, if_pos rfl])
  obtain ⟨s, hs⟩ : ∃ s, withM zW ya = s := ⟨_, rfl⟩
  rw [hs] at HE2
  obtain ⟨w5, hw5⟩ : ∃ X, w3.alloc (.cells #[.int .i64 ya] 3) = X := ⟨_, rfl⟩
  obtain ⟨g5, hg5⟩ : ∃ X, w3.heap.size = X := ⟨_, rfl⟩
  have hb5 : Below w3.heap.size w3 w5 := by rw [← hw5]; exact bl_one _
  have hsl : SlI w5 w5.heap.size (some ⟨g5, 0, none⟩) 1 1 [ya] := SlI.own (base := w3.heap.size) (by rw [← hw5]; exact own_at hg5 w3.heap.size (by omega) [.int .i64 ya] 3 1 1 (by unfold maxLen; omega) rfl) (by omega)
  have cO := Lib.hid (rofs_any (some ⟨g5, 0, none⟩) 1 1 w5.heap.size [ya] w5 hsl (Nat.le_refl _) (by omega))
  have HS : Hid (foldW zW [ya] = s) := Lib.hid (by rw [← hs]; rfl)
  rw [HS.out] at cO
  have HB5 : Hid (Below w2.heap.size w2 w5) := Lib.hid (HB3.out.trans (hb5.mono HB3.out.size))
  clear hb5 hsl hs
  go_wp2_with fail
  refine cO.out.mono ?_
  rintro e w4 ⟨rfl, hb4⟩
  have HB4 : Hid (Below w2.heap.size w2 w4) := Lib.hid (HB5.out.trans (hb4.mono HB5.out.size))
  clear hb4 cO i0 i1 e8
  have v0 := (HC2.out w4 HB4.out).at_ 0 _ rfl
  have v1 := (HC2.out w4 HB4.out).at_ 1 _ rfl
  have v2 := (HC2.out w4 HB4.out).at_ 2 _ rfl
  have v3 := (HC2.out w4 HB4.out).at_ 3 _ rfl
  have f0 := (HC2.out w4 HB4.out).fz 0 (by simp)
  have f1 := (HC2.out w4 HB4.out).fz 1 (by simp)
  have f2 := (HC2.out w4 HB4.out).fz 2 (by simp)
  have f3 := (HC2.out w4 HB4.out).fz 3 (by simp)
  go_wp2_with fail
  obtain ⟨wx, hwx⟩ : ∃ X, (World.setCell (World.setCell (World.setCell (World.setCell w4 ⟨g1, 0, none⟩ (.int .u64 (s.a0 : Int))) ⟨g1, 1, none⟩ (.int .u64 (s.a1 : Int))) ⟨g1, 2, none⟩ (.int .u64 (s.a2 : Int))) ⟨g1, 3, none⟩ (.int .u64 (s.a3 : Int))) = X := ⟨_, rfl⟩
  have hcx : Cells wx g1 [.int .u64 (s.a0 : Int), .int .u64 (s.a1 : Int), .int .u64 (s.a2 : Int), .int .u64 (s.a3 : Int)] := by rw [← hwx]; exact (Cells.put (Cells.put (Cells.put (Cells.put (HC2.out w4 HB4.out) 0 (by simp) (.int .u64 (s.a0 : Int))) 1 (by simp) (.int .u64 (s.a1 : Int))) 2 (by simp) (.int .u64 (s.a2 : Int))) 3 (by simp) (.int .u64 (s.a3 : Int)))
  have hbx : Below w.heap.size w wx := by rw [← hwx]; exact (Below.setCell (Below.setCell (Below.setCell (Below.setCell (HB12.out w4 HB4.out) (p := ⟨g1, 0, none⟩) HLOW.out (.int .u64 (s.a0 : Int))) (p := ⟨g1, 1, none⟩) HLOW.out (.int .u64 (s.a1 : Int))) (p := ⟨g1, 2, none⟩) HLOW.out (.int .u64 (s.a2 : Int))) (p := ⟨g1, 3, none⟩) HLOW.out (.int .u64 (s.a3 : Int)))
  have rz0 := hcx.at_ 0 _ rfl
  have rz1 := hcx.at_ 1 _ rfl
  have rz2 := hcx.at_ 2 _ rfl
  have rz3 := hcx.at_ 3 _ rfl
  try rw [hwx]
  refine bodyPost_ret (v := aggW s) (by simp [results, Tryz.results161, go_sem, rz0, rz1, rz2, rz3]) rfl ⟨by first | rfl | (rw [HE2.out]; done) | (rw [HE2.out]; rfl), hbx⟩
 have e3 : (yo == 3) = false := by rw [beq_eq_false_iff_ne]; exact o3
 by_cases o33 : yo = 33
 ·subst o33
  obtain ⟨q, rfl⟩ := Int.eq_ofNat_of_zero_le (HIN.out (by decide))
  have hq0 : (0 : Int) ≤ (q : Int) := by omega
  by_cases hq : q < n6
  ·have d1 : decide ((q : Int) < (n6 : Int)) = true := by rw [decide_eq_true_eq]; omega
   have d1b : decide (q < n6) = true := by rw [decide_eq_true_eq]; omega
   have hqn : (q : Int) < (n6 : Int) := by omega
   obtain ⟨nb, noff, q', z, rfl, hnb, hqq, _, hz, _, hzc⟩ := node_get (x := x) HR6.out hq0 hqn
   obtain rfl : q' = q := by omega
   obtain ⟨s, hs⟩ : ∃ s, rangeM (wrap64 (z.from_ + z.args)) z.to_ = s := ⟨_, rfl⟩
   have HE2 : Hid (defM x k = s) := Lib.hid (by
    have hgd : x.nodes.getD ((q' : Int).toNat) zN = z := by rw [List.getD_eq_getElem?_getD, show ((q' : Int).toNat) = q' from rfl, hz]; rfl
    rw [HE.out, if_neg (by decide), if_pos ⟨rfl, by have := HN6.out; omega⟩, hgd, hs])
   rw [HE2.out]
   have HZ : Hid (w.cell? ⟨nb, noff + q' * 7 + 3, none⟩ = some (.int .i64 z.from_) ∧ w.cell? ⟨nb, noff + q' * 7 + 4, none⟩ = some (.int .i64 z.args) ∧ w.cell? ⟨nb, noff + q' * 7 + 5, none⟩ = some (.int .i64 z.to_)) := Lib.hid ⟨hzc 3 _ rfl, hzc 4 _ rfl, hzc 5 _ rfl⟩
   obtain ⟨zf, hzf⟩ : ∃ v, z.from_ = v := ⟨_, rfl⟩
   obtain ⟨za, hza⟩ : ∃ v, z.args = v := ⟨_, rfl⟩
   obtain ⟨zt, hzt⟩ : ∃ v, z.to_ = v := ⟨_, rfl⟩
   rw [hzf, hza, hzt] at HZ
   rw [hzf, hza, hzt] at hs
   have cR : Hid (∀ W, Calls Tryz.prog 157 #[.int .i64 (wrap64 (zf + za)), .int .i64 zt] W (IsW s W)) := Lib.hid fun W => by rw [← hs]; exact rrange_any _ _ W (wrap64_rng _).1 (wrap64_rng _).2
   clear hqq hz hzc hzf hza hzt hs
   go_wp2_with fail
   refine wp_region_held (S := fun W => Kp (fun j => j = g1) w3 W) (by kernel_rfl) ?_
   change wpAnyH _ _ _ _ _ _ _ _ (World.drew _)
   have hS0 : Kp (fun j => j = g1) w3 w3.drew := (Kp.refl _ _).drew
   refine teH 0 (.pointer (some ⟨g, 8, none⟩)) rfl (by intro W hW; go_simp; try (first | (with_reducible rfl) | omega)) hS0 ?_
   refine teH 2 (.pointer (some ⟨g3, 1, none⟩)) rfl (by intro W hW; go_simp; try (first | (with_reducible rfl) | omega)) hS0 ?_
   try go_simp
   refine teH 1 (.slice (some ⟨nb, noff, none⟩) n6 c6) rfl (by intro W hW; have c9 := (HCT.out w3 HB3.out).kp hW (fun e => by have := HG1.out.2; omega); have e8 := c9.at_ 8 _ rfl; have j9 := HC3.out.kp hW (fun e => by have := HG3.out.1; omega); have j1 := j9.at_ 1 _ rfl; have b9 := (HB12.out w3 HB3.out); have z3 := hW.cellv (p := ⟨nb, noff + q' * 7 + 3, none⟩) ((b9.cell hnb).trans HZ.out.1) (fun e => by have e2 : nb = g1 := e; have := HG1.out.1; omega); have z4 := hW.cellv (p := ⟨nb, noff + q' * 7 + 4, none⟩) ((b9.cell hnb).trans HZ.out.2.1) (fun e => by have e2 : nb = g1 := e; have := HG1.out.1; omega); have z5 := hW.cellv (p := ⟨nb, noff + q' * 7 + 5, none⟩) ((b9.cell hnb).trans HZ.out.2.2) (fun e => by have e2 : nb = g1 := e; have := HG1.out.1; omega); go_simp; try (first | (with_reducible rfl) | omega)) hS0 ?_
   refine teH 3 (.int .i64 (q' : Int)) rfl (by intro W hW; have c9 := (HCT.out w3 HB3.out).kp hW (fun e => by have := HG1.out.2; omega); have e8 := c9.at_ 8 _ rfl; have j9 := HC3.out.kp hW (fun e => by have := HG3.out.1; omega); have j1 := j9.at_ 1 _ rfl; have b9 := (HB12.out w3 HB3.out); have z3 := hW.cellv (p := ⟨nb, noff + q' * 7 + 3, none⟩) ((b9.cell hnb).trans HZ.out.1) (fun e => by have e2 : nb = g1 := e; have := HG1.out.1; omega); have z4 := hW.cellv (p := ⟨nb, noff + q' * 7 + 4, none⟩) ((b9.cell hnb).trans HZ.out.2.1) (fun e => by have e2 : nb = g1 := e; have := HG1.out.1; omega); have z5 := hW.cellv (p := ⟨nb, noff + q' * 7 + 5, none⟩) ((b9.cell hnb).trans HZ.out.2.2) (fun e => by have e2 : nb = g1 := e; have := HG1.out.1; omega); go_simp; try (first | (with_reducible rfl) | omega)) hS0 ?_
   try go_simp
   refine teH 4 (.pointer (some ⟨nb, noff + q' * 7, none⟩)) rfl (by intro W hW; go_simp; try (first | (with_reducible rfl) | omega)) hS0 ?_
   try go_simp
   refine teH 5 (.pointer (some ⟨nb, noff + q' * 7 + 3, none⟩)) rfl (by intro W hW; go_simp; try (first | (with_reducible rfl) | omega)) hS0 ?_
   try go_simp
   refine teH 6 (.int .i64 zf) rfl (by intro W hW; have c9 := (HCT.out w3 HB3.out).kp hW (fun e => by have := HG1.out.2; omega); have e8 := c9.at_ 8 _ rfl; have j9 := HC3.out.kp hW (fun e => by have := HG3.out.1; omega); have j1 := j9.at_ 1 _ rfl; have b9 := (HB12.out w3 HB3.out); have z3 := hW.cellv (p := ⟨nb, noff + q' * 7 + 3, none⟩) ((b9.cell hnb).trans HZ.out.1) (fun e => by have e2 : nb = g1 := e; have := HG1.out.1; omega); have z4 := hW.cellv (p := ⟨nb, noff + q' * 7 + 4, none⟩) ((b9.cell hnb).trans HZ.out.2.1) (fun e => by have e2 : nb = g1 := e; have := HG1.out.1; omega); have z5 := hW.cellv (p := ⟨nb, noff + q' * 7 + 5, none⟩) ((b9.cell hnb).trans HZ.out.2.2) (fun e => by have e2 : nb = g1 := e; have := HG1.out.1; omega); go_simp; try (first | (with_reducible rfl) | omega)) hS0 ?_
   try go_simp
   refine teH 7 (.pointer (some ⟨g, 8, none⟩)) rfl (by intro W hW; go_simp; try (first | (with_reducible rfl) | omega)) hS0 ?_
   refine teH 9 (.pointer (some ⟨g3, 1, none⟩)) rfl (by intro W hW; go_simp; try (first | (with_reducible rfl) | omega)) hS0 ?_
   try go_simp
   refine teH 8 (.slice (some ⟨nb, noff, none⟩) n6 c6) rfl (by intro W hW; have c9 := (HCT.out w3 HB3.out).kp hW (fun e => by have := HG1.out.2; omega); have e8 := c9.at_ 8 _ rfl; have j9 := HC3.out.kp hW (fun e => by have := HG3.out.1; omega); have j1 := j9.at_ 1 _ rfl; have b9 := (HB12.out w3 HB3.out); have z3 := hW.cellv (p := ⟨nb, noff + q' * 7 + 3, none⟩) ((b9.cell hnb).trans HZ.out.1) (fun e => by have e2 : nb = g1 := e; have := HG1.out.1; omega); have z4 := hW.cellv (p := ⟨nb, noff + q' * 7 + 4, none⟩) ((b9.cell hnb).trans HZ.out.2.1) (fun e => by have e2 : nb = g1 := e; have := HG1.out.1; omega); have z5 := hW.cellv (p := ⟨nb, noff + q' * 7 + 5, none⟩) ((b9.cell hnb).trans HZ.out.2.2) (fun e => by have e2 : nb = g1 := e; have := HG1.out.1; omega); go_simp; try (first | (with_reducible rfl) | omega)) hS0 ?_
   refine teH 10 (.int .i64 (q' : Int)) rfl (by intro W hW; have c9 := (HCT.out w3 HB3.out).kp hW (fun e => by have := HG1.out.2; omega); have e8 := c9.at_ 8 _ rfl; have j9 := HC3.out.kp hW (fun e => by have := HG3.out.1; omega); have j1 := j9.at_ 1 _ rfl; have b9 := (HB12.out w3 HB3.out); have z3 := hW.cellv (p := ⟨nb, noff + q' * 7 + 3, none⟩) ((b9.cell hnb).trans HZ.out.1) (fun e => by have e2 : nb = g1 := e; have := HG1.out.1; omega); have z4 := hW.cellv (p := ⟨nb, noff + q' * 7 + 4, none⟩) ((b9.cell hnb).trans HZ.out.2.1) (fun e => by have e2 : nb = g1 := e; have := HG1.out.1; omega); have z5 := hW.cellv (p := ⟨nb, noff + q' * 7 + 5, none⟩) ((b9.cell hnb).trans HZ.out.2.2) (fun e => by have e2 : nb = g1 := e; have := HG1.out.1; omega); go_simp; try (first | (with_reducible rfl) | omega)) hS0 ?_
   try go_simp
   refine teH 11 (.pointer (some ⟨nb, noff + q' * 7, none⟩)) rfl (by intro W hW; go_simp; try (first | (with_reducible rfl) | omega)) hS0 ?_
   try go_simp
   refine teH 12 (.pointer (some ⟨nb, noff + q' * 7 + 4, none⟩)) rfl (by intro W hW; go_simp; try (first | (with_reducible rfl) | omega)) hS0 ?_
   try go_simp
   refine teH 13 (.int .i64 za) rfl (by intro W hW; have c9 := (HCT.out w3 HB3.out).kp hW (fun e => by have := HG1.out.2; omega); have e8 := c9.at_ 8 _ rfl; have j9 := HC3.out.kp hW (fun e => by have := HG3.out.1; omega); have j1 := j9.at_ 1 _ rfl; have b9 := (HB12.out w3 HB3.out); have z3 := hW.cellv (p := ⟨nb, noff + q' * 7 + 3, none⟩) ((b9.cell hnb).trans HZ.out.1) (fun e => by have e2 : nb = g1 := e; have := HG1.out.1; omega); have z4 := hW.cellv (p := ⟨nb, noff + q' * 7 + 4, none⟩) ((b9.cell hnb).trans HZ.out.2.1) (fun e => by have e2 : nb = g1 := e; have := HG1.out.1; omega); have z5 := hW.cellv (p := ⟨nb, noff + q' * 7 + 5, none⟩) ((b9.cell hnb).trans HZ.out.2.2) (fun e => by have e2 : nb = g1 := e; have := HG1.out.1; omega); go_simp; try (first | (with_reducible rfl) | omega)) hS0 ?_
   try go_simp
   refine teH 14 (.int .i64 (IntKind.i64.wrap (zf + za))) rfl (by intro W hW; go_simp; try (first | (with_reducible rfl) | omega)) hS0 ?_
   try go_simp
   refine teH 15 (.pointer (some ⟨g, 8, none⟩)) rfl (by intro W hW; go_simp; try (first | (with_reducible rfl) | omega)) hS0 ?_
   refine teH 17 (.pointer (some ⟨g3, 1, none⟩)) rfl (by intro W hW; go_simp; try (first | (with_reducible rfl) | omega)) hS0 ?_
   try go_simp
   refine teH 16 (.slice (some ⟨nb, noff, none⟩) n6 c6) rfl (by intro W hW; have c9 := (HCT.out w3 HB3.out).kp hW (fun e => by have := HG1.out.2; omega); have e8 := c9.at_ 8 _ rfl; have j9 := HC3.out.kp hW (fun e => by have := HG3.out.1; omega); have j1 := j9.at_ 1 _ rfl; have b9 := (HB12.out w3 HB3.out); have z3 := hW.cellv (p := ⟨nb, noff + q' * 7 + 3, none⟩) ((b9.cell hnb).trans HZ.out.1) (fun e => by have e2 : nb = g1 := e; have := HG1.out.1; omega); have z4 := hW.cellv (p := ⟨nb, noff + q' * 7 + 4, none⟩) ((b9.cell hnb).trans HZ.out.2.1) (fun e => by have e2 : nb = g1 := e; have := HG1.out.1; omega); have z5 := hW.cellv (p := ⟨nb, noff + q' * 7 + 5, none⟩) ((b9.cell hnb).trans HZ.out.2.2) (fun e => by have e2 : nb = g1 := e; have := HG1.out.1; omega); go_simp; try (first | (with_reducible rfl) | omega)) hS0 ?_
   refine teH 18 (.int .i64 (q' : Int)) rfl (by intro W hW; have c9 := (HCT.out w3 HB3.out).kp hW (fun e => by have := HG1.out.2; omega); have e8 := c9.at_ 8 _ rfl; have j9 := HC3.out.kp hW (fun e => by have := HG3.out.1; omega); have j1 := j9.at_ 1 _ rfl; have b9 := (HB12.out w3 HB3.out); have z3 := hW.cellv (p := ⟨nb, noff + q' * 7 + 3, none⟩) ((b9.cell hnb).trans HZ.out.1) (fun e => by have e2 : nb = g1 := e; have := HG1.out.1; omega); have z4 := hW.cellv (p := ⟨nb, noff + q' * 7 + 4, none⟩) ((b9.cell hnb).trans HZ.out.2.1) (fun e => by have e2 : nb = g1 := e; have := HG1.out.1; omega); have z5 := hW.cellv (p := ⟨nb, noff + q' * 7 + 5, none⟩) ((b9.cell hnb).trans HZ.out.2.2) (fun e => by have e2 : nb = g1 := e; have := HG1.out.1; omega); go_simp; try (first | (with_reducible rfl) | omega)) hS0 ?_
   try go_simp
   refine teH 19 (.pointer (some ⟨nb, noff + q' * 7, none⟩)) rfl (by intro W hW; go_simp; try (first | (with_reducible rfl) | omega)) hS0 ?_
   try go_simp
   refine teH 20 (.pointer (some ⟨nb, noff + q' * 7 + 5, none⟩)) rfl (by intro W hW; go_simp; try (first | (with_reducible rfl) | omega)) hS0 ?_
   try go_simp
   refine teH 21 (.int .i64 zt) rfl (by intro W hW; have c9 := (HCT.out w3 HB3.out).kp hW (fun e => by have := HG1.out.2; omega); have e8 := c9.at_ 8 _ rfl; have j9 := HC3.out.kp hW (fun e => by have := HG3.out.1; omega); have j1 := j9.at_ 1 _ rfl; have b9 := (HB12.out w3 HB3.out); have z3 := hW.cellv (p := ⟨nb, noff + q' * 7 + 3, none⟩) ((b9.cell hnb).trans HZ.out.1) (fun e => by have e2 : nb = g1 := e; have := HG1.out.1; omega); have z4 := hW.cellv (p := ⟨nb, noff + q' * 7 + 4, none⟩) ((b9.cell hnb).trans HZ.out.2.1) (fun e => by have e2 : nb = g1 := e; have := HG1.out.1; omega); have z5 := hW.cellv (p := ⟨nb, noff + q' * 7 + 5, none⟩) ((b9.cell hnb).trans HZ.out.2.2) (fun e => by have e2 : nb = g1 := e; have := HG1.out.1; omega); go_simp; try (first | (with_reducible rfl) | omega)) hS0 ?_
   try go_simp
   refine wpAnyH_one (i := 22) (by kernel_rfl) rfl (fun K hK => ?_)
   go_simp
   try rw [wr64]
   refine (cR.out _).mono ?_
   rintro e w4 ⟨rfl, hb4⟩
   have hS4 : Kp (fun j => j = g1) w3 w4 := hS0.ofBelow hb4
   have HB4 : Hid (Below w2.heap.size w2 w4) := Lib.hid (HB3.out.trans ((below_drew_of hb4).mono HB3.out.size))
   clear hb4
   go_simp
   refine hK _ _ ⟨hS4, ?_⟩; clear hK K
   try go_simp
   have v0 := (HC2.out w4 HB4.out).at_ 0 _ rfl
   have v1 := (HC2.out w4 HB4.out).at_ 1 _ rfl
   have v2 := (HC2.out w4 HB4.out).at_ 2 _ rfl
   have v3 := (HC2.out w4 HB4.out).at_ 3 _ rfl
   have f0 := (HC2.out w4 HB4.out).fz 0 (by simp)
   have f1 := (HC2.out w4 HB4.out).fz 1 (by simp)
   have f2 := (HC2.out w4 HB4.out).fz 2 (by simp)
   have f3 := (HC2.out w4 HB4.out).fz 3 (by simp)
   refine wpAnyH_one (i := 23) (by kernel_rfl) rfl (fun K hK => ?_)
   go_simp
   refine hK _ _ ⟨((((hS4.setCell (p := ⟨g1, 0, none⟩) (fun _ => rfl) _).setCell (p := ⟨g1, 1, none⟩) (fun _ => rfl) _).setCell (p := ⟨g1, 2, none⟩) (fun _ => rfl) _).setCell (p := ⟨g1, 3, none⟩) (fun _ => rfl) _), ?_⟩; clear hK K
   refine wpAnyH_done (by kernel_rfl) ?_ _
   try go_simp
   go_wp2_with fail
   obtain ⟨wx, hwx⟩ : ∃ X, (World.setCell (World.setCell (World.setCell (World.setCell w4 ⟨g1, 0, none⟩ (.int .u64 (s.a0 : Int))) ⟨g1, 1, none⟩ (.int .u64 (s.a1 : Int))) ⟨g1, 2, none⟩ (.int .u64 (s.a2 : Int))) ⟨g1, 3, none⟩ (.int .u64 (s.a3 : Int))) = X := ⟨_, rfl⟩
   have hcx : Cells wx g1 [.int .u64 (s.a0 : Int), .int .u64 (s.a1 : Int), .int .u64 (s.a2 : Int), .int .u64 (s.a3 : Int)] := by rw [← hwx]; exact (Cells.put (Cells.put (Cells.put (Cells.put (HC2.out w4 HB4.out) 0 (by simp) (.int .u64 (s.a0 : Int))) 1 (by simp) (.int .u64 (s.a1 : Int))) 2 (by simp) (.int .u64 (s.a2 : Int))) 3 (by simp) (.int .u64 (s.a3 : Int)))
   have hbx : Below w.heap.size w wx := by rw [← hwx]; exact (Below.setCell (Below.setCell (Below.setCell (Below.setCell (HB12.out w4 HB4.out) (p := ⟨g1, 0, none⟩) HLOW.out (.int .u64 (s.a0 : Int))) (p := ⟨g1, 1, none⟩) HLOW.out (.int .u64 (s.a1 : Int))) (p := ⟨g1, 2, none⟩) HLOW.out (.int .u64 (s.a2 : Int))) (p := ⟨g1, 3, none⟩) HLOW.out (.int .u64 (s.a3 : Int)))
   have rz0 := hcx.at_ 0 _ rfl
   have rz1 := hcx.at_ 1 _ rfl
   have rz2 := hcx.at_ 2 _ rfl
   have rz3 := hcx.at_ 3 _ rfl
   try rw [hwx]
   refine bodyPost_ret (v := aggW s) (by simp [results, Tryz.results161, go_sem, rz0, rz1, rz2, rz3]) rfl ⟨by first | rfl | (rw [HE2.out]; done) | (rw [HE2.out]; rfl), hbx⟩
  ·have d1 : decide ((q : Int) < (n6 : Int)) = false := by rw [decide_eq_false_iff_not]; omega
   have d1b : decide (q < n6) = false := by rw [decide_eq_false_iff_not]; omega
   have HE2 : Hid (defM x k = zW) := Lib.hid (by rw [HE.out, if_neg (by decide), if_neg (fun h => by have := HN6.out; have := h.2; omega)])
   rw [HE2.out]
   have v0 := (HC2.out w3 HB3.out).at_ 0 _ rfl
   have v1 := (HC2.out w3 HB3.out).at_ 1 _ rfl
   have v2 := (HC2.out w3 HB3.out).at_ 2 _ rfl
   have v3 := (HC2.out w3 HB3.out).at_ 3 _ rfl
   have f0 := (HC2.out w3 HB3.out).fz 0 (by simp)
   have f1 := (HC2.out w3 HB3.out).fz 1 (by simp)
   have f2 := (HC2.out w3 HB3.out).fz 2 (by simp)
   have f3 := (HC2.out w3 HB3.out).fz 3 (by simp)
   go_wp2_with fail
   obtain ⟨wx, hwx⟩ : ∃ X, (World.setCell (World.setCell (World.setCell (World.setCell w3 ⟨g1, 0, none⟩ (.int .u64 0)) ⟨g1, 1, none⟩ (.int .u64 0)) ⟨g1, 2, none⟩ (.int .u64 0)) ⟨g1, 3, none⟩ (.int .u64 0)) = X := ⟨_, rfl⟩
   have hcx : Cells wx g1 [.int .u64 0, .int .u64 0, .int .u64 0, .int .u64 0] := by rw [← hwx]; exact (Cells.put (Cells.put (Cells.put (Cells.put (HC2.out w3 HB3.out) 0 (by simp) (.int .u64 0)) 1 (by simp) (.int .u64 0)) 2 (by simp) (.int .u64 0)) 3 (by simp) (.int .u64 0))
   have hbx : Below w.heap.size w wx := by rw [← hwx]; exact (Below.setCell (Below.setCell (Below.setCell (Below.setCell (HB12.out w3 HB3.out) (p := ⟨g1, 0, none⟩) HLOW.out (.int .u64 0)) (p := ⟨g1, 1, none⟩) HLOW.out (.int .u64 0)) (p := ⟨g1, 2, none⟩) HLOW.out (.int .u64 0)) (p := ⟨g1, 3, none⟩) HLOW.out (.int .u64 0))
   have rz0 := hcx.at_ 0 _ rfl
   have rz1 := hcx.at_ 1 _ rfl
   have rz2 := hcx.at_ 2 _ rfl
   have rz3 := hcx.at_ 3 _ rfl
   try rw [hwx]
   refine bodyPost_ret (v := aggU 0 0 0 0) (by simp [results, Tryz.results161, go_sem, rz0, rz1, rz2, rz3]) rfl ⟨by first | rfl | (rw [HE2.out]; done) | (rw [HE2.out]; rfl), hbx⟩
 ·have e33 : (yo == 33) = false := by rw [beq_eq_false_iff_ne]; exact o33
  have HE2 : Hid (defM x k = zW) := Lib.hid (by rw [HE.out, if_neg o3, if_neg (fun h => o33 h.1)])
  rw [HE2.out]
  have v0 := (HC2.out w3 HB3.out).at_ 0 _ rfl
  have v1 := (HC2.out w3 HB3.out).at_ 1 _ rfl
  have v2 := (HC2.out w3 HB3.out).at_ 2 _ rfl
  have v3 := (HC2.out w3 HB3.out).at_ 3 _ rfl
  have f0 := (HC2.out w3 HB3.out).fz 0 (by simp)
  have f1 := (HC2.out w3 HB3.out).fz 1 (by simp)
  have f2 := (HC2.out w3 HB3.out).fz 2 (by simp)
  have f3 := (HC2.out w3 HB3.out).fz 3 (by simp)
  go_wp2_with fail
  obtain ⟨wx, hwx⟩ : ∃ X, (World.setCell (World.setCell (World.setCell (World.setCell w3 ⟨g1, 0, none⟩ (.int .u64 0)) ⟨g1, 1, none⟩ (.int .u64 0)) ⟨g1, 2, none⟩ (.int .u64 0)) ⟨g1, 3, none⟩ (.int .u64 0)) = X := ⟨_, rfl⟩
  have hcx : Cells wx g1 [.int .u64 0, .int .u64 0, .int .u64 0, .int .u64 0] := by rw [← hwx]; exact (Cells.put (Cells.put (Cells.put (Cells.put (HC2.out w3 HB3.out) 0 (by simp) (.int .u64 0)) 1 (by simp) (.int .u64 0)) 2 (by simp) (.int .u64 0)) 3 (by simp) (.int .u64 0))
  have hbx : Below w.heap.size w wx := by rw [← hwx]; exact (Below.setCell (Below.setCell (Below.setCell (Below.setCell (HB12.out w3 HB3.out) (p := ⟨g1, 0, none⟩) HLOW.out (.int .u64 0)) (p := ⟨g1, 1, none⟩) HLOW.out (.int .u64 0)) (p := ⟨g1, 2, none⟩) HLOW.out (.int .u64 0)) (p := ⟨g1, 3, none⟩) HLOW.out (.int .u64 0))
  have rz0 := hcx.at_ 0 _ rfl
  have rz1 := hcx.at_ 1 _ rfl
  have rz2 := hcx.at_ 2 _ rfl
  have rz3 := hcx.at_ 3 _ rfl
  try rw [hwx]
  refine bodyPost_ret (v := aggU 0 0 0 0) (by simp [results, Tryz.results161, go_sem, rz0, rz1, rz2, rz3]) rfl ⟨by first | rfl | (rw [HE2.out]; done) | (rw [HE2.out]; rfl), hbx⟩
end Go.Proofs.YtobmjnmcjddhcaaGreat
