import Derived.Test.YtobmjnmcjddhcaaGreatCTk
import Derived.Test.YtobmjnmcjddhcaaGreatCFiP
import Derived.Test.YtobmjnmcjddhcaaGreatCFiN
set_option linter.unusedSimpArgs false
set_option linter.unusedVariables false
set_option maxRecDepth 100000
set_option maxHeartbeats 64000000
namespace Go.Proofs.YtobmjnmcjddhcaaGreat
open Go.RowKit
def IsChk23 (x : DFunc) (f : Nat) (w : World) (e : Ending) (w' : World) : Prop := ∃ r a : Int, e = .returned (.tuple #[.int .i64 r, .int .i64 a]) ∧ (r = 0 → (x.nodes.getD 0 zN).fn = (f : Int)) ∧ Below w.heap.size w w'
theorem rcheck23_any (FA : Option Addr) (fn fc : Nat) (fs : List DFunc) (f : Nat) (x0 : DFunc) (w : World) (h : PgC w FA fn fc fs) (hi : f < fn) (hx0 : fs[f]? = some x0) (hbf : bareF x0 = false) :
  Calls Tryz.prog 96 #[.agg #[.slice FA fn fc], .int .i64 (f : Int)] w (IsChk23 x0 f w) := by
 obtain ⟨w1, hw1⟩ : ∃ X, w.alloc (.cells #[.slice FA fn fc] 24) = X := ⟨_, rfl⟩
 obtain ⟨g, hg⟩ : ∃ g, w.heap.size = g := ⟨_, rfl⟩
 have hb1 : Below w.heap.size w w1 := by rw [← hw1]; exact bl_one _
 have hc1 : Cells w1 g [.slice FA fn fc] := by rw [← hw1, ← hg]; exact Cells.new w [.slice FA fn fc] _
 have EP : Hid (∀ W, Below w1.heap.size w1 W → W.cell? ⟨g, 0, none⟩ = some (.slice FA fn fc)) := Lib.hid fun W hW => (hc1.on hW).at_ 0 _ rfl
 have HP : Hid (∀ W, Below w1.heap.size w1 W → PgC W FA fn fc fs) := Lib.hid fun W hW => h.on (hb1.trans (hW.mono hb1.size))
 have HB1 := Lib.hid hb1
 have HBW : Hid (∀ W, Below w1.heap.size w1 W → Below w.heap.size w W) := Lib.hid fun W hW => hb1.trans (hW.mono hb1.size)
 have hfn := h.pg.le
 have hn0 : (fn : Int) ≤ 50 := by omega
 have p0 := EP.out w1 (Below.refl _ _)
 clear hb1 hc1
 obtain ⟨bk, off, s, b, A0, n0, c0, A1, n1, c1, A2, n2, c2, A3, n3, c3, A4, n4, c4, A5, n5, c5, A6, n6, c6, A7, n7, c7, A8, n8, c8, x, rfl, hbk, hx, hcf, hfw, hcan⟩ := (HP.out w1 (Below.refl _ _)).get (i := f) hi
 have y0 := hcf 0 _ rfl
 have y1 := hcf 1 _ rfl
 have y2 := hcf 2 _ rfl
 have y3 := hcf 3 _ rfl
 have y4 := hcf 4 _ rfl
 have y5 := hcf 5 _ rfl
 have y6 := hcf 6 _ rfl
 have y7 := hcf 7 _ rfl
 have y8 := hcf 8 _ rfl
 have y9 := hcf 9 _ rfl
 have y10 := hcf 10 _ rfl
 simp only [Nat.add_zero] at y0
 obtain rfl : x0 = x := by rw [hx0] at hx; injection hx
 have l4 := hfw.r4.1
 have l6 := hfw.r6.1
 have l7 := hfw.r7.1
 have l8 := hfw.r8.1
 have hsome := hcan.some_
 obtain ⟨h61, h74, h84⟩ : 1 ≤ n6 ∧ n7 = n4 ∧ n8 = n4 := by
  have hb0 : n6 + n7 + n8 ≠ 0 := by
   unfold bareF at hbf
   rw [decide_eq_false_iff_not] at hbf
   omega
  rcases at_ok s b A0 n0 c0 A1 n1 c1 A2 n2 c2 A3 n3 c3 A4 n4 c4 A5 n5 c5 A6 n6 c6 A7 n7 c7 A8 n8 c8 hfw hcan (k := 0) (by omega) with ⟨hb, _⟩ | ⟨_, a, b, c, _⟩
  ·exact absurd hb hb0
  ·exact ⟨a, b, c⟩
 have hnb : 1 ≤ x0.nodes.length := by omega
 obtain ⟨s4, s5, s6, s7, s8, s0⟩ := hfw.sm
 have hf0 : (0 : Int) ≤ (f : Int) := by omega
 have hf1 : (f : Int) < (fn : Int) := by omega
 have hn40 : (n4 : Int) ≤ 150 := by omega
 have hn60 : (n6 : Int) ≤ 20 := by omega
 have HFW := Lib.hid hfw
 have HCAN := Lib.hid hcan
 have HX0 := Lib.hid hx0
 have HLN : Hid (x0.code.length = n4 ∧ x0.nodes.length = n6 ∧ n8 = n4) := Lib.hid ⟨l4, l6, h84⟩
 have cRoot : Hid (∀ W, Below w1.heap.size w1 W → Calls Tryz.prog 126 #[.agg #[.slice (some ⟨bk, off, none⟩) fn fc], .int .i64 (f : Int)] W (IsRt x0 f W)) := Lib.hid fun W hW => rroot_any _ fn fc fs f x0 W (HP.out W hW) hi hx0 hbf
 have cBody : Hid (∀ W, Below w1.heap.size w1 W → ∀ k, 1 ≤ k → k < n6 → Calls Tryz.prog 127 #[.agg #[.slice (some ⟨bk, off, none⟩) fn fc], .int .i64 (f : Int), .int .i64 (k : Int)] W (IsBool W)) := Lib.hid fun W hW k h1 h2 => rbody_any _ fn fc fs f k x0 W (HP.out W hW) hi hx0 h1 (by omega)
 have cReads : Hid (∀ W, Below w1.heap.size w1 W → ∀ k, k < n4 → Calls Tryz.prog 129 #[.agg #[.slice (some ⟨bk, off, none⟩) fn fc], .int .i64 (f : Int), .int .i64 (k : Int)] W (IsBool W)) := Lib.hid fun W hW k h2 => rreads_any _ fn fc fs f k x0 W (HP.out W hW) hi hx0 hnb (by omega)
 have cOf : Hid (∀ W, Below w1.heap.size w1 W → Calls Tryz.prog 130 #[.agg #[.slice (some ⟨bk, off, none⟩) fn fc], .int .i64 (f : Int)] W (IsTab n4 W)) := Lib.hid fun W hW => by have := rof22_any _ fn fc fs f x0 W (HP.out W hW) hi hx0; rwa [l4] at this
 have cStk : Hid (∀ W, Below w1.heap.size w1 W → Calls Tryz.prog 95 #[.agg #[.slice (some ⟨bk, off, none⟩) fn fc], .int .i64 (f : Int)] W (IsStk n4 W)) := Lib.hid fun W hW => by have := rstacks_any _ fn fc fs f x0 W (HP.out W hW) hi hx0; rwa [l4] at this
 have cLev : Hid (∀ W, Below w1.heap.size w1 W → ∀ ob rb ff, OfW W ob n4 → Cells W rb (arrB n4 ff) → Calls Tryz.prog 132 #[.agg #[.slice (some ⟨bk, off, none⟩) fn fc], .int .i64 (f : Int), .agg #[.slice (some ⟨ob, 0, none⟩) n4 n4, .slice (some ⟨rb, 0, none⟩) n4 n4]] W (IsBool W)) := Lib.hid fun W hW ob rb ff h1 h2 => by have := rlevels_any _ fn fc fs f x0 ob rb ff W (HP.out W hW) hi hx0 hnb (by rw [l4]; exact h1) (by rw [l4]; exact h2); rwa [l4] at this
 have HNB := Lib.hid hnb
 clear h hfw hcan hcf hx hx0 l4 l6 l7 l8 hsome h74 h84 hnb hbf
 go_enter Tryz.func96, Tryz.ntmps96
 go_upto_region 2 with fail
 clear y0 y1 y2 y3 y4 y5 y6 y7 y8 y9 y10
 obtain ⟨w2, hwX⟩ : ∃ X, World.alloc w1 (.cells #[.string s, .bool b, .slice A0 n0 c0, .slice A1 n1 c1, .slice A2 n2 c2, .slice A3 n3 c3, .slice A4 n4 c4, .slice A5 n5 c5, .slice A6 n6 c6, .slice A7 n7 c7, .slice A8 n8 c8] 38) = X := ⟨_, rfl⟩
 obtain ⟨g2, hgX⟩ : ∃ X, (World.heap w1).size = X := ⟨_, rfl⟩
 have hb2 : Below (World.heap w1).size w1 w2 := by rw [← hwX]; exact bl_one _
 have hc2 : Cells w2 g2 [.string s, .bool b, .slice A0 n0 c0, .slice A1 n1 c1, .slice A2 n2 c2, .slice A3 n3 c3, .slice A4 n4 c4, .slice A5 n5 c5, .slice A6 n6 c6, .slice A7 n7 c7, .slice A8 n8 c8] := by rw [← hwX, ← hgX]; exact Cells.new w1 [.string s, .bool b, .slice A0 n0 c0, .slice A1 n1 c1, .slice A2 n2 c2, .slice A3 n3 c3, .slice A4 n4 c4, .slice A5 n5 c5, .slice A6 n6 c6, .slice A7 n7 c7, .slice A8 n8 c8] _
 rw [hwX, hgX]
 clear hwX hgX
 have HCF : Hid (∀ W, Below w2.heap.size w2 W → Cells W g2 [.string s, .bool b, .slice A0 n0 c0, .slice A1 n1 c1, .slice A2 n2 c2, .slice A3 n3 c3, .slice A4 n4 c4, .slice A5 n5 c5, .slice A6 n6 c6, .slice A7 n7 c7, .slice A8 n8 c8]) := Lib.hid fun W hW => hc2.on hW
 have H12 : Hid (∀ W, Below w2.heap.size w2 W → Below w1.heap.size w1 W) := Lib.hid fun W hW => hb2.trans (hW.mono hb2.size)
 have HFIN : Hid (∀ W, Below w2.heap.size w2 W → Below w.heap.size w W) := Lib.hid fun W hW => HBW.out W (H12.out W hW)
 have HF2 : Hid (∀ W, Below w2.heap.size w2 W → FnW W W.heap.size s b A0 n0 c0 A1 n1 c1 A2 n2 c2 A3 n3 c3 A4 n4 c4 A5 n5 c5 A6 n6 c6 A7 n7 c7 A8 n8 c8 x0) := Lib.hid fun W hW => (HFW.out.keep (H12.out W hW)).more (H12.out W hW).size
 have H14 : Hid (∀ r : Int, r = 14 → r = 0 → (x0.nodes.getD 0 zN).fn = (f : Int)) := Lib.hid fun r h1 h2 => by omega
 have p2 := EP.out w2 hb2
 have cR2 := Lib.hid (cRoot.out w2 hb2)
 clear hb2 hc2 hw1 hg p0
 go_wp2_with fail
 refine cR2.out.mono ?_
 rintro e w3 ⟨r, rfl, hrt, hb3⟩
 have HB3 := Lib.hid hb3
 clear hb3 cR2 p2
 cases r with
 | false =>
  go_wp2_with fail
  go_ret2
  exact ⟨14, _, rfl, H14.out _ rfl, HFIN.out _ HB3.out⟩
 | true =>
  have HROOT : Hid ((x0.nodes.getD 0 zN).fn = (f : Int)) := Lib.hid (hrt rfl)
  clear hrt
  go_wp2_with fail
  go_loopw [7] (fun iv wr => ∃ (j : Nat), iv = .int .i64 (j : Int) ∧ 1 ≤ j ∧ j ≤ n6 ∧ Hid (Below w2.heap.size w2 wr)) (fun iv _ => n6 - (intOf iv).toNat)
  case atStart => exact ⟨1, rfl, Nat.le_refl _, h61, HB3⟩
  case round =>
   obtain ⟨j, rfl, hj1, hj, HB⟩ := hrel
   have hj0 : (0 : Int) ≤ (j : Int) := by omega
   have e8 := (HCF.out wr HB.out).at_ 8 _ rfl
   by_cases hlt : j < n6
   ·have hjn : (j : Int) < (n6 : Int) := by omega
    have p3 := EP.out wr (H12.out wr HB.out)
    have cB := Lib.hid (cBody.out wr (H12.out wr HB.out) j hj1 hlt)
    go_wp2_with fail
    refine cB.out.mono ?_
    rintro e w4 ⟨⟨r, rfl⟩, hb4⟩
    have HB4 : Hid (Below w2.heap.size w2 w4) := Lib.hid (HB.out.trans (hb4.mono HB.out.size))
    clear hb4 cB p3 e8
    cases r with
    | false =>
     go_wp2_with fail
     go_ret2
     exact ⟨14, _, rfl, H14.out _ rfl, HFIN.out _ HB4.out⟩
    | true =>
     go_wp2_with fail
     go_roundw
     case rel => exact ⟨j + 1, by go_num, by omega, by omega, HB4⟩
     case measure => first | (simp [intOf]; done) | (simp [intOf]; omega)
   ·obtain rfl : n6 = j := by omega
    go_wp2_with fail
    clear e8
    obtain ⟨w5, rfl⟩ : ∃ x, x = wr := ⟨_, rfl⟩
    go_loopw [8] (fun iv wr => ∃ (p : Nat), iv = .int .i64 (p : Int) ∧ p ≤ n4 ∧ Hid (Below w2.heap.size w2 wr)) (fun iv _ => n4 - (intOf iv).toNat)
    case atStart => exact ⟨0, rfl, Nat.zero_le _, HB⟩
    case round =>
     obtain ⟨p, rfl, hp, HBp⟩ := hrel
     have hp0 : (0 : Int) ≤ (p : Int) := by omega
     by_cases hlp : p < n4
     ·have hpn : (p : Int) < (n4 : Int) := by omega
      have cSt := Lib.hid (rstep_any s b A0 n0 c0 A1 n1 c1 A2 n2 c2 A3 n3 c3 A4 n4 c4 A5 n5 c5 A6 n6 c6 A7 n7 c7 A8 n8 c8 x0 p wr (HF2.out wr HBp.out) HCAN.out HNB.out hlp)
      have e0 := (HCF.out wr HBp.out).at_ 0 _ rfl
      have e1 := (HCF.out wr HBp.out).at_ 1 _ rfl
      have e2 := (HCF.out wr HBp.out).at_ 2 _ rfl
      have e3 := (HCF.out wr HBp.out).at_ 3 _ rfl
      have e4 := (HCF.out wr HBp.out).at_ 4 _ rfl
      have e5 := (HCF.out wr HBp.out).at_ 5 _ rfl
      have e6 := (HCF.out wr HBp.out).at_ 6 _ rfl
      have e7 := (HCF.out wr HBp.out).at_ 7 _ rfl
      have e8 := (HCF.out wr HBp.out).at_ 8 _ rfl
      have e9 := (HCF.out wr HBp.out).at_ 9 _ rfl
      have e10 := (HCF.out wr HBp.out).at_ 10 _ rfl
      go_wp2_with fail
      refine cSt.out.mono ?_
      rintro e w6 ⟨⟨r, rfl⟩, hb6⟩
      have HB6 : Hid (Below w2.heap.size w2 w6) := Lib.hid (HBp.out.trans (hb6.mono HBp.out.size))
      clear hb6 cSt e0 e1 e2 e3 e4 e5 e6 e7 e8 e9 e10
      cases r with
      | false =>
       go_wp2_with fail
       go_ret2
       exact ⟨14, _, rfl, H14.out _ rfl, HFIN.out _ HB6.out⟩
      | true =>
       have p6 := EP.out w6 (H12.out w6 HB6.out)
       have cRd := Lib.hid (cReads.out w6 (H12.out w6 HB6.out) p hlp)
       go_wp2_with fail
       refine cRd.out.mono ?_
       rintro e w7 ⟨⟨r, rfl⟩, hb7⟩
       have HB7 : Hid (Below w2.heap.size w2 w7) := Lib.hid (HB6.out.trans (hb7.mono HB6.out.size))
       clear hb7 cRd p6
       cases r with
       | false =>
        go_wp2_with fail
        go_ret2
        exact ⟨14, _, rfl, H14.out _ rfl, HFIN.out _ HB7.out⟩
       | true =>
        go_wp2_with fail
        go_roundw
        case rel => exact ⟨p + 1, by go_num, by omega, HB7⟩
        case measure => first | (simp [intOf]; done) | (simp [intOf]; omega)
     ·obtain rfl : p = n4 := by omega
      have e6 := (HCF.out wr HBp.out).at_ 6 _ rfl
      have p3 := EP.out wr (H12.out wr HBp.out)
      have cO := Lib.hid (cOf.out wr (H12.out wr HBp.out))
      go_wp2_with fail
      refine cO.out.mono ?_
      rintro e w8 ⟨ob, l, rfl, hll, hao, hcl, hb8⟩
      have HB8 : Hid (Below w2.heap.size w2 w8) := Lib.hid (HBp.out.trans (hb8.mono HBp.out.size))
      have HTBL := Lib.hid hcl
      have HLL := Lib.hid hll
      clear hb8 hll hao hcl cO e6 p3
      go_wp2_with fail
      go_loopw [10] (fun iv wr => ∃ (i : Nat), iv = .int .i64 (i : Int) ∧ i ≤ p ∧ Hid (Below w8.heap.size w8 wr)) (fun iv _ => p - (intOf iv).toNat)
      case atStart => exact ⟨0, rfl, Nat.zero_le _, Lib.hid (Below.refl _ _)⟩
      case round =>
       obtain ⟨i, rfl, him, HBi⟩ := hrel
       have hi0 : (0 : Int) ≤ (i : Int) := by omega
       have HB9 : Hid (Below w2.heap.size w2 wr) := Lib.hid (HB8.out.trans (HBi.out.mono HB8.out.size))
       have e6 := (HCF.out wr HB9.out).at_ 6 _ rfl
       by_cases hli : i < p
       ·have hin : (i : Int) < (p : Int) := by omega
        have hi8 : i < n8 := by have := HLN.out.2.2; omega
        have hi8i : (i : Int) < (n8 : Int) := by omega
        obtain ⟨t5, ht5⟩ : ∃ t, l[i]? = some t := ⟨_, List.getElem?_eq_getElem (by have := HLL.out; omega)⟩
        have HSA : Hid (∀ W, Below wr.heap.size wr W → W.cell? ⟨ob, i * 4, none⟩ = some (.int .u64 (t5.a0 : Int)) ∧ W.cell? ⟨ob, i * 4 + 1, none⟩ = some (.int .u64 (t5.a1 : Int)) ∧ W.cell? ⟨ob, i * 4 + 2, none⟩ = some (.int .u64 (t5.a2 : Int)) ∧ W.cell? ⟨ob, i * 4 + 3, none⟩ = some (.int .u64 (t5.a3 : Int))) := Lib.hid fun W hW => cW_at (HTBL.out.on (HBi.out.trans (hW.mono HBi.out.size))) ht5
        obtain ⟨lb, lo, xl, cs, hA8, hlb, -, -, hcs, hrs⟩ := SlR.at_ (HF2.out wr HB9.out).r8 hi8
        unfold RC at hrs
        subst hrs
        subst hA8
        have HSB : Hid (∀ W, Below wr.heap.size wr W → W.cell? ⟨lb, lo + i * 4, none⟩ = some (.int .u64 xl.w0) ∧ W.cell? ⟨lb, lo + i * 4 + 1, none⟩ = some (.int .u64 xl.w1) ∧ W.cell? ⟨lb, lo + i * 4 + 2, none⟩ = some (.int .u64 xl.w2) ∧ W.cell? ⟨lb, lo + i * 4 + 3, none⟩ = some (.int .u64 xl.w3)) := Lib.hid fun W hW => by
         have hbl : ∀ o, W.cell? ⟨lb, o, none⟩ = wr.cell? ⟨lb, o, none⟩ := fun o => hW.cell (p := ⟨lb, o, none⟩) hlb
         have q0 := hcs 0 _ rfl
         have q1 := hcs 1 _ rfl
         have q2 := hcs 2 _ rfl
         have q3 := hcs 3 _ rfl
         simp only [Nat.add_zero, ← Nat.add_assoc] at q0 q1 q2 q3
         exact ⟨(hbl _).trans q0, (hbl _).trans q1, (hbl _).trans q2, (hbl _).trans q3⟩
        have cIn : Hid (∀ W, Calls Tryz.prog 131 #[aggU t5.a0 t5.a1 t5.a2 t5.a3, aggU xl.w0 xl.w1 xl.w2 xl.w3] W fun e w' => e = .returned (.bool (insB t5.a0 t5.a1 t5.a2 t5.a3 xl.w0 xl.w1 xl.w2 xl.w3)) ∧ Below W.heap.size W w') := Lib.hid fun W => refInside_any _ _ _ _ _ _ _ _ W
        obtain ⟨r, hr⟩ : ∃ r, insB t5.a0 t5.a1 t5.a2 t5.a3 xl.w0 xl.w1 xl.w2 xl.w3 = r := ⟨_, rfl⟩
        simp only [hr] at cIn
        clear hr hcs ht5
        go_wp2_with fail
        refine wp_region_held (S := fun W => Below wr.heap.size wr W) (by kernel_rfl) ?_
        change wpAnyH _ _ _ _ _ _ _ _ (World.drew _)
        have hS0 : Below wr.heap.size wr wr.drew := (Below.refl _ _).drew
        refine tkH 0 rfl (by intro W hW; go_simp; first | done | rfl) hS0 ?_
        try go_simp
        refine tkH 1 rfl (by intro W hW; go_simp; first | done | rfl) hS0 ?_
        try go_simp
        refine tkH 2 rfl (by intro W hW; go_simp; first | done | rfl) hS0 ?_
        try go_simp
        refine tkH 3 rfl (by intro W hW; obtain ⟨q0, q1, q2, q3⟩ := HSA.out W hW; go_simp; first | done | rfl) hS0 ?_
        try go_simp
        refine tkH 4 rfl (by intro W hW; go_simp; first | done | rfl) hS0 ?_
        try go_simp
        refine tkH 5 rfl (by intro W hW; have x9 := (HCF.out W (HB9.out.trans (hW.mono HB9.out.size))).at_ 10 _ rfl; go_simp; first | done | rfl) hS0 ?_
        try go_simp
        refine tkH 6 rfl (by intro W hW; go_simp; first | done | rfl) hS0 ?_
        try go_simp
        refine tkH 7 rfl (by intro W hW; go_simp; first | done | rfl) hS0 ?_
        try go_simp
        refine tkH 8 rfl (by intro W hW; obtain ⟨q0, q1, q2, q3⟩ := HSB.out W hW; go_simp; first | done | rfl) hS0 ?_
        try go_simp
        refine wpAnyH_one (i := 9) (by kernel_rfl) rfl (fun K hK => ?_)
        go_simp
        refine (cIn.out _).mono ?_
        rintro e w10 ⟨rfl, hb10⟩
        have hS7 : Below wr.heap.size wr w10 := hS0.trans (hb10.mono hS0.size)
        clear hb10 hS0
        go_simp
        refine hK _ _ ⟨hS7, ?_⟩; clear hK K
        try go_simp
        refine tkH 10 rfl (by intro W hW; go_simp; first | done | rfl) hS7 ?_
        try go_simp
        try go_simp
        refine wpAnyH_done (by kernel_rfl) ?_ _
        try go_simp
        have HEND : Hid (Below wr.heap.size wr w10) := Lib.hid hS7
        clear hS7
        cases r with
        | true =>
         go_wp2_with fail
         go_roundw
         case rel => exact ⟨i + 1, by go_num, by omega, Lib.hid (HBi.out.trans (HEND.out.mono HBi.out.size))⟩
         case measure => first | (simp [intOf]; done) | (simp [intOf]; omega)
        | false =>
         go_wp2_with fail
         go_ret2
         exact ⟨14, _, rfl, H14.out _ rfl, HFIN.out _ (HB9.out.trans (HEND.out.mono HB9.out.size))⟩
       ·obtain rfl : i = p := by omega
        have p3 := EP.out wr (H12.out wr HB9.out)
        have cS := Lib.hid (cStk.out wr (H12.out wr HB9.out))
        go_wp2_with fail
        refine cS.out.mono ?_
        clear cS e6 p3
        rintro e w10 (⟨r, at_, hr0, rfl, hb10⟩ | ⟨ob2, rb2, ff, rfl, hob, hrb, -, hb10⟩)
        ·have HB10 : Hid (Below w2.heap.size w2 w10) := Lib.hid (HB9.out.trans (hb10.mono HB9.out.size))
         have t0 : (r != 0) = true := by simpa using hr0
         clear hb10
         go_wp2_with fail
         go_ret2
         exact ⟨14, _, rfl, H14.out _ rfl, HFIN.out _ (HB10.out.trans ((bl_one _).mono HB10.out.size))⟩
        ·have HB10 : Hid (Below w2.heap.size w2 w10) := Lib.hid (HB9.out.trans (hb10.mono HB9.out.size))
         have HOB := Lib.hid hob
         have HRB := Lib.hid hrb
         clear hb10 hob hrb
         go_upto_region 21 with fail
         obtain ⟨w11, hwX⟩ : ∃ X, World.alloc w10 (.cells #[.slice (some ⟨ob2, 0, none⟩) i i, .slice (some ⟨rb2, 0, none⟩) i i] 178) = X := ⟨_, rfl⟩
         obtain ⟨g11, hgX⟩ : ∃ X, (World.heap w10).size = X := ⟨_, rfl⟩
         have hb11 : Below (World.heap w10).size w10 w11 := by rw [← hwX]; exact bl_one _
         have hc11 : Cells w11 g11 [.slice (some ⟨ob2, 0, none⟩) i i, .slice (some ⟨rb2, 0, none⟩) i i] := by rw [← hwX, ← hgX]; exact Cells.new w10 [.slice (some ⟨ob2, 0, none⟩) i i, .slice (some ⟨rb2, 0, none⟩) i i] _
         rw [hwX, hgX]
         clear hwX hgX
         have HB11 : Hid (Below w2.heap.size w2 w11) := Lib.hid (HB10.out.trans (hb11.mono HB10.out.size))
         have cL := Lib.hid (cLev.out w11 (H12.out w11 HB11.out) ob2 rb2 ff (HOB.out.on hb11) (HRB.out.on hb11))
         have k0 := hc11.at_ 0 _ rfl
         have k1 := hc11.at_ 1 _ rfl
         have p3 := EP.out w11 (H12.out w11 HB11.out)
         clear hb11 hc11
         go_wp2_with fail
         refine cL.out.mono ?_
         rintro e w12 ⟨⟨r, rfl⟩, hb12⟩
         have HB12 : Hid (Below w2.heap.size w2 w12) := Lib.hid (HB11.out.trans (hb12.mono HB11.out.size))
         clear hb12 cL k0 k1 p3
         cases r with
         | false =>
          go_wp2_with fail
          go_ret2
          exact ⟨14, _, rfl, H14.out _ rfl, HFIN.out _ HB12.out⟩
         | true =>
          go_wp2_with fail
          go_ret2
          exact ⟨0, _, rfl, fun _ => HROOT.out, HFIN.out _ HB12.out⟩
end Go.Proofs.YtobmjnmcjddhcaaGreat
