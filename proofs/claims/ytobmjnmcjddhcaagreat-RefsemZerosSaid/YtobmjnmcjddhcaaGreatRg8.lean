import Derived.Test.YtobmjnmcjddhcaaGreatRg7
set_option linter.unusedSimpArgs false
set_option linter.unusedVariables false
namespace Go.Proofs.YtobmjnmcjddhcaaGreat
section
set_option maxRecDepth 100000
set_option maxHeartbeats 64000000
open Go.RowKit
theorem pgc_inner {w : World} {FA : Option Addr} {fn fc : Nat} {fs : List DFunc} (h : PgC w FA fn fc fs) {i : Nat} (hi : i < fn) {bk off : Nat} {us : List Value} {b : Bool} {x : DFunc} (hA : FA = some ⟨bk, off, none⟩) (hb : bk < w.heap.size) (hc : ∀ (j : Nat) (u : Value), us[j]? = some u → w.cell? ⟨bk, off + i * 11 + j, none⟩ = some u) (hx : fs[i]? = some x) (hu : us[1]? = some (.bool b) := by rfl) : b = x.inner := by
 obtain ⟨b', off', V, x', hA', hb', hx', hq, hf, _, hin⟩ := h.pg.at_ hi
 rw [hA] at hA'
 injection hA' with hA'
 injection hA' with e1 e2
 subst e1
 subst e2
 rw [hx] at hx'
 injection hx' with hx'
 subst hx'
 have h1 := hc 1 _ hu
 have h2 := hq.e1
 rw [h1] at h2
 injection h2 with h2
 injection h2 with h2
 rw [h2, hin]
def IsOutX (x : DFunc) (w : World) (e : Ending) (w' : World) : Prop := ∃ A k c l r, e = .returned (.tuple #[.slice A k c, .bool r]) ∧ k ≤ 300 ∧ SlI w' w'.heap.size A k c l ∧ Below w.heap.size w w' ∧ (r = true → x.inner = true ∧ l = x.outer)
theorem routerx_any (FA : Option Addr) (fn fc : Nat) (fs : List DFunc) (f k : Nat) (x0 : DFunc) (w : World) (h : PgC w FA fn fc fs) (hi : f < fn) (hx0 : fs[f]? = some x0) (hk : k < x0.code.length) (hbare : bareF x0 = true) :
  Calls Tryz.prog 148 #[.agg #[.slice FA fn fc], .int .i64 (f : Int), .int .i64 (k : Int)] w (IsOutX x0 w) := by
 obtain ⟨w1, hw1⟩ : ∃ X, w.alloc (.cells #[.slice FA fn fc] 24) = X := ⟨_, rfl⟩
 obtain ⟨g, hg⟩ : ∃ g, w.heap.size = g := ⟨_, rfl⟩
 have hb1 : Below w.heap.size w w1 := by rw [← hw1]; exact bl_one _
 have hc1 : Cells w1 g [.slice FA fn fc] := by rw [← hw1, ← hg]; exact Cells.new w [.slice FA fn fc] _
 have EP : Hid (∀ W, Below w1.heap.size w1 W → W.cell? ⟨g, 0, none⟩ = some (.slice FA fn fc)) := Hd fun W hW => (hc1.on hW).at_ 0 _ rfl
 have HP : Hid (∀ W, Below w1.heap.size w1 W → PgC W FA fn fc fs) := Hd fun W hW => h.on (hb1.trans (hW.mono hb1.size))
 have HB1 := Hd hb1
 have HBW : Hid (∀ W, Below w1.heap.size w1 W → Below w.heap.size w W) := Hd fun W hW => hb1.trans (hW.mono hb1.size)
 have hfn := h.pg.le
 have hn0 : (fn : Int) ≤ 50 := by omega
 have p0 := EP.out w1 (Below.refl _ _)
 clear hb1 hc1
 obtain ⟨o, ho⟩ : ∃ v, ownerM x0 f k = v := ⟨_, rfl⟩
 have cO := Hd (rowner_any FA fn fc fs f k x0 w1 (HP.out w1 (Below.refl _ _)) hi hx0 hk)
 rw [ho] at cO
 obtain rfl : o = (f : Int) := by rw [← ho]; unfold ownerM; rw [if_pos hbare]
 have HX0 := Hd hx0
 clear ho h hx0 hk
 go_in
 go_wp2_with fail
 refine cO.out.mono ?_
 rintro e w2 ⟨rfl, ho0, ho1, hb2⟩
 have HB2 := Hd hb2
 have p2 := EP.out w2 hb2
 clear hb2 cO p0 hw1 hg
 have d0 : decide ((f : Int) < 0) = false := dcF (by omega)
 by_cases hof : (f : Int) < (fn : Int)
 ·obtain ⟨q, hqf⟩ : ∃ q, q = f := ⟨_, rfl⟩
  subst hqf
  have hq : q < fn := by omega
  have d1 : decide ((q : Int) ≥ (fn : Int)) = false := dcF (by omega)
  have d1b : decide (fn ≤ q) = false := dcF (by omega)
  obtain ⟨bk, off, s, b, A0, n0, c0, A1, n1, c1, A2, n2, c2, A3, n3, c3, A4, n4, c4, A5, n5, c5, A6, n6, c6, A7, n7, c7, A8, n8, c8, x, rfl, hbk, hx, hcf, hfw, hcan⟩ := (HP.out w2 HB2.out).get hq
  have HBI := Hd (pgc_inner (HP.out w2 HB2.out) hq rfl hbk hcf hx)
  obtain rfl : x0 = x := by have := HX0.out; rw [hx] at this; injection this with this; exact this.symm
  have y1 := hcf 1 _ rfl
  have y2 := hcf 2 _ rfl
  have HR0 := Hd hfw.r0
  obtain ⟨s4, s5, s6, s7, s8, s0⟩ := hfw.sm
  clear hcf hfw hcan hx
  cases b with
  | true =>
   go_wp2_with fail
   go_ret2
   exact ⟨A0, n0, c0, x0.outer, true, rfl, by omega, HR0.out, HBW.out _ HB2.out, fun _ => ⟨HBI.out.symm, rfl⟩⟩
  | false =>
   go_wp2_with fail
   go_ret2
   exact ⟨none, 0, 0, [], false, rfl, by omega, sli_nil _, HBW.out _ HB2.out, fun h => by cases h⟩
 ·exact absurd (show (f : Int) < (fn : Int) by omega) hof
def IsNeedsX (P : List Int → List Int → Prop) (w : World) (e : Ending) (w' : World) : Prop := ∃ A n c xs B m d ys r, e = .returned (.tuple #[.slice A n c, .slice B m d, .int .i64 r]) ∧ n ≤ 300 ∧ m ≤ 300 ∧ SlI w' w'.heap.size A n c xs ∧ SlI w' w'.heap.size B m d ys ∧ Below w.heap.size w w' ∧ (r = 0 → P xs ys)
theorem rneedsx_any (FA : Option Addr) (fn fc : Nat) (fs : List DFunc) (f k : Nat) (x0 : DFunc) (SA : Option Addr) (sn sc : Nat) (st : List Int) (w : World) (h : PgC w FA fn fc fs) (hi : f < fn) (hx0 : fs[f]? = some x0) (hk : k < x0.code.length) (hst : SlI w w.heap.size SA sn sc st) (hsn : sn ≤ 100) (hbare : bareF x0 = true) :
  Calls Tryz.prog 151 #[.agg #[.slice FA fn fc], .int .i64 (f : Int), .int .i64 (k : Int), .slice SA sn sc] w (IsNeedsX (NeedsK fs x0 k st) w) := by
 obtain ⟨w1, hw1⟩ : ∃ X, w.alloc (.cells #[.slice FA fn fc] 24) = X := ⟨_, rfl⟩
 obtain ⟨g, hg⟩ : ∃ g, w.heap.size = g := ⟨_, rfl⟩
 have hb1 : Below w.heap.size w w1 := by rw [← hw1]; exact bl_one _
 have hc1 : Cells w1 g [.slice FA fn fc] := by rw [← hw1, ← hg]; exact Cells.new w [.slice FA fn fc] _
 have EP : Hid (∀ W, Below w1.heap.size w1 W → W.cell? ⟨g, 0, none⟩ = some (.slice FA fn fc)) := Hd fun W hW => (hc1.on hW).at_ 0 _ rfl
 have HP : Hid (∀ W, Below w1.heap.size w1 W → PgC W FA fn fc fs) := Hd fun W hW => h.on (hb1.trans (hW.mono hb1.size))
 have HB1 := Hd hb1
 have HBW : Hid (∀ W, Below w1.heap.size w1 W → Below w.heap.size w W) := Hd fun W hW => hb1.trans (hW.mono hb1.size)
 have hfn := h.pg.le
 have hn0 : (fn : Int) ≤ 50 := by omega
 have p0 := EP.out w1 (Below.refl _ _)
 have HST : Hid (∀ W, Below w1.heap.size w1 W → SlI W W.heap.size SA sn sc st) := Hd fun W hW => hst.on (hb1.trans (hW.mono hb1.size))
 clear hb1 hc1
 have cO : Hid (∀ W, Below w1.heap.size w1 W → Calls Tryz.prog 148 #[.agg #[.slice FA fn fc], .int .i64 (f : Int), .int .i64 (k : Int)] W (IsOutX x0 W)) := Hd fun W hW => routerx_any FA fn fc fs f k x0 W (HP.out W hW) hi hx0 hk hbare
 obtain ⟨bk, off, s, b, A0, n0, c0, A1, n1, c1, A2, n2, c2, A3, n3, c3, A4, n4, c4, A5, n5, c5, A6, n6, c6, A7, n7, c7, A8, n8, c8, x, rfl, hbk, hx, hcf, hfw, hcan⟩ := (HP.out w1 (Below.refl _ _)).get (i := f) hi
 have y0 := hcf 0 _ rfl
 have y1 := hcf 1 _ rfl
 have y2 := hcf 2 _ rfl
 have y3 := hcf 3 _ rfl
 have y4 := hcf 4 _ rfl
 have y5 := hcf 5 _ rfl
 have y6 := hcf 6 _ rfl
 have y7 := hcf 7 _ rfl
 have y8 := hcf 8 _ rfl
 have y9 := hcf 9 _ rfl
 have y10 := hcf 10 _ rfl
 simp only [Nat.add_zero] at y0
 obtain rfl : x0 = x := by rw [hx0] at hx; injection hx
 have l4 := hfw.r4.1
 have l6 := hfw.r6.1
 obtain ⟨cb, co, yo, ya, rfl, hcb, hca, hcd, u0, u1⟩ := code_get hfw.r4 (show k < n4 by omega)
 have HCD := Hd hcd
 have HN6 : Hid (n6 = 0) := Hd (by unfold bareF at hbare; rw [decide_eq_true_eq] at hbare; omega)
 have HSL1 : Hid (st.length = sn) := Hd hst.1
 clear hbare
 have hins := hcan.ins _ (List.mem_of_getElem? hcd)
 have HIN : Hid (opndM yo ≠ 1 → 0 ≤ ya) := Hd fun h1 => (hins.2.2.resolve_left h1).1
 obtain ⟨s4, s5, s6, s7, s8, s0⟩ := hfw.sm
 have hf0 : (0 : Int) ≤ (f : Int) := by omega
 have hf1 : (f : Int) < (fn : Int) := by omega
 have hk0 : (0 : Int) ≤ (k : Int) := by omega
 have hk1 : (k : Int) ≤ 150 := by omega
 have hkn : (k : Int) < (n4 : Int) := by omega
 have HFW := Hd hfw
 have HU : Hid (w1.cell? ⟨cb, co + k * 2, none⟩ = some (.int .i64 yo) ∧ w1.cell? ⟨cb, co + k * 2 + 1, none⟩ = some (.int .i64 ya)) := Hd ⟨u0, u1⟩
 have hsn0 : (sn : Int) ≤ 100 := by omega
 clear h hfw hcan hcf hx hx0 l4 l6 hca hcd hins hst hk u0 u1
 go_in
 go_upto_region 2 with fail
 clear y0 y1 y2 y3 y4 y5 y6 y7 y8 y9 y10
 obtain ⟨w2, hw2⟩ : ∃ X, w1.alloc (.cells #[.string s, .bool b, .slice A0 n0 c0, .slice A1 n1 c1, .slice A2 n2 c2, .slice A3 n3 c3, .slice (some ⟨cb, co, none⟩) n4 c4, .slice A5 n5 c5, .slice A6 n6 c6, .slice A7 n7 c7, .slice A8 n8 c8] 38) = X := ⟨_, rfl⟩
 obtain ⟨g2, hg2⟩ : ∃ X, w1.heap.size = X := ⟨_, rfl⟩
 have hb2 : Below w1.heap.size w1 w2 := by rw [← hw2]; exact bl_one _
 have hc2 : Cells w2 g2 [.string s, .bool b, .slice A0 n0 c0, .slice A1 n1 c1, .slice A2 n2 c2, .slice A3 n3 c3, .slice (some ⟨cb, co, none⟩) n4 c4, .slice A5 n5 c5, .slice A6 n6 c6, .slice A7 n7 c7, .slice A8 n8 c8] := by rw [← hw2, ← hg2]; exact Cells.new w1 [.string s, .bool b, .slice A0 n0 c0, .slice A1 n1 c1, .slice A2 n2 c2, .slice A3 n3 c3, .slice (some ⟨cb, co, none⟩) n4 c4, .slice A5 n5 c5, .slice A6 n6 c6, .slice A7 n7 c7, .slice A8 n8 c8] _
 rw [hw2, hg2]
 have e6 := hc2.at_ 6 _ rfl
 have u0 := (hb2.cell (p := ⟨cb, co + k * 2, none⟩) hcb).trans HU.out.1
 have u1 := (hb2.cell (p := ⟨cb, co + k * 2 + 1, none⟩) hcb).trans HU.out.2
 clear hw2
 go_upto_region 3 with fail
 clear e6 u0 u1
 obtain ⟨w3, hw3⟩ : ∃ X, w2.alloc (.cells #[.int .i64 yo, .int .i64 ya] 113) = X := ⟨_, rfl⟩
 obtain ⟨g3, hg3⟩ : ∃ X, w2.heap.size = X := ⟨_, rfl⟩
 have hb3 : Below w2.heap.size w2 w3 := by rw [← hw3]; exact bl_one _
 have hc3 : Cells w3 g3 [.int .i64 yo, .int .i64 ya] := by rw [← hw3, ← hg3]; exact Cells.new w2 [.int .i64 yo, .int .i64 ya] _
 rw [hw3, hg3]
 have hb13 : Below w1.heap.size w1 w3 := hb2.trans (hb3.mono hb2.size)
 have HC2 : Hid (∀ W, Below w3.heap.size w3 W → Cells W g2 [.string s, .bool b, .slice A0 n0 c0, .slice A1 n1 c1, .slice A2 n2 c2, .slice A3 n3 c3, .slice (some ⟨cb, co, none⟩) n4 c4, .slice A5 n5 c5, .slice A6 n6 c6, .slice A7 n7 c7, .slice A8 n8 c8]) := Hd fun W hW => (hc2.on hb3).on hW
 have HC3 : Hid (∀ W, Below w3.heap.size w3 W → Cells W g3 [.int .i64 yo, .int .i64 ya]) := Hd fun W hW => hc3.on hW
 have H13 : Hid (∀ W, Below w3.heap.size w3 W → Below w1.heap.size w1 W) := Hd fun W hW => hb13.trans (hW.mono hb13.size)
 have HF3 : Hid (∀ W, Below w3.heap.size w3 W → FnW W W.heap.size s b A0 n0 c0 A1 n1 c1 A2 n2 c2 A3 n3 c3 (some ⟨cb, co, none⟩) n4 c4 A5 n5 c5 A6 n6 c6 A7 n7 c7 A8 n8 c8 x0) := Hd fun W hW => (HFW.out.keep (hb13.trans (hW.mono hb13.size))).more (hb13.trans (hW.mono hb13.size)).size
 have e0 := (HC2.out w3 (Below.refl _ _)).at_ 0 _ rfl
 have e1 := (HC2.out w3 (Below.refl _ _)).at_ 1 _ rfl
 have e2 := (HC2.out w3 (Below.refl _ _)).at_ 2 _ rfl
 have e3 := (HC2.out w3 (Below.refl _ _)).at_ 3 _ rfl
 have e4 := (HC2.out w3 (Below.refl _ _)).at_ 4 _ rfl
 have e5 := (HC2.out w3 (Below.refl _ _)).at_ 5 _ rfl
 have e6 := (HC2.out w3 (Below.refl _ _)).at_ 6 _ rfl
 have e7 := (HC2.out w3 (Below.refl _ _)).at_ 7 _ rfl
 have e8 := (HC2.out w3 (Below.refl _ _)).at_ 8 _ rfl
 have e9 := (HC2.out w3 (Below.refl _ _)).at_ 9 _ rfl
 have e10 := (HC2.out w3 (Below.refl _ _)).at_ 10 _ rfl
 have cS := Hd (rslots_any s b A0 n0 c0 A1 n1 c1 A2 n2 c2 A3 n3 c3 (some ⟨cb, co, none⟩) n4 c4 A5 n5 c5 A6 n6 c6 A7 n7 c7 A8 n8 c8 x0 w3 (HF3.out w3 (Below.refl _ _)))
 obtain ⟨sl, hsl⟩ : ∃ v, n1 + n2 + n3 = v := ⟨_, rfl⟩
 have HSLN : Hid (n1 + n2 + n3 = sl) := Hd hsl
 have hsl0 : sl ≤ 300 := by omega
 have hsl1 : (sl : Int) ≤ 300 := by omega
 rw [hsl] at cS
 clear hg2 hw3 hg3 hb2 hb3 hc2 hc3 hb13 hw1 hg HFW hsl HU
 go_wp2_with fail
 refine cS.out.mono ?_
 rintro e w4 ⟨Q, cq, rfl, hoq, hb4⟩
 have HB4 := Hd hb4
 have HSL := Hd (sli_types hoq (by omega))
 have cE := Hd (reffect_any yo w4)
 have i0 := (HC3.out w4 hb4).at_ 0 _ rfl
 clear hb4 hoq cS e0 e1 e2 e3 e4 e5 e6 e7 e8 e9 e10
 go_wp2_with fail
 refine cE.out.mono ?_
 rintro e w5 ⟨EA, ek, ec, EB, em, ed, rfl, hek, hem, hea, heb, hb5⟩
 have HB5 : Hid (Below w3.heap.size w3 w5) := Hd (HB4.out.trans (hb5.mono HB4.out.size))
 have HSL5 := Hd (HSL.out.on hb5)
 have HEA : Hid (ek ≤ 2 ∧ em ≤ 2 ∧ SlI w5 w5.heap.size EA ek ec (effM yo).1 ∧ SlI w5 w5.heap.size EB em ed (effM yo).2) := Hd ⟨by rw [hek]; exact (effM_len yo).1, by rw [hem]; exact (effM_len yo).2, hea, heb⟩
 have HBW5 : Hid (∀ W, Below w5.heap.size w5 W → Below w.heap.size w W) := Hd fun W hW => HBW.out W (H13.out W (HB5.out.trans (hW.mono HB5.out.size)))
 clear hek hem hea heb hb5 cE i0 HSL HB4
 have i0 := (HC3.out w5 HB5.out).at_ 0 _ rfl
 have i1 := (HC3.out w5 HB5.out).at_ 1 _ rfl
 have p5 := EP.out w5 (H13.out w5 HB5.out)
 have e8 := (HC2.out w5 HB5.out).at_ 8 _ rfl
 by_cases o2 : yo = 2 ∨ yo = 3
 ·obtain ⟨q, rfl⟩ := Int.eq_ofNat_of_zero_le (HIN.out (by rcases o2 with rfl | rfl <;> decide))
  have hq0 : (0 : Int) ≤ (q : Int) := by omega
  by_cases hq : q < sl
  ·have d1 : decide ((q : Int) ≥ (sl : Int)) = false := dcF (by omega)
   have d1b : decide (sl ≤ q) = false := dcF (by omega)
   have hqs : (q : Int) < (sl : Int) := by omega
   have hqs1 : (q : Int) + 1 ≤ (sl : Int) := by omega
   obtain ⟨qb, qo, qv, rfl, hqb, _, qc⟩ := SlR.cell1 (f := Value.int .i64) HSL5.out (i := q) hq
   have hcq : sl ≤ cq := HSL5.out.2.1
   have hcq2 : cq ≤ maxLen := HSL5.out.2.2.1
   have hcq3 : (cq : Int) ≤ 9223372036854775807 := by unfold maxLen at hcq2; omega
   have hcq4 : (q : Int) + 1 ≤ (cq : Int) := by omega
   rcases o2 with rfl | rfl
   ·go_wp2_with fail
    go_quiet (fail)
    go_wp2_with fail
    go_ret3
    exact ⟨none, 0, 0, [], _, 1, _, _, 0, rfl, by omega, by omega, sli_nil _, SlI.on (sli_cut HSL5.out hq) (below_drewN' (Below.refl w5.heap.size w5) _), HBW5.out _ (below_drewN' (Below.refl w5.heap.size w5) _), fun _ => NeedsK.mk' HCD.out (NeedsR.mkLoad (by have := HSL5.out.1; omega))⟩
   ·go_wp2_with fail
    go_ret3
    exact ⟨_, 1, _, _, none, 0, 0, [], 0, rfl, by omega, by omega, sli_cut HSL5.out hq, sli_nil _, HBW5.out _ (Below.refl _ _), fun _ => NeedsK.mk' HCD.out (NeedsR.mkStore (by have := HSL5.out.1; omega))⟩
  ·have d1 : decide ((q : Int) ≥ (sl : Int)) = true := dcT (by omega)
   have d1b : decide (sl ≤ q) = true := dcT (by omega)
   rcases o2 with rfl | rfl
   ·go_wp2_with fail
    go_ret3
    exact ⟨none, 0, 0, [], none, 0, 0, [], 2, rfl, by omega, by omega, sli_nil _, sli_nil _, HBW5.out _ (Below.refl _ _), fun h => absurd h (by decide)⟩
   ·go_wp2_with fail
    go_ret3
    exact ⟨none, 0, 0, [], none, 0, 0, [], 2, rfl, by omega, by omega, sli_nil _, sli_nil _, HBW5.out _ (Below.refl _ _), fun h => absurd h (by decide)⟩
 have e2 : (yo == 2) = false := by rw [beq_eq_false_iff_ne]; omega
 have e3 : (yo == 3) = false := by rw [beq_eq_false_iff_ne]; omega
 by_cases o4 : yo = 4 ∨ yo = 5
 ·have HS5 := Hd (HST.out w5 (H13.out w5 HB5.out))
  by_cases hs0 : sn = 0
  ·subst hs0
   have d0 : (((0 : Nat) : Int) == 0) = true := by simp
   rcases o4 with rfl | rfl
   ·go_wp2_with fail
    go_ret3
    exact ⟨none, 0, 0, [], none, 0, 0, [], 10, rfl, by omega, by omega, sli_nil _, sli_nil _, HBW5.out _ (Below.refl _ _), fun h => absurd h (by decide)⟩
   ·go_wp2_with fail
    go_ret3
    exact ⟨none, 0, 0, [], none, 0, 0, [], 10, rfl, by omega, by omega, sli_nil _, sli_nil _, HBW5.out _ (Below.refl _ _), fun h => absurd h (by decide)⟩
  ·obtain ⟨sm, rfl⟩ : ∃ m, sn = m + 1 := ⟨sn - 1, by omega⟩
   have d0 : (((sm + 1 : Nat) : Int) == 0) = false := by rw [beq_eq_false_iff_ne]; omega
   have d0b : ((sm : Int) + 1 == 0) = false := by rw [beq_eq_false_iff_ne]; omega
   obtain ⟨tb, to_, tv, rfl, htb, htv, tc⟩ := SlR.cell1 (f := Value.int .i64) HS5.out (i := sm) (by omega)
   have HTV : Hid (st.getLast? = some tv) := Hd (by rw [List.getLast?_eq_getElem?, HSL1.out]; exact htv)
   clear htv
   have hsm0 : (0 : Int) ≤ (sm : Int) := by omega
   have hsm1 : (sm : Int) < (sm : Int) + 1 := by omega
   rcases o4 with rfl | rfl
   ·go_wp2_with fail
    go_ret3
    exact ⟨_, 1, 1, [tv], none, 0, 0, [], 0, rfl, by omega, by omega, sl_lit w5 tv, sli_nil _, HBW5.out _ (bl_one _), fun _ => NeedsK.mk' HCD.out (NeedsR.mkPop HTV.out)⟩
   ·go_wp2_with fail
    go_ret3
    exact ⟨none, 0, 0, [], _, 1, 1, [tv], 0, rfl, by omega, by omega, sli_nil _, sl_lit w5 tv, HBW5.out _ (bl_one _), fun _ => NeedsK.mk' HCD.out (NeedsR.mkDup HTV.out)⟩
 have e4 : (yo == 4) = false := by rw [beq_eq_false_iff_ne]; omega
 have e5 : (yo == 5) = false := by rw [beq_eq_false_iff_ne]; omega
 by_cases o23 : yo = 23 ∨ yo = 24
 ·obtain ⟨q, rfl⟩ := Int.eq_ofNat_of_zero_le (HIN.out (by rcases o23 with rfl | rfl <;> decide))
  have hq0 : (0 : Int) ≤ (q : Int) := by omega
  by_cases hq : q < fn
  ·have d1 : decide ((q : Int) ≥ (fn : Int)) = false := dcF (by omega)
   have d1b : decide (fn ≤ q) = false := dcF (by omega)
   have hqs : (q : Int) < (fn : Int) := by omega
   obtain ⟨jb, jo, zs, zb, ZA0, zn0, zc0, ZA1, zn1, zc1, ZA2, zn2, zc2, ZA3, zn3, zc3, ZA4, zn4, zc4, ZA5, zn5, zc5, ZA6, zn6, zc6, ZA7, zn7, zc7, ZA8, zn8, zc8, xq, hjA, hjb, hjx, hjc, hjf, hjn⟩ := (HP.out w5 (H13.out w5 HB5.out)).get hq
   obtain ⟨rfl, rfl⟩ : jb = bk ∧ jo = off := by injection hjA with hjA; injection hjA with a1 a2; exact ⟨a1.symm, a2.symm⟩
   have k3 := hjc 3 _ rfl
   have k4 := hjc 4 _ rfl
   have HJ := Hd hjf
   have HJX := Hd hjx
   clear hjA hjx hjc hjf hjn
   rcases o23 with rfl | rfl
   ·go_wp2_with fail
    go_quiet (fail)
    go_wp2_with fail
    go_ret3
    exact ⟨_, _, _, _, _, _, _, _, 0, rfl, by have := HJ.out.sm; omega, by have := HJ.out.sm; omega, SlI.on HJ.out.r1 (below_drewN' (Below.refl w5.heap.size w5) _), SlI.on HJ.out.r2 (below_drewN' (Below.refl w5.heap.size w5) _), HBW5.out _ (below_drewN' (Below.refl w5.heap.size w5) _), fun _ => NeedsK.mk' HCD.out (NeedsR.mkCall HJX.out)⟩
   ·go_wp2_with fail
    go_ret3
    exact ⟨_, _, _, _, none, 0, 0, [], 0, rfl, by have := HJ.out.sm; omega, by omega, HJ.out.r1, sli_nil _, HBW5.out _ (Below.refl _ _), fun _ => NeedsK.mk' HCD.out (NeedsR.mkLater HJX.out)⟩
  ·have d1 : decide ((q : Int) ≥ (fn : Int)) = true := dcT (by omega)
   have d1b : decide (fn ≤ q) = true := dcT (by omega)
   rcases o23 with rfl | rfl
   ·go_wp2_with fail
    go_ret3
    exact ⟨none, 0, 0, [], none, 0, 0, [], 12, rfl, by omega, by omega, sli_nil _, sli_nil _, HBW5.out _ (Below.refl _ _), fun h => absurd h (by decide)⟩
   ·go_wp2_with fail
    go_ret3
    exact ⟨none, 0, 0, [], none, 0, 0, [], 12, rfl, by omega, by omega, sli_nil _, sli_nil _, HBW5.out _ (Below.refl _ _), fun h => absurd h (by decide)⟩
 have e23 : (yo == 23) = false := by rw [beq_eq_false_iff_ne]; omega
 have e24 : (yo == 24) = false := by rw [beq_eq_false_iff_ne]; omega
 by_cases o28 : yo = 28 ∨ yo = 29
 ·obtain ⟨q, rfl⟩ := Int.eq_ofNat_of_zero_le (HIN.out (by rcases o28 with rfl | rfl <;> decide))
  have hq0 : (0 : Int) ≤ (q : Int) := by omega
  have cO5 := Hd (cO.out w5 (H13.out w5 HB5.out))
  have HOB : Hid (∀ W, Below w5.heap.size w5 W → W.cell? ⟨g3, 0, none⟩ = some (.int .i64 yo) ∧ W.cell? ⟨g3, 1, none⟩ = some (.int .i64 (q : Int))) := Hd fun W hW => ⟨(HC3.out W (HB5.out.trans (hW.mono HB5.out.size))).at_ 0 _ rfl, (HC3.out W (HB5.out.trans (hW.mono HB5.out.size))).at_ 1 _ rfl⟩
  have HS28 := Hd o28
  rcases o28 with rfl | rfl
  ·go_wp2_with fail
   refine cO5.out.mono ?_
   rintro e w6 ⟨OA, ok, oc, ol, r, rfl, hok, hosl, hb6, hox⟩
   have HOX := Hd hox
   clear hox
   obtain ⟨j0, j1⟩ := HOB.out w6 hb6
   have HB6 := Hd hb6
   have HOS := Hd hosl
   clear hb6 hosl i0 i1 p5 e8
   cases r with
   | false =>
    go_wp2_with fail
    go_ret3
    exact ⟨none, 0, 0, [], none, 0, 0, [], 13, rfl, by omega, by omega, sli_nil _, sli_nil _, HBW5.out _ HB6.out, fun h => absurd h (by decide)⟩
   | true =>
    by_cases hq : q < ok
    ·have d1 : decide ((q : Int) ≥ (ok : Int)) = false := dcF (by omega)
     have d1b : decide (ok ≤ q) = false := dcF (by omega)
     have hqs : (q : Int) < (ok : Int) := by omega
     have hqs1 : (q : Int) + 1 ≤ (ok : Int) := by omega
     obtain ⟨qb, qo, qv, rfl, hqb, _, qc⟩ := SlR.cell1 (f := Value.int .i64) HOS.out (i := q) hq
     have hcq : ok ≤ oc := HOS.out.2.1
     have hcq2 : oc ≤ maxLen := HOS.out.2.2.1
     have hcq3 : (oc : Int) ≤ 9223372036854775807 := by unfold maxLen at hcq2; omega
     have hcq4 : (q : Int) + 1 ≤ (oc : Int) := by omega
     go_wp2_with fail
     go_quiet (fail)
     go_wp2_with fail
     go_ret3
     exact ⟨none, 0, 0, [], _, 1, _, _, 0, rfl, by omega, by omega, sli_nil _, SlI.on (sli_cut HOS.out hq) (below_drewN' (Below.refl w6.heap.size w6) _), HBW5.out _ (below_drewN' HB6.out _), fun _ => NeedsK.mk' HCD.out (by obtain ⟨a1, rfl⟩ := HOX.out (by trivial); exact NeedsR.mkGet a1 (by have := HOS.out.1; omega))⟩
    ·have d1 : decide ((q : Int) ≥ (ok : Int)) = true := dcT (by omega)
     have d1b : decide (ok ≤ q) = true := dcT (by omega)
     go_wp2_with fail
     go_ret3
     exact ⟨none, 0, 0, [], none, 0, 0, [], 13, rfl, by omega, by omega, sli_nil _, sli_nil _, HBW5.out _ HB6.out, fun h => absurd h (by decide)⟩
  ·go_wp2_with fail
   refine cO5.out.mono ?_
   rintro e w6 ⟨OA, ok, oc, ol, r, rfl, hok, hosl, hb6, hox⟩
   have HOX := Hd hox
   clear hox
   obtain ⟨j0, j1⟩ := HOB.out w6 hb6
   have HB6 := Hd hb6
   have HOS := Hd hosl
   clear hb6 hosl i0 i1 p5 e8
   cases r with
   | false =>
    go_wp2_with fail
    go_ret3
    exact ⟨none, 0, 0, [], none, 0, 0, [], 13, rfl, by omega, by omega, sli_nil _, sli_nil _, HBW5.out _ HB6.out, fun h => absurd h (by decide)⟩
   | true =>
    by_cases hq : q < ok
    ·have d1 : decide ((q : Int) ≥ (ok : Int)) = false := dcF (by omega)
     have d1b : decide (ok ≤ q) = false := dcF (by omega)
     have hqs : (q : Int) < (ok : Int) := by omega
     have hqs1 : (q : Int) + 1 ≤ (ok : Int) := by omega
     obtain ⟨qb, qo, qv, rfl, hqb, _, qc⟩ := SlR.cell1 (f := Value.int .i64) HOS.out (i := q) hq
     have hcq : ok ≤ oc := HOS.out.2.1
     have hcq2 : oc ≤ maxLen := HOS.out.2.2.1
     have hcq3 : (oc : Int) ≤ 9223372036854775807 := by unfold maxLen at hcq2; omega
     have hcq4 : (q : Int) + 1 ≤ (oc : Int) := by omega
     go_wp2_with fail
     go_ret3
     exact ⟨_, 1, _, _, none, 0, 0, [], 0, rfl, by omega, by omega, sli_cut HOS.out hq, sli_nil _, HBW5.out _ HB6.out, fun _ => NeedsK.mk' HCD.out (by obtain ⟨a1, rfl⟩ := HOX.out (by trivial); exact NeedsR.mkSet a1 (by have := HOS.out.1; omega))⟩
    ·have d1 : decide ((q : Int) ≥ (ok : Int)) = true := dcT (by omega)
     have d1b : decide (ok ≤ q) = true := dcT (by omega)
     go_wp2_with fail
     go_ret3
     exact ⟨none, 0, 0, [], none, 0, 0, [], 13, rfl, by omega, by omega, sli_nil _, sli_nil _, HBW5.out _ HB6.out, fun h => absurd h (by decide)⟩
 have e28 : (yo == 28) = false := by rw [beq_eq_false_iff_ne]; omega
 have e29 : (yo == 29) = false := by rw [beq_eq_false_iff_ne]; omega
 by_cases o33 : yo = 33 ∨ yo = 34
 ·obtain ⟨q, rfl⟩ := Int.eq_ofNat_of_zero_le (HIN.out (by rcases o33 with rfl | rfl <;> decide))
  have hq0 : (0 : Int) ≤ (q : Int) := by omega
  by_cases hq1 : q < 1
  ·obtain rfl : q = 0 := by omega
   have d1 : decide (((0 : Nat) : Int) < 1) = true := by decide
   rcases o33 with rfl | rfl
   ·go_wp2_with fail
    go_ret3
    exact ⟨none, 0, 0, [], none, 0, 0, [], 13, rfl, by omega, by omega, sli_nil _, sli_nil _, HBW5.out _ (Below.refl _ _), fun h => absurd h (by decide)⟩
   ·go_wp2_with fail
    go_ret3
    exact ⟨none, 0, 0, [], none, 0, 0, [], 13, rfl, by omega, by omega, sli_nil _, sli_nil _, HBW5.out _ (Below.refl _ _), fun h => absurd h (by decide)⟩
  ·have d1 : decide ((q : Int) < 1) = false := dcF (by omega)
   have d1b : decide (q < 1) = false := dcF (by omega)
   have d1c : (decide (q = 0)) = false := dcF (by omega)
   by_cases hq2 : q < n6
   ·have d2 : decide ((q : Int) ≥ (n6 : Int)) = false := dcF (by omega)
    have d2b : decide (n6 ≤ q) = false := dcF (by omega)
    rcases o33 with rfl | rfl
    ·go_wp2_with fail
     go_ret3
     exact ⟨EA, ek, ec, _, EB, em, ed, _, 0, rfl, by have := HEA.out.1; omega, by have := HEA.out.2.1; omega, HEA.out.2.2.1, HEA.out.2.2.2, HBW5.out _ (Below.refl _ _), fun _ => absurd hq2 (by have := HN6.out; omega)⟩
    ·go_wp2_with fail
     go_ret3
     exact ⟨EA, ek, ec, _, EB, em, ed, _, 0, rfl, by have := HEA.out.1; omega, by have := HEA.out.2.1; omega, HEA.out.2.2.1, HEA.out.2.2.2, HBW5.out _ (Below.refl _ _), fun _ => absurd hq2 (by have := HN6.out; omega)⟩
   ·have d2 : decide ((q : Int) ≥ (n6 : Int)) = true := dcT (by omega)
    have d2b : decide (n6 ≤ q) = true := dcT (by omega)
    rcases o33 with rfl | rfl
    ·go_wp2_with fail
     go_ret3
     exact ⟨none, 0, 0, [], none, 0, 0, [], 13, rfl, by omega, by omega, sli_nil _, sli_nil _, HBW5.out _ (Below.refl _ _), fun h => absurd h (by decide)⟩
    ·go_wp2_with fail
     go_ret3
     exact ⟨none, 0, 0, [], none, 0, 0, [], 13, rfl, by omega, by omega, sli_nil _, sli_nil _, HBW5.out _ (Below.refl _ _), fun h => absurd h (by decide)⟩
 have e33 : (yo == 33) = false := by rw [beq_eq_false_iff_ne]; omega
 have e34 : (yo == 34) = false := by rw [beq_eq_false_iff_ne]; omega
 by_cases o25 : yo = 25
 ·subst o25
  by_cases hs0 : sn = 0
  ·subst hs0
   have d1 : decide (((0 : Nat) : Int) > 0) = false := by decide
   go_wp2_with fail
   go_ret3
   exact ⟨EA, ek, ec, _, EB, em, ed, _, 0, rfl, by have := HEA.out.1; omega, by have := HEA.out.2.1; omega, HEA.out.2.2.1, HEA.out.2.2.2, HBW5.out _ (Below.refl _ _), fun _ => NeedsK.mk' HCD.out (by obtain rfl : st = [] := List.eq_nil_of_length_eq_zero HSL1.out; exact NeedsR.mkRet)⟩
  ·have d1 : decide ((sn : Int) > 0) = true := dcT (by omega)
   have d1b : decide (0 < sn) = true := dcT (by omega)
   go_wp2_with fail
   go_ret3
   exact ⟨none, 0, 0, [], none, 0, 0, [], 10, rfl, by omega, by omega, sli_nil _, sli_nil _, HBW5.out _ (Below.refl _ _), fun h => absurd h (by decide)⟩
 have e25 : (yo == 25) = false := by rw [beq_eq_false_iff_ne]; omega
 go_wp2_with fail
 go_ret3
 exact ⟨EA, ek, ec, _, EB, em, ed, _, 0, rfl, by have := HEA.out.1; omega, by have := HEA.out.2.1; omega, HEA.out.2.2.1, HEA.out.2.2.2, HBW5.out _ (Below.refl _ _), fun _ => NeedsK.mk' HCD.out (NeedsR.mkRest o2 o4 o23 o28 o33 o25)⟩
end
section
open Go.RowKit
theorem sli_drop {w : World} {B g o n c l : Nat} {xs : List Int} (h : SlI w B (some ⟨g, o, none⟩) (n + l) c xs) : SlI w B (some ⟨g, o + l, none⟩) n (c - l) (xs.drop l) := by
 obtain ⟨h1, h2, h3, h4, h5⟩ := h
 refine ⟨by simp; omega, by omega, by omega, by omega, fun hp => ?_⟩
 obtain ⟨b, off, hA, hb, hx⟩ := h5 (by omega)
 injection hA with hA
 injection hA with e1 e2
 subst e1
 subst e2
 refine ⟨g, o + l, rfl, hb, fun i x hi => ?_⟩
 rw [List.getElem?_drop] at hi
 obtain ⟨cs, e1, e2, e3⟩ := hx (l + i) x hi
 refine ⟨cs, e1, fun j u hj => ?_, e3⟩
 have := e2 j u hj
 rw [show o + ((l + i) * 1 + j) = o + l + (i * 1 + j) by omega] at this
 exact this
theorem sli_take {w : World} {B n c l : Nat} {A : Option Addr} {xs : List Int} (h : SlI w B A (n + l) c xs) : SlI w B A l c (xs.take l) := by
 obtain ⟨h1, h2, h3, h4, h5⟩ := h
 refine ⟨by simp; omega, by omega, h3, by omega, fun hp => ?_⟩
 obtain ⟨b, off, hA, hb, hx⟩ := h5 (by omega)
 refine ⟨b, off, hA, hb, fun i x hi => ?_⟩
 rw [List.getElem?_take] at hi
 split at hi
 ·exact hx i x hi
 ·cases hi
theorem sli_null {w : World} {B c : Nat} {A : Option Addr} {xs : List Int} (_ : Nat) (hc : c ≤ maxLen) (hx : xs.length = 0) : SlI w B A 0 c xs := ⟨hx, Nat.zero_le _, hc, by simp, fun h => by omega⟩
theorem sli_src {w : World} {B n c : Nat} {A : Option Addr} {xs : List Int} (h : SlI w B A n c xs) : SrcCells w A n 1 (xs.flatMap iC) := SlR.src (f := iC) (fun _ => rfl) h
end
end Go.Proofs.YtobmjnmcjddhcaaGreat
