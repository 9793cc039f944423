import Derived.Test.YtobmjnmcjddhcaaGreatRg2
import Derived.Test.YtobmjnmcjddhcaaGreatRg6
import Derived.Deep.DeepCutAuto
import Derived.Deep.LoopGhost
set_option linter.unusedSimpArgs false
set_option linter.unusedVariables false
namespace Go.Proofs.YtobmjnmcjddhcaaGreat
section
set_option maxRecDepth 100000
set_option maxHeartbeats 16000000
open Go.RowKit
structure PgC (w : World) (FA : Option Addr) (fn fc : Nat) (fs : List DFunc) : Prop where
 pg : PgO w FA fn fc fs
 can : ∀ x ∈ fs, canOk x
theorem PgC.on {w w' : World} {FA : Option Addr} {fn fc : Nat} {fs : List DFunc} (h : PgC w FA fn fc fs) (hb : Below w.heap.size w w') : PgC w' FA fn fc fs := ⟨h.pg.on hb, h.can⟩
theorem PgC.get {w : World} {FA : Option Addr} {fn fc : Nat} {fs : List DFunc} (h : PgC w FA fn fc fs) {i : Nat} (hi : i < fn) :
  ∃ bk off, ∃ s b, ∃ A0 n0 c0, ∃ A1 n1 c1, ∃ A2 n2 c2, ∃ A3 n3 c3, ∃ A4 n4 c4, ∃ A5 n5 c5, ∃ A6 n6 c6, ∃ A7 n7 c7, ∃ A8 n8 c8, ∃ x, FA = some ⟨bk, off, none⟩ ∧ bk < w.heap.size ∧ fs[i]? = some x ∧ (∀ (j : Nat) (u : Value), [.string s, .bool b, .slice A0 n0 c0, .slice A1 n1 c1, .slice A2 n2 c2, .slice A3 n3 c3, .slice A4 n4 c4, .slice A5 n5 c5, .slice A6 n6 c6, .slice A7 n7 c7, .slice A8 n8 c8][j]? = some u → w.cell? ⟨bk, off + i * 11 + j, none⟩ = some u) ∧ FnW w w.heap.size s b A0 n0 c0 A1 n1 c1 A2 n2 c2 A3 n3 c3 A4 n4 c4 A5 n5 c5 A6 n6 c6 A7 n7 c7 A8 n8 c8 x ∧ canOk x := by
 obtain ⟨b, off, V, x, hA, hb, hx, hq, hf, -⟩ := h.pg.at_ hi
 refine ⟨b, off, V.s, V.b, V.A0, V.n0, V.c0, V.A1, V.n1, V.c1, V.A2, V.n2, V.c2, V.A3, V.n3, V.c3, V.A4, V.n4, V.c4, V.A5, V.n5, V.c5, V.A6, V.n6, V.c6, V.A7, V.n7, V.c7, V.A8, V.n8, V.c8, x, hA, hb, hx, fun j u hj => ?_, hf, h.can x (List.mem_of_getElem? hx)⟩
 match j, hj with
 | 0, hj => injection hj with hj; subst hj; exact hq.e0
 | 1, hj => injection hj with hj; subst hj; exact hq.e1
 | 2, hj => injection hj with hj; subst hj; exact hq.e2
 | 3, hj => injection hj with hj; subst hj; exact hq.e3
 | 4, hj => injection hj with hj; subst hj; exact hq.e4
 | 5, hj => injection hj with hj; subst hj; exact hq.e5
 | 6, hj => injection hj with hj; subst hj; exact hq.e6
 | 7, hj => injection hj with hj; subst hj; exact hq.e7
 | 8, hj => injection hj with hj; subst hj; exact hq.e8
 | 9, hj => injection hj with hj; subst hj; exact hq.e9
 | 10, hj => injection hj with hj; subst hj; exact hq.e10
 | n + 11, hj => simp at hj
theorem at_ok {w : World} {B : Nat} (s : ByteArray) (b : Bool) (A0 : Option Addr) (n0 c0 : Nat) (A1 : Option Addr) (n1 c1 : Nat) (A2 : Option Addr) (n2 c2 : Nat) (A3 : Option Addr) (n3 c3 : Nat) (A4 : Option Addr) (n4 c4 : Nat) (A5 : Option Addr) (n5 c5 : Nat) (A6 : Option Addr) (n6 c6 : Nat) (A7 : Option Addr) (n7 c7 : Nat) (A8 : Option Addr) (n8 c8 : Nat) {x : DFunc} (h : FnW w B s b A0 n0 c0 A1 n1 c1 A2 n2 c2 A3 n3 c3 A4 n4 c4 A5 n5 c5 A6 n6 c6 A7 n7 c7 A8 n8 c8 x) (hc : canOk x) {k : Nat} (hk : k < n4) : (n6 + n7 + n8 = 0 ∧ ndM x k = 0) ∨ (n6 + n7 + n8 ≠ 0 ∧ 1 ≤ n6 ∧ n7 = n4 ∧ n8 = n4 ∧ nodesOk x.nodes ∧ 0 ≤ ndM x k ∧ ndM x k < (n6 : Int) ∧ ndM x k = x.at_.getD k 0) := by
 have l4 := h.r4.1
 have l6 := h.r6.1
 have l7 := h.r7.1
 have l8 := h.r8.1
 rcases hc.tab with ⟨a1, a2, a3⟩ | ⟨a1, a2, a3, a4⟩
 ·left
  rw [a1] at l6; rw [a2] at l7; rw [a3] at l8
  simp at l6 l7 l8
  refine ⟨by omega, ?_⟩
  unfold ndM
  rw [a1, a2, a3]
  rfl
 ·right
  have a5 := a1.1
  have e : ndM x k = x.at_.getD k 0 := by
   unfold ndM
   rw [if_neg (by omega)]
  have hx : x.at_.getD k 0 ∈ x.at_ := by
   rw [List.getD_eq_getElem?_getD, List.getElem?_eq_getElem (by omega)]
   exact List.getElem_mem _
  have := a4 _ hx
  exact ⟨by omega, by omega, by omega, by omega, a1, by rw [e]; exact this.1, by rw [e]; omega, e⟩
def bareF (x : DFunc) : Bool := decide (x.nodes.length + x.at_.length + x.live.length = 0)
def ownerM (x : DFunc) (f k : Nat) : Int := if bareF x = true then (f : Int) else (x.nodes.getD (ndM x k).toNat zN).fn
theorem rowner_any (FA : Option Addr) (fn fc : Nat) (fs : List DFunc) (f k : Nat) (x0 : DFunc) (w : World) (h : PgC w FA fn fc fs) (hi : f < fn) (hx0 : fs[f]? = some x0) (hk : k < x0.code.length) :
  Calls Tryz.prog 147 #[.agg #[.slice FA fn fc], .int .i64 (f : Int), .int .i64 (k : Int)] w fun e w' => e = .returned (.int .i64 (ownerM x0 f k)) ∧ 0 ≤ ownerM x0 f k ∧ ownerM x0 f k ≤ 49 ∧ Below w.heap.size w w' := by
 obtain ⟨w1, hw1⟩ : ∃ X, w.alloc (.cells #[.slice FA fn fc] 24) = X := ⟨_, rfl⟩
 obtain ⟨g, hg⟩ : ∃ g, w.heap.size = g := ⟨_, rfl⟩
 have hb1 : Below w.heap.size w w1 := by rw [← hw1]; exact bl_one _
 have hc1 : Cells w1 g [.slice FA fn fc] := by rw [← hw1, ← hg]; exact Cells.new w [.slice FA fn fc] _
 have EP : Hid (∀ W, Below w1.heap.size w1 W → W.cell? ⟨g, 0, none⟩ = some (.slice FA fn fc)) := Hd fun W hW => (hc1.on hW).at_ 0 _ rfl
 have HP : Hid (∀ W, Below w1.heap.size w1 W → PgC W FA fn fc fs) := Hd fun W hW => h.on (hb1.trans (hW.mono hb1.size))
 have HB1 := Hd hb1
 have HBW : Hid (∀ W, Below w1.heap.size w1 W → Below w.heap.size w W) := Hd fun W hW => hb1.trans (hW.mono hb1.size)
 have hfn := h.pg.le
 have hn0 : (fn : Int) ≤ 50 := by omega
 have p0 := EP.out w1 (Below.refl _ _)
 clear hb1 hc1
 obtain ⟨bk, off, s, b, A0, n0, c0, A1, n1, c1, A2, n2, c2, A3, n3, c3, A4, n4, c4, A5, n5, c5, A6, n6, c6, A7, n7, c7, A8, n8, c8, x, rfl, hbk, hx, hcf, hfw, hcan⟩ := (HP.out w1 (Below.refl _ _)).get (i := f) hi
 have y0 := hcf 0 _ rfl
 have y1 := hcf 1 _ rfl
 have y2 := hcf 2 _ rfl
 have y3 := hcf 3 _ rfl
 have y4 := hcf 4 _ rfl
 have y5 := hcf 5 _ rfl
 have y6 := hcf 6 _ rfl
 have y7 := hcf 7 _ rfl
 have y8 := hcf 8 _ rfl
 have y9 := hcf 9 _ rfl
 have y10 := hcf 10 _ rfl
 simp only [Nat.add_zero] at y0
 obtain rfl : x0 = x := by rw [hx0] at hx; injection hx
 have l4 := hfw.r4.1
 have l6 := hfw.r6.1
 have l7 := hfw.r7.1
 have l8 := hfw.r8.1
 obtain ⟨s4, s5, s6, s7, s8, s0⟩ := hfw.sm
 have hf0 : (0 : Int) ≤ (f : Int) := by omega
 have hf1 : (f : Int) < (fn : Int) := by omega
 have hk0 : (0 : Int) ≤ (k : Int) := by omega
 have hk1 : (k : Int) ≤ 150 := by omega
 have HOK := Hd (at_ok s b A0 n0 c0 A1 n1 c1 A2 n2 c2 A3 n3 c3 A4 n4 c4 A5 n5 c5 A6 n6 c6 A7 n7 c7 A8 n8 c8 hfw hcan (show k < n4 by omega))
 have HFW := Hd hfw
 have HBR : Hid (bareF x0 = decide (n6 + n7 + n8 = 0)) := Hd (by unfold bareF; rw [l6, l7, l8])
 clear h hfw hcan hcf hx hx0 l4 l6 l7 l8
 go_in
 go_upto_region 2 with fail
 clear y0 y1 y2 y3 y4 y5 y6 y7 y8 y9 y10
 obtain ⟨w2, hw2⟩ : ∃ X, w1.alloc (.cells #[.string s, .bool b, .slice A0 n0 c0, .slice A1 n1 c1, .slice A2 n2 c2, .slice A3 n3 c3, .slice A4 n4 c4, .slice A5 n5 c5, .slice A6 n6 c6, .slice A7 n7 c7, .slice A8 n8 c8] 38) = X := ⟨_, rfl⟩
 obtain ⟨g2, hg2⟩ : ∃ X, w1.heap.size = X := ⟨_, rfl⟩
 have hb2 : Below w1.heap.size w1 w2 := by rw [← hw2]; exact bl_one _
 have hc2 : Cells w2 g2 [.string s, .bool b, .slice A0 n0 c0, .slice A1 n1 c1, .slice A2 n2 c2, .slice A3 n3 c3, .slice A4 n4 c4, .slice A5 n5 c5, .slice A6 n6 c6, .slice A7 n7 c7, .slice A8 n8 c8] := by rw [← hw2, ← hg2]; exact Cells.new w1 [.string s, .bool b, .slice A0 n0 c0, .slice A1 n1 c1, .slice A2 n2 c2, .slice A3 n3 c3, .slice A4 n4 c4, .slice A5 n5 c5, .slice A6 n6 c6, .slice A7 n7 c7, .slice A8 n8 c8] _
 rw [hw2, hg2]
 have HC2 : Hid (∀ W, Below w2.heap.size w2 W → Cells W g2 [.string s, .bool b, .slice A0 n0 c0, .slice A1 n1 c1, .slice A2 n2 c2, .slice A3 n3 c3, .slice A4 n4 c4, .slice A5 n5 c5, .slice A6 n6 c6, .slice A7 n7 c7, .slice A8 n8 c8]) := Hd fun W hW => hc2.on hW
 have HB2 := Hd hb2
 have HF2 : Hid (∀ W, Below w2.heap.size w2 W → FnW W W.heap.size s b A0 n0 c0 A1 n1 c1 A2 n2 c2 A3 n3 c3 A4 n4 c4 A5 n5 c5 A6 n6 c6 A7 n7 c7 A8 n8 c8 x0) := Hd fun W hW => (HFW.out.keep (hb2.trans (hW.mono hb2.size))).more (hb2.trans (hW.mono hb2.size)).size
 have EQ : Hid (∀ W, Below w2.heap.size w2 W → W.cell? ⟨g2, 0, none⟩ = some (.string s) ∧ W.cell? ⟨g2, 1, none⟩ = some (.bool b) ∧ W.cell? ⟨g2, 2, none⟩ = some (.slice A0 n0 c0) ∧ W.cell? ⟨g2, 3, none⟩ = some (.slice A1 n1 c1) ∧ W.cell? ⟨g2, 4, none⟩ = some (.slice A2 n2 c2) ∧ W.cell? ⟨g2, 5, none⟩ = some (.slice A3 n3 c3) ∧ W.cell? ⟨g2, 6, none⟩ = some (.slice A4 n4 c4) ∧ W.cell? ⟨g2, 7, none⟩ = some (.slice A5 n5 c5) ∧ W.cell? ⟨g2, 8, none⟩ = some (.slice A6 n6 c6) ∧ W.cell? ⟨g2, 9, none⟩ = some (.slice A7 n7 c7) ∧ W.cell? ⟨g2, 10, none⟩ = some (.slice A8 n8 c8)) := Hd fun W hW => ⟨(HC2.out W hW).at_ 0 _ rfl, (HC2.out W hW).at_ 1 _ rfl, (HC2.out W hW).at_ 2 _ rfl, (HC2.out W hW).at_ 3 _ rfl, (HC2.out W hW).at_ 4 _ rfl, (HC2.out W hW).at_ 5 _ rfl, (HC2.out W hW).at_ 6 _ rfl, (HC2.out W hW).at_ 7 _ rfl, (HC2.out W hW).at_ 8 _ rfl, (HC2.out W hW).at_ 9 _ rfl, (HC2.out W hW).at_ 10 _ rfl⟩
 have e0 := hc2.at_ 0 _ rfl
 have e1 := hc2.at_ 1 _ rfl
 have e2 := hc2.at_ 2 _ rfl
 have e3 := hc2.at_ 3 _ rfl
 have e4 := hc2.at_ 4 _ rfl
 have e5 := hc2.at_ 5 _ rfl
 have e6 := hc2.at_ 6 _ rfl
 have e7 := hc2.at_ 7 _ rfl
 have e8 := hc2.at_ 8 _ rfl
 have e9 := hc2.at_ 9 _ rfl
 have e10 := hc2.at_ 10 _ rfl
 clear hw2 hg2 hc2 hb2 hw1 hg HFW
 by_cases hbr : n6 + n7 + n8 = 0
 ·have cB := Hd (rbare_any s b A0 n0 c0 A1 n1 c1 A2 n2 c2 A3 n3 c3 A4 n4 c4 A5 n5 c5 A6 n6 c6 A7 n7 c7 A8 n8 c8 w2 (by omega) (by omega) (by omega) true (decide_eq_true hbr).symm)
  have HV : Hid (ownerM x0 f k = (f : Int)) := Hd (by unfold ownerM; rw [HBR.out, decide_eq_true hbr]; rfl)
  clear hbr
  go_wp2_with fail
  refine cB.out.mono ?_
  rintro e w3 ⟨rfl, hb3⟩
  have HB3 := Hd hb3
  clear hb3
  go_wp2_with fail
  go_ret
  exact ⟨by rw [HV.out]; rfl, by rw [HV.out]; omega, by rw [HV.out]; omega, HBW.out _ (HB2.out.trans (HB3.out.mono HB2.out.size))⟩
 ·have cB := Hd (rbare_any s b A0 n0 c0 A1 n1 c1 A2 n2 c2 A3 n3 c3 A4 n4 c4 A5 n5 c5 A6 n6 c6 A7 n7 c7 A8 n8 c8 w2 (by omega) (by omega) (by omega) false (decide_eq_false hbr).symm)
  obtain ⟨hn61, hn7, hn8, hnds, hd0, hd1, hde⟩ : 1 ≤ n6 ∧ n7 = n4 ∧ n8 = n4 ∧ nodesOk x0.nodes ∧ 0 ≤ ndM x0 k ∧ ndM x0 k < (n6 : Int) ∧ ndM x0 k = x0.at_.getD k 0 := by
   rcases HOK.out with ⟨h1, _⟩ | ⟨_, h⟩
   ·exact absurd h1 hbr
   ·exact h
  have HV : Hid (ownerM x0 f k = (x0.nodes.getD (ndM x0 k).toNat zN).fn) := Hd (by unfold ownerM; rw [HBR.out, decide_eq_false hbr]; rfl)
  obtain ⟨nb, noff, q, z, rfl, hnb, hq, hqn, hz, _, hzc⟩ := node_get (x := x0) (HF2.out w2 (Below.refl _ _)).r6 hd0 hd1
  have HV2 : Hid (ownerM x0 f k = z.fn ∧ 0 ≤ z.fn ∧ z.fn ≤ 39) := Hd (by
   have hok := hnds.2.2 q z hz
   refine ⟨?_, hok.1, hok.2.1⟩
   rw [HV.out, hq, List.getD_eq_getElem?_getD, show ((q : Int).toNat) = q from rfl, hz]; rfl)
  have cN : Hid (∀ W, Below w2.heap.size w2 W → Calls Tryz.prog 149 #[.agg #[.string s, .bool b, .slice A0 n0 c0, .slice A1 n1 c1, .slice A2 n2 c2, .slice A3 n3 c3, .slice A4 n4 c4, .slice A5 n5 c5, .slice (some ⟨nb, noff, none⟩) n6 c6, .slice A7 n7 c7, .slice A8 n8 c8], .int .i64 (k : Int)] W fun e w' => e = .returned (.int .i64 (q : Int)) ∧ Below W.heap.size W w') := Hd fun W hW => by rw [← hq]; exact rnode_any s b A0 n0 c0 A1 n1 c1 A2 n2 c2 A3 n3 c3 A4 n4 c4 A5 n5 c5 (some ⟨nb, noff, none⟩) n6 c6 A7 n7 c7 A8 n8 c8 x0 k W (HF2.out W hW) (by omega)
  have z1 := hzc 1 _ rfl
  obtain ⟨zf, hzf⟩ : ∃ v, z.fn = v := ⟨_, rfl⟩
  rw [hzf] at z1 HV2
  have HZ1 := Hd z1
  have q0 : (0 : Int) ≤ (q : Int) := by omega
  have q1 : (q : Int) < (n6 : Int) := by omega
  clear hbr hnds hd0 hd1 hde hn7 hn8 hq hz hzc hzf HV HOK z1
  go_wp2_with fail
  refine cB.out.mono ?_
  rintro e w3 ⟨rfl, hb3⟩
  have HB3 := Hd hb3
  clear hb3 cB e0 e1 e2 e3 e4 e5 e6 e7 e8 e9 e10
  go_wp2_with fail
  refine wp_region_held (S := fun W => Below w3.heap.size w3 W) (by kernel_rfl) ?_
  change wpAnyH _ _ _ _ _ _ _ _ (World.drew _)
  have hS0 : Below w3.heap.size w3 w3.drew := (Below.refl _ _).drew
  refine teH 0 (.pointer (some ⟨g2, 8, none⟩)) rfl (by intro W hW; go_simp; try (first | (with_reducible rfl) | omega)) hS0 ?_
  refine teH 2 (.agg #[.string s, .bool b, .slice A0 n0 c0, .slice A1 n1 c1, .slice A2 n2 c2, .slice A3 n3 c3, .slice A4 n4 c4, .slice A5 n5 c5, .slice (some ⟨nb, noff, none⟩) n6 c6, .slice A7 n7 c7, .slice A8 n8 c8]) rfl (by intro W hW; have hW2 : Below w2.heap.size w2 W := HB3.out.trans (hW.mono HB3.out.size); obtain ⟨e0, e1, e2, e3, e4, e5, e6, e7, e8, e9, e10⟩ := EQ.out W hW2; have z1 := (hW2.cell (p := ⟨nb, noff + q * 7 + 1, none⟩) hnb).trans HZ1.out; go_simp; try (first | (with_reducible rfl) | omega)) hS0 ?_
  refine teH 3 (.int .i64 (k : Int)) rfl (by intro W hW; go_simp; try (first | (with_reducible rfl) | omega)) hS0 ?_
  try go_simp
  refine teH 1 (.slice (some ⟨nb, noff, none⟩) n6 c6) rfl (by intro W hW; have hW2 : Below w2.heap.size w2 W := HB3.out.trans (hW.mono HB3.out.size); obtain ⟨e0, e1, e2, e3, e4, e5, e6, e7, e8, e9, e10⟩ := EQ.out W hW2; have z1 := (hW2.cell (p := ⟨nb, noff + q * 7 + 1, none⟩) hnb).trans HZ1.out; go_simp; try (first | (with_reducible rfl) | omega)) hS0 ?_
  try go_simp
  refine wpAnyH_one (i := 4) (by kernel_rfl) rfl (fun K hK => ?_)
  go_simp
  refine (cN.out _ (HB3.out.trans (hS0.mono HB3.out.size))).mono ?_
  rintro e w4 ⟨rfl, hb4⟩
  have hS4 : Below w3.heap.size w3 w4 := hS0.trans (hb4.mono hS0.size)
  clear hb4
  go_simp
  refine hK _ _ ⟨hS4, ?_⟩; clear hK K
  try go_simp
  refine teH 5 (.pointer (some ⟨nb, noff + q * 7, none⟩)) rfl (by intro W hW; go_simp; try (first | (with_reducible rfl) | omega)) hS4 ?_
  try go_simp
  refine teH 6 (.pointer (some ⟨nb, noff + q * 7 + 1, none⟩)) rfl (by intro W hW; go_simp; try (first | (with_reducible rfl) | omega)) hS4 ?_
  try go_simp
  refine teH 7 (.int .i64 zf) rfl (by intro W hW; have hW2 : Below w2.heap.size w2 W := HB3.out.trans (hW.mono HB3.out.size); obtain ⟨e0, e1, e2, e3, e4, e5, e6, e7, e8, e9, e10⟩ := EQ.out W hW2; have z1 := (hW2.cell (p := ⟨nb, noff + q * 7 + 1, none⟩) hnb).trans HZ1.out; go_simp; try (first | (with_reducible rfl) | omega)) hS4 ?_
  try go_simp
  refine wpAnyH_one (i := 8) (by kernel_rfl) rfl (fun K hK => ?_)
  go_simp
  refine hK _ _ ⟨hS4, ?_⟩; clear hK K
  try go_simp
  refine wpAnyH_done (by kernel_rfl) ?_ _
  try go_simp
  go_wp2_with fail
  go_ret
  exact ⟨by rw [HV2.out.1]; rfl, by rw [HV2.out.1]; exact HV2.out.2.1, by rw [HV2.out.1]; have := HV2.out.2.2; omega, HBW.out _ ((HB2.out.trans (HB3.out.mono HB2.out.size)).trans (hS4.mono (Nat.le_trans HB2.out.size HB3.out.size)))⟩
def IsOut (w : World) (e : Ending) (w' : World) : Prop := ∃ A k c l r, e = .returned (.tuple #[.slice A k c, .bool r]) ∧ k ≤ 300 ∧ SlI w' w'.heap.size A k c l ∧ Below w.heap.size w w'
theorem router_any (FA : Option Addr) (fn fc : Nat) (fs : List DFunc) (f k : Nat) (x0 : DFunc) (w : World) (h : PgC w FA fn fc fs) (hi : f < fn) (hx0 : fs[f]? = some x0) (hk : k < x0.code.length) :
  Calls Tryz.prog 148 #[.agg #[.slice FA fn fc], .int .i64 (f : Int), .int .i64 (k : Int)] w (IsOut w) := by
 obtain ⟨w1, hw1⟩ : ∃ X, w.alloc (.cells #[.slice FA fn fc] 24) = X := ⟨_, rfl⟩
 obtain ⟨g, hg⟩ : ∃ g, w.heap.size = g := ⟨_, rfl⟩
 have hb1 : Below w.heap.size w w1 := by rw [← hw1]; exact bl_one _
 have hc1 : Cells w1 g [.slice FA fn fc] := by rw [← hw1, ← hg]; exact Cells.new w [.slice FA fn fc] _
 have EP : Hid (∀ W, Below w1.heap.size w1 W → W.cell? ⟨g, 0, none⟩ = some (.slice FA fn fc)) := Hd fun W hW => (hc1.on hW).at_ 0 _ rfl
 have HP : Hid (∀ W, Below w1.heap.size w1 W → PgC W FA fn fc fs) := Hd fun W hW => h.on (hb1.trans (hW.mono hb1.size))
 have HB1 := Hd hb1
 have HBW : Hid (∀ W, Below w1.heap.size w1 W → Below w.heap.size w W) := Hd fun W hW => hb1.trans (hW.mono hb1.size)
 have hfn := h.pg.le
 have hn0 : (fn : Int) ≤ 50 := by omega
 have p0 := EP.out w1 (Below.refl _ _)
 clear hb1 hc1
 obtain ⟨o, ho⟩ : ∃ v, ownerM x0 f k = v := ⟨_, rfl⟩
 have cO := Hd (rowner_any FA fn fc fs f k x0 w1 (HP.out w1 (Below.refl _ _)) hi hx0 hk)
 rw [ho] at cO
 clear ho h hx0 hk
 go_in
 go_wp2_with fail
 refine cO.out.mono ?_
 rintro e w2 ⟨rfl, ho0, ho1, hb2⟩
 have HB2 := Hd hb2
 have p2 := EP.out w2 hb2
 clear hb2 cO p0 hw1 hg
 have d0 : decide (o < 0) = false := dcF (by omega)
 by_cases hof : o < (fn : Int)
 ·obtain ⟨q, rfl⟩ := Int.eq_ofNat_of_zero_le ho0
  have hq : q < fn := by omega
  have d1 : decide ((q : Int) ≥ (fn : Int)) = false := dcF (by omega)
  have d1b : decide (fn ≤ q) = false := dcF (by omega)
  obtain ⟨bk, off, s, b, A0, n0, c0, A1, n1, c1, A2, n2, c2, A3, n3, c3, A4, n4, c4, A5, n5, c5, A6, n6, c6, A7, n7, c7, A8, n8, c8, x, rfl, hbk, hx, hcf, hfw, hcan⟩ := (HP.out w2 HB2.out).get hq
  have y1 := hcf 1 _ rfl
  have y2 := hcf 2 _ rfl
  have HR0 := Hd hfw.r0
  obtain ⟨s4, s5, s6, s7, s8, s0⟩ := hfw.sm
  clear hcf hfw hcan hx
  cases b with
  | true =>
   go_wp2_with fail
   go_ret2
   exact ⟨A0, n0, c0, x.outer, true, rfl, by omega, HR0.out, HBW.out _ HB2.out⟩
  | false =>
   go_wp2_with fail
   go_ret2
   exact ⟨none, 0, 0, [], false, rfl, by omega, sli_nil _, HBW.out _ HB2.out⟩
 ·have d1 : decide (o ≥ (fn : Int)) = true := dcT (by omega)
  have d1b : decide ((fn : Int) ≤ o) = true := dcT (by omega)
  go_wp2_with fail
  go_ret2
  exact ⟨none, 0, 0, [], false, rfl, by omega, sli_nil _, HBW.out _ HB2.out⟩
end
section
open Go.RowKit
abbrev typesM (x : DFunc) : List Int := x.params ++ x.results ++ x.locals
structure NeedsR (fs : List DFunc) (x : DFunc) (o a : Int) (st xs ys : List Int) : Prop where
 load : o = 2 → ∃ (q : Nat) (t : Int), a = (q : Int) ∧ (typesM x)[q]? = some t ∧ xs = [] ∧ ys = [t]
 store : o = 3 → ∃ (q : Nat) (t : Int), a = (q : Int) ∧ (typesM x)[q]? = some t ∧ xs = [t] ∧ ys = []
 pop : o = 4 → ∃ t, st.getLast? = some t ∧ xs = [t] ∧ ys = []
 dup : o = 5 → ∃ t, st.getLast? = some t ∧ xs = [] ∧ ys = [t]
 call : o = 23 → ∃ (q : Nat) (g : DFunc), a = (q : Int) ∧ fs[q]? = some g ∧ xs = g.params ∧ ys = g.results
 later : o = 24 → ∃ (q : Nat) (g : DFunc), a = (q : Int) ∧ fs[q]? = some g ∧ xs = g.params ∧ ys = []
 get_ : o = 28 → ∃ (q : Nat) (t : Int), a = (q : Int) ∧ x.inner = true ∧ x.outer[q]? = some t ∧ xs = [] ∧ ys = [t]
 set_ : o = 29 → ∃ (q : Nat) (t : Int), a = (q : Int) ∧ x.inner = true ∧ x.outer[q]? = some t ∧ xs = [t] ∧ ys = []
 opens : o ≠ 33 ∧ o ≠ 34
 ret : o = 25 → st = []
 rest : o ≠ 2 → o ≠ 3 → o ≠ 4 → o ≠ 5 → o ≠ 23 → o ≠ 24 → o ≠ 28 → o ≠ 29 → xs = (effM o).1 ∧ ys = (effM o).2
theorem one_at {xs : List Int} {q : Nat} (h : q < xs.length) : ∃ t, xs[q]? = some t ∧ (xs.take (q + 1)).drop q = [t] := by
 refine ⟨xs[q], List.getElem?_eq_getElem h, ?_⟩
 apply List.ext_getElem?
 intro i
 rw [List.getElem?_drop, List.getElem?_take]
 cases i with
 | zero => simp [List.getElem?_eq_getElem h]
 | succ i => rw [if_neg (by omega)]; simp
theorem NeedsR.mkLoad {fs : List DFunc} {x : DFunc} {st : List Int} {q : Nat} (h : q < (x.params ++ x.results ++ x.locals).length) : NeedsR fs x 2 (q : Int) st [] (((typesM x).take (q + 1)).drop q) where
 load := fun _ => by obtain ⟨t, h1, h2⟩ := one_at h; exact ⟨q, t, rfl, h1, rfl, h2⟩
 store := fun h => (by omega)
 pop := fun h => (by omega)
 dup := fun h => (by omega)
 call := fun h => (by omega)
 later := fun h => (by omega)
 get_ := fun h => (by omega)
 set_ := fun h => (by omega)
 opens := by omega
 ret := fun h => by omega
 rest := fun h2 h3 h4 h5 h23 h24 h28 h29 => by omega
theorem NeedsR.mkStore {fs : List DFunc} {x : DFunc} {st : List Int} {q : Nat} (h : q < (x.params ++ x.results ++ x.locals).length) : NeedsR fs x 3 (q : Int) st (((typesM x).take (q + 1)).drop q) [] where
 load := fun h => (by omega)
 store := fun _ => by obtain ⟨t, h1, h2⟩ := one_at h; exact ⟨q, t, rfl, h1, h2, rfl⟩
 pop := fun h => (by omega)
 dup := fun h => (by omega)
 call := fun h => (by omega)
 later := fun h => (by omega)
 get_ := fun h => (by omega)
 set_ := fun h => (by omega)
 opens := by omega
 ret := fun h => by omega
 rest := fun h2 h3 h4 h5 h23 h24 h28 h29 => by omega
theorem NeedsR.mkPop {fs : List DFunc} {x : DFunc} {st : List Int} {a t : Int} (h : st.getLast? = some t) : NeedsR fs x 4 a st [t] [] where
 load := fun h => (by omega)
 store := fun h => (by omega)
 pop := fun _ => ⟨t, h, rfl, rfl⟩
 dup := fun h => (by omega)
 call := fun h => (by omega)
 later := fun h => (by omega)
 get_ := fun h => (by omega)
 set_ := fun h => (by omega)
 opens := by omega
 ret := fun h => by omega
 rest := fun h2 h3 h4 h5 h23 h24 h28 h29 => by omega
theorem NeedsR.mkDup {fs : List DFunc} {x : DFunc} {st : List Int} {a t : Int} (h : st.getLast? = some t) : NeedsR fs x 5 a st [] [t] where
 load := fun h => (by omega)
 store := fun h => (by omega)
 pop := fun h => (by omega)
 dup := fun _ => ⟨t, h, rfl, rfl⟩
 call := fun h => (by omega)
 later := fun h => (by omega)
 get_ := fun h => (by omega)
 set_ := fun h => (by omega)
 opens := by omega
 ret := fun h => by omega
 rest := fun h2 h3 h4 h5 h23 h24 h28 h29 => by omega
theorem NeedsR.mkCall {fs : List DFunc} {x : DFunc} {st : List Int} {q : Nat} {g : DFunc} (h : fs[q]? = some g) : NeedsR fs x 23 (q : Int) st g.params g.results where
 load := fun h => (by omega)
 store := fun h => (by omega)
 pop := fun h => (by omega)
 dup := fun h => (by omega)
 call := fun _ => ⟨q, g, rfl, h, rfl, rfl⟩
 later := fun h => (by omega)
 get_ := fun h => (by omega)
 set_ := fun h => (by omega)
 opens := by omega
 ret := fun h => by omega
 rest := fun h2 h3 h4 h5 h23 h24 h28 h29 => by omega
theorem NeedsR.mkLater {fs : List DFunc} {x : DFunc} {st : List Int} {q : Nat} {g : DFunc} (h : fs[q]? = some g) : NeedsR fs x 24 (q : Int) st g.params [] where
 load := fun h => (by omega)
 store := fun h => (by omega)
 pop := fun h => (by omega)
 dup := fun h => (by omega)
 call := fun h => (by omega)
 later := fun _ => ⟨q, g, rfl, h, rfl, rfl⟩
 get_ := fun h => (by omega)
 set_ := fun h => (by omega)
 opens := by omega
 ret := fun h => by omega
 rest := fun h2 h3 h4 h5 h23 h24 h28 h29 => by omega
theorem NeedsR.mkGet {fs : List DFunc} {x : DFunc} {st : List Int} {q : Nat} (hi : x.inner = true) (h : q < x.outer.length) : NeedsR fs x 28 (q : Int) st [] ((x.outer.take (q + 1)).drop q) where
 load := fun h => (by omega)
 store := fun h => (by omega)
 pop := fun h => (by omega)
 dup := fun h => (by omega)
 call := fun h => (by omega)
 later := fun h => (by omega)
 get_ := fun _ => by obtain ⟨t, h1, h2⟩ := one_at h; exact ⟨q, t, rfl, hi, h1, rfl, h2⟩
 set_ := fun h => (by omega)
 opens := by omega
 ret := fun h => by omega
 rest := fun h2 h3 h4 h5 h23 h24 h28 h29 => by omega
theorem NeedsR.mkSet {fs : List DFunc} {x : DFunc} {st : List Int} {q : Nat} (hi : x.inner = true) (h : q < x.outer.length) : NeedsR fs x 29 (q : Int) st ((x.outer.take (q + 1)).drop q) [] where
 load := fun h => (by omega)
 store := fun h => (by omega)
 pop := fun h => (by omega)
 dup := fun h => (by omega)
 call := fun h => (by omega)
 later := fun h => (by omega)
 get_ := fun h => (by omega)
 set_ := fun _ => by obtain ⟨t, h1, h2⟩ := one_at h; exact ⟨q, t, rfl, hi, h1, h2, rfl⟩
 opens := by omega
 ret := fun h => by omega
 rest := fun h2 h3 h4 h5 h23 h24 h28 h29 => by omega
theorem NeedsR.mkRet {fs : List DFunc} {x : DFunc} {a : Int} : NeedsR fs x 25 a [] (effM 25).1 (effM 25).2 where
 load := fun h => by omega
 store := fun h => by omega
 pop := fun h => by omega
 dup := fun h => by omega
 call := fun h => by omega
 later := fun h => by omega
 get_ := fun h => by omega
 set_ := fun h => by omega
 opens := by omega
 ret := fun _ => rfl
 rest := fun _ _ _ _ _ _ _ _ => ⟨rfl, rfl⟩
theorem NeedsR.mkRest {fs : List DFunc} {x : DFunc} {o a : Int} {st : List Int} (h2 : ¬(o = 2 ∨ o = 3)) (h4 : ¬(o = 4 ∨ o = 5)) (h23 : ¬(o = 23 ∨ o = 24)) (h28 : ¬(o = 28 ∨ o = 29)) (h33 : ¬(o = 33 ∨ o = 34)) (h25 : ¬o = 25) : NeedsR fs x o a st (effM o).1 (effM o).2 where
 load := fun h => by omega
 store := fun h => by omega
 pop := fun h => by omega
 dup := fun h => by omega
 call := fun h => by omega
 later := fun h => by omega
 get_ := fun h => by omega
 set_ := fun h => by omega
 opens := by omega
 ret := fun h => by omega
 rest := fun _ _ _ _ _ _ _ _ => ⟨rfl, rfl⟩
def NeedsK (fs : List DFunc) (x : DFunc) (k : Nat) (st xs ys : List Int) : Prop := ∃ i : DInstr, x.code[k]? = some i ∧ NeedsR fs x i.op i.a st xs ys
theorem NeedsK.mk' {fs : List DFunc} {x : DFunc} {k : Nat} {o a : Int} {st xs ys : List Int} (hc : x.code[k]? = some ⟨o, a⟩) (h : NeedsR fs x o a st xs ys) : NeedsK fs x k st xs ys := ⟨_, hc, h⟩
def EffK (fs : List DFunc) (x : DFunc) (k : Nat) (st zs : List Int) : Prop := ∃ pre xs ys, NeedsK fs x k st xs ys ∧ st = pre ++ xs ∧ pre.length + ys.length ≤ 60 ∧ zs = pre ++ ys
end
section
open Go.RowKit
theorem effM_len (o : Int) : (effM o).1.length ≤ 2 ∧ (effM o).2.length ≤ 2 := by
 unfold effM
 repeat' split
 all_goals simp
theorem sl_lit (W : World) (v : Int) : SlI (W.alloc (.cells #[.int .i64 v] 40)) (W.alloc (.cells #[.int .i64 v] 40)).heap.size (some ⟨W.heap.size, 0, none⟩) 1 1 [v] :=
 SlR.of_ownN (sz := 1) (bytes := 8) (f := fun x : Int => [Value.int .i64 x]) (xs := [v]) (fun _ => rfl) (by omega) (own_at rfl W.heap.size (Nat.le_refl _) [.int .i64 v] 40 1 1 (by unfold maxLen; omega) rfl) (by unfold reachBytes; omega)
theorem sli_cut {w : World} {B g o n c q : Nat} {xs : List Int} (h : SlI w B (some ⟨g, o, none⟩) n c xs) (hq : q < n) : SlI w B (some ⟨g, o + q, none⟩) 1 (c - q) ((xs.take (q + 1)).drop q) := by
 obtain ⟨h1, h2, h3, h4, h5⟩ := h
 refine ⟨by simp; omega, by omega, by omega, by omega, fun hp => ?_⟩
 obtain ⟨b, off, hA, hb, hx⟩ := h5 (by omega)
 injection hA with hA
 injection hA with e1 e2
 subst e1
 subst e2
 refine ⟨g, o + q, rfl, hb, fun i x hi => ?_⟩
 rw [List.getElem?_drop, List.getElem?_take] at hi
 split at hi
 ·obtain ⟨cs, e1, e2, e3⟩ := hx (q + i) x hi
  refine ⟨cs, e1, fun j u hj => ?_, e3⟩
  have := e2 j u hj
  rw [show o + ((q + i) * 1 + j) = o + q + (i * 1 + j) by omega] at this
  exact this
 ·cases hi
end
end Go.Proofs.YtobmjnmcjddhcaaGreat
