import Derived.Test.YtobmjnmcjddhcaaGreatCTk
import Derived.Test.YtobmjnmcjddhcaaGreatCFiD
import Derived.Test.YtobmjnmcjddhcaaGreatCFiE
import Derived.BigQuiet
set_option linter.unusedSimpArgs false
set_option linter.unusedVariables false
set_option maxRecDepth 100000
set_option maxHeartbeats 32000000
namespace Go.Proofs.YtobmjnmcjddhcaaGreat
open Go.RowKit
def IsRt (x : DFunc) (f : Nat) (w : World) (e : Ending) (w' : World) : Prop := ∃ r : Bool, e = .returned (.bool r) ∧ (r = true → (x.nodes.getD 0 zN).fn = (f : Int)) ∧ Below w.heap.size w w'
section
variable {P : Program} {ops : Array Oper} {Q : Exit → Act → World → Prop} {md : Region.Mode} {S : World → Prop}
theorem wpAnyH_tk {i : Nat} {oi : Oper} {v : Value} {fuel : Nat} {listed : Array Bool} {a : Act} {w : World} (hi : ops[i]? = some oi)
  (hs : Region.noSelect ops = true) (hf : Region.free md ops listed i = true) (hr : (Region.ready md ops listed).contains i = true)
  (hw : Region.wanted oi (yielded ops a.tmps) = true) (hv : ∀ w, S w → (execOp a.eval oi).run P w = .ok (.value v) w)
  (hQ : ∀ c a w, Q (.panic c) (a.put oi.dst v) w → Q (.panic c) a w) (hS : S w)
  (h : wpAnyH P md ops Q S fuel (listed.setIfInBounds i true) (a.put oi.dst v) w) : wpAnyH P md ops Q S (fuel + 1) listed a w :=
 wpAnyH_take hi hs hf hr hQ (Or.inl ⟨hw, hv⟩) hS h
theorem wpAnyH_off {i : Nat} {oi : Oper} {fuel : Nat} {listed : Array Bool} {a : Act} {w : World} (hi : ops[i]? = some oi)
  (hs : Region.noSelect ops = true) (hf : Region.free md ops listed i = true) (hr : (Region.ready md ops listed).contains i = true)
  (hw : Region.wanted oi (yielded ops a.tmps) = false)
  (hQ : ∀ c a w, Q (.panic c) (a.put oi.dst undef) w → Q (.panic c) a w) (hS : S w)
  (h : wpAnyH P md ops Q S fuel (listed.setIfInBounds i true) (a.put oi.dst undef) w) : wpAnyH P md ops Q S (fuel + 1) listed a w :=
 wpAnyH_take hi hs hf hr hQ (Or.inr ⟨hw, rfl⟩) hS h
end
theorem rroot_any (FA : Option Addr) (fn fc : Nat) (fs : List DFunc) (f : Nat) (x0 : DFunc) (w : World) (h : PgC w FA fn fc fs) (hi : f < fn) (hx0 : fs[f]? = some x0) (hnb : bareF x0 = false) :
  Calls Tryz.prog 126 #[.agg #[.slice FA fn fc], .int .i64 (f : Int)] w (IsRt x0 f w) := by
 obtain ⟨w1, hw1⟩ : ∃ X, w.alloc (.cells #[.slice FA fn fc] 24) = X := ⟨_, rfl⟩
 obtain ⟨g, hg⟩ : ∃ g, w.heap.size = g := ⟨_, rfl⟩
 have hb1 : Below w.heap.size w w1 := by rw [← hw1]; exact bl_one _
 have hc1 : Cells w1 g [.slice FA fn fc] := by rw [← hw1, ← hg]; exact Cells.new w [.slice FA fn fc] _
 have EP : Hid (∀ W, Below w1.heap.size w1 W → W.cell? ⟨g, 0, none⟩ = some (.slice FA fn fc)) := Lib.hid fun W hW => (hc1.on hW).at_ 0 _ rfl
 have HP : Hid (∀ W, Below w1.heap.size w1 W → PgC W FA fn fc fs) := Lib.hid fun W hW => h.on (hb1.trans (hW.mono hb1.size))
 have HB1 := Lib.hid hb1
 have HBW : Hid (∀ W, Below w1.heap.size w1 W → Below w.heap.size w W) := Lib.hid fun W hW => hb1.trans (hW.mono hb1.size)
 have hfn := h.pg.le
 have hn0 : (fn : Int) ≤ 50 := by omega
 have p0 := EP.out w1 (Below.refl _ _)
 clear hb1 hc1
 obtain ⟨bk, off, s, b, A0, n0, c0, A1, n1, c1, A2, n2, c2, A3, n3, c3, A4, n4, c4, A5, n5, c5, A6, n6, c6, A7, n7, c7, A8, n8, c8, x, rfl, hbk, hx, hcf, hfw, hcan⟩ := (HP.out w1 (Below.refl _ _)).get (i := f) hi
 have y0 := hcf 0 _ rfl
 have y1 := hcf 1 _ rfl
 have y2 := hcf 2 _ rfl
 have y3 := hcf 3 _ rfl
 have y4 := hcf 4 _ rfl
 have y5 := hcf 5 _ rfl
 have y6 := hcf 6 _ rfl
 have y7 := hcf 7 _ rfl
 have y8 := hcf 8 _ rfl
 have y9 := hcf 9 _ rfl
 have y10 := hcf 10 _ rfl
 simp only [Nat.add_zero] at y0
 obtain rfl : x0 = x := by rw [hx0] at hx; injection hx
 have l4 := hfw.r4.1
 have l6 := hfw.r6.1
 have l7 := hfw.r7.1
 have l8 := hfw.r8.1
 have hsome := hcan.some_
 obtain ⟨s4, s5, s6, s7, s8, s0⟩ := hfw.sm
 have hb0 : n6 + n7 + n8 ≠ 0 := by
  unfold bareF at hnb
  rw [decide_eq_false_iff_not] at hnb
  omega
 obtain ⟨h61, h74, h84⟩ : 1 ≤ n6 ∧ n7 = n4 ∧ n8 = n4 := by
  rcases at_ok s b A0 n0 c0 A1 n1 c1 A2 n2 c2 A3 n3 c3 A4 n4 c4 A5 n5 c5 A6 n6 c6 A7 n7 c7 A8 n8 c8 hfw hcan (k := 0) (by omega) with ⟨hb, _⟩ | ⟨_, a, b, c, _⟩
  ·exact absurd hb hb0
  ·exact ⟨a, b, c⟩
 obtain ⟨nb, no, q, z, rfl, hnb6, hq, hqlt, hzz, _, hzc⟩ := node_get hfw.r6 (a := 0) (by omega) (by omega)
 obtain rfl : q = 0 := by omega
 obtain ⟨ab, ao, v0, rfl, hab, hv0, av0⟩ := SlR.cell1 (f := Value.int .i64) hfw.r7 (i := 0) (by omega)
 have HZ : Hid ((x0.nodes.getD 0 zN).fn = z.fn) := Lib.hid (by rw [List.getD_eq_getElem?_getD, hzz]; rfl)
 have hno := hcan.tab
 have hnk : nodeOk 0 z := by
  rcases hno with ⟨e, _⟩ | ⟨hno, _⟩
  ·rw [e] at hzz; cases hzz
  ·exact hno.2.2 0 z hzz
 obtain ⟨k0, k1, k2, k3, k4, k5, k6, k7, k8, k9, -⟩ := hnk
 have hf0 : (0 : Int) ≤ (f : Int) := by omega
 have hf1 : (f : Int) < (fn : Int) := by omega
 have h6i : (0 : Int) < (n6 : Int) := by omega
 have h7i : (0 : Int) < (n7 : Int) := by omega
 have h7n : 0 < n7 := by omega
 have u0 := hzc 0 _ rfl
 have u1 := hzc 1 _ rfl
 have u2 := hzc 2 _ rfl
 have u3 := hzc 3 _ rfl
 have u4 := hzc 4 _ rfl
 have u5 := hzc 5 _ rfl
 have u6 := hzc 6 _ rfl
 simp only [Nat.zero_mul, Nat.add_zero] at u0 u1 u2 u3 u4 u5 u6 av0
 have HU : Hid (w1.cell? ⟨nb, no, none⟩ = some (.int .i64 z.parent) ∧ w1.cell? ⟨nb, no + 1, none⟩ = some (.int .i64 z.fn) ∧ w1.cell? ⟨nb, no + 2, none⟩ = some (.int .i64 z.line) ∧ w1.cell? ⟨nb, no + 3, none⟩ = some (.int .i64 z.from_) ∧ w1.cell? ⟨nb, no + 4, none⟩ = some (.int .i64 z.args) ∧ w1.cell? ⟨nb, no + 5, none⟩ = some (.int .i64 z.to_) ∧ w1.cell? ⟨nb, no + 6, none⟩ = some (.int .i64 z.resume)) := Lib.hid ⟨u0, u1, u2, u3, u4, u5, u6⟩
 have HAV : Hid (w1.cell? ⟨ab, ao, none⟩ = some (.int .i64 v0)) := Lib.hid av0
 have HFW := Lib.hid hfw
 have HLT : Hid (nb < w1.heap.size ∧ ab < w1.heap.size) := Lib.hid ⟨hnb6, hab⟩
 clear h hfw hcan hcf hx hx0 l4 l6 l7 l8 hsome hb0 hnb hzz hv0 hno hzc hq h74 h84 u0 u1 u2 u3 u4 u5 u6 av0
 go_enter Tryz.func126, Tryz.ntmps126
 go_upto_region 2 with fail
 clear y0 y1 y2 y3 y4 y5 y6 y7 y8 y9 y10
 obtain ⟨w2, hw2⟩ : ∃ X, w1.alloc (.cells #[.string s, .bool b, .slice A0 n0 c0, .slice A1 n1 c1, .slice A2 n2 c2, .slice A3 n3 c3, .slice A4 n4 c4, .slice A5 n5 c5, .slice (some ⟨nb, no, none⟩) n6 c6, .slice (some ⟨ab, ao, none⟩) n7 c7, .slice A8 n8 c8] 38) = X := ⟨_, rfl⟩
 obtain ⟨g2, hg2⟩ : ∃ X, w1.heap.size = X := ⟨_, rfl⟩
 have hb2 : Below w1.heap.size w1 w2 := by rw [← hw2]; exact bl_one _
 have hc2 : Cells w2 g2 [.string s, .bool b, .slice A0 n0 c0, .slice A1 n1 c1, .slice A2 n2 c2, .slice A3 n3 c3, .slice A4 n4 c4, .slice A5 n5 c5, .slice (some ⟨nb, no, none⟩) n6 c6, .slice (some ⟨ab, ao, none⟩) n7 c7, .slice A8 n8 c8] := by rw [← hw2, ← hg2]; exact Cells.new w1 [.string s, .bool b, .slice A0 n0 c0, .slice A1 n1 c1, .slice A2 n2 c2, .slice A3 n3 c3, .slice A4 n4 c4, .slice A5 n5 c5, .slice (some ⟨nb, no, none⟩) n6 c6, .slice (some ⟨ab, ao, none⟩) n7 c7, .slice A8 n8 c8] _
 rw [hw2, hg2]
 have e8 := hc2.at_ 8 _ rfl
 have u0 := (hb2.cell (p := ⟨nb, no, none⟩) HLT.out.1).trans HU.out.1
 have u1 := (hb2.cell (p := ⟨nb, no + 1, none⟩) HLT.out.1).trans HU.out.2.1
 have u2 := (hb2.cell (p := ⟨nb, no + 2, none⟩) HLT.out.1).trans HU.out.2.2.1
 have u3 := (hb2.cell (p := ⟨nb, no + 3, none⟩) HLT.out.1).trans HU.out.2.2.2.1
 have u4 := (hb2.cell (p := ⟨nb, no + 4, none⟩) HLT.out.1).trans HU.out.2.2.2.2.1
 have u5 := (hb2.cell (p := ⟨nb, no + 5, none⟩) HLT.out.1).trans HU.out.2.2.2.2.2.1
 have u6 := (hb2.cell (p := ⟨nb, no + 6, none⟩) HLT.out.1).trans HU.out.2.2.2.2.2.2
 clear hw2
 go_upto_region 3 with fail
 clear e8 u0 u1 u2 u3 u4 u5 u6
 obtain ⟨w3, hw3⟩ : ∃ X, w2.alloc (.cells #[.int .i64 z.parent, .int .i64 z.fn, .int .i64 z.line, .int .i64 z.from_, .int .i64 z.args, .int .i64 z.to_, .int .i64 z.resume] 238) = X := ⟨_, rfl⟩
 obtain ⟨g3, hg3⟩ : ∃ X, w2.heap.size = X := ⟨_, rfl⟩
 have hb3 : Below w2.heap.size w2 w3 := by rw [← hw3]; exact bl_one _
 have hc3 : Cells w3 g3 [.int .i64 z.parent, .int .i64 z.fn, .int .i64 z.line, .int .i64 z.from_, .int .i64 z.args, .int .i64 z.to_, .int .i64 z.resume] := by rw [← hw3, ← hg3]; exact Cells.new w2 [.int .i64 z.parent, .int .i64 z.fn, .int .i64 z.line, .int .i64 z.from_, .int .i64 z.args, .int .i64 z.to_, .int .i64 z.resume] _
 rw [hw3, hg3]
 have hb13 : Below w1.heap.size w1 w3 := hb2.trans (hb3.mono hb2.size)
 have HC2 : Hid (∀ W, Below w3.heap.size w3 W → Cells W g2 [.string s, .bool b, .slice A0 n0 c0, .slice A1 n1 c1, .slice A2 n2 c2, .slice A3 n3 c3, .slice A4 n4 c4, .slice A5 n5 c5, .slice (some ⟨nb, no, none⟩) n6 c6, .slice (some ⟨ab, ao, none⟩) n7 c7, .slice A8 n8 c8]) := Lib.hid fun W hW => (hc2.on hb3).on hW
 have HC3 : Hid (∀ W, Below w3.heap.size w3 W → Cells W g3 [.int .i64 z.parent, .int .i64 z.fn, .int .i64 z.line, .int .i64 z.from_, .int .i64 z.args, .int .i64 z.to_, .int .i64 z.resume]) := Lib.hid fun W hW => hc3.on hW
 have HBW3 : Hid (∀ W, Below w3.heap.size w3 W → Below w.heap.size w W) := Lib.hid fun W hW => HBW.out W (hb13.trans (hW.mono hb13.size))
 have HF3 : Hid (FnW w3 w3.heap.size s b A0 n0 c0 A1 n1 c1 A2 n2 c2 A3 n3 c3 A4 n4 c4 A5 n5 c5 (some ⟨nb, no, none⟩) n6 c6 (some ⟨ab, ao, none⟩) n7 c7 A8 n8 c8 x0) := Lib.hid ((HFW.out.keep hb13).more hb13.size)
 have HA3 : Hid (∀ W, Below w3.heap.size w3 W → W.cell? ⟨ab, ao, none⟩ = some (.int .i64 v0)) := Lib.hid fun W hW => ((hb13.trans (hW.mono hb13.size)).cell (p := ⟨ab, ao, none⟩) HLT.out.2).trans HAV.out
 have hcS : Hid (∀ W, Below w3.heap.size w3 W → Calls Tryz.prog 106 #[.agg #[.string s, .bool b, .slice A0 n0 c0, .slice A1 n1 c1, .slice A2 n2 c2, .slice A3 n3 c3, .slice A4 n4 c4, .slice A5 n5 c5, .slice (some ⟨nb, no, none⟩) n6 c6, .slice (some ⟨ab, ao, none⟩) n7 c7, .slice A8 n8 c8]] W (IsTRow (n1 + n2 + n3) (slotsM x0) W)) := Lib.hid fun W hW => rslots_any s b A0 n0 c0 A1 n1 c1 A2 n2 c2 A3 n3 c3 A4 n4 c4 A5 n5 c5 (some ⟨nb, no, none⟩) n6 c6 (some ⟨ab, ao, none⟩) n7 c7 A8 n8 c8 x0 W ((HF3.out.keep hW).more hW.size)
 have e0 := (HC2.out w3 (Below.refl _ _)).at_ 0 _ rfl
 have e1 := (HC2.out w3 (Below.refl _ _)).at_ 1 _ rfl
 have e2 := (HC2.out w3 (Below.refl _ _)).at_ 2 _ rfl
 have e3 := (HC2.out w3 (Below.refl _ _)).at_ 3 _ rfl
 have e4 := (HC2.out w3 (Below.refl _ _)).at_ 4 _ rfl
 have e5 := (HC2.out w3 (Below.refl _ _)).at_ 5 _ rfl
 have e6 := (HC2.out w3 (Below.refl _ _)).at_ 6 _ rfl
 have e7 := (HC2.out w3 (Below.refl _ _)).at_ 7 _ rfl
 have e8 := (HC2.out w3 (Below.refl _ _)).at_ 8 _ rfl
 have e9 := (HC2.out w3 (Below.refl _ _)).at_ 9 _ rfl
 have e10 := (HC2.out w3 (Below.refl _ _)).at_ 10 _ rfl
 have i0 := (HC3.out w3 (Below.refl _ _)).at_ 0 _ rfl
 have i1 := (HC3.out w3 (Below.refl _ _)).at_ 1 _ rfl
 have i2 := (HC3.out w3 (Below.refl _ _)).at_ 2 _ rfl
 have i3 := (HC3.out w3 (Below.refl _ _)).at_ 3 _ rfl
 have i4 := (HC3.out w3 (Below.refl _ _)).at_ 4 _ rfl
 have i5 := (HC3.out w3 (Below.refl _ _)).at_ 5 _ rfl
 have i6 := (HC3.out w3 (Below.refl _ _)).at_ 6 _ rfl
 have p3 := HA3.out w3 (Below.refl _ _)
 have tw : IntKind.i64.wrap ((n1 : Int) + (n2 : Int)) = (n1 : Int) + (n2 : Int) := by rw [wr64]; unfold wrap64; omega
 clear hw3 hg3 hg2 hb2 hb3 hc2 hc3 hb13 hw1 hg HFW p0
 have HTL : Hid (∀ r : Bool, r = false → (r = true → (x0.nodes.getD 0 zN).fn = (f : Int))) := Lib.hid fun r h1 h2 => by rw [h1] at h2; cases h2
 by_cases cc1 : z.fn = (f : Int)
 ·have HC1 : Hid ((x0.nodes.getD 0 zN).fn = (f : Int)) := Lib.hid (by rw [HZ.out, cc1])
  have t1 : (z.fn == (f : Int)) = true := by rw [beq_iff_eq]; exact cc1
  rw [cc1] at i1 HC3
  clear cc1
  by_cases cc2 : z.args = (n1 : Int)
  ·have t2 : (z.args == (n1 : Int)) = true := by rw [beq_iff_eq]; exact cc2
   rw [cc2] at i4 HC3
   clear cc2
   by_cases cc3 : z.to_ ≥ (n1 : Int) + (n2 : Int)
   ·have t3 : decide (z.to_ ≥ (n1 : Int) + (n2 : Int)) = true := by rw [decide_eq_true_eq]; exact cc3
    have t3b : decide ((n1 : Int) + (n2 : Int) ≤ z.to_) = true := by rw [decide_eq_true_eq]; omega
    clear e0 e1 e2 e3 e4 e5 e6 e7 e8 e9 e10 i0 i1 i2 i3 i4 i5 i6 p3
    refine wp_region_held (S := fun W => Below w3.heap.size w3 W) (by kernel_rfl) ?_
    change wpAnyH _ _ _ _ _ _ _ _ (World.drew _)
    have hS0 : Below w3.heap.size w3 w3.drew := (Below.refl _ _).drew
    refine tkH 0 rfl (by intro W hW; go_simp; first | done | rfl) hS0 ?_
    try go_simp
    refine tkH 1 rfl (by intro W hW; have x9 := HC2.out W hW; obtain ⟨e0, e1, e2, e3, e4, e5, e6, e7, e8, e9, e10⟩ := c11 x9; have x8 := HC3.out W hW; have j0 := x8.at_ 0 _ rfl; have j1 := x8.at_ 1 _ rfl; have j2 := x8.at_ 2 _ rfl; have j3 := x8.at_ 3 _ rfl; have j4 := x8.at_ 4 _ rfl; have j5 := x8.at_ 5 _ rfl; have j6 := x8.at_ 6 _ rfl; have a9 := HA3.out W hW; go_simp; first | done | rfl) hS0 ?_
    try go_simp
    refine tkH 2 rfl (by intro W hW; go_simp; first | done | rfl) hS0 ?_
    try go_simp
    refine tkH 3 rfl (by intro W hW; go_simp; first | done | rfl) hS0 ?_
    try go_simp
    refine tkH 4 rfl (by intro W hW; go_simp; first | done | rfl) hS0 ?_
    try go_simp
    try go_simp
    refine tkH 5 rfl (by intro W hW; go_simp; first | done | rfl) hS0 ?_
    try go_simp
    refine tkH 6 rfl (by intro W hW; have x9 := HC2.out W hW; obtain ⟨e0, e1, e2, e3, e4, e5, e6, e7, e8, e9, e10⟩ := c11 x9; have x8 := HC3.out W hW; have j0 := x8.at_ 0 _ rfl; have j1 := x8.at_ 1 _ rfl; have j2 := x8.at_ 2 _ rfl; have j3 := x8.at_ 3 _ rfl; have j4 := x8.at_ 4 _ rfl; have j5 := x8.at_ 5 _ rfl; have j6 := x8.at_ 6 _ rfl; have a9 := HA3.out W hW; go_simp; first | done | rfl) hS0 ?_
    try go_simp
    refine tkH 7 rfl (by intro W hW; go_simp; first | done | rfl) hS0 ?_
    try go_simp
    refine tkH 8 rfl (by intro W hW; have x9 := HC2.out W hW; obtain ⟨e0, e1, e2, e3, e4, e5, e6, e7, e8, e9, e10⟩ := c11 x9; have x8 := HC3.out W hW; have j0 := x8.at_ 0 _ rfl; have j1 := x8.at_ 1 _ rfl; have j2 := x8.at_ 2 _ rfl; have j3 := x8.at_ 3 _ rfl; have j4 := x8.at_ 4 _ rfl; have j5 := x8.at_ 5 _ rfl; have j6 := x8.at_ 6 _ rfl; have a9 := HA3.out W hW; go_simp; first | done | rfl) hS0 ?_
    try go_simp
    refine tkH 9 rfl (by intro W hW; go_simp; first | done | rfl) hS0 ?_
    try go_simp
    refine tkH 10 rfl (by intro W hW; go_simp; first | done | rfl) hS0 ?_
    try go_simp
    refine tkH 11 rfl (by intro W hW; go_simp; first | done | rfl) hS0 ?_
    try go_simp
    try go_simp
    refine tkH 12 rfl (by intro W hW; go_simp; first | done | rfl) hS0 ?_
    try go_simp
    try go_simp
    refine tkH 13 rfl (by intro W hW; go_simp; first | done | rfl) hS0 ?_
    try go_simp
    refine tkH 14 rfl (by intro W hW; have x9 := HC2.out W hW; obtain ⟨e0, e1, e2, e3, e4, e5, e6, e7, e8, e9, e10⟩ := c11 x9; have x8 := HC3.out W hW; have j0 := x8.at_ 0 _ rfl; have j1 := x8.at_ 1 _ rfl; have j2 := x8.at_ 2 _ rfl; have j3 := x8.at_ 3 _ rfl; have j4 := x8.at_ 4 _ rfl; have j5 := x8.at_ 5 _ rfl; have j6 := x8.at_ 6 _ rfl; have a9 := HA3.out W hW; go_simp; first | done | rfl) hS0 ?_
    try go_simp
    refine tkH 15 rfl (by intro W hW; go_simp; first | done | rfl) hS0 ?_
    try go_simp
    refine tkH 16 rfl (by intro W hW; have x9 := HC2.out W hW; obtain ⟨e0, e1, e2, e3, e4, e5, e6, e7, e8, e9, e10⟩ := c11 x9; have x8 := HC3.out W hW; have j0 := x8.at_ 0 _ rfl; have j1 := x8.at_ 1 _ rfl; have j2 := x8.at_ 2 _ rfl; have j3 := x8.at_ 3 _ rfl; have j4 := x8.at_ 4 _ rfl; have j5 := x8.at_ 5 _ rfl; have j6 := x8.at_ 6 _ rfl; have a9 := HA3.out W hW; go_simp; first | done | rfl) hS0 ?_
    try go_simp
    refine tkH 17 rfl (by intro W hW; go_simp; first | done | rfl) hS0 ?_
    try go_simp
    refine tkH 18 rfl (by intro W hW; go_simp; first | done | rfl) hS0 ?_
    try go_simp
    refine tkH 19 rfl (by intro W hW; have x9 := HC2.out W hW; obtain ⟨e0, e1, e2, e3, e4, e5, e6, e7, e8, e9, e10⟩ := c11 x9; have x8 := HC3.out W hW; have j0 := x8.at_ 0 _ rfl; have j1 := x8.at_ 1 _ rfl; have j2 := x8.at_ 2 _ rfl; have j3 := x8.at_ 3 _ rfl; have j4 := x8.at_ 4 _ rfl; have j5 := x8.at_ 5 _ rfl; have j6 := x8.at_ 6 _ rfl; have a9 := HA3.out W hW; go_simp; first | done | rfl) hS0 ?_
    try go_simp
    refine tkH 20 rfl (by intro W hW; go_simp; first | done | rfl) hS0 ?_
    try go_simp
    refine tkH 21 rfl (by intro W hW; go_simp; first | done | rfl) hS0 ?_
    try go_simp
    refine tkH 22 rfl (by intro W hW; go_simp; first | done | rfl) hS0 ?_
    try go_simp
    refine tkH 23 rfl (by intro W hW; go_simp; first | done | rfl) hS0 ?_
    try go_simp
    try go_simp
    refine tkH 24 rfl (by intro W hW; go_simp; first | done | rfl) hS0 ?_
    try go_simp
    try go_simp
    refine tkH 25 rfl (by intro W hW; go_simp; first | done | rfl) hS0 ?_
    try go_simp
    refine tkH 26 rfl (by intro W hW; have x9 := HC2.out W hW; obtain ⟨e0, e1, e2, e3, e4, e5, e6, e7, e8, e9, e10⟩ := c11 x9; have x8 := HC3.out W hW; have j0 := x8.at_ 0 _ rfl; have j1 := x8.at_ 1 _ rfl; have j2 := x8.at_ 2 _ rfl; have j3 := x8.at_ 3 _ rfl; have j4 := x8.at_ 4 _ rfl; have j5 := x8.at_ 5 _ rfl; have j6 := x8.at_ 6 _ rfl; have a9 := HA3.out W hW; go_simp; first | done | rfl) hS0 ?_
    try go_simp
    refine tkH 27 rfl (by intro W hW; have x9 := HC2.out W hW; obtain ⟨e0, e1, e2, e3, e4, e5, e6, e7, e8, e9, e10⟩ := c11 x9; have x8 := HC3.out W hW; have j0 := x8.at_ 0 _ rfl; have j1 := x8.at_ 1 _ rfl; have j2 := x8.at_ 2 _ rfl; have j3 := x8.at_ 3 _ rfl; have j4 := x8.at_ 4 _ rfl; have j5 := x8.at_ 5 _ rfl; have j6 := x8.at_ 6 _ rfl; have a9 := HA3.out W hW; go_simp; first | done | rfl) hS0 ?_
    try go_simp
    refine wpAnyH_one (i := 28) (by kernel_rfl) rfl (fun K hK => ?_)
    go_simp
    refine (hcS.out _ hS0).mono ?_
    rintro e w5 ⟨SA, sc, rfl, -, hb5⟩
    have hS5 : Below w3.heap.size w3 w5 := hS0.trans (hb5.mono hS0.size)
    clear hb5 hS0
    go_simp
    refine hK _ _ ⟨hS5, ?_⟩; clear hK K
    try go_simp
    by_cases cc4 : z.to_ ≤ ((n1 + n2 + n3 : Nat) : Int)
    ·have t4 : decide (z.to_ ≤ ((n1 + n2 + n3 : Nat) : Int)) = true := by rw [decide_eq_true_eq]; exact cc4
     have t4b : decide (z.to_ ≤ (n1 : Int) + (n2 : Int) + (n3 : Int)) = true := by rw [decide_eq_true_eq]; omega
     obtain ⟨r5, hr5⟩ : ∃ r, (v0 == 0) = r := ⟨_, rfl⟩
     refine tkH 29 rfl (by intro W hW; go_simp; first | done | rfl) hS5 ?_
     try go_simp
     refine tkH 30 rfl (by intro W hW; go_simp; first | done | rfl) hS5 ?_
     try go_simp
     refine tkH 31 rfl (by intro W hW; go_simp; first | done | rfl) hS5 ?_
     try go_simp
     try go_simp
     refine tkH 32 rfl (by intro W hW; go_simp; first | done | rfl) hS5 ?_
     try go_simp
     try go_simp
     refine tkH 33 rfl (by intro W hW; go_simp; first | done | rfl) hS5 ?_
     try go_simp
     refine tkH 34 rfl (by intro W hW; have x9 := HC2.out W hW; obtain ⟨e0, e1, e2, e3, e4, e5, e6, e7, e8, e9, e10⟩ := c11 x9; have x8 := HC3.out W hW; have j0 := x8.at_ 0 _ rfl; have j1 := x8.at_ 1 _ rfl; have j2 := x8.at_ 2 _ rfl; have j3 := x8.at_ 3 _ rfl; have j4 := x8.at_ 4 _ rfl; have j5 := x8.at_ 5 _ rfl; have j6 := x8.at_ 6 _ rfl; have a9 := HA3.out W hW; go_simp; first | done | rfl) hS5 ?_
     try go_simp
     refine tkH 35 rfl (by intro W hW; go_simp; first | done | rfl) hS5 ?_
     try go_simp
     refine tkH 36 rfl (by intro W hW; have x9 := HC2.out W hW; obtain ⟨e0, e1, e2, e3, e4, e5, e6, e7, e8, e9, e10⟩ := c11 x9; have x8 := HC3.out W hW; have j0 := x8.at_ 0 _ rfl; have j1 := x8.at_ 1 _ rfl; have j2 := x8.at_ 2 _ rfl; have j3 := x8.at_ 3 _ rfl; have j4 := x8.at_ 4 _ rfl; have j5 := x8.at_ 5 _ rfl; have j6 := x8.at_ 6 _ rfl; have a9 := HA3.out W hW; go_simp; first | done | rfl) hS5 ?_
     try go_simp
     refine tkH 37 rfl (by intro W hW; go_simp; first | done | rfl) hS5 ?_
     try go_simp
     refine tkH 38 rfl (by intro W hW; go_simp; first | done | rfl) hS5 ?_
     try go_simp
     try go_simp
     refine wpAnyH_one (i := 39) (by kernel_rfl) rfl (fun K hK => ?_)
     go_simp
     refine hK _ _ ⟨hS5, ?_⟩; clear hK K
     try go_simp
     refine wpAnyH_done (by kernel_rfl) ?_ _
     try go_simp
     have HS5 : Hid (Below w.heap.size w w5) := Lib.hid (HBW3.out _ hS5)
     clear hS5
     go_wp2_with fail
     go_ret
     exact ⟨_, rfl, fun _ => HC1.out, HS5.out⟩
    ·have t4 : decide (z.to_ ≤ ((n1 + n2 + n3 : Nat) : Int)) = false := by rw [decide_eq_false_iff_not]; exact cc4
     have t4b : decide (z.to_ ≤ (n1 : Int) + (n2 : Int) + (n3 : Int)) = false := by rw [decide_eq_false_iff_not]; omega
     refine tkH 29 rfl (by intro W hW; go_simp; first | done | rfl) hS5 ?_
     try go_simp
     refine tkH 30 rfl (by intro W hW; go_simp; first | done | rfl) hS5 ?_
     try go_simp
     refine tkH 31 rfl (by intro W hW; go_simp; first | done | rfl) hS5 ?_
     try go_simp
     try go_simp
     refine tkH 32 rfl (by intro W hW; go_simp; first | done | rfl) hS5 ?_
     try go_simp
     try go_simp
     refine wpAnyH_off (i := 33) rfl (by kernel_rfl) (by kernel_rfl) (by kernel_rfl) (by rfl) (by intro _ _ _ h; exact h) hS5 ?_
     try go_simp
     refine wpAnyH_off (i := 34) rfl (by kernel_rfl) (by kernel_rfl) (by kernel_rfl) (by rfl) (by intro _ _ _ h; exact h) hS5 ?_
     try go_simp
     refine wpAnyH_off (i := 35) rfl (by kernel_rfl) (by kernel_rfl) (by kernel_rfl) (by rfl) (by intro _ _ _ h; exact h) hS5 ?_
     try go_simp
     refine wpAnyH_off (i := 36) rfl (by kernel_rfl) (by kernel_rfl) (by kernel_rfl) (by rfl) (by intro _ _ _ h; exact h) hS5 ?_
     try go_simp
     refine wpAnyH_off (i := 37) rfl (by kernel_rfl) (by kernel_rfl) (by kernel_rfl) (by rfl) (by intro _ _ _ h; exact h) hS5 ?_
     try go_simp
     refine tkH 38 rfl (by intro W hW; go_simp; first | done | rfl) hS5 ?_
     try go_simp
     try go_simp
     refine wpAnyH_one (i := 39) (by kernel_rfl) rfl (fun K hK => ?_)
     go_simp
     refine hK _ _ ⟨hS5, ?_⟩; clear hK K
     try go_simp
     refine wpAnyH_done (by kernel_rfl) ?_ _
     try go_simp
     have HS5 : Hid (Below w.heap.size w w5) := Lib.hid (HBW3.out _ hS5)
     clear hS5
     go_wp2_with fail
     go_ret
     exact ⟨_, rfl, fun _ => HC1.out, HS5.out⟩
   ·have t3 : decide (z.to_ ≥ (n1 : Int) + (n2 : Int)) = false := by rw [decide_eq_false_iff_not]; exact cc3
    have t3b : decide ((n1 : Int) + (n2 : Int) ≤ z.to_) = false := by rw [decide_eq_false_iff_not]; omega
    go_wp2_with fail
    go_quiet (fail)
    go_wp2_with fail
    go_ret
    exact ⟨false, rfl, HTL.out _ rfl, HBW3.out _ (below_drewN' (Below.refl _ _) _)⟩
  ·have t2 : (z.args == (n1 : Int)) = false := by rw [beq_eq_false_iff_ne]; exact cc2
   go_wp2_with fail
   go_quiet (fail)
   go_wp2_with fail
   go_ret
   exact ⟨false, rfl, HTL.out _ rfl, HBW3.out _ (below_drewN' (Below.refl _ _) _)⟩
 ·have t1 : (z.fn == (f : Int)) = false := by rw [beq_eq_false_iff_ne]; exact cc1
  go_wp2_with fail
  go_quiet (fail)
  go_wp2_with fail
  go_ret
  exact ⟨false, rfl, HTL.out _ rfl, HBW3.out _ (below_drewN' (Below.refl _ _) _)⟩
theorem ropens23_any (s : ByteArray) (b : Bool) (A0 : Option Addr) (n0 c0 : Nat) (A1 : Option Addr) (n1 c1 : Nat) (A2 : Option Addr) (n2 c2 : Nat) (A3 : Option Addr) (n3 c3 : Nat) (A4 : Option Addr) (n4 c4 : Nat) (A5 : Option Addr) (n5 c5 : Nat) (A6 : Option Addr) (n6 c6 : Nat) (A7 : Option Addr) (n7 c7 : Nat) (A8 : Option Addr) (n8 c8 : Nat) (x : DFunc) (n : Int) (w : World) (h : FnW w w.heap.size s b A0 n0 c0 A1 n1 c1 A2 n2 c2 A3 n3 c3 A4 n4 c4 A5 n5 c5 A6 n6 c6 A7 n7 c7 A8 n8 c8 x) : Calls Tryz.prog 152 #[.agg #[.string s, .bool b, .slice A0 n0 c0, .slice A1 n1 c1, .slice A2 n2 c2, .slice A3 n3 c3, .slice A4 n4 c4, .slice A5 n5 c5, .slice A6 n6 c6, .slice A7 n7 c7, .slice A8 n8 c8], .int .i64 n] w (IsInt w) := by
 obtain ⟨w1, hw1⟩ : ∃ X, w.alloc (.cells #[.string s, .bool b, .slice A0 n0 c0, .slice A1 n1 c1, .slice A2 n2 c2, .slice A3 n3 c3, .slice A4 n4 c4, .slice A5 n5 c5, .slice A6 n6 c6, .slice A7 n7 c7, .slice A8 n8 c8] 38) = X := ⟨_, rfl⟩
 obtain ⟨g, hg⟩ : ∃ g, w.heap.size = g := ⟨_, rfl⟩
 have hb1 : Below w.heap.size w w1 := by rw [← hw1]; exact bl_one _
 have hc1 : Cells w1 g [.string s, .bool b, .slice A0 n0 c0, .slice A1 n1 c1, .slice A2 n2 c2, .slice A3 n3 c3, .slice A4 n4 c4, .slice A5 n5 c5, .slice A6 n6 c6, .slice A7 n7 c7, .slice A8 n8 c8] := by rw [← hw1, ← hg]; exact Cells.new w [.string s, .bool b, .slice A0 n0 c0, .slice A1 n1 c1, .slice A2 n2 c2, .slice A3 n3 c3, .slice A4 n4 c4, .slice A5 n5 c5, .slice A6 n6 c6, .slice A7 n7 c7, .slice A8 n8 c8] _
 have h1 := (h.keep hb1).more hb1.size
 have HB1 := Lib.hid hb1
 obtain ⟨s4, s5, s6, s7, s8, s0⟩ := h.sm
 have HC : Hid (∀ W, Below w1.heap.size w1 W → Cells W g [.string s, .bool b, .slice A0 n0 c0, .slice A1 n1 c1, .slice A2 n2 c2, .slice A3 n3 c3, .slice A4 n4 c4, .slice A5 n5 c5, .slice A6 n6 c6, .slice A7 n7 c7, .slice A8 n8 c8]) := Lib.hid fun W hW => hc1.on hW
 have HR4 := Lib.hid h1.r4
 have e0 := hc1.at_ 0 _ rfl
 have e1 := hc1.at_ 1 _ rfl
 have e2 := hc1.at_ 2 _ rfl
 have e3 := hc1.at_ 3 _ rfl
 have e4 := hc1.at_ 4 _ rfl
 have e5 := hc1.at_ 5 _ rfl
 have e6 := hc1.at_ 6 _ rfl
 have e7 := hc1.at_ 7 _ rfl
 have e8 := hc1.at_ 8 _ rfl
 have e9 := hc1.at_ 9 _ rfl
 have e10 := hc1.at_ 10 _ rfl
 have hn40 : (n4 : Int) ≤ 150 := by omega
 clear h h1 hb1 hc1
 go_enter Tryz.func152, Tryz.ntmps152
 go_wp2_with fail
 go_loopw [5, 6] (fun mv iv wr => ∃ (m j : Nat), mv = .int .i64 (m : Int) ∧ iv = .int .i64 (j : Int) ∧ m ≤ j ∧ j ≤ n4 ∧ wr = w1) (fun _ iv _ => n4 - (intOf iv).toNat)
 case atStart => exact ⟨0, 0, rfl, rfl, Nat.le_refl _, Nat.zero_le _, rfl⟩
 case round =>
  obtain ⟨m, j, rfl, rfl, hm, hj, rfl⟩ := hrel
  have hj0 : (0 : Int) ≤ (j : Int) := by omega
  have hm0 : (0 : Int) ≤ (m : Int) := by omega
  have hm1 : (m : Int) ≤ 150 := by omega
  by_cases hlt : j < n4
  ·have hjn : (j : Int) < (n4 : Int) := by omega
   obtain ⟨cb, co, yo, ya, rfl, hcb, -, -, u0, u1⟩ := code_get HR4.out hlt
   by_cases h1 : yo = 33
   ·subst h1
    by_cases h2 : ya = n
    ·have t2 : (ya == n) = true := by rw [beq_iff_eq]; exact h2
     subst h2
     go_wp2_with fail
     go_roundw
     case rel => exact ⟨m + 1, j + 1, by go_num, by go_num, by omega, by omega, trivial⟩
     case measure => simp [intOf]; omega
    ·have t2 : (ya == n) = false := by rw [beq_eq_false_iff_ne]; exact h2
     go_wp2_with fail
     go_roundw
     case rel => exact ⟨m, j + 1, rfl, by go_num, by omega, by omega, trivial⟩
     case measure => simp [intOf]; omega
   ·have t1 : (yo == 33) = false := by rw [beq_eq_false_iff_ne]; exact h1
    go_wp2_with fail
    go_roundw
    case rel => exact ⟨m, j + 1, rfl, by go_num, by omega, by omega, trivial⟩
    case measure => simp [intOf]; omega
  ·obtain rfl : j = n4 := by omega
   go_wp2_with fail
   go_ret
   exact ⟨⟨_, rfl⟩, HB1.out⟩
end Go.Proofs.YtobmjnmcjddhcaaGreat
