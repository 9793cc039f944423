import Derived.Test.YtobmjnmcjddhcaaGreatRg2
import Derived.Test.YtobmjnmcjddhcaaGreatRg12
set_option linter.unusedSimpArgs false
set_option linter.unusedVariables false
set_option maxRecDepth 100000
set_option maxHeartbeats 64000000
namespace Go.Proofs.YtobmjnmcjddhcaaGreat
open Go.RowKit
def IsStkX (n : Nat) (P : Prop) (w : World) (e : Ending) (w' : World) : Prop := (∃ r at_ : Int, r ≠ 0 ∧ e = .returned (.tuple #[.agg #[.slice none 0 0, .slice none 0 0], .int .i64 r, .int .i64 at_]) ∧ Below w.heap.size w w') ∨
 ∃ ob rb f T, e = .returned (.tuple #[.agg #[.slice (some ⟨ob, 0, none⟩) n n, .slice (some ⟨rb, 0, none⟩) n n], .int .i64 0, .int .i64 0]) ∧ OfX w' ob n T ∧ Cells w' rb (arrB n f) ∧ ob ≠ rb ∧ Below w.heap.size w w' ∧ P
theorem rstacksx_any (FA : Option Addr) (fn fc : Nat) (fs : List DFunc) (f : Nat) (x0 : DFunc) (w : World) (h : PgC w FA fn fc fs) (hi : f < fn) (hx0 : fs[f]? = some x0) (hbare : bareF x0 = true) :
  Calls Tryz.prog 95 #[.agg #[.slice FA fn fc], .int .i64 (f : Int)] w (IsStkX x0.code.length (TyOk fs x0) w) := by
 obtain ⟨i0, hi0, hz0, hz1, hz2⟩ := info_parts info_int
 obtain ⟨w1, hw1⟩ : ∃ X, w.alloc (.cells #[.slice FA fn fc] 24) = X := ⟨_, rfl⟩
 obtain ⟨g, hg⟩ : ∃ g, w.heap.size = g := ⟨_, rfl⟩
 have hb1 : Below w.heap.size w w1 := by rw [← hw1]; exact bl_one _
 have hc1 : Cells w1 g [.slice FA fn fc] := by rw [← hw1, ← hg]; exact Cells.new w [.slice FA fn fc] _
 have EP : Hid (∀ W, Below w1.heap.size w1 W → W.cell? ⟨g, 0, none⟩ = some (.slice FA fn fc)) := Hd fun W hW => (hc1.on hW).at_ 0 _ rfl
 have HP : Hid (∀ W, Below w1.heap.size w1 W → PgC W FA fn fc fs) := Hd fun W hW => h.on (hb1.trans (hW.mono hb1.size))
 have HB1 := Hd hb1
 have HBW : Hid (∀ W, Below w1.heap.size w1 W → Below w.heap.size w W) := Hd fun W hW => hb1.trans (hW.mono hb1.size)
 have hfn := h.pg.le
 have hn0 : (fn : Int) ≤ 50 := by omega
 have p0 := EP.out w1 (Below.refl _ _)
 clear hb1 hc1
 obtain ⟨wb, hwb⟩ : ∃ X, w1.alloc (.cells #[.slice none 0 0, .slice none 0 0] 178) = X := ⟨_, rfl⟩
 obtain ⟨g1, hg1⟩ : ∃ X, w1.heap.size = X := ⟨_, rfl⟩
 have hbb : Below w1.heap.size w1 wb := by rw [← hwb]; exact bl_one _
 have hcb : Cells wb g1 [.slice none 0 0, .slice none 0 0] := by rw [← hwb, ← hg1]; exact Cells.new w1 [.slice none 0 0, .slice none 0 0] _
 obtain ⟨bk, off, s, b, A0, n0, c0, A1, n1, c1, A2, n2, c2, A3, n3, c3, A4, n4, c4, A5, n5, c5, A6, n6, c6, A7, n7, c7, A8, n8, c8, x, rfl, hbk, hx, hcf, hfw, hcan⟩ := (HP.out wb hbb).get hi
 have y0 := hcf 0 _ rfl
 have y1 := hcf 1 _ rfl
 have y2 := hcf 2 _ rfl
 have y3 := hcf 3 _ rfl
 have y4 := hcf 4 _ rfl
 have y5 := hcf 5 _ rfl
 have y6 := hcf 6 _ rfl
 have y7 := hcf 7 _ rfl
 have y8 := hcf 8 _ rfl
 have y9 := hcf 9 _ rfl
 have y10 := hcf 10 _ rfl
 simp only [Nat.add_zero] at y0
 obtain rfl : x0 = x := by rw [hx0] at hx; injection hx
 have l4 := hfw.r4.1
 have hsome := hcan.some_
 obtain ⟨s4, s5, s6, s7, s8, s0⟩ := hfw.sm
 have HL4 : Hid (x0.code.length = n4) := Hd l4
 have hn1 : 1 ≤ n4 := by omega
 have hn40 : (n4 : Int) ≤ 150 := by omega
 have hn41 : (1 : Int) ≤ (n4 : Int) := by omega
 have hf0 : (0 : Int) ≤ (f : Int) := by omega
 have hf1 : (f : Int) < (fn : Int) := by omega
 have HFW := Hd hfw
 have HBB := Hd hbb
 have HHX := Hd hx0
 have pb0 := (hbb.cell (p := ⟨g, 0, none⟩) (World.block_lt_of_cell? _ _ p0)).trans p0
 obtain ⟨z1, hzc1, hmk1⟩ := made_of n4 (by omega)
 obtain ⟨z3, hzc3, hmk3⟩ := made_bool n4 (by omega)
 have HZ1 := Hd hzc1
 have HZ3 := Hd hzc3
 have HTY : Hid (∀ R D T, TI (EffK fs x0) (fun p => nextM x0 p ++ opensM x0 p) n4 n4 R D T → TyOk fs x0) := Hd fun R D T h => ⟨R, T, h.r0, h.t0, fun p hp hr => by rw [l4] at hp ⊢; exact (h.dn p hp (h.up p hp hr)).2⟩
 rw [l4]
 clear h hfw hcan hcf hx hx0 l4 hsome hbb hzc1 hzc3
 go_in
 go_upto_region 2 with fail
 clear y0 y1 y2 y3 y4 y5 y6 y7 y8 y9 y10 p0 pb0
 obtain ⟨w2, hw2⟩ : ∃ X, wb.alloc (.cells #[.string s, .bool b, .slice A0 n0 c0, .slice A1 n1 c1, .slice A2 n2 c2, .slice A3 n3 c3, .slice A4 n4 c4, .slice A5 n5 c5, .slice A6 n6 c6, .slice A7 n7 c7, .slice A8 n8 c8] 38) = X := ⟨_, rfl⟩
 obtain ⟨g2, hg2⟩ : ∃ X, wb.heap.size = X := ⟨_, rfl⟩
 have hb2 : Below wb.heap.size wb w2 := by rw [← hw2]; exact bl_one _
 have hc2 : Cells w2 g2 [.string s, .bool b, .slice A0 n0 c0, .slice A1 n1 c1, .slice A2 n2 c2, .slice A3 n3 c3, .slice A4 n4 c4, .slice A5 n5 c5, .slice A6 n6 c6, .slice A7 n7 c7, .slice A8 n8 c8] := by rw [← hw2, ← hg2]; exact Cells.new wb [.string s, .bool b, .slice A0 n0 c0, .slice A1 n1 c1, .slice A2 n2 c2, .slice A3 n3 c3, .slice A4 n4 c4, .slice A5 n5 c5, .slice A6 n6 c6, .slice A7 n7 c7, .slice A8 n8 c8] _
 rw [hw2, hg2]
 have hb12 : Below w1.heap.size w1 w2 := HBB.out.trans (hb2.mono HBB.out.size)
 have HC2 : Hid (∀ W, Below w2.heap.size w2 W → Cells W g2 [.string s, .bool b, .slice A0 n0 c0, .slice A1 n1 c1, .slice A2 n2 c2, .slice A3 n3 c3, .slice A4 n4 c4, .slice A5 n5 c5, .slice A6 n6 c6, .slice A7 n7 c7, .slice A8 n8 c8]) := Hd fun W hW => hc2.on hW
 have HC1 : Hid (∀ W, Below w2.heap.size w2 W → Cells W g1 [.slice none 0 0, .slice none 0 0]) := Hd fun W hW => (hcb.on hb2).on hW
 have H12 : Hid (∀ W, Below w2.heap.size w2 W → Below w1.heap.size w1 W) := Hd fun W hW => hb12.trans (hW.mono hb12.size)
 have HF2 : Hid (∀ W, Below w2.heap.size w2 W → FnW W W.heap.size s b A0 n0 c0 A1 n1 c1 A2 n2 c2 A3 n3 c3 A4 n4 c4 A5 n5 c5 A6 n6 c6 A7 n7 c7 A8 n8 c8 x0) := Hd fun W hW => (HFW.out.keep (hb2.trans (hW.mono hb2.size))).more (hb2.trans (hW.mono hb2.size)).size
 have EQ : Hid (∀ W, Below w2.heap.size w2 W → (W.cell? ⟨g, 0, none⟩ = some (.slice (some ⟨bk, off, none⟩) fn fc)) ∧ W.cell? ⟨g2, 0, none⟩ = some (.string s) ∧ W.cell? ⟨g2, 1, none⟩ = some (.bool b) ∧ W.cell? ⟨g2, 2, none⟩ = some (.slice A0 n0 c0) ∧ W.cell? ⟨g2, 3, none⟩ = some (.slice A1 n1 c1) ∧ W.cell? ⟨g2, 4, none⟩ = some (.slice A2 n2 c2) ∧ W.cell? ⟨g2, 5, none⟩ = some (.slice A3 n3 c3) ∧ W.cell? ⟨g2, 6, none⟩ = some (.slice A4 n4 c4) ∧ W.cell? ⟨g2, 7, none⟩ = some (.slice A5 n5 c5) ∧ W.cell? ⟨g2, 8, none⟩ = some (.slice A6 n6 c6) ∧ W.cell? ⟨g2, 9, none⟩ = some (.slice A7 n7 c7) ∧ W.cell? ⟨g2, 10, none⟩ = some (.slice A8 n8 c8)) := Hd fun W hW => ⟨EP.out W (H12.out W hW), (HC2.out W hW).at_ 0 _ rfl, (HC2.out W hW).at_ 1 _ rfl, (HC2.out W hW).at_ 2 _ rfl, (HC2.out W hW).at_ 3 _ rfl, (HC2.out W hW).at_ 4 _ rfl, (HC2.out W hW).at_ 5 _ rfl, (HC2.out W hW).at_ 6 _ rfl, (HC2.out W hW).at_ 7 _ rfl, (HC2.out W hW).at_ 8 _ rfl, (HC2.out W hW).at_ 9 _ rfl, (HC2.out W hW).at_ 10 _ rfl⟩
 have HG12 : Hid (g1 < w2.heap.size ∧ w1.heap.size ≤ g1) := Hd ⟨by have := hcb.lt; have := hb2.size; omega, by omega⟩
 have e6 := hc2.at_ 6 _ rfl
 clear hw2 hg2 hb2 hc2 hcb hb12 hw1 hg hwb hg1 HFW HBB
 go_upto_region 3 with fail
 clear e6
 refine wp_region_held (S := fun W => Below w2.heap.size w2 W) (by kernel_rfl) ?_
 change wpAnyH _ _ _ _ _ _ _ _ (World.drew _)
 have hS0 : Below w2.heap.size w2 w2.drew := (Below.refl _ _).drew
 refine teH 0 (.int .i64 (n4 : Int)) rfl (by intro W hW; go_simp; try (first | (with_reducible rfl) | omega)) hS0 ?_
 refine teH 2 (.int .i64 (n4 : Int)) rfl (by intro W hW; go_simp; try (first | (with_reducible rfl) | omega)) hS0 ?_
 try go_simp
 obtain ⟨wd, hwd⟩ : ∃ X, w2.drew = X := ⟨_, rfl⟩
 rw [hwd] at hS0
 rw [hwd]
 clear hwd
 have H0 : Hid (Mk w2 n4 none none none wd) := Hd (Mk.start hS0)
 clear hS0
 refine (fun (hT : ∀ (ob rb tb : Nat) (w3 : World), Hid (Mk w2 n4 (some ob) (some rb) (some tb) w3) → (?T : Nat → Nat → Nat → World → Prop) ob rb tb w3) => ?main) ?tail
 case main =>
  refine wpAnyH_three (i := 1) (j := 3) (l := 5) (by kernel_rfl) rfl rfl rfl (fun K hK => ?_) (fun K hK => ?_) (fun K hK => ?_)
  ·obtain ⟨u1, hu1⟩ : ∃ X, World.alloc wd (.cells z1 32) = X := ⟨_, rfl⟩
   obtain ⟨q1, hq1⟩ : ∃ X, (World.heap wd).size = X := ⟨_, rfl⟩
   have H1 := Hd (H0.out.m1 z1 HZ1.out 32)
   rw [hu1, hq1] at H1
   go_simp
   refine hK _ _ ⟨H1.out.pre, ?_⟩; clear hK K hu1 hq1
   try go_simp
   refine wpAnyH_two (i := 3) (j := 5) (by kernel_rfl) rfl rfl (fun K hK => ?_) (fun K hK => ?_)
   ·obtain ⟨u2, hu2⟩ : ∃ X, World.alloc u1 (.cells z3 4) = X := ⟨_, rfl⟩
    obtain ⟨q2, hq2⟩ : ∃ X, (World.heap u1).size = X := ⟨_, rfl⟩
    have H2 := Hd (H1.out.m3 z3 HZ3.out 4)
    rw [hu2, hq2] at H2
    go_simp
    refine hK _ _ ⟨H2.out.pre, ?_⟩; clear hK K hu2 hq2
    try go_simp
    refine teH 4 (.agg #[.slice (some ⟨q1, 0, none⟩) n4 n4, .slice (some ⟨q2, 0, none⟩) n4 n4]) rfl (by intro W hW; go_simp; try (first | (with_reducible rfl) | omega)) H2.out.pre ?_
    try go_simp
    refine wpAnyH_one (i := 5) (by kernel_rfl) rfl (fun K hK => ?_)
    obtain ⟨u3, hu3⟩ : ∃ X, World.alloc u2 (.cells #[.slice none 0 0, .slice none 0 0] 178) = X := ⟨_, rfl⟩
    obtain ⟨q3, hq3⟩ : ∃ X, (World.heap u2).size = X := ⟨_, rfl⟩
    have H3 := Hd (H2.out.m5 178)
    rw [hu3, hq3] at H3
    go_simp
    refine hK _ _ ⟨H3.out.pre, ?_⟩; clear hK K hu3 hq3
    try go_simp
    exact hT q1 q2 q3 u3 (Hd H3.out)
   ·obtain ⟨u4, hu4⟩ : ∃ X, World.alloc u1 (.cells #[.slice none 0 0, .slice none 0 0] 178) = X := ⟨_, rfl⟩
    obtain ⟨q4, hq4⟩ : ∃ X, (World.heap u1).size = X := ⟨_, rfl⟩
    have H4 := Hd (H1.out.m5 178)
    rw [hu4, hq4] at H4
    go_simp
    refine hK _ _ ⟨H4.out.pre, ?_⟩; clear hK K hu4 hq4
    try go_simp
    refine wpAnyH_one (i := 3) (by kernel_rfl) rfl (fun K hK => ?_)
    obtain ⟨u5, hu5⟩ : ∃ X, World.alloc u4 (.cells z3 4) = X := ⟨_, rfl⟩
    obtain ⟨q5, hq5⟩ : ∃ X, (World.heap u4).size = X := ⟨_, rfl⟩
    have H5 := Hd (H4.out.m3 z3 HZ3.out 4)
    rw [hu5, hq5] at H5
    go_simp
    refine hK _ _ ⟨H5.out.pre, ?_⟩; clear hK K hu5 hq5
    try go_simp
    refine teH 4 (.agg #[.slice (some ⟨q1, 0, none⟩) n4 n4, .slice (some ⟨q5, 0, none⟩) n4 n4]) rfl (by intro W hW; go_simp; try (first | (with_reducible rfl) | omega)) H5.out.pre ?_
    try go_simp
    exact hT q1 q5 q4 u5 (Hd H5.out)
  ·obtain ⟨u6, hu6⟩ : ∃ X, World.alloc wd (.cells z3 4) = X := ⟨_, rfl⟩
   obtain ⟨q6, hq6⟩ : ∃ X, (World.heap wd).size = X := ⟨_, rfl⟩
   have H6 := Hd (H0.out.m3 z3 HZ3.out 4)
   rw [hu6, hq6] at H6
   go_simp
   refine hK _ _ ⟨H6.out.pre, ?_⟩; clear hK K hu6 hq6
   try go_simp
   refine wpAnyH_two (i := 1) (j := 5) (by kernel_rfl) rfl rfl (fun K hK => ?_) (fun K hK => ?_)
   ·obtain ⟨u7, hu7⟩ : ∃ X, World.alloc u6 (.cells z1 32) = X := ⟨_, rfl⟩
    obtain ⟨q7, hq7⟩ : ∃ X, (World.heap u6).size = X := ⟨_, rfl⟩
    have H7 := Hd (H6.out.m1 z1 HZ1.out 32)
    rw [hu7, hq7] at H7
    go_simp
    refine hK _ _ ⟨H7.out.pre, ?_⟩; clear hK K hu7 hq7
    try go_simp
    refine teH 4 (.agg #[.slice (some ⟨q7, 0, none⟩) n4 n4, .slice (some ⟨q6, 0, none⟩) n4 n4]) rfl (by intro W hW; go_simp; try (first | (with_reducible rfl) | omega)) H7.out.pre ?_
    try go_simp
    refine wpAnyH_one (i := 5) (by kernel_rfl) rfl (fun K hK => ?_)
    obtain ⟨u8, hu8⟩ : ∃ X, World.alloc u7 (.cells #[.slice none 0 0, .slice none 0 0] 178) = X := ⟨_, rfl⟩
    obtain ⟨q8, hq8⟩ : ∃ X, (World.heap u7).size = X := ⟨_, rfl⟩
    have H8 := Hd (H7.out.m5 178)
    rw [hu8, hq8] at H8
    go_simp
    refine hK _ _ ⟨H8.out.pre, ?_⟩; clear hK K hu8 hq8
    try go_simp
    exact hT q7 q6 q8 u8 (Hd H8.out)
   ·obtain ⟨u9, hu9⟩ : ∃ X, World.alloc u6 (.cells #[.slice none 0 0, .slice none 0 0] 178) = X := ⟨_, rfl⟩
    obtain ⟨q9, hq9⟩ : ∃ X, (World.heap u6).size = X := ⟨_, rfl⟩
    have H9 := Hd (H6.out.m5 178)
    rw [hu9, hq9] at H9
    go_simp
    refine hK _ _ ⟨H9.out.pre, ?_⟩; clear hK K hu9 hq9
    try go_simp
    refine wpAnyH_one (i := 1) (by kernel_rfl) rfl (fun K hK => ?_)
    obtain ⟨u10, hu10⟩ : ∃ X, World.alloc u9 (.cells z1 32) = X := ⟨_, rfl⟩
    obtain ⟨q10, hq10⟩ : ∃ X, (World.heap u9).size = X := ⟨_, rfl⟩
    have H10 := Hd (H9.out.m1 z1 HZ1.out 32)
    rw [hu10, hq10] at H10
    go_simp
    refine hK _ _ ⟨H10.out.pre, ?_⟩; clear hK K hu10 hq10
    try go_simp
    refine teH 4 (.agg #[.slice (some ⟨q10, 0, none⟩) n4 n4, .slice (some ⟨q6, 0, none⟩) n4 n4]) rfl (by intro W hW; go_simp; try (first | (with_reducible rfl) | omega)) H10.out.pre ?_
    try go_simp
    exact hT q10 q6 q9 u10 (Hd H10.out)
  ·obtain ⟨u11, hu11⟩ : ∃ X, World.alloc wd (.cells #[.slice none 0 0, .slice none 0 0] 178) = X := ⟨_, rfl⟩
   obtain ⟨q11, hq11⟩ : ∃ X, (World.heap wd).size = X := ⟨_, rfl⟩
   have H11 := Hd (H0.out.m5 178)
   rw [hu11, hq11] at H11
   go_simp
   refine hK _ _ ⟨H11.out.pre, ?_⟩; clear hK K hu11 hq11
   try go_simp
   refine wpAnyH_two (i := 1) (j := 3) (by kernel_rfl) rfl rfl (fun K hK => ?_) (fun K hK => ?_)
   ·obtain ⟨u12, hu12⟩ : ∃ X, World.alloc u11 (.cells z1 32) = X := ⟨_, rfl⟩
    obtain ⟨q12, hq12⟩ : ∃ X, (World.heap u11).size = X := ⟨_, rfl⟩
    have H12 := Hd (H11.out.m1 z1 HZ1.out 32)
    rw [hu12, hq12] at H12
    go_simp
    refine hK _ _ ⟨H12.out.pre, ?_⟩; clear hK K hu12 hq12
    try go_simp
    refine wpAnyH_one (i := 3) (by kernel_rfl) rfl (fun K hK => ?_)
    obtain ⟨u13, hu13⟩ : ∃ X, World.alloc u12 (.cells z3 4) = X := ⟨_, rfl⟩
    obtain ⟨q13, hq13⟩ : ∃ X, (World.heap u12).size = X := ⟨_, rfl⟩
    have H13 := Hd (H12.out.m3 z3 HZ3.out 4)
    rw [hu13, hq13] at H13
    go_simp
    refine hK _ _ ⟨H13.out.pre, ?_⟩; clear hK K hu13 hq13
    try go_simp
    refine teH 4 (.agg #[.slice (some ⟨q12, 0, none⟩) n4 n4, .slice (some ⟨q13, 0, none⟩) n4 n4]) rfl (by intro W hW; go_simp; try (first | (with_reducible rfl) | omega)) H13.out.pre ?_
    try go_simp
    exact hT q12 q13 q11 u13 (Hd H13.out)
   ·obtain ⟨u14, hu14⟩ : ∃ X, World.alloc u11 (.cells z3 4) = X := ⟨_, rfl⟩
    obtain ⟨q14, hq14⟩ : ∃ X, (World.heap u11).size = X := ⟨_, rfl⟩
    have H14 := Hd (H11.out.m3 z3 HZ3.out 4)
    rw [hu14, hq14] at H14
    go_simp
    refine hK _ _ ⟨H14.out.pre, ?_⟩; clear hK K hu14 hq14
    try go_simp
    refine wpAnyH_one (i := 1) (by kernel_rfl) rfl (fun K hK => ?_)
    obtain ⟨u15, hu15⟩ : ∃ X, World.alloc u14 (.cells z1 32) = X := ⟨_, rfl⟩
    obtain ⟨q15, hq15⟩ : ∃ X, (World.heap u14).size = X := ⟨_, rfl⟩
    have H15 := Hd (H14.out.m1 z1 HZ1.out 32)
    rw [hu15, hq15] at H15
    go_simp
    refine hK _ _ ⟨H15.out.pre, ?_⟩; clear hK K hu15 hq15
    try go_simp
    refine teH 4 (.agg #[.slice (some ⟨q15, 0, none⟩) n4 n4, .slice (some ⟨q14, 0, none⟩) n4 n4]) rfl (by intro W hW; go_simp; try (first | (with_reducible rfl) | omega)) H15.out.pre ?_
    try go_simp
    exact hT q15 q14 q11 u15 (Hd H15.out)
 case tail =>
  intro ob rb tb w3 H3
  clear H0 hmk1
  have x0 := (H3.out.c5 tb rfl).1.at_ 0 _ rfl
  have x1 := (H3.out.c5 tb rfl).1.at_ 1 _ rfl
  have f0 := (H3.out.c5 tb rfl).1.fz 0 (by simp)
  have f1 := (H3.out.c5 tb rfl).1.fz 1 (by simp)
  obtain ⟨w4, hw4⟩ : ∃ X, (w3.setCell ⟨tb, 0, none⟩ (.slice (some ⟨ob, 0, none⟩) n4 n4)).setCell ⟨tb, 1, none⟩ (.slice (some ⟨rb, 0, none⟩) n4 n4) = X := ⟨_, rfl⟩
  have hp4 : Below w2.heap.size w2 w4 := by rw [← hw4]; exact (H3.out.pre.setCell (p := ⟨tb, 0, none⟩) (H3.out.c5 tb rfl).2 _).setCell (p := ⟨tb, 1, none⟩) (H3.out.c5 tb rfl).2 _
  have ht4 : Cells w4 tb [.slice (some ⟨ob, 0, none⟩) n4 n4, .slice (some ⟨rb, 0, none⟩) n4 n4] := by rw [← hw4]; exact ((H3.out.c5 tb rfl).1.put 0 (by simp) _).put 1 (by simp) _
  have ho4 : Cells w4 ob (List.replicate n4 (.slice none 0 0)) := by rw [← hw4]; exact ((H3.out.c1 ob rfl).1.far (H3.out.n15 ob tb rfl rfl) _).far (H3.out.n15 ob tb rfl rfl) _
  have hr4 : Cells w4 rb (arrB n4 fun _ => false) := by rw [← hw4]; exact ((H3.out.c3 rb rfl).1.far (H3.out.n35 rb tb rfl rfl) _).far (H3.out.n35 rb tb rfl rfl) _
  have HK4 := Hd (And.intro hp4 (And.intro ht4 (And.intro ho4 hr4)))
  refine wpAnyH_one (i := 6) (by kernel_rfl) rfl (fun K hK => ?_)
  go_simp
  refine hK _ _ ⟨hp4, ?_⟩; clear hK K x0 x1 f0 f1 hp4 ht4 ho4 hr4
  refine wpAnyH_done (by kernel_rfl) ?_ _
  try go_simp
  clear hw4
  obtain ⟨db, hdb⟩ : ∃ X, w4.heap.size = X := ⟨_, rfl⟩
  obtain ⟨w5, hw5⟩ : ∃ X, w4.alloc (.cells z3 4) = X := ⟨_, rfl⟩
  have HS5 : Hid (StX w2 tb ob rb db n4 w5 (fun _ => false) (fun _ => false) (fun _ => [])) := Hd (by
   have hb5 : Below w4.heap.size w4 w5 := by rw [← hw5]; exact bl_one _
   have hd : Cells w5 db (arrB n4 fun _ => false) := by rw [← hw5, ← hdb, ← HZ3.out]; exact Cells.new w4 z3.toList _
   obtain ⟨h1, h2, h3, h4⟩ := HK4.out
   exact ⟨h1.trans (hb5.mono h1.size), h2.on hb5, ofx_start (h3.on hb5), h4.on hb5, hd, ⟨(H3.out.c5 tb rfl).2, (H3.out.c1 ob rfl).2, (H3.out.c3 rb rfl).2, by have := h1.size; omega⟩, Ne.symm (H3.out.n15 ob tb rfl rfl), Ne.symm (H3.out.n35 rb tb rfl rfl), by have := h2.lt; omega, H3.out.n13 ob rb rfl rfl, by have := h3.lt; omega, by have := h4.lt; omega⟩)
  have x1 := HS5.out.t.at_ 1 _ rfl
  have r0 := HS5.out.r.at_ 0 _ (arrB_at _ hn1)
  have fr := HS5.out.r.fz 0 (by rw [arrB_len]; omega)
  obtain ⟨w6, hw6⟩ : ∃ X, w5.setCell ⟨rb, 0, none⟩ (.bool true) = X := ⟨_, rfl⟩
  have HS6 : Hid (StX w2 tb ob rb db n4 w6 (upd (fun _ => false) 0 true) (fun _ => false) (fun _ => [])) := Hd (by rw [← hw6]; exact HS5.out.yesR (by omega))
  clear HK4 H3
  go_wp2_with fail
  clear x1 r0 fr hw5 hw6 hdb hmk3
  have cE : Hid (∀ W, Below w2.heap.size w2 W → ∀ p, p < n4 → ∀ A k c l, SlI W W.heap.size A k c l → k ≤ 60 → Calls Tryz.prog 122 #[.agg #[.slice (some ⟨bk, off, none⟩) fn fc], .int .i64 (f : Int), .int .i64 (p : Int), .slice A k c] W (IsEffX (EffK fs x0 p l) W)) := Hd fun W hW p hp A k c l hl hk => reffectx_any _ fn fc fs f p x0 A k c l W (HP.out W (H12.out W hW)) hi HHX.out (by rw [HL4.out]; exact hp) hl (by omega) hbare
  have cN : Hid (∀ W, Below w2.heap.size w2 W → ∀ p, p < n4 → Calls Tryz.prog 123 #[.agg #[.string s, .bool b, .slice A0 n0 c0, .slice A1 n1 c1, .slice A2 n2 c2, .slice A3 n3 c3, .slice A4 n4 c4, .slice A5 n5 c5, .slice A6 n6 c6, .slice A7 n7 c7, .slice A8 n8 c8], .int .i64 (p : Int)] W (IsRow (nextM x0 p) W)) := Hd fun W hW p hp => rnext_any s b A0 n0 c0 A1 n1 c1 A2 n2 c2 A3 n3 c3 A4 n4 c4 A5 n5 c5 A6 n6 c6 A7 n7 c7 A8 n8 c8 x0 p W (HF2.out W hW) hp
  have cO : Hid (∀ W, Below w2.heap.size w2 W → ∀ p, p < n4 → Calls Tryz.prog 124 #[.agg #[.string s, .bool b, .slice A0 n0 c0, .slice A1 n1 c1, .slice A2 n2 c2, .slice A3 n3 c3, .slice A4 n4 c4, .slice A5 n5 c5, .slice A6 n6 c6, .slice A7 n7 c7, .slice A8 n8 c8], .int .i64 (p : Int)] W (IsRow (opensM x0 p) W)) := Hd fun W hW p hp => ropens_any s b A0 n0 c0 A1 n1 c1 A2 n2 c2 A3 n3 c3 A4 n4 c4 A5 n5 c5 A6 n6 c6 A7 n7 c7 A8 n8 c8 x0 p W (HF2.out W hW) hp
  go_loopw [11, 12, 13, 14, 15, 16, 17] (fun pv _ _ _ _ _ _ wr => ∃ (p : Nat), pv = .int .i64 (p : Int) ∧ p ≤ n4 ∧ Hid (∃ fR fD fT, StX w2 tb ob rb db n4 wr fR fD fT ∧ TI (EffK fs x0) (fun p => nextM x0 p ++ opensM x0 p) n4 p fR fD fT)) (fun pv _ _ _ _ _ _ wr => muF wr db n4 * (n4 + 2) + (n4 - (intOf pv).toNat))
  case atStart => exact ⟨0, rfl, Nat.zero_le _, Hd ⟨_, _, _, HS6.out, ⟨upd_same _ _ _, rfl, (fun _ _ h => by cases h), fun p' hp' => absurd hp' (Nat.not_lt_zero _)⟩⟩⟩
  case round =>
   obtain ⟨p, rfl, hp, HK⟩ := hrel
   obtain ⟨fR, fD, fT, hs, hti⟩ := HK.out
   have HS := Hd hs
   have HTI := Hd hti
   clear hti
   have hp0 : (0 : Int) ≤ (p : Int) := by omega
   have hp1 : (p : Int) ≤ 150 := by omega
   have t0 := HS.out.t.at_ 0 _ rfl
   have t1 := HS.out.t.at_ 1 _ rfl
   clear hs HK HS6 HS5
   by_cases hlt : p < n4
   ·have hpn : (p : Int) < (n4 : Int) := by omega
    have zr := HS.out.r.at_ p _ (arrB_at fR hlt)
    have zd := HS.out.d.at_ p _ (arrB_at fD hlt)
    obtain ⟨r, hr⟩ : ∃ r, fR p = r := ⟨_, rfl⟩
    obtain ⟨d, hd⟩ : ∃ r, fD p = r := ⟨_, rfl⟩
    rw [hr] at zr
    rw [hd] at zd
    have HRD := Hd (And.intro hr hd)
    clear hr hd
    cases r with
    | false =>
     go_wp2_with fail
     go_roundw
     case rel => exact ⟨p + 1, by go_num, by omega, Hd ⟨fR, fD, fT, HS.out, HTI.out.skip (HRD.out.elim fun a b => by first | exact .inl a | exact .inr b)⟩⟩
     case measure => simp [intOf]; omega
    | true =>
     cases d with
     | true =>
      go_wp2_with fail
      go_roundw
      case rel => exact ⟨p + 1, by go_num, by omega, Hd ⟨fR, fD, fT, HS.out, HTI.out.skip (HRD.out.elim fun a b => by first | exact .inl a | exact .inr b)⟩⟩
      case measure => simp [intOf]; omega
     | false =>
      obtain ⟨w7, hw7⟩ : ∃ X, wr.setCell ⟨db, p, none⟩ (.bool true) = X := ⟨_, rfl⟩
      have HS7 : Hid (StX w2 tb ob rb db n4 w7 fR (upd fD p true) fT) := Hd (by rw [← hw7]; exact HS.out.yesD hlt)
      have fz := HS.out.d.fz p (by rw [arrB_len]; exact hlt)
      have HCF : Hid (cntF n4 (upd fD p true) < cntF n4 fD) := Hd (cntF_upd hlt HRD.out.2)
      have HMU0 : Hid (muF wr db n4 = cntF n4 fD) := Hd (muF_of HS.out.d)
      obtain ⟨SA, sk, sc, hso, hsk, hsl⟩ := HS7.out.o.at_ hlt
      obtain ⟨sl, hsleq⟩ : ∃ v, fT p = v := ⟨_, rfl⟩
      rw [hsleq] at hsl
      have HTP := Hd hsleq
      clear hsleq
      have HOP : Hid (w7.cell? ⟨ob, p, none⟩ = some (.slice SA sk sc) ∧ ob < w7.heap.size) := Hd ⟨hso, World.block_lt_of_cell? _ _ hso⟩
      have HSL := Hd hsl
      clear hso hsl
      go_upto_region 11 with fail
      clear fz zr zd t0 t1 hw7
      refine wp_region_held (S := fun W => Below w7.heap.size w7 W) (by kernel_rfl) ?_
      change wpAnyH _ _ _ _ _ _ _ _ (World.drew _)
      have hS0 : Below w7.heap.size w7 w7.drew := (Below.refl _ _).drew
      refine teH 0 (.agg #[.slice (some ⟨bk, off, none⟩) fn fc]) rfl (by intro W hW; have hW2 : Below w2.heap.size w2 W := HS7.out.w.trans (hW.mono HS7.out.w.size); obtain ⟨p9, e0, e1, e2, e3, e4, e5, e6, e7, e8, e9, e10⟩ := EQ.out W hW2; have t9 := (HS7.out.t.on hW).at_ 0 _ rfl; have o9 := (hW.cell (p := ⟨ob, p, none⟩) HOP.out.2).trans HOP.out.1; go_simp; try (first | (with_reducible rfl) | omega)) hS0 ?_
      refine teH 1 (.int .i64 (f : Int)) rfl (by intro W hW; go_simp; try (first | (with_reducible rfl) | omega)) hS0 ?_
      refine teH 2 (.int .i64 (p : Int)) rfl (by intro W hW; go_simp; try (first | (with_reducible rfl) | omega)) hS0 ?_
      refine teH 3 (.pointer (some ⟨tb, 0, none⟩)) rfl (by intro W hW; go_simp; try (first | (with_reducible rfl) | omega)) hS0 ?_
      refine teH 5 (.int .i64 (p : Int)) rfl (by intro W hW; go_simp; try (first | (with_reducible rfl) | omega)) hS0 ?_
      try go_simp
      refine teH 4 (.slice (some ⟨ob, 0, none⟩) n4 n4) rfl (by intro W hW; have hW2 : Below w2.heap.size w2 W := HS7.out.w.trans (hW.mono HS7.out.w.size); obtain ⟨p9, e0, e1, e2, e3, e4, e5, e6, e7, e8, e9, e10⟩ := EQ.out W hW2; have t9 := (HS7.out.t.on hW).at_ 0 _ rfl; have o9 := (hW.cell (p := ⟨ob, p, none⟩) HOP.out.2).trans HOP.out.1; go_simp; try (first | (with_reducible rfl) | omega)) hS0 ?_
      try go_simp
      refine teH 6 (.pointer (some ⟨ob, p, none⟩)) rfl (by intro W hW; go_simp; try (first | (with_reducible rfl) | omega)) hS0 ?_
      try go_simp
      refine teH 7 (.slice SA sk sc) rfl (by intro W hW; have hW2 : Below w2.heap.size w2 W := HS7.out.w.trans (hW.mono HS7.out.w.size); obtain ⟨p9, e0, e1, e2, e3, e4, e5, e6, e7, e8, e9, e10⟩ := EQ.out W hW2; have t9 := (HS7.out.t.on hW).at_ 0 _ rfl; have o9 := (hW.cell (p := ⟨ob, p, none⟩) HOP.out.2).trans HOP.out.1; go_simp; try (first | (with_reducible rfl) | omega)) hS0 ?_
      try go_simp
      refine wpAnyH_one (i := 8) (by kernel_rfl) rfl (fun K hK => ?_)
      go_simp
      refine (cE.out _ (HS7.out.on hS0).w p hlt SA sk sc sl (HSL.out.on hS0) hsk).mono ?_
      rintro e w8 ⟨EA, ek, ec, el, r, rfl, hek, hel, hb8, hef⟩
      have HEF := Hd hef
      clear hef
      have hS8 : Below w7.heap.size w7 w8 := hS0.trans (hb8.mono hS0.size)
      have HEL := Hd hel
      clear hb8 hel
      go_simp
      refine hK _ _ ⟨hS8, ?_⟩; clear hK K
      try go_simp
      refine teH 9 (.tuple #[.slice EA ek ec, .int .i64 r]) rfl (by intro W hW; go_simp; try (first | (with_reducible rfl) | omega)) hS8 ?_
      try go_simp
      refine teH 10 (.slice EA ek ec) rfl (by intro W hW; go_simp; try (first | (with_reducible rfl) | omega)) hS8 ?_
      refine teH 11 (.int .i64 r) rfl (by intro W hW; go_simp; try (first | (with_reducible rfl) | omega)) hS8 ?_
      try go_simp
      refine wpAnyH_one (i := 12) (by kernel_rfl) rfl (fun K hK => ?_)
      go_simp
      refine hK _ _ ⟨hS8, ?_⟩; clear hK K
      refine wpAnyH_one (i := 13) (by kernel_rfl) rfl (fun K hK => ?_)
      go_simp
      refine hK _ _ ⟨hS8, ?_⟩; clear hK K
      try go_simp
      refine wpAnyH_done (by kernel_rfl) ?_ _
      try go_simp
      have HS8 : Hid (StX w2 tb ob rb db n4 w8 fR (upd fD p true) fT) := Hd (HS7.out.on hS8)
      clear hS0 hS8 HS7 HOP HSL HS
      by_cases hr0 : r = 0
      ·subst hr0
       go_upto_region 14 with fail
       refine wp_region_held (S := fun W => Below w8.heap.size w8 W) (by kernel_rfl) ?_
       change wpAnyH _ _ _ _ _ _ _ _ (World.drew _)
       have hS0 : Below w8.heap.size w8 w8.drew := (Below.refl _ _).drew
       refine teH 0 (.agg #[.string s, .bool b, .slice A0 n0 c0, .slice A1 n1 c1, .slice A2 n2 c2, .slice A3 n3 c3, .slice A4 n4 c4, .slice A5 n5 c5, .slice A6 n6 c6, .slice A7 n7 c7, .slice A8 n8 c8]) rfl (by intro W hW; have hW2 : Below w2.heap.size w2 W := HS8.out.w.trans (hW.mono HS8.out.w.size); obtain ⟨p9, e0, e1, e2, e3, e4, e5, e6, e7, e8, e9, e10⟩ := EQ.out W hW2; go_simp; try (first | (with_reducible rfl) | omega)) hS0 ?_
       refine teH 1 (.int .i64 (p : Int)) rfl (by intro W hW; go_simp; try (first | (with_reducible rfl) | omega)) hS0 ?_
       refine teH 3 (.agg #[.string s, .bool b, .slice A0 n0 c0, .slice A1 n1 c1, .slice A2 n2 c2, .slice A3 n3 c3, .slice A4 n4 c4, .slice A5 n5 c5, .slice A6 n6 c6, .slice A7 n7 c7, .slice A8 n8 c8]) rfl (by intro W hW; have hW2 : Below w2.heap.size w2 W := HS8.out.w.trans (hW.mono HS8.out.w.size); obtain ⟨p9, e0, e1, e2, e3, e4, e5, e6, e7, e8, e9, e10⟩ := EQ.out W hW2; go_simp; try (first | (with_reducible rfl) | omega)) hS0 ?_
       refine teH 4 (.int .i64 (p : Int)) rfl (by intro W hW; go_simp; try (first | (with_reducible rfl) | omega)) hS0 ?_
       try go_simp
       refine wpAnyH_one (i := 2) (by kernel_rfl) rfl (fun K hK => ?_)
       go_simp
       refine (cN.out _ (HS8.out.on hS0).w p hlt).mono ?_
       rintro e w9 ⟨NA, nk, nc, rfl, hnr, hb9⟩
       have hS9 : Below w8.heap.size w8 w9 := hS0.trans (hb9.mono hS0.size)
       have hnr8 := own_less hnr hS0.size
       have hnk : nk ≤ 2 := by have := row_len hnr; have := nextM_len x0 p; omega
       clear hb9 hnr
       go_simp
       refine hK _ _ ⟨hS9, ?_⟩; clear hK K
       try go_simp
       refine wpAnyH_one (i := 5) (by kernel_rfl) rfl (fun K hK => ?_)
       go_simp
       refine (cO.out _ (HS8.out.on hS9).w p hlt).mono ?_
       rintro e w10 ⟨OA, ok, oc, rfl, hor, hb10⟩
       have hS10 : Below w8.heap.size w8 w10 := hS9.trans (hb10.mono hS9.size)
       have hok : ok ≤ 1 := by have := row_len hor; have := opensM_len x0 p; omega
       have HNR := Hd (own_keep hnr8 hb10)
       have HSRC := Hd (src_row hor (by omega))
       have HS10 := Hd hS10
       have HONE : Hid (∀ u ∈ rowI (opensM x0 p), u.oneCell' = true) := Hd fun u hu => by
        obtain ⟨z, _, rfl⟩ := List.mem_map.1 hu
        rfl
       clear hb10 hor hnr8 hS9
       go_simp
       refine hK _ _ ⟨hS10, ?_⟩; clear hK K
       try go_simp
       refine wpAnyH_one (i := 6) (by kernel_rfl) rfl (fun K hK => ?_)
       refine step_append_src _ rfl _ _ 34 rfl w8.heap.size 3 i0 (.int .i64 0) 1 8 Tryz.underlying34 hi0 hz0 hz1 hz2 rfl (by decide) (.slice NA nk nc) nk (rowI (nextM x0 p)) ?qq1 HNR.out OA ok oc (rowI (opensM x0 p)) ?qq2 HSRC.out HONE.out (by unfold maxLen; omega) (by omega) hS10.size ?_
       case qq1 => go_simp
       case qq2 => go_simp
       intro v' w11 hown' hgrow3 hat3
       obtain ⟨TA, tc, rfl, _⟩ := own_form hown'
       have hS11 : Below w8.heap.size w8 w11 := Below.grown hS10 hgrow3 hS10.size (fun j hj => (HNR.out.lt j hj).1)
       have HTO : Hid (SlI w11 w11.heap.size TA (nk + ok) tc (nextM x0 p ++ opensM x0 p)) := Hd (SlI.own (by simpa [rowI] using hown') (by omega))
       clear hown' hgrow3 hat3
       go_simp
       refine hK _ _ ⟨hS11, ?_⟩; clear hK K
       try go_simp
       refine wpAnyH_one (i := 7) (by kernel_rfl) rfl (fun K hK => ?_)
       go_simp
       refine hK _ _ ⟨hS11, ?_⟩; clear hK K
       try go_simp
       refine wpAnyH_done (by kernel_rfl) ?_ _
       try go_simp
       have HS11 : Hid (StX w2 tb ob rb db n4 w11 fR (upd fD p true) fT) := Hd (HS8.out.on hS11)
       have HEL11 : Hid (SlI w11 w11.heap.size EA ek ec el) := Hd (HEL.out.on hS11)
       obtain ⟨tm, htm⟩ : ∃ v, nk + ok = v := ⟨_, rfl⟩
       rw [htm] at HTO
       simp only [htm]
       have htm1 : tm ≤ 3 := by omega
       have htm2 : (tm : Int) ≤ 3 := by omega
       obtain ⟨tl, htl⟩ : ∃ v, nextM x0 p ++ opensM x0 p = v := ⟨_, rfl⟩
       rw [htl] at HTO
       have HTL := Hd htl
       have HQ0 : Hid (TQ (EffK fs x0) (fun p => nextM x0 p ++ opensM x0 p) n4 p fD tl el 0 (p : Int) fR fT) := Hd (HTI.out.start HRD.out.1 (by rw [HTP.out]; exact HEF.out (by trivial)))
       clear hS0 hS10 hS11 HS8 HEL HNR HSRC HS10 HONE htm htl
       go_wp2_with fail
       go_loopw [15, 16, 17] (fun av iv _ wr => ∃ (a : Int) (j : Nat), av = .int .i64 a ∧ iv = .int .i64 (j : Int) ∧ j ≤ tm ∧ -1 ≤ a ∧ a ≤ (p : Int) ∧ Hid (∃ fR' fT', StX w2 tb ob rb db n4 wr fR' (upd fD p true) fT' ∧ SlI wr wr.heap.size EA ek ec el ∧ SlI wr wr.heap.size TA tm tc tl ∧ TQ (EffK fs x0) (fun p => nextM x0 p ++ opensM x0 p) n4 p fD tl el j a fR' fT')) (fun _ iv _ _ => tm - (intOf iv).toNat)
       case atStart => exact ⟨(p : Int), 0, rfl, rfl, Nat.zero_le _, by omega, by omega, Hd ⟨fR, fT, HS11.out, HEL11.out, HTO.out, HQ0.out⟩⟩
       case round =>
        obtain ⟨a, j, rfl, rfl, hj, ha0, ha1, HK2⟩ := hrel
        obtain ⟨gR, gT, hgs, hge, hgt, hgq⟩ := HK2.out
        have HQ := Hd hgq
        clear hgq HQ0
        have HG := Hd hgs
        have HGE := Hd hge
        have HGT := Hd hgt
        clear hgs hge hgt HK2 HS11 HEL11 HTO
        have hj0 : (0 : Int) ≤ (j : Int) := by omega
        have hj1 : (j : Int) ≤ 3 := by omega
        by_cases hjt : j < tm
        ·have hjn : (j : Int) < (tm : Int) := by omega
         obtain ⟨ub, uo, v, rfl, hub, hv, uc⟩ := SlR.cell1 (f := Value.int .i64) HGT.out (i := j) hjt
         have t0 := HG.out.t.at_ 0 _ rfl
         have t1 := HG.out.t.at_ 1 _ rfl
         have HV0 := Hd hv
         clear hv
         by_cases hv0 : v < 0
         ·have d0 : decide (v < 0) = true := dcT (by omega)
          have v0 := (HC1.out wr HG.out.w).at_ 0 _ rfl
          have v1 := (HC1.out wr HG.out.w).at_ 1 _ rfl
          have vf0 := (HC1.out wr HG.out.w).fz 0 (by simp)
          have vf1 := (HC1.out wr HG.out.w).fz 1 (by simp)
          go_wp2_with fail
          obtain ⟨wx, hwx⟩ : ∃ X, (World.setCell wr ⟨g1, 0, none⟩ (.slice none 0 0)).setCell ⟨g1, 1, none⟩ (.slice none 0 0) = X := ⟨_, rfl⟩
          have hcx : Cells wx g1 [.slice none 0 0, .slice none 0 0] := by rw [← hwx]; exact ((HC1.out wr HG.out.w).put 0 (by simp) _).put 1 (by simp) _
          have hbx : Below w1.heap.size w1 wx := by rw [← hwx]; exact ((H12.out wr HG.out.w).setCell (p := ⟨g1, 0, none⟩) HG12.out.2 _).setCell (p := ⟨g1, 1, none⟩) HG12.out.2 _
          have gx0 := hcx.at_ 0 _ rfl
          have gx1 := hcx.at_ 1 _ rfl
          try rw [hwx]
          refine bodyPost_ret (v := .tuple #[.agg #[.slice none 0 0, .slice none 0 0], .int .i64 11, .int .i64 (p : Int)]) (by simp [results, Tryz.results95, go_sem, gx0, gx1]) rfl ?_
          exact .inl ⟨11, (p : Int), (by decide), rfl, HBW.out _ hbx⟩
         ·have d0 : decide (v < 0) = false := dcF (by omega)
          by_cases hv1 : v < (n4 : Int)
          ·obtain ⟨q, rfl⟩ := Int.eq_ofNat_of_zero_le (show 0 ≤ v by omega)
           have hq : q < n4 := by omega
           have hq0 : (0 : Int) ≤ (q : Int) := by omega
           have hq1 : (q : Int) ≤ 150 := by omega
           have hqn : (q : Int) < (n4 : Int) := by omega
           have d1 : decide ((q : Int) ≥ (n4 : Int)) = false := dcF (by omega)
           have d1b : decide (n4 ≤ q) = false := dcF (by omega)
           have zr := HG.out.r.at_ q _ (arrB_at gR hq)
           obtain ⟨r, hr⟩ : ∃ r, gR q = r := ⟨_, rfl⟩
           rw [hr] at zr
           have HRQ := Hd hr
           clear hr
           cases r with
           | true =>
            obtain ⟨QA, qk, qc, hqo, hqk, hql⟩ := HG.out.o.at_ hq
            have cS := Hd (rsame_any qk qc ek ec QA EA (gT q) el wr hql HGE.out (by omega) (by omega))
            clear hql
            go_wp2_with fail
            refine cS.out.mono ?_
            rintro e wz ⟨r2, rfl, hsm, hbz⟩
            have HSM := Hd hsm
            clear hsm
            have HZ : Hid (StX w2 tb ob rb db n4 wz gR (upd fD p true) gT) := Hd (HG.out.on hbz)
            have HZE := Hd (HGE.out.on hbz)
            have HZT := Hd (HGT.out.on hbz)
            have zr2 := HZ.out.r.at_ q _ (arrB_at gR hq)
            have zr3 := (hbz.cell (p := ⟨rb, q, none⟩) (World.block_lt_of_cell? _ _ zr)).trans zr
            clear hbz cS t0 t1 zr zr2 uc hub hqo
            have t0 := HZ.out.t.at_ 0 _ rfl
            have t1 := HZ.out.t.at_ 1 _ rfl
            cases r2 with
            | false =>
             have v0 := (HC1.out wz HZ.out.w).at_ 0 _ rfl
             have v1 := (HC1.out wz HZ.out.w).at_ 1 _ rfl
             have vf0 := (HC1.out wz HZ.out.w).fz 0 (by simp)
             have vf1 := (HC1.out wz HZ.out.w).fz 1 (by simp)
             go_wp2_with fail
             obtain ⟨wx, hwx⟩ : ∃ X, (World.setCell wz ⟨g1, 0, none⟩ (.slice none 0 0)).setCell ⟨g1, 1, none⟩ (.slice none 0 0) = X := ⟨_, rfl⟩
             have hcx : Cells wx g1 [.slice none 0 0, .slice none 0 0] := by rw [← hwx]; exact ((HC1.out wz HZ.out.w).put 0 (by simp) _).put 1 (by simp) _
             have hbx : Below w1.heap.size w1 wx := by rw [← hwx]; exact ((H12.out wz HZ.out.w).setCell (p := ⟨g1, 0, none⟩) HG12.out.2 _).setCell (p := ⟨g1, 1, none⟩) HG12.out.2 _
             have gx0 := hcx.at_ 0 _ rfl
             have gx1 := hcx.at_ 1 _ rfl
             try rw [hwx]
             refine bodyPost_ret (v := .tuple #[.agg #[.slice none 0 0, .slice none 0 0], .int .i64 10, .int .i64 (p : Int)]) (by simp [results, Tryz.results95, go_sem, gx0, gx1]) rfl ?_
             exact .inl ⟨10, (p : Int), (by decide), rfl, HBW.out _ hbx⟩
            | true =>
             go_wp2_with fail
             go_roundw
             case rel => exact ⟨a, j + 1, rfl, by go_num, by omega, ha0, ha1, Hd ⟨gR, gT, HZ.out, HZE.out, HZT.out, HQ.out.same HV0.out hq HRQ.out (HSM.out (by trivial))⟩⟩
             case measure => simp [intOf]; omega
           | false =>
            obtain ⟨QA, qk, qc, hqo, hqk, hql⟩ := HG.out.o.at_ hq
            have fzr := HG.out.r.fz q (by rw [arrB_len]; exact hq)
            obtain ⟨wy, hwy⟩ : ∃ X, wr.setCell ⟨rb, q, none⟩ (.bool true) = X := ⟨_, rfl⟩
            have HY : Hid (StX w2 tb ob rb db n4 wy (upd gR q true) (upd fD p true) gT) := Hd (by rw [← hwy]; exact HG.out.yesR hq)
            have HYE : Hid (SlI wy wy.heap.size EA ek ec el) := Hd (by rw [← hwy]; exact HG.out.sliR hq HGE.out)
            have HYT : Hid (SlI wy wy.heap.size (some ⟨ub, uo, none⟩) tm tc tl) := Hd (by rw [← hwy]; exact HG.out.sliR hq HGT.out)
            obtain ⟨QA2, qk2, qc2, hqo2, hqk2, hql2⟩ := HY.out.o.at_ hq
            have fzo := HY.out.o.fz hq
            have s0' := HY.out.t.at_ 0 _ rfl
            have s1' := HY.out.t.at_ 1 _ rfl
            obtain ⟨wv, hwv⟩ : ∃ X, wy.setCell ⟨ob, q, none⟩ (.slice EA ek ec) = X := ⟨_, rfl⟩
            have HV : Hid (StX w2 tb ob rb db n4 wv (upd gR q true) (upd fD p true) (updT gT q el)) := Hd (by rw [← hwv]; exact HY.out.put hq hek HYE.out)
            have HVE : Hid (SlI wv wv.heap.size EA ek ec el) := Hd (by rw [← hwv]; exact HY.out.sliO hq HYE.out _)
            have HVT : Hid (SlI wv wv.heap.size (some ⟨ub, uo, none⟩) tm tc tl) := Hd (by rw [← hwv]; exact HY.out.sliO hq HYT.out _)
            clear hql hql2
            by_cases hmin : (q : Int) - 1 < a
            ·go_wp2_with fail
             go_roundw
             case rel => exact ⟨(q : Int) - 1, j + 1, by first | rfl | (simp; omega), by go_num, by omega, by omega, by omega, Hd ⟨_, _, HV.out, HVE.out, HVT.out, HQ.out.new HV0.out hq HRQ.out (by omega) (by omega)⟩⟩
             case measure => simp [intOf]; omega
            ·go_wp2_with fail
             go_roundw
             case rel => exact ⟨a, j + 1, by first | rfl | (simp; omega), by go_num, by omega, ha0, ha1, Hd ⟨_, _, HV.out, HVE.out, HVT.out, HQ.out.new HV0.out hq HRQ.out (by omega) (by omega)⟩⟩
             case measure => simp [intOf]; omega
          ·have d1 : decide (v ≥ (n4 : Int)) = true := dcT (by omega)
           have d1b : decide ((n4 : Int) ≤ v) = true := dcT (by omega)
           have v0 := (HC1.out wr HG.out.w).at_ 0 _ rfl
           have v1 := (HC1.out wr HG.out.w).at_ 1 _ rfl
           have vf0 := (HC1.out wr HG.out.w).fz 0 (by simp)
           have vf1 := (HC1.out wr HG.out.w).fz 1 (by simp)
           go_wp2_with fail
           obtain ⟨wx, hwx⟩ : ∃ X, (World.setCell wr ⟨g1, 0, none⟩ (.slice none 0 0)).setCell ⟨g1, 1, none⟩ (.slice none 0 0) = X := ⟨_, rfl⟩
           have hcx : Cells wx g1 [.slice none 0 0, .slice none 0 0] := by rw [← hwx]; exact ((HC1.out wr HG.out.w).put 0 (by simp) _).put 1 (by simp) _
           have hbx : Below w1.heap.size w1 wx := by rw [← hwx]; exact ((H12.out wr HG.out.w).setCell (p := ⟨g1, 0, none⟩) HG12.out.2 _).setCell (p := ⟨g1, 1, none⟩) HG12.out.2 _
           have gx0 := hcx.at_ 0 _ rfl
           have gx1 := hcx.at_ 1 _ rfl
           try rw [hwx]
           refine bodyPost_ret (v := .tuple #[.agg #[.slice none 0 0, .slice none 0 0], .int .i64 11, .int .i64 (p : Int)]) (by simp [results, Tryz.results95, go_sem, gx0, gx1]) rfl ?_
           exact .inl ⟨11, (p : Int), (by decide), rfl, HBW.out _ hbx⟩
        ·obtain rfl : j = tm := by omega
         go_wp2_with fail
         go_roundw
         case rel => exact ⟨(a + 1).toNat, by rw [show (((a + 1).toNat : Nat) : Int) = a + 1 by omega], by omega, Hd ⟨gR, _, gT, HG.out, HQ.out.fin HTL.out HGT.out.1 ha0⟩⟩
         case measure =>
          have h1 := HMU0.out
          have h2 : muF wr db n4 = cntF n4 (upd fD p true) := muF_of HG.out.d
          have h3 := HCF.out
          rw [h1, h2]
          have h4 : cntF n4 (upd fD p true) * (n4 + 2) + (n4 + 2) ≤ cntF n4 fD * (n4 + 2) := by
           have := Nat.mul_le_mul_right (n4 + 2) h3
           rwa [Nat.succ_mul] at this
          simp only [intOf]
          omega
      ·have tr : (r != 0) = true := by simpa using hr0
       have v0 := (HC1.out w8 HS8.out.w).at_ 0 _ rfl
       have v1 := (HC1.out w8 HS8.out.w).at_ 1 _ rfl
       have vf0 := (HC1.out w8 HS8.out.w).fz 0 (by simp)
       have vf1 := (HC1.out w8 HS8.out.w).fz 1 (by simp)
       go_wp2_with fail
       obtain ⟨wx, hwx⟩ : ∃ X, (World.setCell w8 ⟨g1, 0, none⟩ (.slice none 0 0)).setCell ⟨g1, 1, none⟩ (.slice none 0 0) = X := ⟨_, rfl⟩
       have hcx : Cells wx g1 [.slice none 0 0, .slice none 0 0] := by rw [← hwx]; exact ((HC1.out w8 HS8.out.w).put 0 (by simp) _).put 1 (by simp) _
       have hbx : Below w1.heap.size w1 wx := by rw [← hwx]; exact ((H12.out w8 HS8.out.w).setCell (p := ⟨g1, 0, none⟩) HG12.out.2 _).setCell (p := ⟨g1, 1, none⟩) HG12.out.2 _
       have gx0 := hcx.at_ 0 _ rfl
       have gx1 := hcx.at_ 1 _ rfl
       try rw [hwx]
       refine bodyPost_ret (v := .tuple #[.agg #[.slice none 0 0, .slice none 0 0], .int .i64 r, .int .i64 (p : Int)]) (by simp [results, Tryz.results95, go_sem, gx0, gx1]) rfl ?_
       exact .inl ⟨r, (p : Int), hr0, rfl, HBW.out _ hbx⟩
   ·obtain rfl : p = n4 := by omega
    have v0 := (HC1.out wr HS.out.w).at_ 0 _ rfl
    have v1 := (HC1.out wr HS.out.w).at_ 1 _ rfl
    have vf0 := (HC1.out wr HS.out.w).fz 0 (by simp)
    have vf1 := (HC1.out wr HS.out.w).fz 1 (by simp)
    go_wp2_with fail
    obtain ⟨wx, hwx⟩ : ∃ X, (wr.setCell ⟨g1, 0, none⟩ (.slice (some ⟨ob, 0, none⟩) p p)).setCell ⟨g1, 1, none⟩ (.slice (some ⟨rb, 0, none⟩) p p) = X := ⟨_, rfl⟩
    have hcx : Cells wx g1 [.slice (some ⟨ob, 0, none⟩) p p, .slice (some ⟨rb, 0, none⟩) p p] := by rw [← hwx]; exact ((HC1.out wr HS.out.w).put 0 (by simp) _).put 1 (by simp) _
    have hbx : Below w1.heap.size w1 wx := by rw [← hwx]; exact ((H12.out wr HS.out.w).setCell (p := ⟨g1, 0, none⟩) HG12.out.2 _).setCell (p := ⟨g1, 1, none⟩) HG12.out.2 _
    have gx0 := hcx.at_ 0 _ rfl
    have gx1 := hcx.at_ 1 _ rfl
    have hne1 : ob ≠ g1 := by have := HS.out.l1.2.1; have := HG12.out.1; omega
    have hne2 : rb ≠ g1 := by have := HS.out.l1.2.2.1; have := HG12.out.1; omega
    have HOKT := Hd (HTY.out _ _ _ HTI.out)
    have hox : OfX wx ob p fT := by
     rw [← hwx]
     have h1 := HS.out.o.far hne1 v0 (fun z h => by cases h) (.slice (some ⟨ob, 0, none⟩) p p)
     exact h1.far hne1 (v := .slice none 0 0) (((HC1.out wr HS.out.w).put 0 (by simp) _).at_ 1 _ rfl) (fun z h => by cases h) _
    have hrx : Cells wx rb (arrB p fR) := by rw [← hwx]; exact (HS.out.r.far hne2 _).far hne2 _
    try rw [hwx]
    refine bodyPost_ret (v := .tuple #[.agg #[.slice (some ⟨ob, 0, none⟩) p p, .slice (some ⟨rb, 0, none⟩) p p], .int .i64 0, .int .i64 0]) (by simp [results, Tryz.results95, go_sem, gx0, gx1]) rfl ?_
    exact .inr ⟨ob, rb, fR, fT, rfl, hox, hrx, HS.out.ne.2.2.2.1, HBW.out _ hbx, HOKT.out⟩
end Go.Proofs.YtobmjnmcjddhcaaGreat
