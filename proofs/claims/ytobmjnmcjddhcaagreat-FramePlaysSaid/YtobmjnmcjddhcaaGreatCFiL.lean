import Derived.Test.YtobmjnmcjddhcaaGreatCFiK
set_option linter.unusedSimpArgs false
set_option linter.unusedVariables false
set_option maxRecDepth 100000
set_option maxHeartbeats 64000000
namespace Go.Proofs.YtobmjnmcjddhcaaGreat
open Go.RowKit
theorem rstep_any (s : ByteArray) (b : Bool) (A0 : Option Addr) (n0 c0 : Nat) (A1 : Option Addr) (n1 c1 : Nat) (A2 : Option Addr) (n2 c2 : Nat) (A3 : Option Addr) (n3 c3 : Nat) (A4 : Option Addr) (n4 c4 : Nat) (A5 : Option Addr) (n5 c5 : Nat) (A6 : Option Addr) (n6 c6 : Nat) (A7 : Option Addr) (n7 c7 : Nat) (A8 : Option Addr) (n8 c8 : Nat) (x : DFunc) (k : Nat) (w : World) (h : FnW w w.heap.size s b A0 n0 c0 A1 n1 c1 A2 n2 c2 A3 n3 c3 A4 n4 c4 A5 n5 c5 A6 n6 c6 A7 n7 c7 A8 n8 c8 x) (hcan : canOk x) (hnb : 1 ≤ x.nodes.length) (hk : k < n4) :
  Calls Tryz.prog 128 #[.agg #[.string s, .bool b, .slice A0 n0 c0, .slice A1 n1 c1, .slice A2 n2 c2, .slice A3 n3 c3, .slice A4 n4 c4, .slice A5 n5 c5, .slice A6 n6 c6, .slice A7 n7 c7, .slice A8 n8 c8], .int .i64 (k : Int)] w (IsBool w) := by
 have l4 := h.r4.1
 have l6 := h.r6.1
 have l7 := h.r7.1
 obtain ⟨hno, h74⟩ : nodesOk x.nodes ∧ n7 = n4 := by
  rcases hcan.tab with ⟨e, _⟩ | ⟨a, b, c, _⟩
  ·rw [e] at hnb; simp at hnb
  ·exact ⟨a, by omega⟩
 obtain ⟨nb, no, q0, z, rfl, hnb6, -, -, -, -, -⟩ := node_get h.r6 (a := 0) (by omega) (by omega)
 obtain ⟨cb, co, yo, ya, rfl, hcb, hca, hcd, u0, u1⟩ := code_get h.r4 hk
 obtain ⟨ab, ao, v0, rfl, hab, hv0, av0⟩ := SlR.cell1 (f := Value.int .i64) h.r7 (i := k) (by omega)
 obtain ⟨w1, hw1⟩ : ∃ X, w.alloc (.cells #[.string s, .bool b, .slice A0 n0 c0, .slice A1 n1 c1, .slice A2 n2 c2, .slice A3 n3 c3, .slice (some ⟨cb, co, none⟩) n4 c4, .slice A5 n5 c5, .slice (some ⟨nb, no, none⟩) n6 c6, .slice (some ⟨ab, ao, none⟩) n7 c7, .slice A8 n8 c8] 38) = X := ⟨_, rfl⟩
 obtain ⟨g, hg⟩ : ∃ g, w.heap.size = g := ⟨_, rfl⟩
 have hb1 : Below w.heap.size w w1 := by rw [← hw1]; exact bl_one _
 have hc1 : Cells w1 g [.string s, .bool b, .slice A0 n0 c0, .slice A1 n1 c1, .slice A2 n2 c2, .slice A3 n3 c3, .slice (some ⟨cb, co, none⟩) n4 c4, .slice A5 n5 c5, .slice (some ⟨nb, no, none⟩) n6 c6, .slice (some ⟨ab, ao, none⟩) n7 c7, .slice A8 n8 c8] := by rw [← hw1, ← hg]; exact Cells.new w [.string s, .bool b, .slice A0 n0 c0, .slice A1 n1 c1, .slice A2 n2 c2, .slice A3 n3 c3, .slice (some ⟨cb, co, none⟩) n4 c4, .slice A5 n5 c5, .slice (some ⟨nb, no, none⟩) n6 c6, .slice (some ⟨ab, ao, none⟩) n7 c7, .slice A8 n8 c8] _
 have h1 := (h.keep hb1).more hb1.size
 have HB1 := Lib.hid hb1
 obtain ⟨s4, s5, s6, s7, s8, s0⟩ := h.sm
 have hk0 : (0 : Int) ≤ (k : Int) := by omega
 have hk1 : (k : Int) ≤ 150 := by omega
 have hkn : (k : Int) < (n4 : Int) := by omega
 have hk7 : (k : Int) < (n7 : Int) := by omega
 have hk7n : k < n7 := by omega
 have HCT : Hid (∀ W, Below w1.heap.size w1 W → Cells W g [.string s, .bool b, .slice A0 n0 c0, .slice A1 n1 c1, .slice A2 n2 c2, .slice A3 n3 c3, .slice (some ⟨cb, co, none⟩) n4 c4, .slice A5 n5 c5, .slice (some ⟨nb, no, none⟩) n6 c6, .slice (some ⟨ab, ao, none⟩) n7 c7, .slice A8 n8 c8]) := Lib.hid fun W hW => hc1.on hW
 have HF1 : Hid (∀ W, Below w1.heap.size w1 W → FnW W W.heap.size s b A0 n0 c0 A1 n1 c1 A2 n2 c2 A3 n3 c3 (some ⟨cb, co, none⟩) n4 c4 A5 n5 c5 (some ⟨nb, no, none⟩) n6 c6 (some ⟨ab, ao, none⟩) n7 c7 A8 n8 c8 x) := Lib.hid fun W hW => (h1.keep hW).more hW.size
 have HFIN : Hid (∀ W, Below w1.heap.size w1 W → Below w.heap.size w W) := Lib.hid fun W hW => hb1.trans (hW.mono hb1.size)
 have HR7 : Hid (∀ i : Nat, i < n7 → ∃ v : Int, w1.cell? ⟨ab, ao + i, none⟩ = some (.int .i64 v)) := Lib.hid fun i hi => by
  obtain ⟨b', o', v, e, _, _, hv⟩ := SlR.cell1 (f := Value.int .i64) h1.r7 hi
  injection e with e
  injection e with e1 e2
  subst e1
  subst e2
  exact ⟨v, hv⟩
 have HR6 : Hid (∀ i : Nat, i < n6 → ∃ v : Int, w1.cell? ⟨nb, no + i * 7, none⟩ = some (.int .i64 v)) := Lib.hid fun i hi => by
  obtain ⟨b', o', q', z', e, _, e3, _, _, _, hv⟩ := node_get h1.r6 (a := (i : Int)) (by omega) (by omega)
  injection e with e
  injection e with e1 e2
  subst e1
  subst e2
  obtain rfl : i = q' := by omega
  exact ⟨z'.parent, by have := hv 0 _ rfl; rw [Nat.add_zero] at this; exact this⟩
 have HLT : Hid (nb < w1.heap.size ∧ ab < w1.heap.size) := Lib.hid ⟨by have := hb1.size; omega, by have := hb1.size; omega⟩
 have HAV : Hid (w1.cell? ⟨ab, ao + k, none⟩ = some (.int .i64 v0)) := Lib.hid ((hb1.cell (p := ⟨ab, ao + k, none⟩) hab).trans av0)
 have u0' := (hb1.cell (p := ⟨cb, co + k * 2, none⟩) hcb).trans u0
 have u1' := (hb1.cell (p := ⟨cb, co + k * 2 + 1, none⟩) hcb).trans u1
 have H74 := Lib.hid h74
 have HK := Lib.hid hk
 have e0 := hc1.at_ 0 _ rfl
 have e1 := hc1.at_ 1 _ rfl
 have e2 := hc1.at_ 2 _ rfl
 have e3 := hc1.at_ 3 _ rfl
 have e4 := hc1.at_ 4 _ rfl
 have e5 := hc1.at_ 5 _ rfl
 have e6 := hc1.at_ 6 _ rfl
 have e7 := hc1.at_ 7 _ rfl
 have e8 := hc1.at_ 8 _ rfl
 have e9 := hc1.at_ 9 _ rfl
 have e10 := hc1.at_ 10 _ rfl
 clear h h1 l4 l6 l7 h74 hno hnb hk hca hcd u0 u1 av0 hv0 hcan hb1 hc1 hnb6 hcb hab z
 go_enter Tryz.func128, Tryz.ntmps128
 go_upto_region 2 with fail
 clear u0' u1' e0 e1 e2 e3 e4 e5 e6 e7 e8 e9 e10
 obtain ⟨w2, hwX⟩ : ∃ X, World.alloc w1 (.cells #[.int .i64 yo, .int .i64 ya] 113) = X := ⟨_, rfl⟩
 obtain ⟨g2, hgX⟩ : ∃ X, (World.heap w1).size = X := ⟨_, rfl⟩
 have hb2 : Below (World.heap w1).size w1 w2 := by rw [← hwX]; exact bl_one _
 have hc2 : Cells w2 g2 [.int .i64 yo, .int .i64 ya] := by rw [← hwX, ← hgX]; exact Cells.new w1 [.int .i64 yo, .int .i64 ya] _
 rw [hwX, hgX]
 clear hwX hgX
 have H12 : Hid (∀ W, Below w2.heap.size w2 W → Below w1.heap.size w1 W) := Lib.hid fun W hW => hb2.trans (hW.mono hb2.size)
 have i0 := hc2.at_ 0 _ rfl
 have i1 := hc2.at_ 1 _ rfl
 have a0 := (hb2.cell (p := ⟨ab, ao + k, none⟩) HLT.out.2).trans HAV.out
 have hct := HCT.out w2 hb2
 have e0 := hct.at_ 0 _ rfl
 have e1 := hct.at_ 1 _ rfl
 have e2 := hct.at_ 2 _ rfl
 have e3 := hct.at_ 3 _ rfl
 have e4 := hct.at_ 4 _ rfl
 have e5 := hct.at_ 5 _ rfl
 have e6 := hct.at_ 6 _ rfl
 have e7 := hct.at_ 7 _ rfl
 have e8 := hct.at_ 8 _ rfl
 have e9 := hct.at_ 9 _ rfl
 have e10 := hct.at_ 10 _ rfl
 have HB2 := Lib.hid hb2
 clear hct hw1 hg e0 e1 e2 e3 e4 e5 e6 e7 e8 e10 i0 i1
 go_wp2_with fail
 go_quiet (fail)
 go_simp
 obtain ⟨w3, hw3⟩ : ∃ X, World.drewN w2 nq = X := ⟨_, rfl⟩
 rw [hw3]
 have hb3 : Below w2.heap.size w2 w3 := by rw [← hw3]; exact below_drewN' (Below.refl _ _) _
 have HB3 := Lib.hid hb3
 have hc3 := hc2.on hb3
 have i0 := hc3.at_ 0 _ rfl
 have i1 := hc3.at_ 1 _ rfl
 have hct := HCT.out w3 (H12.out w3 hb3)
 clear e9 a0 hw3
 have e0 := hct.at_ 0 _ rfl
 have e1 := hct.at_ 1 _ rfl
 have e2 := hct.at_ 2 _ rfl
 have e3 := hct.at_ 3 _ rfl
 have e4 := hct.at_ 4 _ rfl
 have e5 := hct.at_ 5 _ rfl
 have e6 := hct.at_ 6 _ rfl
 have e7 := hct.at_ 7 _ rfl
 have e8 := hct.at_ 8 _ rfl
 have e9 := hct.at_ 9 _ rfl
 have e10 := hct.at_ 10 _ rfl
 clear hb2 hc2 hb3 hc3 hct
 by_cases o33 : yo = 33 ∨ yo = 34
 ·by_cases cc1 : ya < 1
  ·have t1 : decide (ya < 1) = true := by rw [decide_eq_true_eq]; exact cc1
   rcases o33 with rfl | rfl
   ·go_wp2_with fail
    go_ret
    exact ⟨⟨_, rfl⟩, HFIN.out _ (H12.out _ HB3.out)⟩
   ·go_wp2_with fail
    go_ret
    exact ⟨⟨_, rfl⟩, HFIN.out _ (H12.out _ HB3.out)⟩
  ·have t1 : decide (ya < 1) = false := by rw [decide_eq_false_iff_not]; exact cc1
   obtain ⟨ya', rfl⟩ := Int.eq_ofNat_of_zero_le (show 0 ≤ ya by omega)
   have t1b : decide (ya' < 1) = false := by rw [decide_eq_false_iff_not]; omega
   have t1c : decide (ya' = 0) = false := by rw [decide_eq_false_iff_not]; omega
   by_cases cc2 : ya' < n6
   ·have t2 : decide ((ya' : Int) ≥ (n6 : Int)) = false := by rw [decide_eq_false_iff_not]; omega
    have t2b : decide (n6 ≤ ya') = false := by rw [decide_eq_false_iff_not]; omega
    have c2i : (ya' : Int) < (n6 : Int) := by omega
    have c20 : (0 : Int) ≤ (ya' : Int) := by omega
    obtain ⟨up, hup⟩ := HR6.out ya' cc2
    have p0 := ((H12.out w3 HB3.out).cell (p := ⟨nb, no + ya' * 7, none⟩) HLT.out.1).trans hup
    clear hup
    rcases o33 with rfl | rfl
    ·by_cases cc3 : v0 = up
     ·have t3 : (v0 != up) = false := by simpa using cc3
      clear cc3
      go_upto_region 12 with fail
      have cN := Lib.hid (rnext_any s b A0 n0 c0 A1 n1 c1 A2 n2 c2 A3 n3 c3 (some ⟨cb, co, none⟩) n4 c4 A5 n5 c5 (some ⟨nb, no, none⟩) n6 c6 (some ⟨ab, ao, none⟩) n7 c7 A8 n8 c8 x k w3 (HF1.out w3 (H12.out w3 HB3.out)) HK.out)
      clear i0 i1
      go_wp2_with fail
      refine cN.out.mono ?_
      rintro e w4 ⟨U, m, cu, rfl, hou, hb4⟩
      have HB4 : Hid (Below w2.heap.size w2 w4) := Lib.hid (HB3.out.trans (hb4.mono HB3.out.size))
      have HSU := Lib.hid (SlI.own hou (by have := row_len hou; have := nextM_len x k; omega))
      have hm21 : m ≤ 2 := by have := row_len hou; have := nextM_len x k; omega
      have hm0 : (m : Int) ≤ 2 := by omega
      clear hou hb4 cN e0 e1 e2 e3 e4 e5 e6 e7 e8 e9 e10
      go_wp2_with fail
      go_loopw [10] (fun iv wr => ∃ (j : Nat), iv = .int .i64 (j : Int) ∧ j ≤ m ∧ Hid (Below w4.heap.size w4 wr)) (fun iv _ => m - (intOf iv).toNat)
      case atStart => exact ⟨0, rfl, Nat.zero_le _, Lib.hid (Below.refl _ _)⟩
      case round =>
       obtain ⟨j, rfl, hj, HB⟩ := hrel
       have hj0 : (0 : Int) ≤ (j : Int) := by omega
       by_cases hlt : j < m
       ·have hjm : (j : Int) < (m : Int) := by omega
        have H2r : Hid (Below w2.heap.size w2 wr) := Lib.hid (HB4.out.trans (HB.out.mono HB4.out.size))
        obtain ⟨ub, uo, u, rfl, hub, _, uc0⟩ := SlR.cell1 (f := Value.int .i64) (HSU.out.on HB.out) (i := j) hlt
        have e9 := (HCT.out wr (H12.out wr H2r.out)).at_ 9 _ rfl
        by_cases cc5 : u < 0
        ·have t5 : decide (u < 0) = true := by rw [decide_eq_true_eq]; exact cc5
         go_wp2_with fail
         go_quiet (fail)
         go_wp2_with fail
         go_ret
         exact ⟨⟨_, rfl⟩, HFIN.out _ (H12.out _ (H2r.out.trans (below_drewN' (Below.refl _ _) _ |>.mono H2r.out.size)))⟩
        ·have t5 : decide (u < 0) = false := by rw [decide_eq_false_iff_not]; exact cc5
         obtain ⟨un, rfl⟩ := Int.eq_ofNat_of_zero_le (show 0 ≤ u by omega)
         have t5b : decide (un < 0) = false := by rw [decide_eq_false_iff_not]; omega
         have un0 : (0 : Int) ≤ (un : Int) := by omega
         by_cases cc6 : un < n7
         ·have t6 : decide ((un : Int) ≥ (n7 : Int)) = false := by rw [decide_eq_false_iff_not]; omega
          have t6b : decide (n7 ≤ un) = false := by rw [decide_eq_false_iff_not]; omega
          have c6i : (un : Int) < (n7 : Int) := by omega
          obtain ⟨v2, hv2⟩ := HR7.out un cc6
          have a2 := ((H12.out wr H2r.out).cell (p := ⟨ab, ao + un, none⟩) HLT.out.2).trans hv2
          clear hv2
          by_cases cc7 : v2 = (ya' : Int)
          ·have t7 : (v2 != (ya' : Int)) = false := by simpa using cc7
           clear cc7
           go_wp2_with fail
           go_quiet (fail)
           go_wp2_with fail
           go_roundw
           case rel => exact ⟨j + 1, by go_num, by omega, Lib.hid (HB.out.trans (below_drewN' (Below.refl _ _) _ |>.mono HB.out.size))⟩
           case measure => first | (simp [intOf]; done) | (simp [intOf]; omega)
          ·have t7 : (v2 != (ya' : Int)) = true := by simpa using cc7
           go_wp2_with fail
           go_quiet (fail)
           go_wp2_with fail
           go_ret
           exact ⟨⟨_, rfl⟩, HFIN.out _ (H12.out _ (H2r.out.trans (below_drewN' (Below.refl _ _) _ |>.mono H2r.out.size)))⟩
         ·have t6 : decide ((un : Int) ≥ (n7 : Int)) = true := by rw [decide_eq_true_eq]; omega
          have t6b : decide (n7 ≤ un) = true := by rw [decide_eq_true_eq]; omega
          go_wp2_with fail
          go_quiet (fail)
          go_wp2_with fail
          go_ret
          exact ⟨⟨_, rfl⟩, HFIN.out _ (H12.out _ (H2r.out.trans (below_drewN' (Below.refl _ _) _ |>.mono H2r.out.size)))⟩
       ·obtain rfl : j = m := by omega
        go_wp2_with fail
        go_ret
        exact ⟨⟨_, rfl⟩, HFIN.out _ (H12.out _ (HB4.out.trans (HB.out.mono HB4.out.size)))⟩
     ·have t3 : (v0 != up) = true := by simpa using cc3
      go_wp2_with fail
      go_ret
      exact ⟨⟨_, rfl⟩, HFIN.out _ (H12.out _ HB3.out)⟩
    ·by_cases cc3 : v0 = (ya' : Int)
     ·have t3 : (v0 != (ya' : Int)) = false := by simpa using cc3
      clear cc3
      go_upto_region 12 with fail
      have cN := Lib.hid (rnext_any s b A0 n0 c0 A1 n1 c1 A2 n2 c2 A3 n3 c3 (some ⟨cb, co, none⟩) n4 c4 A5 n5 c5 (some ⟨nb, no, none⟩) n6 c6 (some ⟨ab, ao, none⟩) n7 c7 A8 n8 c8 x k w3 (HF1.out w3 (H12.out w3 HB3.out)) HK.out)
      clear i0 i1
      go_wp2_with fail
      refine cN.out.mono ?_
      rintro e w4 ⟨U, m, cu, rfl, hou, hb4⟩
      have HB4 : Hid (Below w2.heap.size w2 w4) := Lib.hid (HB3.out.trans (hb4.mono HB3.out.size))
      have HSU := Lib.hid (SlI.own hou (by have := row_len hou; have := nextM_len x k; omega))
      have hm21 : m ≤ 2 := by have := row_len hou; have := nextM_len x k; omega
      have hm0 : (m : Int) ≤ 2 := by omega
      clear hou hb4 cN e0 e1 e2 e3 e4 e5 e6 e7 e8 e9 e10
      go_wp2_with fail
      go_loopw [10] (fun iv wr => ∃ (j : Nat), iv = .int .i64 (j : Int) ∧ j ≤ m ∧ Hid (Below w4.heap.size w4 wr)) (fun iv _ => m - (intOf iv).toNat)
      case atStart => exact ⟨0, rfl, Nat.zero_le _, Lib.hid (Below.refl _ _)⟩
      case round =>
       obtain ⟨j, rfl, hj, HB⟩ := hrel
       have hj0 : (0 : Int) ≤ (j : Int) := by omega
       by_cases hlt : j < m
       ·have hjm : (j : Int) < (m : Int) := by omega
        have H2r : Hid (Below w2.heap.size w2 wr) := Lib.hid (HB4.out.trans (HB.out.mono HB4.out.size))
        obtain ⟨ub, uo, u, rfl, hub, _, uc0⟩ := SlR.cell1 (f := Value.int .i64) (HSU.out.on HB.out) (i := j) hlt
        have e9 := (HCT.out wr (H12.out wr H2r.out)).at_ 9 _ rfl
        by_cases cc5 : u < 0
        ·have t5 : decide (u < 0) = true := by rw [decide_eq_true_eq]; exact cc5
         go_wp2_with fail
         go_quiet (fail)
         go_wp2_with fail
         go_ret
         exact ⟨⟨_, rfl⟩, HFIN.out _ (H12.out _ (H2r.out.trans (below_drewN' (Below.refl _ _) _ |>.mono H2r.out.size)))⟩
        ·have t5 : decide (u < 0) = false := by rw [decide_eq_false_iff_not]; exact cc5
         obtain ⟨un, rfl⟩ := Int.eq_ofNat_of_zero_le (show 0 ≤ u by omega)
         have t5b : decide (un < 0) = false := by rw [decide_eq_false_iff_not]; omega
         have un0 : (0 : Int) ≤ (un : Int) := by omega
         by_cases cc6 : un < n7
         ·have t6 : decide ((un : Int) ≥ (n7 : Int)) = false := by rw [decide_eq_false_iff_not]; omega
          have t6b : decide (n7 ≤ un) = false := by rw [decide_eq_false_iff_not]; omega
          have c6i : (un : Int) < (n7 : Int) := by omega
          obtain ⟨v2, hv2⟩ := HR7.out un cc6
          have a2 := ((H12.out wr H2r.out).cell (p := ⟨ab, ao + un, none⟩) HLT.out.2).trans hv2
          clear hv2
          by_cases cc7 : v2 = up
          ·have t7 : (v2 != up) = false := by simpa using cc7
           clear cc7
           go_wp2_with fail
           go_quiet (fail)
           go_wp2_with fail
           go_roundw
           case rel => exact ⟨j + 1, by go_num, by omega, Lib.hid (HB.out.trans (below_drewN' (Below.refl _ _) _ |>.mono HB.out.size))⟩
           case measure => first | (simp [intOf]; done) | (simp [intOf]; omega)
          ·have t7 : (v2 != up) = true := by simpa using cc7
           go_wp2_with fail
           go_quiet (fail)
           go_wp2_with fail
           go_ret
           exact ⟨⟨_, rfl⟩, HFIN.out _ (H12.out _ (H2r.out.trans (below_drewN' (Below.refl _ _) _ |>.mono H2r.out.size)))⟩
         ·have t6 : decide ((un : Int) ≥ (n7 : Int)) = true := by rw [decide_eq_true_eq]; omega
          have t6b : decide (n7 ≤ un) = true := by rw [decide_eq_true_eq]; omega
          go_wp2_with fail
          go_quiet (fail)
          go_wp2_with fail
          go_ret
          exact ⟨⟨_, rfl⟩, HFIN.out _ (H12.out _ (H2r.out.trans (below_drewN' (Below.refl _ _) _ |>.mono H2r.out.size)))⟩
       ·obtain rfl : j = m := by omega
        go_wp2_with fail
        go_ret
        exact ⟨⟨_, rfl⟩, HFIN.out _ (H12.out _ (HB4.out.trans (HB.out.mono HB4.out.size)))⟩
     ·have t3 : (v0 != (ya' : Int)) = true := by simpa using cc3
      go_wp2_with fail
      go_ret
      exact ⟨⟨_, rfl⟩, HFIN.out _ (H12.out _ HB3.out)⟩
   ·have t2 : decide ((ya' : Int) ≥ (n6 : Int)) = true := by rw [decide_eq_true_eq]; omega
    have t2b : decide (n6 ≤ ya') = true := by rw [decide_eq_true_eq]; omega
    rcases o33 with rfl | rfl
    ·go_wp2_with fail
     go_ret
     exact ⟨⟨_, rfl⟩, HFIN.out _ (H12.out _ HB3.out)⟩
    ·go_wp2_with fail
     go_ret
     exact ⟨⟨_, rfl⟩, HFIN.out _ (H12.out _ HB3.out)⟩
 ·have e33 : (yo == 33) = false := by rw [beq_eq_false_iff_ne]; omega
  have e34 : (yo == 34) = false := by rw [beq_eq_false_iff_ne]; omega
  go_upto_region 12 with fail
  have cN := Lib.hid (rnext_any s b A0 n0 c0 A1 n1 c1 A2 n2 c2 A3 n3 c3 (some ⟨cb, co, none⟩) n4 c4 A5 n5 c5 (some ⟨nb, no, none⟩) n6 c6 (some ⟨ab, ao, none⟩) n7 c7 A8 n8 c8 x k w3 (HF1.out w3 (H12.out w3 HB3.out)) HK.out)
  clear i0 i1
  go_wp2_with fail
  refine cN.out.mono ?_
  rintro e w4 ⟨U, m, cu, rfl, hou, hb4⟩
  have HB4 : Hid (Below w2.heap.size w2 w4) := Lib.hid (HB3.out.trans (hb4.mono HB3.out.size))
  have HSU := Lib.hid (SlI.own hou (by have := row_len hou; have := nextM_len x k; omega))
  have hm21 : m ≤ 2 := by have := row_len hou; have := nextM_len x k; omega
  have hm0 : (m : Int) ≤ 2 := by omega
  clear hou hb4 cN e0 e1 e2 e3 e4 e5 e6 e7 e8 e9 e10
  go_wp2_with fail
  go_loopw [10] (fun iv wr => ∃ (j : Nat), iv = .int .i64 (j : Int) ∧ j ≤ m ∧ Hid (Below w4.heap.size w4 wr)) (fun iv _ => m - (intOf iv).toNat)
  case atStart => exact ⟨0, rfl, Nat.zero_le _, Lib.hid (Below.refl _ _)⟩
  case round =>
   obtain ⟨j, rfl, hj, HB⟩ := hrel
   have hj0 : (0 : Int) ≤ (j : Int) := by omega
   by_cases hlt : j < m
   ·have hjm : (j : Int) < (m : Int) := by omega
    have H2r : Hid (Below w2.heap.size w2 wr) := Lib.hid (HB4.out.trans (HB.out.mono HB4.out.size))
    obtain ⟨ub, uo, u, rfl, hub, _, uc0⟩ := SlR.cell1 (f := Value.int .i64) (HSU.out.on HB.out) (i := j) hlt
    have e9 := (HCT.out wr (H12.out wr H2r.out)).at_ 9 _ rfl
    by_cases cc5 : u < 0
    ·have t5 : decide (u < 0) = true := by rw [decide_eq_true_eq]; exact cc5
     go_wp2_with fail
     go_quiet (fail)
     go_wp2_with fail
     go_ret
     exact ⟨⟨_, rfl⟩, HFIN.out _ (H12.out _ (H2r.out.trans (below_drewN' (Below.refl _ _) _ |>.mono H2r.out.size)))⟩
    ·have t5 : decide (u < 0) = false := by rw [decide_eq_false_iff_not]; exact cc5
     obtain ⟨un, rfl⟩ := Int.eq_ofNat_of_zero_le (show 0 ≤ u by omega)
     have t5b : decide (un < 0) = false := by rw [decide_eq_false_iff_not]; omega
     have un0 : (0 : Int) ≤ (un : Int) := by omega
     by_cases cc6 : un < n7
     ·have t6 : decide ((un : Int) ≥ (n7 : Int)) = false := by rw [decide_eq_false_iff_not]; omega
      have t6b : decide (n7 ≤ un) = false := by rw [decide_eq_false_iff_not]; omega
      have c6i : (un : Int) < (n7 : Int) := by omega
      obtain ⟨v2, hv2⟩ := HR7.out un cc6
      have a2 := ((H12.out wr H2r.out).cell (p := ⟨ab, ao + un, none⟩) HLT.out.2).trans hv2
      clear hv2
      by_cases cc7 : v2 = v0
      ·have t7 : (v2 != v0) = false := by simpa using cc7
       clear cc7
       go_wp2_with fail
       go_quiet (fail)
       go_wp2_with fail
       go_roundw
       case rel => exact ⟨j + 1, by go_num, by omega, Lib.hid (HB.out.trans (below_drewN' (Below.refl _ _) _ |>.mono HB.out.size))⟩
       case measure => first | (simp [intOf]; done) | (simp [intOf]; omega)
      ·have t7 : (v2 != v0) = true := by simpa using cc7
       go_wp2_with fail
       go_quiet (fail)
       go_wp2_with fail
       go_ret
       exact ⟨⟨_, rfl⟩, HFIN.out _ (H12.out _ (H2r.out.trans (below_drewN' (Below.refl _ _) _ |>.mono H2r.out.size)))⟩
     ·have t6 : decide ((un : Int) ≥ (n7 : Int)) = true := by rw [decide_eq_true_eq]; omega
      have t6b : decide (n7 ≤ un) = true := by rw [decide_eq_true_eq]; omega
      go_wp2_with fail
      go_quiet (fail)
      go_wp2_with fail
      go_ret
      exact ⟨⟨_, rfl⟩, HFIN.out _ (H12.out _ (H2r.out.trans (below_drewN' (Below.refl _ _) _ |>.mono H2r.out.size)))⟩
   ·obtain rfl : j = m := by omega
    go_wp2_with fail
    go_ret
    exact ⟨⟨_, rfl⟩, HFIN.out _ (H12.out _ (HB4.out.trans (HB.out.mono HB4.out.size)))⟩
end Go.Proofs.YtobmjnmcjddhcaaGreat
