import Derived.Test.YtobmjnmcjddhcaaGreatCTk
import Derived.Test.YtobmjnmcjddhcaaGreatF5
set_option linter.unusedSimpArgs false
set_option linter.unusedVariables false
set_option maxRecDepth 100000
set_option maxHeartbeats 64000000
namespace Go.Proofs.YtobmjnmcjddhcaaGreat
open Go.RowKit
attribute [local go_sem] run_store_cplx
theorem framePlays_walk (cs0 : Array Value) (x0 : DProgram) (cs1 : Array Value) (x1 : DCase28) (w : World) (h0 : RProgram w w.heap.size cs0.toList x0) (h1 : RCase28 w w.heap.size cs1.toList x1) :
  Calls Tryz.prog 3 #[.agg cs0, .agg cs1] w fun e w' => e = .returned (.bool true) ∧ Below w.heap.size w w' := by
 obtain ⟨FA, fn, fc, e0, hfs⟩ := h0
 obtain rfl : cs0 = #[.slice FA fn fc] := by rw [← Array.toArray_toList (xs := cs0), e0]
 obtain ⟨fs⟩ := x0
 dsimp only at hfs
 obtain ⟨VA, na, nac, LA, ln, lc, e1, wcf, hva, hla⟩ := h1
 obtain rfl : cs1 = #[.int .i64 x1.f, .slice VA na nac, .slice LA ln lc] := by rw [← Array.toArray_toList (xs := cs1), e1]
 obtain ⟨cf, args, ops⟩ := x1
 dsimp only at hva hla wcf ⊢
 have cl := Lib.hid frame_lives
 obtain ⟨zb, hzb⟩ : ∃ z, w.heap.size = z := ⟨_, rfl⟩
 obtain ⟨w1, hw1⟩ : ∃ X, (w.alloc (.cells #[.slice FA fn fc] 24)).alloc (.cells #[.int .i64 cf, .slice VA na nac, .slice LA ln lc] 28) = X := ⟨_, rfl⟩
 have hb1 : Below w.heap.size w w1 := by rw [← hw1]; exact (bl_one _).trans ((bl_one _).mono (bl_one _).size)
 have hc1 : Cells w1 zb [.slice FA fn fc] := by rw [← hw1, ← hzb]; exact (Cells.new w [.slice FA fn fc] _).on (bl_one _)
 have hc2 : Cells w1 (zb + 1) [.int .i64 cf, .slice VA na nac, .slice LA ln lc] := by
  rw [← hw1]
  exact cells_new_at (by simp [hzb]) [.int .i64 cf, .slice VA na nac, .slice LA ln lc] _
 have EP : Hid (∀ W, Below w1.heap.size w1 W → W.cell? ⟨zb, 0, none⟩ = some (.slice FA fn fc) ∧ W.cell? ⟨zb + 1, 0, none⟩ = some (.int .i64 cf) ∧ W.cell? ⟨zb + 1, 1, none⟩ = some (.slice VA na nac) ∧ W.cell? ⟨zb + 1, 2, none⟩ = some (.slice LA ln lc)) := Lib.hid fun W hW => ⟨(hc1.on hW).at_ 0 _ rfl, (hc2.on hW).at_ 0 _ rfl, (hc2.on hW).at_ 1 _ rfl, (hc2.on hW).at_ 2 _ rfl⟩
 have HB1 := Lib.hid hb1
 have HBW : Hid (∀ W, Below w1.heap.size w1 W → Below w.heap.size w W) := Lib.hid fun W hW => hb1.trans (hW.mono hb1.size)
 have HFSL : Hid (∀ W, Below w1.heap.size w1 W → SlR 11 240 RFunc W w.heap.size FA fn fc fs) := Lib.hid fun W hW => SlR.keep stable_Func hfs fun p hp => (hb1.trans (hW.mono hb1.size)).cell hp
 have HVA : Hid (∀ W, Below w1.heap.size w1 W → SlR 4 32 RFour W w.heap.size VA na nac args) := Lib.hid fun W hW => SlR.keep stable_Four hva fun p hp => (hb1.trans (hW.mono hb1.size)).cell hp
 have HLA : Hid (∀ W, Below w1.heap.size w1 W → SlR 6 48 ROp28 W w.heap.size LA ln lc ops) := Lib.hid fun W hW => SlR.keep stable_Op28 hla fun p hp => (hb1.trans (hW.mono hb1.size)).cell hp
 have cSm := Lib.hid (small16_any w.heap.size FA fn fc fs w1 (HFSL.out w1 (Below.refl _ _)) hb1.size)
 have HLN : Hid (fs.length = fn) := Lib.hid hfs.1
 have HALN : Hid (args.length = na) := Lib.hid hva.1
 have HE1 := Lib.hid hw1
 obtain ⟨p0, p1, p2, p3⟩ := EP.out w1 (Below.refl _ _)
 clear hb1 hc1 hc2 hfs hva hla e0 e1 hw1
 go_enter Tryz.func3, Tryz.ntmps3
 go_wp2_with fail
 rw [HE1.out]
 refine cSm.out.mono ?_
 rintro e w2 ⟨r, rfl, hr, hb2⟩
 have HR := Lib.hid hr
 have HB2 := Lib.hid hb2
 clear hr hb2 cSm p0 p1 p2 p3 HE1
 obtain ⟨p0, p1, p2, p3⟩ := EP.out w2 HB2.out
 cases r with
 | false =>
  go_wp2_with fail
  refine (cl.out _).mono ?_
  rintro e w9 ⟨rfl, hb9⟩
  have HB9 : Hid (Below w.heap.size w w9) := Lib.hid (HBW.out _ (HB2.out.trans (hb9.mono HB2.out.size)))
  clear hb9
  go_wp2_with fail
  go_ret
  exact ⟨rfl, HB9.out⟩
 | true =>
  obtain ⟨hfn0, hsm⟩ := HR.out rfl
  have hfn : fn ≤ 50 := by have := HLN.out; omega
  have HPO : Hid (∀ W, Below w1.heap.size w1 W → PgO W FA fn fc fs) := Lib.hid fun W hW => ⟨⟨w.heap.size, by have := (HBW.out W hW).size; omega, HFSL.out W hW⟩, hsm, hfn⟩
  have cF := Lib.hid (rfine_any FA fn fc fs w2 (HPO.out w2 HB2.out))
  clear hsm HR hfn0
  go_wp2_with fail
  refine cF.out.mono ?_
  rintro e w3 ⟨r, rfl, hr, hb3⟩
  have HR := Lib.hid hr
  have HB3 : Hid (Below w1.heap.size w1 w3) := Lib.hid (HB2.out.trans (hb3.mono HB2.out.size))
  clear hr hb3 cF p0 p1 p2 p3
  obtain ⟨p0, p1, p2, p3⟩ := EP.out w3 HB3.out
  cases r with
  | false =>
   go_wp2_with fail
   refine (cl.out _).mono ?_
   rintro e w9 ⟨rfl, hb9⟩
   have HB9 : Hid (Below w.heap.size w w9) := Lib.hid (HBW.out _ (HB3.out.trans (hb9.mono HB3.out.size)))
   clear hb9
   go_wp2_with fail
   go_ret
   exact ⟨rfl, HB9.out⟩
  | true =>
   have HFM := Lib.hid (HR.out rfl)
   by_cases hf0 : cf < 0
   ·have t0 : decide (cf < 0) = true := by rw [decide_eq_true_eq]; exact hf0
    go_wp2_with fail
    refine (cl.out _).mono ?_
    rintro e w9 ⟨rfl, hb9⟩
    have HB9 : Hid (Below w.heap.size w w9) := Lib.hid (HBW.out _ (HB3.out.trans (hb9.mono HB3.out.size)))
    clear hb9
    go_wp2_with fail
    go_ret
    exact ⟨rfl, HB9.out⟩
   ·have t0 : decide (cf < 0) = false := by rw [decide_eq_false_iff_not]; exact hf0
    obtain ⟨f, rfl⟩ := Int.eq_ofNat_of_zero_le (show 0 ≤ cf by omega)
    have t0b : decide ((f : Int) < 0) = false := by rw [decide_eq_false_iff_not]; omega
    have hfz : (0 : Int) ≤ (f : Int) := by omega
    by_cases hi : f < fn
    ·have t1 : decide ((f : Int) ≥ (fn : Int)) = false := by rw [decide_eq_false_iff_not]; omega
     have t1b : decide (fn ≤ f) = false := by rw [decide_eq_false_iff_not]; omega
     have hf1 : (f : Int) < (fn : Int) := by omega
     by_cases hna : na ≤ 20
     ·have t2 : decide ((na : Int) > 20) = false := by rw [decide_eq_false_iff_not]; omega
      have t2b : decide (20 < na) = false := by rw [decide_eq_false_iff_not]; omega
      have t2c : decide ((20 : Int) < (na : Int)) = false := by rw [decide_eq_false_iff_not]; omega
      go_wp2_with fail
      clear t0 t0b t1 t1b t2 t2b t2c p0 p1 p2 p3
      go_loopw [5] (fun iv wr => ∃ (j : Nat), iv = .int .i64 (j : Int) ∧ j ≤ fn ∧ Hid (Below w1.heap.size w1 wr)) (fun iv _ => fn - (intOf iv).toNat)
      case atStart => exact ⟨0, rfl, Nat.zero_le _, HB3⟩
      case round => as_aux_lemma =>
       obtain ⟨j, rfl, hj, HB⟩ := hrel
       have hj0 : (0 : Int) ≤ (j : Int) := by omega
       obtain ⟨p0, p1, p2, p3⟩ := EP.out wr HB.out
       by_cases hlt : j < fn
       ·have hjn : (j : Int) < (fn : Int) := by omega
        obtain ⟨bk, off, s, b, A0, n0, c0, A1, n1, c1, A2, n2, c2, A3, n3, c3, A4, n4, c4, A5, n5, c5, A6, n6, c6, A7, n7, c7, A8, n8, c8, x, bkE, hbk, hx, hcf, hfw, hcan⟩ := (fine_get (HPO.out wr HB.out) HFM.out).get hlt
        subst bkE
        have y0 := hcf 0 _ rfl
        have y1 := hcf 1 _ rfl
        have y2 := hcf 2 _ rfl
        have y3 := hcf 3 _ rfl
        have y4 := hcf 4 _ rfl
        have y5 := hcf 5 _ rfl
        have y6 := hcf 6 _ rfl
        have y7 := hcf 7 _ rfl
        have y8 := hcf 8 _ rfl
        have y9 := hcf 9 _ rfl
        have y10 := hcf 10 _ rfl
        simp only [Nat.add_zero] at y0
        obtain ⟨s4, s5, s6, s7, s8, s0⟩ := hfw.sm
        have cB := Lib.hid (rbare_any s b A0 n0 c0 A1 n1 c1 A2 n2 c2 A3 n3 c3 A4 n4 c4 A5 n5 c5 A6 n6 c6 A7 n7 c7 A8 n8 c8 wr (by omega) (by omega) (by omega) _ rfl)
        obtain ⟨r, hr⟩ : ∃ r, decide (n6 + n7 + n8 = 0) = r := ⟨_, rfl⟩
        rw [hr] at cB
        clear hcf hfw hcan hx hr
        go_wp2_with fail
        refine cB.out.mono ?_
        rintro e w4 ⟨rfl, hb4⟩
        have HB4 : Hid (Below w1.heap.size w1 w4) := Lib.hid (HB.out.trans (hb4.mono HB.out.size))
        clear hb4 cB y0 y1 y2 y3 y4 y5 y6 y7 y8 y9 y10
        cases r with
        | true =>
         go_wp2_with fail
         go_roundw
         case rel => exact ⟨j + 1, by go_num, by omega, HB4⟩
         case measure => first | (simp [intOf]; done) | (simp [intOf]; omega)
        | false =>
         go_wp2_with fail
         refine (cl.out _).mono ?_
         rintro e w9 ⟨rfl, hb9⟩
         have HB9 : Hid (Below w.heap.size w w9) := Lib.hid (HBW.out _ (HB4.out.trans (hb9.mono HB4.out.size)))
         clear hb9
         go_wp2_with fail
         go_ret
         exact ⟨rfl, HB9.out⟩
       ·obtain rfl : fn = j := by omega
        obtain ⟨w4, rfl⟩ : ∃ x, x = wr := ⟨_, rfl⟩
        obtain ⟨bk, off, s, b, A0, n0, c0, A1, n1, c1, A2, n2, c2, A3, n3, c3, A4, n4, c4, A5, n5, c5, A6, n6, c6, A7, n7, c7, A8, n8, c8, x, bkE, hbk, hx, hcf, hfw, hcan⟩ := (fine_get (HPO.out w4 HB.out) HFM.out).get hi
        subst bkE
        have y0 := hcf 0 _ rfl
        have y1 := hcf 1 _ rfl
        have y2 := hcf 2 _ rfl
        have y3 := hcf 3 _ rfl
        have y4 := hcf 4 _ rfl
        have y5 := hcf 5 _ rfl
        have y6 := hcf 6 _ rfl
        have y7 := hcf 7 _ rfl
        have y8 := hcf 8 _ rfl
        have y9 := hcf 9 _ rfl
        have y10 := hcf 10 _ rfl
        simp only [Nat.add_zero] at y0
        obtain ⟨s4, s5, s6, s7, s8, s0⟩ := hfw.sm
        have HFW := Lib.hid hfw
        have HCFX : Hid (∀ W, Below w4.heap.size w4 W → ∀ (j : Nat) (u : Value), [.string s, .bool b, .slice A0 n0 c0, .slice A1 n1 c1, .slice A2 n2 c2, .slice A3 n3 c3, .slice A4 n4 c4, .slice A5 n5 c5, .slice A6 n6 c6, .slice A7 n7 c7, .slice A8 n8 c8][j]? = some u → W.cell? ⟨bk, off + f * 11 + j, none⟩ = some u) := Lib.hid fun W hW j u hu => (hW.cell (p := ⟨bk, off + f * 11 + j, none⟩) hbk).trans (hcf j u hu)
        have HBK : Hid (bk < w4.heap.size) := Lib.hid hbk
        obtain ⟨w5, hw5⟩ : ∃ X, w4.alloc (.cells #[.string s, .bool b, .slice A0 n0 c0, .slice A1 n1 c1, .slice A2 n2 c2, .slice A3 n3 c3, .slice A4 n4 c4, .slice A5 n5 c5, .slice A6 n6 c6, .slice A7 n7 c7, .slice A8 n8 c8] 38) = X := ⟨_, rfl⟩
        obtain ⟨fb, hfb⟩ : ∃ X, (World.heap w4).size = X := ⟨_, rfl⟩
        have hb45 : Below w4.heap.size w4 w5 := by rw [← hw5]; exact bl_one _
        have HFB : Hid (Cells w5 fb [.string s, .bool b, .slice A0 n0 c0, .slice A1 n1 c1, .slice A2 n2 c2, .slice A3 n3 c3, .slice A4 n4 c4, .slice A5 n5 c5, .slice A6 n6 c6, .slice A7 n7 c7, .slice A8 n8 c8]) := Lib.hid (by rw [← hw5, ← hfb]; exact Cells.new w4 [.string s, .bool b, .slice A0 n0 c0, .slice A1 n1 c1, .slice A2 n2 c2, .slice A3 n3 c3, .slice A4 n4 c4, .slice A5 n5 c5, .slice A6 n6 c6, .slice A7 n7 c7, .slice A8 n8 c8] _)
        have HB45 := Lib.hid hb45
        have HB5 : Hid (Below w1.heap.size w1 w5) := Lib.hid (HB.out.trans (hb45.mono HB.out.size))
        have hfbw : fb < w5.heap.size := HFB.out.lt
        have HFBS : Hid (fb < w5.heap.size ∧ w4.heap.size = fb) := Lib.hid ⟨hfbw, hfb⟩
        obtain ⟨vs, hvs⟩ : ∃ vs, args.map dvOf = vs := ⟨_, rfl⟩
        have HVS := Lib.hid hvs
        have HVL : Hid (vs.length = na) := Lib.hid (by rw [← hvs, List.length_map]; exact HALN.out)
        clear hcf hfw hcan hb45 hfbw hvs hbk
        go_wp2_with fail
        clear y0 y1 y2 y3 y4 y5 y6 y7 y8 y9 y10 p0 p1 p2 p3 hw5 hfb
        obtain ⟨i0, hii, hz0, hz1, hz2⟩ := info_parts info_val
        go_loopw [7, 8] (fun av iv wr => ∃ (k : Nat) (A : Option Addr) (c : Nat), av = .slice A k c ∧ iv = .int .i64 (k : Int) ∧ k ≤ na ∧ Hid (wr.ownsRow w5.heap.size 43 3 (.slice A k c) k (rowVl (vs.take k))) ∧ Hid (Below w5.heap.size w5 wr)) (fun _ iv _ => na - (intOf iv).toNat)
        case atStart => exact ⟨0, none, 0, rfl, rfl, Nat.zero_le _, Lib.hid (World.ownsRow_nil _ _ _ _), Lib.hid (Below.refl _ _)⟩
        case round => as_aux_lemma =>
         obtain ⟨k, A, c, rfl, rfl, hk, HO, HW⟩ := hrel
         have hB15 : Below w1.heap.size w1 wr := HB5.out.trans (HW.out.mono HB5.out.size)
         obtain ⟨p0, p1, p2, p3⟩ := EP.out wr hB15
         have hk0 : (0 : Int) ≤ (k : Int) := by omega
         by_cases hkn : k < na
         ·have hkni : (k : Int) < (na : Int) := by omega
          obtain ⟨vb, vo, v, rfl, hvb, hv, z0, z1, z2, z3⟩ := four_at (HVA.out wr hB15) hkn
          have hvk : vs[k]? = some (dvOf v) := by rw [← HVS.out, List.getElem?_map, hv]; rfl
          obtain ⟨vk, vn, vre, vim⟩ := v
          dsimp only at z0 z1 z2 z3
          have cV := Lib.hid (value_any vk vn vre vim wr)
          have HVK := Lib.hid hvk
          clear hvb hv hvk hB15
          go_wp2_with fail
          refine cV.out.mono ?_
          rintro e w6 ⟨rfl, hb6⟩
          have HW6 : Hid (Below w5.heap.size w5 w6) := Lib.hid (HW.out.trans (hb6.mono HW.out.size))
          have HO6 := Lib.hid (own_on HO.out hb6)
          clear hb6
          have hsz : w5.heap.size ≤ (w6.alloc (.cells #[.int .i64 vk, .int .i64 vn, .complex .f64 (nr vre) (nr vim)] 43)).heap.size := by have := HW6.out.size; simp; omega
          have hsrc := Lib.hid (src_v w6 vk vn (nr vre) (nr vim))
          have hone := Lib.hid (one_v vk vn (nr vre) (nr vim))
          have HFL : Hid (rowVl (vs.take k) ++ [.int .i64 vk, .int .i64 vn, .complex .f64 (nr vre) (nr vim)] = rowVl (vs.take (k + 1))) := Lib.hid (by
           rw [List.take_add_one, HVK.out, show (some (dvOf ⟨vk, vn, vre, vim⟩)).toList = [dvOf ⟨vk, vn, vre, vim⟩] from rfl, rowVl_snoc]
           rfl)
          go_wp2_with (first
            | (at_builtin; go_must (refine wpList_append_src _ rfl _ _ 39 rfl w5.heap.size 43 i0 (.agg #[.int .i64 0, .int .i64 0, .complex .f64 0 0]) 3 32 Tryz.underlying39 hii hz0 hz1 hz2 rfl (by decide) _ _ _ rfl (HO6.out.alloc _) (some ⟨w6.heap.size, 0, none⟩) 1 1 [.int .i64 vk, .int .i64 vn, .complex .f64 (nr vre) (nr vim)] rfl hsrc.out hone.out (by unfold maxLen; omega) (by omega) hsz ?_)
               intro v' w7 hown' hgrow3 hat3
               rw [HFL.out] at hown'
               obtain ⟨A', c', rfl, o3, b3⟩ := app1 HW6.out hown' hgrow3 (fun j hj => (HO6.out.lt j hj).1)
               have O3 := Lib.hid o3
               have B3 := Lib.hid b3
               clear hown' hgrow3 hat3 o3 b3))
          go_roundw
          case rel => exact ⟨k + 1, A', c', rfl, by go_num, by omega, O3, B3⟩
          case measure => first | (simp [intOf]; done) | (simp [intOf]; omega)
         ·obtain rfl : na = k := by omega
          obtain ⟨w6, rfl⟩ : ∃ x, x = wr := ⟨_, rfl⟩
          have hvt : vs.take na = vs := List.take_of_length_le (by rw [HVL.out]; exact Nat.le_refl _)
          rw [hvt] at HO
          clear hvt
          have HB6 : Hid (Below w1.heap.size w1 w6) := Lib.hid hB15
          have HB46 : Hid (Below w4.heap.size w4 w6) := Lib.hid (HB45.out.trans (HW.out.mono HB45.out.size))
          have hsv : SrcV w6 A na vs := ⟨HVL.out, (own_src HO.out).2.1, own_src HO.out⟩
          have cN := Lib.hid (new_any s b A0 n0 c0 A1 n1 c1 A2 n2 c2 A3 n3 c3 A4 n4 c4 A5 n5 c5 A6 n6 c6 A7 n7 c7 A8 n8 c8 x bk off fn fc f A na c vs w6 (by have := HB46.out.size; have := HBK.out; omega) (HCFX.out w6 HB46.out) (fns_of ((HFW.out.keep HB46.out).more HB46.out.size)) hi hfn hsv hna)
          clear hsv hB15
          go_wp2_with fail
          refine cN.out.mono ?_
          rintro e w7 ⟨g, A13, m13, c13, rfl, hg, hF, hb7⟩
          have HF7 := Lib.hid hF
          have HB67 := Lib.hid hb7
          have HG6 : Hid (w6.heap.size ≤ g) := Lib.hid hg
          obtain ⟨ts, hts⟩ : ∃ ts, x.params ++ x.results ++ x.locals = ts := ⟨_, rfl⟩
          have HTS := Lib.hid hts
          rw [hts] at HF7
          have HTL : Hid (ts.length = n1 + n2 + n3) := Lib.hid (by rw [← hts, List.length_append, List.length_append, HFW.out.r1.1, HFW.out.r2.1, HFW.out.r3.1])
          have HB47 : Hid (Below w4.heap.size w4 w7) := Lib.hid (HB46.out.trans (hb7.mono HB46.out.size))
          clear hF hb7 hg cN hts
          obtain ⟨p0, p1, p2, p3⟩ := EP.out w7 (HB6.out.trans (HB67.out.mono HB6.out.size))
          obtain ⟨mb, hmb⟩ : ∃ X, (World.heap w7).size = X := ⟨_, rfl⟩
          go_wp2_with fail
          obtain ⟨w8, hw8⟩ : ∃ X, w7.alloc (.cells #[.int .i64 (f : Int), .int .i64 0, .slice none 0 0, .slice none 0 0, .slice none 0 0] 51) = X := ⟨_, rfl⟩
          have HMB : Hid (Cells w8 mb [.int .i64 (f : Int), .int .i64 0, .slice none 0 0, .slice none 0 0, .slice none 0 0] ∧ Below w7.heap.size w7 w8 ∧ w7.heap.size = mb ∧ mb < w8.heap.size) := Lib.hid (by
           have h1 : Cells w8 mb [.int .i64 (f : Int), .int .i64 0, .slice none 0 0, .slice none 0 0, .slice none 0 0] := by rw [← hw8]; exact cells_new_at hmb [.int .i64 (f : Int), .int .i64 0, .slice none 0 0, .slice none 0 0, .slice none 0 0] _
           exact ⟨h1, by rw [← hw8]; exact bl_one _, hmb, h1.lt⟩)
          have HB48 : Hid (Below w4.heap.size w4 w8) := Lib.hid (HB47.out.trans (HMB.out.2.1.mono HB47.out.size))
          have HB58 : Hid (Below w5.heap.size w5 w8) := Lib.hid ((HW.out.trans (HB67.out.mono HW.out.size)).trans (HMB.out.2.1.mono (HW.out.trans (HB67.out.mono HW.out.size)).size))
          rw [hw8]
          clear hw8 hmb
          obtain ⟨j0, hj9, hy0, hy1, hy2⟩ := info_parts info_ty
          have hfw8 := (HFW.out.keep HB48.out).more HB48.out.size
          have S1 := src_sl hfw8.r1 (Nat.le_refl _)
          have S2 := src_sl hfw8.r2 (Nat.le_refl _)
          have S3 := src_sl hfw8.r3 (Nat.le_refl _)
          have O1 := Lib.hid (one_ty x.params)
          have O2 := Lib.hid (one_ty x.results)
          have O3 := Lib.hid (one_ty x.locals)
          clear hfw8
          have HQF : Hid (∀ W, Below w8.heap.size w8 W → Cells W fb [.string s, .bool b, .slice A0 n0 c0, .slice A1 n1 c1, .slice A2 n2 c2, .slice A3 n3 c3, .slice A4 n4 c4, .slice A5 n5 c5, .slice A6 n6 c6, .slice A7 n7 c7, .slice A8 n8 c8]) := Lib.hid fun W hW => (HFB.out.on HB58.out).on hW
          refine wp_region_held (S := fun W => Below w8.heap.size w8 W) (by kernel_rfl) ?_
          change wpAnyH _ _ _ _ _ _ _ _ (World.drew _)
          have hS0 : Below w8.heap.size w8 w8.drew := (Below.refl _ _).drew
          refine tkH 1 rfl (by intro W hW; go_simp; first | done | rfl) hS0 ?_
          try go_simp
          refine tkH 2 rfl (by intro W hW; have hfb := HQF.out W hW; have l3 := hfb.at_ 3 _ rfl; have l4 := hfb.at_ 4 _ rfl; have l5 := hfb.at_ 5 _ rfl; go_simp; first | done | rfl) hS0 ?_
          try go_simp
          refine tkH 4 rfl (by intro W hW; go_simp; first | done | rfl) hS0 ?_
          try go_simp
          refine tkH 5 rfl (by intro W hW; have hfb := HQF.out W hW; have l3 := hfb.at_ 3 _ rfl; have l4 := hfb.at_ 4 _ rfl; have l5 := hfb.at_ 5 _ rfl; go_simp; first | done | rfl) hS0 ?_
          try go_simp
          refine tkH 7 rfl (by intro W hW; go_simp; first | done | rfl) hS0 ?_
          try go_simp
          refine tkH 8 rfl (by intro W hW; have hfb := HQF.out W hW; have l3 := hfb.at_ 3 _ rfl; have l4 := hfb.at_ 4 _ rfl; have l5 := hfb.at_ 5 _ rfl; go_simp; first | done | rfl) hS0 ?_
          try go_simp
          refine wpAnyH_one (i := 0) (by kernel_rfl) rfl (fun K hK => ?_)
          obtain ⟨q0, hq0⟩ : ∃ X, World.alloc w8.drew (.cells #[] 40) = X := ⟨_, rfl⟩
          obtain ⟨qb, hqb⟩ : ∃ X, (World.heap w8.drew).size = X := ⟨_, rfl⟩
          have R0 := Lib.hid (ApS.lit (e := 40) (sz := 1) (w0 := w8) (W := w8.drew) hS0)
          rw [hq0, hqb] at R0
          go_simp
          refine hK _ _ ⟨R0.out.bl, ?_⟩; clear hK K
          clear hq0 hqb
          refine wpAnyH_one (i := 3) (by kernel_rfl) rfl (fun K hK => ?_)
          refine step_append_src _ rfl _ _ 32 rfl w8.heap.size 40 j0 (.int .i64 0) 1 8 Tryz.underlying32 hj9 hy0 hy1 hy2 rfl (by decide) _ 0 _ ?qq1 R0.out.own A1 n1 c1 _ ?qq2 (S1.out _ R0.out.bl) O1.out (by unfold maxLen; omega) (by omega) R0.out.bl.size ?_
          case qq1 => go_simp
          case qq2 => go_simp
          intro v3 q3 hown hgrow hat
          obtain ⟨E3, e3, rfl, hR, hkp⟩ := R0.out.grow hown hgrow
          rw [List.nil_append, Nat.zero_add] at hR
          have R3 := Lib.hid hR
          clear hown hgrow hat hR hkp
          try go_simp
          refine hK _ _ ⟨R3.out.bl, ?_⟩; clear hK K
          refine wpAnyH_one (i := 6) (by kernel_rfl) rfl (fun K hK => ?_)
          refine step_append_src _ rfl _ _ 32 rfl w8.heap.size 40 j0 (.int .i64 0) 1 8 Tryz.underlying32 hj9 hy0 hy1 hy2 rfl (by decide) _ n1 _ ?qq1 R3.out.own A2 n2 c2 _ ?qq2 (S2.out _ R3.out.bl) O2.out (by unfold maxLen; omega) (by omega) R3.out.bl.size ?_
          case qq1 => go_simp
          case qq2 => go_simp
          intro v6 q6 hown hgrow hat
          obtain ⟨E6, e6, rfl, hR, hkp⟩ := R3.out.grow hown hgrow
          have R6 := Lib.hid hR
          clear hown hgrow hat hR hkp
          try go_simp
          refine hK _ _ ⟨R6.out.bl, ?_⟩; clear hK K
          refine wpAnyH_one (i := 9) (by kernel_rfl) rfl (fun K hK => ?_)
          refine step_append_src _ rfl _ _ 32 rfl w8.heap.size 40 j0 (.int .i64 0) 1 8 Tryz.underlying32 hj9 hy0 hy1 hy2 rfl (by decide) _ (n1 + n2) _ ?qq1 R6.out.own A3 n3 c3 _ ?qq2 (S3.out _ R6.out.bl) O3.out (by unfold maxLen; omega) (by omega) R6.out.bl.size ?_
          case qq1 => go_simp
          case qq2 => go_simp
          intro v9 q9 hown hgrow hat
          obtain ⟨E9, e9, rfl, hR, hkp⟩ := R6.out.grow hown hgrow
          have R9 := Lib.hid hR
          clear hown hgrow hat hR hkp
          try go_simp
          refine hK _ _ ⟨R9.out.bl, ?_⟩; clear hK K
          obtain ⟨w9, hw9⟩ : ∃ x, x = q9 := ⟨_, rfl⟩
          subst hw9
          refine wpAnyH_one (i := 10) (by kernel_rfl) rfl (fun K hK => ?_)
          go_simp
          refine hK _ _ ⟨R9.out.bl, ?_⟩; clear hK K
          refine wpAnyH_done (by kernel_rfl) ?_ _
          try go_simp
          have HM9 : Hid (mb < w9.heap.size) := Lib.hid (by have := R9.out.bl.size; have := HMB.out.2.2.2; omega)
          have HTY : Hid (∀ W, Kp (fun q => q = mb) w9 W → SlI W W.heap.size E9 (n1 + n2 + n3) e9 ts) := Lib.hid fun W hW => by
           have h1 := hW.own R9.out.own fun q hq e => by have := (R9.out.own.lt q hq).1; have := HMB.out.2.2.2; omega
           have h2 := sli_types (x := x) h1 (by omega)
           rw [HTS.out] at h2
           exact h2
          have HAR : Hid (∀ W, Kp (fun q => q = mb) w9 W → RowV W w5.heap.size A na c vs) := Lib.hid fun W hW => by
           have hb : Below w6.heap.size w6 w9 := (HB67.out.trans (HMB.out.2.1.mono HB67.out.size)).trans (R9.out.bl.mono (HB67.out.trans (HMB.out.2.1.mono HB67.out.size)).size)
           have h1 := own_on HO.out hb
           have h2 : RowV w9 w5.heap.size A na c vs := RowF.ofOwn h1
           exact RowF.kp h2 hW fun q hq e => by have := (row_ge (RowF.ofOwn HO.out) hq).2; have := HMB.out.2.2.1; have := HB67.out.size; omega
          have HST : Hid (∀ W, Kp (fun q => q = mb) w9 W → Cells W fb [.string s, .bool b, .slice A0 n0 c0, .slice A1 n1 c1, .slice A2 n2 c2, .slice A3 n3 c3, .slice A4 n4 c4, .slice A5 n5 c5, .slice A6 n6 c6, .slice A7 n7 c7, .slice A8 n8 c8] ∧ W.cell? ⟨zb, 0, none⟩ = some (.slice (some ⟨bk, off, none⟩) fn fc) ∧ W.cell? ⟨zb + 1, 0, none⟩ = some (.int .i64 (f : Int)) ∧ W.cell? ⟨zb + 1, 1, none⟩ = some (.slice VA na nac) ∧ W.cell? ⟨zb + 1, 2, none⟩ = some (.slice LA ln lc)) := Lib.hid fun W hW => by
           have h1 := R9.out.bl
           have h2 := HMB.out
           have h3 := HB67.out.size
           have h4 := HW.out.size
           have h5 := HB6.out.size
           have hb19 : Below w1.heap.size w1 w9 := (((HB6.out.trans (HB67.out.mono HB6.out.size)).trans (h2.2.1.mono (by omega))).trans (h1.mono (by have := h2.2.1.size; omega)))
           obtain ⟨z0, z1, z2, z3⟩ := EP.out w9 hb19
           have zl : zb < w1.heap.size := World.block_lt_of_cell? _ _ (EP.out w1 (Below.refl _ _)).1
           have zl2 : zb + 1 < w1.heap.size := World.block_lt_of_cell? _ _ (EP.out w1 (Below.refl _ _)).2.1
           have fl := HFBS.out.1
           exact ⟨((HFB.out.on HB58.out).on h1).kp hW (by omega), hW.cellv z0 (by show ¬ zb = mb; omega), hW.cellv z1 (by show ¬ zb + 1 = mb; omega), hW.cellv z2 (by show ¬ zb + 1 = mb; omega), hW.cellv z3 (by show ¬ zb + 1 = mb; omega)⟩
          clear hS0 R0 R3 R6 S1 S2 S3 O1 O2 O3 HQF
          go_wp2_with fail
          clear p0 p1 p2 p3
          go_loopw [12] (fun iv wr => ∃ (j : Nat) (S : Option Addr) (sc : Nat), iv = .int .i64 (j : Int) ∧ j ≤ n1 + n2 + n3 ∧ Hid (SLW w9 wr mb (f : Int) S j sc ((slM ts n1 vs).take j))) (fun iv _ => n1 + n2 + n3 - (intOf iv).toNat)
          case atStart =>
           refine ⟨0, none, 0, rfl, Nat.zero_le _, Lib.hid ⟨Kp.refl _ _, HMB.out.1.on R9.out.bl, ?_⟩⟩
           rw [List.take_zero]
           exact RowF.ofOwn (World.ownsRow_nil _ _ _ _)
          case round => as_aux_lemma =>
           obtain ⟨j, S, sc, rfl, hj, HSL⟩ := hrel
           have hj0 : (0 : Int) ≤ (j : Int) := by omega
           by_cases hlt : j < n1 + n2 + n3
           ·have hjn : (j : Int) < ((n1 + n2 + n3 : Nat) : Int) := by omega
            have hjn2 : (j : Int) < (n1 : Int) + (n2 : Int) + (n3 : Int) := by omega
            obtain ⟨tb, tq, t, hE9, htb, ht, htc⟩ := SlR.cell1 (f := Value.int .i64) (HTY.out w9 (Kp.refl _ _)) (i := j) hlt
            have htm : ¬ tb = mb := by have := (R9.out.own.lt tb (by rw [hE9]; rfl)).1; have := HMB.out.2.2.2; omega
            have htS : ¬ S = some ⟨tb, 0, none⟩ := fun e => by have := (row_ge HSL.out.row e).1; omega
            have hmS : ¬ S = some ⟨mb, 0, none⟩ := fun e => by have := (row_ge HSL.out.row e).1; have := HM9.out; omega
            have HEE : Hid (E9 = some ⟨tb, tq, none⟩) := Lib.hid hE9
            have hlen : (slM ts n1 vs).length = n1 + n2 + n3 := by rw [slM_len _ _ _ (by rw [HTL.out]; omega)]; exact HTL.out
            have HAT := Lib.hid (slM_at (args := vs) (show n1 ≤ ts.length by rw [HTL.out]; omega) ht)
            have HQT : Hid (∀ W, Kp (fun q => S = some ⟨q, 0, none⟩) wr W → W.cell? ⟨mb, 2, none⟩ = some (.slice S j sc) ∧ W.cell? ⟨tb, tq + j, none⟩ = some (.int .i64 t)) := Lib.hid fun W hW => ⟨(HSL.out.cm.kp hW hmS).at_ 2 _ rfl, hW.cellv (HSL.out.kp.cellv htc htm) htS⟩
            have HMS := Lib.hid hmS
            have HLE : Hid ((slM ts n1 vs).length = n1 + n2 + n3) := Lib.hid hlen
            clear ht htc htb hlen htm htS hmS
            subst hE9
            go_wp2_with fail
            refine wp_region_piv (R := fun W => Kp (fun q => S = some ⟨q, 0, none⟩) wr W) (pv := 10) (by kernel_rfl) ?_
            change wpAnyG _ _ _ _ _ _ _ _ _ (World.drew _)
            have hS0 : Kp (fun q => S = some ⟨q, 0, none⟩) wr wr.drew := (Kp.refl _ _).drew
            refine tkG 0 8 [1, 0] rfl (by intro W hW; go_simp; first | done | rfl) hS0 ?_
            try go_simp
            refine tkG 1 8 [1] rfl (by intro W hW; obtain ⟨h1, h2⟩ := HQT.out W hW; go_simp; first | done | rfl) hS0 ?_
            try go_simp
            refine tkG 2 8 [7, 6, 5, 4, 2] rfl (by intro W hW; go_simp; first | done | rfl) hS0 ?_
            try go_simp
            refine tkG 3 8 [7, 6, 5, 4, 3] rfl (by intro W hW; go_simp; first | done | rfl) hS0 ?_
            try go_simp
            refine tkG 4 8 [7, 6, 5, 4] rfl (by intro W hW; go_simp; first | done | rfl) hS0 ?_
            try go_simp
            refine tkG 5 8 [7, 6, 5] rfl (by intro W hW; obtain ⟨h1, h2⟩ := HQT.out W hW; go_simp; first | done | rfl) hS0 ?_
            try go_simp
            have cZ := Lib.hid (refZero_any t wr.drew)
            refine wpAnyG_one (i := 6) (by kernel_rfl) rfl (fun K hK => ?_)
            go_simp
            refine cZ.out.mono ?_
            rintro e u1 ⟨rfl, hb1⟩
            have hS1 : Below wr.heap.size wr u1 := ((Below.refl wr.heap.size wr).drew).trans hb1
            have HS1 := Lib.hid hS1
            clear hb1 cZ
            go_simp
            refine hK _ _ ⟨fun _ => (Kp.refl _ wr).ofBelow HS1.out, ?_⟩; clear hK K
            try go_simp
            refine wpAnyG_one (i := 7) (by kernel_rfl) rfl (fun K hK => ?_)
            obtain ⟨u2, hu2⟩ : ∃ X, World.alloc u1 (.cells #[.int .i64 (zeroM t), .int .i64 0, .complex .f64 0 0] 43) = X := ⟨_, rfl⟩
            obtain ⟨ub, hub⟩ : ∃ X, (World.heap u1).size = X := ⟨_, rfl⟩
            have HS2 : Hid (Below wr.heap.size wr u2) := Lib.hid (by rw [← hu2]; exact hS1.trans ((bl_one _).mono hS1.size))
            have hsrc := Lib.hid (src_v u1 (zeroM t) 0 0 0)
            rw [hu2, hub] at hsrc
            go_simp
            refine hK _ _ ⟨fun _ => (Kp.refl _ wr).ofBelow HS2.out, ?_⟩; clear hK K
            clear hu2 hub
            have hone := Lib.hid (one_v (zeroM t) 0 0 0)
            have hrow : Hid (RowF u2 w9.heap.size 43 3 S j sc (rowVl ((slM ts n1 vs).take j))) := Lib.hid (RowF.kp HSL.out.row ((Kp.refl (fun _ => False) wr).ofBelow HS2.out) fun _ _ h => h)
            have hbase : w9.heap.size ≤ u2.heap.size := Nat.le_trans HSL.out.kp.size HS2.out.size
            refine wpAnyG_one (i := 8) (by kernel_rfl) rfl (fun K hK => ?_)
            refine step_append_rowF _ rfl _ _ 39 rfl w9.heap.size 43 i0 (.agg #[.int .i64 0, .int .i64 0, .complex .f64 0 0]) 3 32 Tryz.underlying39 hii hz0 hz1 hz2 rfl (by decide) S j sc _ ?qq1 hrow.out ⟨ub, 0, none⟩ 1 1 (by decide) _ ?qq2 hsrc.out hone.out (by unfold maxLen; omega) (by omega) hbase ?_
            case qq1 => go_simp
            case qq2 => go_simp
            intro S' sc' u3 hown hkA hA
            have HU3 := Lib.hid (HSL.out.put (z := zD t) HM9.out HS2.out hown hkA)
            have HK3 : Hid (Kp (fun q => S = some ⟨q, 0, none⟩) wr u3) := Lib.hid (((Kp.refl _ wr).ofBelow HS2.out).trans hkA)
            have hcmb := ((HSL.out.cm.on HS2.out).kp hkA HMS.out)
            have d2 := hcmb.at_ 2 _ rfl
            have f2 := hcmb.fz 2 (by simp)
            clear hown hkA hA hcmb hsrc hone hrow hbase
            try go_simp
            refine hK _ _ ⟨fun _ => HK3.out, ?_⟩; clear hK K
            try go_simp
            refine wpAnyG_one (i := 9) (by kernel_rfl) rfl (fun K hK => ?_)
            go_simp
            refine hK _ _ ⟨fun _ => HK3.out, ?_⟩; clear hK K
            refine wpAnyG_oneL (i := 10) (by kernel_rfl) rfl (by kernel_rfl) (fun K hK => ?_)
            go_simp
            refine hK _ _ ?_; clear hK K
            obtain ⟨u4, hu4⟩ : ∃ X, World.setCell u3 ⟨mb, 2, none⟩ (.slice S' (j + 1) sc') = X := ⟨_, rfl⟩
            rw [hu4] at HU3 ⊢
            refine wpAnyG_done (by kernel_rfl) ?_ _
            try go_simp
            clear hu4 d2 f2 HS1 HS2 HK3 HQT hS0 hS1
            have e3 := (HST.out u4 HU3.out.kp).1.at_ 3 _ rfl
            by_cases hc1 : j < na
            ·have r1 : decide ((j : Int) < (na : Int)) = true := by rw [decide_eq_true_eq]; omega
             have r1b : (j : Int) < (na : Int) := by omega
             by_cases hc2 : j < n1
             ·have r2 : decide ((j : Int) < (n1 : Int)) = true := by rw [decide_eq_true_eq]; omega
              have r2b : (j : Int) < (n1 : Int) := by omega
              obtain ⟨a, ha⟩ : ∃ a, vs[j]? = some a := ⟨vs[j]'(by rw [HVL.out]; exact hc1), List.getElem?_eq_getElem _⟩
              have hat : (slM ts n1 vs)[j]? = some a := by rw [HAT.out, if_pos ⟨hc2, by rw [HVL.out]; exact hc1⟩]; exact ha
              obtain ⟨r, hS', hrb, hrs, c0', c1', c2', hfr⟩ := RowV.at_ HU3.out.row (i := j) (a := zD t) (by rw [List.getElem?_append_right (by rw [List.length_take]; omega), List.length_take, HLE.out, Nat.min_eq_left (by omega), Nat.sub_self]; rfl)
              obtain ⟨ab, hA, hab1, hab2, a0, a1, a2, _⟩ := RowV.at_ (HAR.out u4 HU3.out.kp) ha
              have hab3 : ab < w9.heap.size := by
               have h1 := (row_ge (RowF.ofOwn HO.out) hA).2
               have := HB67.out.size
               have := HMB.out.2.1.size
               have := R9.out.bl.size
               omega
              have HAA := Lib.hid hA
              subst hS'
              subst hA
              have hrm : ¬ r = mb := by have := HM9.out; omega
              have hmr : ¬ mb = r := fun e => hrm e.symm
              have har : ¬ ab = r := by omega
              have hra : ¬ r = ab := fun e => har e.symm
              have g0 := hfr (j * 3)
              have g1 := hfr (j * 3 + 1)
              have g2 := hfr (j * 3 + 2)
              have d2 := HU3.out.cm.at_ 2 _ rfl
              obtain ⟨av, av1, av2, av3⟩ := a
              have HSN : Hid (SLW w9 (((u4.setCell ⟨r, j * 3, none⟩ (.int .i64 av)).setCell ⟨r, j * 3 + 1, none⟩ (.int .i64 av1)).setCell ⟨r, j * 3 + 2, none⟩ (.complex .f64 av2 av3)) mb (f : Int) (some ⟨r, 0, none⟩) (j + 1) sc' ((slM ts n1 vs).take (j + 1))) := Lib.hid (by
               have h1 := HU3.out.three HM9.out (Nat.lt_succ_self j) ⟨av, av1, av2, av3⟩
               rw [take_put hat] at h1
               exact h1)
              dsimp only at a0 a1 a2
              have m0 : u4.drew.cell? ⟨ab, j * 3, none⟩ = some (.int .i64 av) := a0
              have m1 : u4.drew.cell? ⟨ab, j * 3 + 1, none⟩ = some (.int .i64 av1) := a1
              have m2 : u4.drew.cell? ⟨ab, j * 3 + 2, none⟩ = some (.complex .f64 av2 av3) := a2
              have m3 : u4.drew.cell? ⟨mb, 2, none⟩ = some (.slice (some ⟨r, 0, none⟩) (j + 1) sc') := d2
              have m4 : u4.drew.frozen? ⟨r, j * 3, none⟩ = false := g0
              have m5 : u4.drew.frozen? ⟨r, j * 3 + 1, none⟩ = false := g1
              have m6 : u4.drew.frozen? ⟨r, j * 3 + 2, none⟩ = false := g2
              have jj : (j : Int) < (j : Int) + 1 := by omega
              have m7 : (u4.drew.cell? ⟨r, j * 3, none⟩) = some _ := c0'
              have m8 : (u4.drew.cell? ⟨r, j * 3 + 1, none⟩) = some _ := c1'
              have m9 : (u4.drew.cell? ⟨r, j * 3 + 2, none⟩) = some _ := c2'
              clear hfr hrb hrs ha hat hab1 hab2 hab3
              go_wp2_with fail
              go_region
              all_goals go_wp2_with fail
              all_goals go_roundw
              case rel => exact ⟨j + 1, some ⟨r, 0, none⟩, sc', by go_num, by omega, Lib.hid HSN.out.drew⟩
              case measure => first | (simp [intOf]; done) | (simp [intOf]; omega)
             ·have r2 : decide ((j : Int) < (n1 : Int)) = false := by rw [decide_eq_false_iff_not]; omega
              have r2b : decide (j < n1) = false := by rw [decide_eq_false_iff_not]; omega
              have HSN : Hid (SLW w9 u4 mb (f : Int) S' (j + 1) sc' ((slM ts n1 vs).take (j + 1))) := Lib.hid (by
               have h1 := HU3.out
               have hat : (slM ts n1 vs)[j]? = some (zD t) := by rw [HAT.out, if_neg (by omega)]
               rw [List.take_add_one, hat]
               exact h1)
              go_wp2_with fail
              go_roundw
              case rel => exact ⟨j + 1, S', sc', by go_num, by omega, HSN⟩
              case measure => first | (simp [intOf]; done) | (simp [intOf]; omega)
            ·have r1 : decide ((j : Int) < (na : Int)) = false := by rw [decide_eq_false_iff_not]; omega
             have r1b : decide (j < na) = false := by rw [decide_eq_false_iff_not]; omega
             have HSN : Hid (SLW w9 u4 mb (f : Int) S' (j + 1) sc' ((slM ts n1 vs).take (j + 1))) := Lib.hid (by
              have h1 := HU3.out
              have hat : (slM ts n1 vs)[j]? = some (zD t) := by rw [HAT.out, if_neg (by rw [HVL.out]; omega)]
              rw [List.take_add_one, hat]
              exact h1)
             go_wp2_with fail
             go_roundw
             case rel => exact ⟨j + 1, S', sc', by go_num, by omega, HSN⟩
             case measure => first | (simp [intOf]; done) | (simp [intOf]; omega)
           ·obtain rfl : j = n1 + n2 + n3 := by omega
            obtain ⟨w10, rfl⟩ : ∃ x, x = wr := ⟨_, rfl⟩
            have hall : (slM ts n1 vs).take (n1 + n2 + n3) = slM ts n1 vs := List.take_of_length_le (by rw [slM_len _ _ _ (by rw [HTL.out]; omega), HTL.out]; exact Nat.le_refl _)
            rw [hall] at HSL
            have hb79 : Below w7.heap.size w7 w9 := HMB.out.2.1.trans (R9.out.bl.mono HMB.out.2.1.size)
            have hm13 : m13 = n1 + n2 + n3 := by
             have h1 := HF7.out.r13.len
             rw [slM_len _ _ _ (by rw [HTL.out]; omega), HTL.out] at h1
             exact h1.symm
            have HL0 := Lib.hid (loop_start HF7.out HMB.out.2.2.1 hb79 HSL.out hm13 HM9.out)
            have HGB : Hid (w6.heap.size ≤ g ∧ g < mb) := Lib.hid ⟨HG6.out, by have := HF7.out.lt; have := HMB.out.2.2.1; omega⟩
            have HG10 : Hid (g ≤ w10.heap.size) := Lib.hid (by have := HGB.out.2; have := HM9.out; have := HSL.out.kp.size; omega)
            have HLOW : Hid (∀ W, Below g w10 W → Cells W fb [.string s, .bool b, .slice A0 n0 c0, .slice A1 n1 c1, .slice A2 n2 c2, .slice A3 n3 c3, .slice A4 n4 c4, .slice A5 n5 c5, .slice A6 n6 c6, .slice A7 n7 c7, .slice A8 n8 c8] ∧ (W.cell? ⟨zb, 0, none⟩ = some (.slice (some ⟨bk, off, none⟩) fn fc) ∧ W.cell? ⟨zb + 1, 0, none⟩ = some (.int .i64 (f : Int)) ∧ W.cell? ⟨zb + 1, 1, none⟩ = some (.slice VA na nac) ∧ W.cell? ⟨zb + 1, 2, none⟩ = some (.slice LA ln lc)) ∧ SlR 6 48 ROp28 W w.heap.size LA ln lc ops ∧ FnW W w4.heap.size s b A0 n0 c0 A1 n1 c1 A2 n2 c2 A3 n3 c3 A4 n4 c4 A5 n5 c5 A6 n6 c6 A7 n7 c7 A8 n8 c8 x) := Lib.hid fun W hW => by
             have hkk : Kp (fun q => g ≤ q) w9 W := (HSL.out.kp.mono fun q _ e => by have := HGB.out.2; omega).trans (Kp.belowOf hW)
             have h3 := HB67.out.size
             have h4 := HW.out.size
             have h5 := HB6.out.size
             have hg6 := HGB.out.1
             have hs2 := HMB.out.2.1.size
             have hs9 := R9.out.bl.size
             have hb69 : Below w6.heap.size w6 w9 := (HB67.out.trans (HMB.out.2.1.mono HB67.out.size)).trans (R9.out.bl.mono (by omega))
             have hb19 : Below w1.heap.size w1 w9 := HB6.out.trans (hb69.mono HB6.out.size)
             have hb49 : Below w4.heap.size w4 w9 := HB46.out.trans (hb69.mono HB46.out.size)
             obtain ⟨c0', z0, z1, z2, z3⟩ := HST.out w9 (Kp.refl _ _)
             have zl : zb < w1.heap.size := World.block_lt_of_cell? _ _ (EP.out w1 (Below.refl _ _)).1
             have zl2 : zb + 1 < w1.heap.size := World.block_lt_of_cell? _ _ (EP.out w1 (Below.refl _ _)).2.1
             have fl := HFBS.out.1
             have h46 := HB46.out.size
             have hww1 : w.heap.size ≤ w1.heap.size := HB1.out.size
             exact ⟨c0'.kp hkk (by omega), ⟨hkk.cellv z0 (by show ¬ g ≤ zb; omega), hkk.cellv z1 (by show ¬ g ≤ zb + 1; omega), hkk.cellv z2 (by show ¬ g ≤ zb + 1; omega), hkk.cellv z3 (by show ¬ g ≤ zb + 1; omega)⟩, SlR.keep stable_Op28 (HLA.out w9 hb19) (fun p hp => hkk.cell (by omega) (by omega)), HFW.out.keep (hb49.trans ((hkk.below (B := g) (by have := HF7.out.lt; omega) fun q hq => hq).mono (by omega)))⟩
            have HFINW : Hid (∀ W, Below g w10 W → Below w.heap.size w W) := Lib.hid fun W hW => by
             have hkk : Kp (fun q => g ≤ q) w9 W := (HSL.out.kp.mono fun q _ e => by have := HGB.out.2; omega).trans (Kp.belowOf hW)
             have h5 := HB6.out.size
             have hww1 : w.heap.size ≤ w1.heap.size := HB1.out.size
             have hg6 := HGB.out.1
             have hb69 : Below w6.heap.size w6 w9 := (HB67.out.trans (HMB.out.2.1.mono HB67.out.size)).trans (R9.out.bl.mono (by have := HB67.out.size; have := HMB.out.2.1.size; omega))
             have hb19 : Below w1.heap.size w1 w9 := HB6.out.trans (hb69.mono HB6.out.size)
             exact HBW.out W (hb19.trans ((hkk.below (B := g) (by have := HF7.out.lt; have := hb69.size; have := HMB.out.2.2.1; have := HM9.out; omega) fun q hq => hq).mono (by omega)))
            have HSM : Hid (n1 ≤ 1000 ∧ n2 ≤ 1000 ∧ n1 + n2 ≤ n1 + n2 + n3 ∧ n1 + n2 + n3 ≤ 1000) := Lib.hid (by omega)
            clear hall hb79 hm13 HTY HAR hj hj0 hlt
            go_wp2_with fail
            try (generalize ((n1 + n2 + n3 : Nat) : Int) = z12)
            try (generalize ((n1 : Int) + (n2 : Int) + (n3 : Int)) = z13)
            go_loopw [13] (fun iv wr => ∃ (i : Nat), iv = .int .i64 (i : Int) ∧ i ≤ ln ∧ i ≤ 40 ∧ Hid (LoopW w10 g mb (f : Int) s b A0 n0 c0 A1 n1 c1 A2 n2 c2 A3 n3 c3 A4 n4 c4 A5 n5 c5 A6 n6 c6 A7 n7 c7 A8 n8 c8 (n1 + n2 + n3) i wr)) (fun iv _ => ln - (intOf iv).toNat)
            case atStart => exact ⟨0, rfl, Nat.zero_le _, Nat.zero_le _, HL0⟩
            case round => as_aux_lemma =>
             obtain ⟨i, rfl, hil, hi40, HLP⟩ := hrel
             have hi0 : (0 : Int) ≤ (i : Int) := by omega
             obtain ⟨pc, A13, m13, c13, A14, n14, c14, A15, n15, c15, B1, m1, k1, B2, m2, k2, B3, m3, k3, sl, st, cs, ms, hfm, hcm, hbg⟩ := HLP.out
             have HFMX := Lib.hid hfm
             have HCMX := Lib.hid hcm
             have HBGX := Lib.hid hbg
             obtain ⟨hfbc, ⟨z0, z1, z2, z3⟩, hops, hfnw⟩ := HLOW.out wr hbg
             have HFBC := Lib.hid hfbc
             have HOPS := Lib.hid hops
             clear hfm hcm hbg hfbc hops hfnw
             by_cases hlt : i < ln ∧ i < 40
             ·obtain ⟨hl1, hl2⟩ := hlt
              have r1 : decide ((i : Int) < (ln : Int)) = true := by rw [decide_eq_true_eq]; omega
              have r1b : (i : Int) < (ln : Int) := by omega
              have r2 : decide ((i : Int) < 40) = true := by rw [decide_eq_true_eq]; omega
              have r2b : (i : Int) < 40 := by omega
              obtain ⟨ob, oo, o, hLA, hob, ho, ⟨wk, wn⟩, o0, o1, o2, o3, o4, o5⟩ := op28_at HOPS.out hl1
              have HLL := Lib.hid hLA
              subst hLA
              obtain ⟨ok, on, ⟨vk, vn, vre, vim⟩⟩ := o
              dsimp only at wk wn o0 o1 o2 o3 o4 o5
              have HOW : Hid (ob < wr.heap.size ∧ zb + 1 < wr.heap.size ∧ g ≤ wr.heap.size) := Lib.hid ⟨World.block_lt_of_cell? _ _ o0, World.block_lt_of_cell? _ _ z1, by have := HFMX.out.fs.lt; omega⟩
              have HQO : Hid (∀ W, Below wr.heap.size wr W → (W.cell? ⟨ob, oo + i * 6, none⟩ = some (.int .i64 ok) ∧ W.cell? ⟨ob, oo + i * 6 + 1, none⟩ = some (.int .i64 on) ∧ W.cell? ⟨ob, oo + i * 6 + 2, none⟩ = some (.int .i64 vk) ∧ W.cell? ⟨ob, oo + i * 6 + 3, none⟩ = some (.int .i64 vn) ∧ W.cell? ⟨ob, oo + i * 6 + 4, none⟩ = some (.int .i64 vre) ∧ W.cell? ⟨ob, oo + i * 6 + 5, none⟩ = some (.int .i64 vim)) ∧ W.cell? ⟨zb + 1, 2, none⟩ = some (.slice (some ⟨ob, oo, none⟩) ln lc)) := Lib.hid fun W hW => by
               have hob := HOW.out.1
               exact ⟨⟨(hW.cell (p := ⟨ob, oo + i * 6, none⟩) hob).trans o0, (hW.cell (p := ⟨ob, oo + i * 6 + 1, none⟩) hob).trans o1, (hW.cell (p := ⟨ob, oo + i * 6 + 2, none⟩) hob).trans o2, (hW.cell (p := ⟨ob, oo + i * 6 + 3, none⟩) hob).trans o3, (hW.cell (p := ⟨ob, oo + i * 6 + 4, none⟩) hob).trans o4, (hW.cell (p := ⟨ob, oo + i * 6 + 5, none⟩) hob).trans o5⟩, (hW.cell (p := ⟨zb + 1, 2, none⟩) HOW.out.2.1).trans z3⟩
              have HOWN : Hid (∀ j, Own g A13 A14 A15 j → ¬ j = mb ∧ g ≤ j ∧ j < wr.heap.size) := Lib.hid fun j hO => ⟨HFMX.out.fs.nx j hO, HFMX.out.fs.ge hO, HFMX.out.fs.old hO⟩
              have cSA : Hid (∀ W, Below wr.heap.size wr W → Calls Tryz.prog 15 #[.pointer (some ⟨g, 0, none⟩), mdV (f : Int) pc B1 m1 k1 B2 m2 k2 B3 m3 k3, .agg #[.string s, .bool b, .slice A0 n0 c0, .slice A1 n1 c1, .slice A2 n2 c2, .slice A3 n3 c3, .slice A4 n4 c4, .slice A5 n5 c5, .slice A6 n6 c6, .slice A7 n7 c7, .slice A8 n8 c8], .agg #[.int .i64 ok, .int .i64 on, .int .i64 vk, .int .i64 vn, .int .i64 vre, .int .i64 vim]] W (IsStep (fun j => j = mb) g (f : Int) s b A0 n0 c0 A1 n1 c1 A2 n2 c2 A3 n3 c3 A4 n4 c4 A5 n5 c5 A6 n6 c6 A7 n7 c7 A8 n8 c8 (n1 + n2 + n3) i (Own g A13 A14 A15) W)) := Lib.hid fun W hW =>
               fstep_any (fun j => j = mb) g (f : Int) pc s b A0 n0 c0 A1 n1 c1 A2 n2 c2 A3 n3 c3 A4 n4 c4 A5 n5 c5 A6 n6 c6 A7 n7 c7 A8 n8 c8 (n1 + n2 + n3) i A13 m13 c13 A14 n14 c14 A15 n15 c15 B1 m1 k1 B2 m2 k2 B3 m3 k3 sl st cs ms ok on vk vn vre vim W (fun j e => by have h1 : j = mb := e; have := HCMX.out.lt; have := hW.size; omega) (HFMX.out.on ((Kp.refl _ wr).ofBelow hW)) (by omega) HSM.out.2.2.2 ⟨HSM.out.1, HSM.out.2.1, HSM.out.2.2.1⟩ wk wn
              have cSB : Hid (∀ W, Below wr.heap.size wr W → wr.heap.size < W.heap.size → Calls Tryz.prog 15 #[.pointer (some ⟨g, 0, none⟩), mdV (f : Int) pc B1 m1 k1 B2 m2 k2 B3 m3 k3, .agg #[.string s, .bool b, .slice A0 n0 c0, .slice A1 n1 c1, .slice A2 n2 c2, .slice A3 n3 c3, .slice A4 n4 c4, .slice A5 n5 c5, .slice A6 n6 c6, .slice A7 n7 c7, .slice A8 n8 c8], .agg #[.int .i64 ok, .int .i64 on, .int .i64 vk, .int .i64 vn, .int .i64 vre, .int .i64 vim]] W (IsStep (fun j => j = mb ∨ j = wr.heap.size) g (f : Int) s b A0 n0 c0 A1 n1 c1 A2 n2 c2 A3 n3 c3 A4 n4 c4 A5 n5 c5 A6 n6 c6 A7 n7 c7 A8 n8 c8 (n1 + n2 + n3) i (Own g A13 A14 A15) W)) := Lib.hid fun W hW hlt =>
               fstep_any (fun j => j = mb ∨ j = wr.heap.size) g (f : Int) pc s b A0 n0 c0 A1 n1 c1 A2 n2 c2 A3 n3 c3 A4 n4 c4 A5 n5 c5 A6 n6 c6 A7 n7 c7 A8 n8 c8 (n1 + n2 + n3) i A13 m13 c13 A14 n14 c14 A15 n15 c15 B1 m1 k1 B2 m2 k2 B3 m3 k3 sl st cs ms ok on vk vn vre vim W (fun j e => by rcases e with e | e <;> (have := HCMX.out.lt; omega)) ((HFMX.out.broad.lift ((Kp.refl _ wr).ofBelow hW)).slim fun j _ e => e.imp id fun e => by omega) (by omega) HSM.out.2.2.2 ⟨HSM.out.1, HSM.out.2.1, HSM.out.2.2.1⟩ wk wn
              clear hob ho
              go_upto_region 28 with fail
              go_cut [14, 15] (fun p o wx => ∃ yb : Nat, p = .pointer (some ⟨yb, 0, none⟩) ∧ o = .bool true ∧ Hid (MidW w10 g mb (f : Int) s b A0 n0 c0 A1 n1 c1 A2 n2 c2 A3 n3 c3 A4 n4 c4 A5 n5 c5 A6 n6 c6 A7 n7 c7 A8 n8 c8 (n1 + n2 + n3) (i + 1) yb wx))
              case first => as_aux_lemma =>
               clear o0 o1 o2 o3 o4 o5 z0 z1 z2 z3
               go_wp2_with fail
               refine wp_region_piv (R := fun W => Below wr.heap.size wr W) (pv := 8) (by kernel_rfl) ?_
               change wpAnyG _ _ _ _ _ _ _ _ _ (World.drew _)
               have hS0 : Below wr.heap.size wr wr.drew := (Below.refl _ _).drew
               refine tkG 0 0 [] rfl (by intro W hW; go_simp; first | done | rfl) hS0 ?_
               try go_simp
               refine tkG 1 1 [] rfl (by intro W hW; have hm := HCMX.out.on hW; have h0 := hm.at_ 0 _ rfl; have h1 := hm.at_ 1 _ rfl; have h2 := hm.at_ 2 _ rfl; have h3 := hm.at_ 3 _ rfl; have h4 := hm.at_ 4 _ rfl; go_simp; first | done | rfl) hS0 ?_
               try go_simp
               refine tkG 2 2 [] rfl (by intro W hW; have hm := HFBC.out.on hW; have h0 := hm.at_ 0 _ rfl; have h1 := hm.at_ 1 _ rfl; have h2 := hm.at_ 2 _ rfl; have h3 := hm.at_ 3 _ rfl; have h4 := hm.at_ 4 _ rfl; have h5 := hm.at_ 5 _ rfl; have h6 := hm.at_ 6 _ rfl; have h7 := hm.at_ 7 _ rfl; have h8 := hm.at_ 8 _ rfl; have h9 := hm.at_ 9 _ rfl; have h10 := hm.at_ 10 _ rfl; go_simp; first | done | rfl) hS0 ?_
               try go_simp
               refine tkG 3 7 [6, 4, 3] rfl (by intro W hW; go_simp; first | done | rfl) hS0 ?_
               try go_simp
               refine tkG 4 7 [6, 4] rfl (by intro W hW; obtain ⟨⟨h0, h1, h2, h3, h4, h5⟩, h6⟩ := HQO.out W hW; go_simp; first | done | rfl) hS0 ?_
               try go_simp
               refine tkG 5 7 [6, 5] rfl (by intro W hW; go_simp; first | done | rfl) hS0 ?_
               try go_simp
               refine tkG 6 7 [6] rfl (by intro W hW; obtain ⟨⟨h0, h1, h2, h3, h4, h5⟩, h6⟩ := HQO.out W hW; go_simp; first | done | rfl) hS0 ?_
               try go_simp
               refine tkG 7 7 [] rfl (by intro W hW; obtain ⟨⟨h0, h1, h2, h3, h4, h5⟩, h6⟩ := HQO.out W hW; go_simp; first | done | rfl) hS0 ?_
               try go_simp
               refine wpAnyG_two (i := 8) (j := 12) (by kernel_rfl) rfl rfl (fun K hK => ?_) (fun K hK => ?_)
               ·go_simp
                refine (cSA.out _ hS0).mono ?_
                rintro e w11 ⟨pc', A13', m13', c13', A14', n14', c14', A15', n15', c15', B1', m1', k1', B2', m2', k2', B3', m3', k3', sl', st', cs', ms', rfl, hfm, hkO, _⟩
                have HFM11 := Lib.hid hfm
                have HKO := Lib.hid hkO
                clear hfm hkO
                go_simp
                refine hK _ _ ⟨(fun h => by cases h), ?_⟩; clear hK K
                try go_simp
                refine wpAnyG_fk (i := 9) rfl (by decide) (by kernel_rfl) (by kernel_rfl) (by kernel_rfl) (by rfl) (by intro W; go_simp; first | done | exact rfl) (by intro _ _ _ h; exact h) (by intro h; cases h) ?_
                try go_simp
                refine wpAnyG_fk (i := 10) rfl (by decide) (by kernel_rfl) (by kernel_rfl) (by kernel_rfl) (by rfl) (by intro W; go_simp; first | done | exact rfl) (by intro _ _ _ h; exact h) (by intro h; cases h) ?_
                try go_simp
                refine wpAnyG_fk (i := 11) rfl (by decide) (by kernel_rfl) (by kernel_rfl) (by kernel_rfl) (by rfl) (by intro W; go_simp; first | done | exact rfl) (by intro _ _ _ h; exact h) (by intro h; cases h) ?_
                try go_simp
                refine wpAnyG_one (i := 12) (by kernel_rfl) rfl (fun K hK => ?_)
                obtain ⟨v, hv⟩ : ∃ X, World.alloc w11 (.cells #[.int .i64 0, .int .i64 0, .slice none 0 0, .slice none 0 0, .slice none 0 0] 51) = X := ⟨_, rfl⟩
                obtain ⟨yb, hyb⟩ : ∃ X, (World.heap w11).size = X := ⟨_, rfl⟩
                have HPRE := Lib.hid (pre_a (w10 := w10) HCMX.out hS0 HKO.out (fun j hO => ⟨(HOWN.out j hO).1, (HOWN.out j hO).2.1⟩) HOW.out.2.2 HBGX.out HFM11.out hv hyb)
                go_simp
                refine hK _ _ ⟨(fun h => by cases h), ?_⟩; clear hK K
                clear hv hyb
                try go_simp
                obtain ⟨_, hcy, _, _, _, _⟩ := HPRE.out
                have x0 := hcy.at_ 0 _ rfl
                have x1 := hcy.at_ 1 _ rfl
                have x2 := hcy.at_ 2 _ rfl
                have x3 := hcy.at_ 3 _ rfl
                have x4 := hcy.at_ 4 _ rfl
                have f0 := hcy.fz 0 (by simp)
                have f1 := hcy.fz 1 (by simp)
                have f2 := hcy.fz 2 (by simp)
                have f3 := hcy.fz 3 (by simp)
                have f4 := hcy.fz 4 (by simp)
                have HMD := Lib.hid (mid_of HPRE.out)
                clear hcy
                refine wpAnyG_oneL (i := 13) (by kernel_rfl) rfl (by kernel_rfl) (fun K hK => ?_)
                go_simp
                refine hK _ _ ?_; clear hK K
                refine wpAnyG_oneL (i := 14) (by kernel_rfl) rfl (by kernel_rfl) (fun K hK => ?_)
                go_simp
                refine hK _ _ ?_; clear hK K
                refine wpAnyG_done (by kernel_rfl) ?_ _
                try go_simp
                apply_assumption
                go_meet
                exact ⟨_, rfl, rfl, HMD⟩
               ·obtain ⟨v, hv⟩ : ∃ X, World.alloc (World.drew wr) (.cells #[.int .i64 0, .int .i64 0, .slice none 0 0, .slice none 0 0, .slice none 0 0] 51) = X := ⟨_, rfl⟩
                obtain ⟨yb, hyb⟩ : ∃ X, (World.heap (World.drew wr)).size = X := ⟨_, rfl⟩
                have hyb' : wr.heap.size = yb := hyb
                have hSv : Below wr.heap.size wr v := by rw [← hv]; exact hS0.trans ((bl_one _).mono hS0.size)
                have HSV : Hid (Below wr.heap.size wr v) := Lib.hid hSv
                have HCY : Hid (Cells v yb [.int .i64 0, .int .i64 0, .slice none 0 0, .slice none 0 0, .slice none 0 0] ∧ wr.heap.size = yb) := Lib.hid ⟨by rw [← hv]; exact cells_new_at hyb [.int .i64 0, .int .i64 0, .slice none 0 0, .slice none 0 0, .slice none 0 0] _, hyb'⟩
                go_simp
                refine hK _ _ ⟨fun _ => HSV.out, ?_⟩; clear hK K
                clear hv hyb hyb' hSv
                try go_simp
                refine wpAnyG_one (i := 8) (by kernel_rfl) rfl (fun K hK => ?_)
                go_simp
                refine (cSB.out _ HSV.out (by have := HCY.out.1.lt; have := HCY.out.2; omega)).mono ?_
                rintro e w11 ⟨pc', A13', m13', c13', A14', n14', c14', A15', n15', c15', B1', m1', k1', B2', m2', k2', B3', m3', k3', sl', st', cs', ms', rfl, hfm, hkO, _⟩
                rw [HCY.out.2] at hfm
                have HPRE := Lib.hid (pre_b (w10 := w10) HCMX.out HSV.out HCY.out.1 HCY.out.2 hkO HOWN.out HOW.out.2.2 HBGX.out hfm)
                clear hfm hkO
                go_simp
                refine hK _ _ ⟨(fun h => by cases h), ?_⟩; clear hK K
                try go_simp
                refine wpAnyG_fk (i := 9) rfl (by decide) (by kernel_rfl) (by kernel_rfl) (by kernel_rfl) (by rfl) (by intro W; go_simp; first | done | exact rfl) (by intro _ _ _ h; exact h) (by intro h; cases h) ?_
                try go_simp
                refine wpAnyG_fk (i := 10) rfl (by decide) (by kernel_rfl) (by kernel_rfl) (by kernel_rfl) (by rfl) (by intro W; go_simp; first | done | exact rfl) (by intro _ _ _ h; exact h) (by intro h; cases h) ?_
                try go_simp
                refine wpAnyG_fk (i := 11) rfl (by decide) (by kernel_rfl) (by kernel_rfl) (by kernel_rfl) (by rfl) (by intro W; go_simp; first | done | exact rfl) (by intro _ _ _ h; exact h) (by intro h; cases h) ?_
                try go_simp
                obtain ⟨_, hcy, _, _, _, _⟩ := HPRE.out
                have x0 := hcy.at_ 0 _ rfl
                have x1 := hcy.at_ 1 _ rfl
                have x2 := hcy.at_ 2 _ rfl
                have x3 := hcy.at_ 3 _ rfl
                have x4 := hcy.at_ 4 _ rfl
                have f0 := hcy.fz 0 (by simp)
                have f1 := hcy.fz 1 (by simp)
                have f2 := hcy.fz 2 (by simp)
                have f3 := hcy.fz 3 (by simp)
                have f4 := hcy.fz 4 (by simp)
                have HMD := Lib.hid (mid_of HPRE.out)
                clear hcy
                refine wpAnyG_oneL (i := 13) (by kernel_rfl) rfl (by kernel_rfl) (fun K hK => ?_)
                go_simp
                refine hK _ _ ?_; clear hK K
                refine wpAnyG_oneL (i := 14) (by kernel_rfl) rfl (by kernel_rfl) (fun K hK => ?_)
                go_simp
                refine hK _ _ ?_; clear hK K
                refine wpAnyG_done (by kernel_rfl) ?_ _
                try go_simp
                apply_assumption
                go_meet
                exact ⟨_, rfl, rfl, HMD⟩
              case rest =>
               obtain ⟨yb, rfl, rfl, HMD⟩ := hcut
               clear o0 o1 o2 o3 o4 o5 z0 z1 z2 z3 HQO HOWN cSA cSB HFMX HCMX HBGX HFBC HOPS HOW HLP r1 r1b r2 r2b
               obtain ⟨pc, A13, m13, c13, A14, n14, c14, A15, n15, c15, B1, m1, k1, B2, m2, k2, B3, m3, k3, sl, st, cs, ms, hfm, hcy, ⟨o0, o1, o2, o3, o4, hcm⟩, hbg, hne⟩ := HMD.out
               have y0 := hcy.at_ 0 _ rfl
               have y1 := hcy.at_ 1 _ rfl
               have y2 := hcy.at_ 2 _ rfl
               have y3 := hcy.at_ 3 _ rfl
               have y4 := hcy.at_ 4 _ rfl
               have x0 := hcm.at_ 0 _ rfl
               have x1 := hcm.at_ 1 _ rfl
               have x2 := hcm.at_ 2 _ rfl
               have x3 := hcm.at_ 3 _ rfl
               have x4 := hcm.at_ 4 _ rfl
               have f0 := hcm.fz 0 (by simp)
               have f1 := hcm.fz 1 (by simp)
               have f2 := hcm.fz 2 (by simp)
               have f3 := hcm.fz 3 (by simp)
               have f4 := hcm.fz 4 (by simp)
               obtain ⟨w12, hw12⟩ : ∃ X, ((((World.setCell wc ⟨mb, 0, none⟩ (.int .i64 (f : Int))).setCell ⟨mb, 1, none⟩ (.int .i64 pc)).setCell ⟨mb, 2, none⟩ (.slice B1 m1 k1)).setCell ⟨mb, 3, none⟩ (.slice B2 m2 k2)).setCell ⟨mb, 4, none⟩ (.slice B3 m3 k3) = X := ⟨_, rfl⟩
               have HN12 := Lib.hid (mid_next hfm hcm hbg (by have := HGB.out.2; omega) hw12)
               have HE12 := Lib.hid hw12
               clear hfm hcy hcm hbg hw12 HMD
               go_wp2_with fail
               rw [HE12.out]
               clear x0 x1 x2 x3 x4 f0 f1 f2 f3 f4 y0 y1 y2 y3 y4 HE12
               obtain ⟨hfm, hcm, hbg⟩ := HN12.out
               have hm2 : m2 = n14 := by
                have h1 := hfm.mo.r2.len
                have h2 := hfm.fs.r14.len
                omega
               have hm3 : m3 = n15 := by
                have h1 := hfm.mo.r3.lenc
                have h2 := hfm.fs.r15.len
                have h4 := congrArg List.length hfm.ab
                rw [List.length_map, List.length_map] at h4
                omega
               subst hm2 hm3
               obtain ⟨hfbc, ⟨_, z1, _, _⟩, _, hfnw⟩ := HLOW.out w12 hbg
               have HFMN := Lib.hid hfm
               have HCMN := Lib.hid hcm
               have HBGN := Lib.hid hbg
               have HFBC := Lib.hid hfbc
               have HON : ∀ W, Below w12.heap.size w12 W → FM (fun j => j = mb) W g (f : Int) pc s b A0 n0 c0 A1 n1 c1 A2 n2 c2 A3 n3 c3 A4 n4 c4 A5 n5 c5 A6 n6 c6 A7 n7 c7 A8 n8 c8 (n1 + n2 + n3) (i + 1) A13 m13 c13 A14 m2 c14 A15 m3 c15 B1 m1 k1 B2 m2 k2 B3 m3 k3 sl st cs ms := fun W hW => hfm.on ((Kp.refl _ w12).ofBelow hW)
               have HFNN : ∀ W, Below w12.heap.size w12 W → FnW W W.heap.size s b A0 n0 c0 A1 n1 c1 A2 n2 c2 A3 n3 c3 A4 n4 c4 A5 n5 c5 A6 n6 c6 A7 n7 c7 A8 n8 c8 x := fun W hW => by
                have hbgW : Below g w10 W := hbg.trans (hW.mono (by have := hfm.fs.lt; omega))
                exact (HLOW.out W hbgW).2.2.2.more (by have h1 := HB46.out.size; have h2 := HGB.out.1; have h3 := hbgW.size; have h4 := HG10.out; omega)
               obtain ⟨lv, hlv⟩ : ∃ v, lineZ x.lines pc = v := ⟨_, rfl⟩
               have cHi : Hid (∀ W, Below w12.heap.size w12 W → Calls Tryz.prog 16 #[.pointer (some ⟨g, 0, none⟩)] W fun e w' => e = .returned (.int .i64 (m2 : Int)) ∧ Below W.heap.size W w') := Lib.hid fun W hW => fhigh_any g A14 m2 c14 W (HON W hW).fs.e14
               have cWa : Hid (∀ W, Below w12.heap.size w12 W → Calls Tryz.prog 17 #[.pointer (some ⟨g, 0, none⟩)] W fun e w' => e = .returned (.int .i64 (m3 : Int)) ∧ Below W.heap.size W w') := Lib.hid fun W hW => fwaits_any g A15 m3 c15 W (HON W hW).fs.e15
               have cPc : Hid (∀ W, Below w12.heap.size w12 W → Calls Tryz.prog 18 #[.pointer (some ⟨g, 0, none⟩)] W fun e w' => e = .returned (.int .i64 pc) ∧ Below W.heap.size W w') := Lib.hid fun W hW => fpc_any g pc W (HON W hW).fs.e12
               have cLi : Hid (∀ W, Below w12.heap.size w12 W → Calls Tryz.prog 19 #[.pointer (some ⟨g, 0, none⟩)] W fun e w' => e = .returned (.int .i64 lv) ∧ Below W.heap.size W w') := Lib.hid fun W hW => by rw [← hlv]; exact fline_any g A5 n5 c5 x.lines pc W (HON W hW).fs.fn.e7 (HON W hW).fs.e12 (HFNN W hW).r5
               have cAt : Hid (∀ W, Below w12.heap.size w12 W → Calls Tryz.prog 20 #[.slice A5 n5 c5, .int .i64 pc] W fun e w' => e = .returned (.int .i64 lv) ∧ Below W.heap.size W w') := Lib.hid fun W hW => by
                refine (zrline_any A5 n5 c5 x.lines pc W (HFNN W hW).r5).mono ?_
                rintro e w' ⟨rfl, rfl⟩
                exact ⟨by rw [hlv], Below.refl _ _⟩
               have cFu : Hid (∀ W, Below w12.heap.size w12 W → Calls Tryz.prog 21 #[.pointer (some ⟨g, 0, none⟩)] W fun e w' => e = .returned (.int .i64 (f : Int)) ∧ Below W.heap.size W w') := Lib.hid fun W hW => ffunc_any g (f : Int) W (HON W hW).fs.e11
               have cFr : Hid (∀ W, Below w12.heap.size w12 W → Calls Tryz.prog 22 #[.pointer (some ⟨g, 0, none⟩)] W fun e w' => e = .returned (.pointer none) ∧ Below W.heap.size W w') := Lib.hid fun W hW => ffrom_any g W (HON W hW).fs.e16
               have HONH := Lib.hid HON
               have HFNH := Lib.hid HFNN
               have HZ12 : Hid (∀ W, Below w12.heap.size w12 W → W.cell? ⟨zb + 1, 0, none⟩ = some (.int .i64 (f : Int))) := Lib.hid fun W hW => (hW.cell (World.block_lt_of_cell? _ _ z1)).trans z1
               clear hfm hcm hbg hfbc hfnw HON HFNN hlv z1 HN12
               go_cut [208] (fun v wx => v = .bool false ∧ Hid (Below w12.heap.size w12 wx))
               case first => as_aux_lemma =>
                go_wp2_with fail
                refine wp_region_held (S := fun W => Below w12.heap.size w12 W) (by kernel_rfl) ?_
                change wpAnyH _ _ _ _ _ _ _ _ (World.drew _)
                have hS0 : Below w12.heap.size w12 w12.drew := (Below.refl _ _).drew
                refine tkH 0 rfl (by intro W hW; go_simp; first | done | rfl) hS0 ?_
                try go_simp
                refine tkH 1 rfl (by intro W hW; go_simp; first | done | rfl) hS0 ?_
                try go_simp
                refine tkH 2 rfl (by intro W hW; go_simp; first | done | rfl) hS0 ?_
                try go_simp
                refine tkH 3 rfl (by intro W hW; go_simp; first | done | rfl) hS0 ?_
                try go_simp
                refine tkH 5 rfl (by intro W hW; go_simp; first | done | rfl) hS0 ?_
                try go_simp
                refine tkH 6 rfl (by intro W hW; have hm := HCMN.out.on hW; have h0 := hm.at_ 0 _ rfl; have h1 := hm.at_ 1 _ rfl; have h2 := hm.at_ 2 _ rfl; have h3 := hm.at_ 3 _ rfl; have h4 := hm.at_ 4 _ rfl; go_simp; first | done | rfl) hS0 ?_
                try go_simp
                refine tkH 7 rfl (by intro W hW; go_simp; first | done | rfl) hS0 ?_
                try go_simp
                refine wpAnyH_one (i := 4) (by kernel_rfl) rfl (fun K hK => ?_)
                go_simp
                refine (cHi.out _ hS0).mono ?_
                rintro e u1 ⟨rfl, hbq⟩
                have hS1 : Below w12.heap.size w12 u1 := hS0.trans (hbq.mono hS0.size)
                clear hbq hS0
                go_simp
                refine hK _ _ ⟨hS1, ?_⟩; clear hK K
                try go_simp
                refine tkH 8 rfl (by intro W hW; go_simp; first | done | rfl) hS1 ?_
                try go_simp
                refine tkH 9 rfl (by intro W hW; go_simp; first | done | rfl) hS1 ?_
                try go_simp
                refine tkH 10 rfl (by intro W hW; go_simp; first | done | rfl) hS1 ?_
                try go_simp
                refine tkH 11 rfl (by intro W hW; go_simp; first | done | rfl) hS1 ?_
                try go_simp
                refine tkH 13 rfl (by intro W hW; go_simp; first | done | rfl) hS1 ?_
                try go_simp
                refine tkH 14 rfl (by intro W hW; have hm := HCMN.out.on hW; have h0 := hm.at_ 0 _ rfl; have h1 := hm.at_ 1 _ rfl; have h2 := hm.at_ 2 _ rfl; have h3 := hm.at_ 3 _ rfl; have h4 := hm.at_ 4 _ rfl; go_simp; first | done | rfl) hS1 ?_
                try go_simp
                refine tkH 15 rfl (by intro W hW; go_simp; first | done | rfl) hS1 ?_
                try go_simp
                refine wpAnyH_one (i := 12) (by kernel_rfl) rfl (fun K hK => ?_)
                go_simp
                refine (cWa.out _ hS1).mono ?_
                rintro e u2 ⟨rfl, hbq⟩
                have hS2 : Below w12.heap.size w12 u2 := hS1.trans (hbq.mono hS1.size)
                clear hbq hS1
                go_simp
                refine hK _ _ ⟨hS2, ?_⟩; clear hK K
                try go_simp
                refine tkH 16 rfl (by intro W hW; go_simp; first | done | rfl) hS2 ?_
                try go_simp
                refine tkH 17 rfl (by intro W hW; go_simp; first | done | rfl) hS2 ?_
                try go_simp
                refine tkH 18 rfl (by intro W hW; go_simp; first | done | rfl) hS2 ?_
                try go_simp
                refine tkH 19 rfl (by intro W hW; go_simp; first | done | rfl) hS2 ?_
                try go_simp
                refine tkH 21 rfl (by intro W hW; go_simp; first | done | rfl) hS2 ?_
                try go_simp
                refine tkH 22 rfl (by intro W hW; have hm := HCMN.out.on hW; have h0 := hm.at_ 0 _ rfl; have h1 := hm.at_ 1 _ rfl; have h2 := hm.at_ 2 _ rfl; have h3 := hm.at_ 3 _ rfl; have h4 := hm.at_ 4 _ rfl; go_simp; first | done | rfl) hS2 ?_
                try go_simp
                refine wpAnyH_one (i := 20) (by kernel_rfl) rfl (fun K hK => ?_)
                go_simp
                refine (cPc.out _ hS2).mono ?_
                rintro e u3 ⟨rfl, hbq⟩
                have hS3 : Below w12.heap.size w12 u3 := hS2.trans (hbq.mono hS2.size)
                clear hbq hS2
                go_simp
                refine hK _ _ ⟨hS3, ?_⟩; clear hK K
                try go_simp
                refine tkH 23 rfl (by intro W hW; go_simp; first | done | rfl) hS3 ?_
                try go_simp
                refine tkH 24 rfl (by intro W hW; go_simp; first | done | rfl) hS3 ?_
                try go_simp
                refine tkH 25 rfl (by intro W hW; go_simp; first | done | rfl) hS3 ?_
                try go_simp
                refine tkH 26 rfl (by intro W hW; go_simp; first | done | rfl) hS3 ?_
                try go_simp
                refine tkH 28 rfl (by intro W hW; go_simp; first | done | rfl) hS3 ?_
                try go_simp
                refine tkH 29 rfl (by intro W hW; have hm := HFBC.out.on hW; have h7 := hm.at_ 7 _ rfl; have h4 := hm.at_ 4 _ rfl; have h3 := hm.at_ 3 _ rfl; go_simp; first | done | rfl) hS3 ?_
                try go_simp
                refine tkH 30 rfl (by intro W hW; go_simp; first | done | rfl) hS3 ?_
                try go_simp
                refine tkH 31 rfl (by intro W hW; have hm := HCMN.out.on hW; have h0 := hm.at_ 0 _ rfl; have h1 := hm.at_ 1 _ rfl; have h2 := hm.at_ 2 _ rfl; have h3 := hm.at_ 3 _ rfl; have h4 := hm.at_ 4 _ rfl; go_simp; first | done | rfl) hS3 ?_
                try go_simp
                refine wpAnyH_one (i := 27) (by kernel_rfl) rfl (fun K hK => ?_)
                go_simp
                refine (cLi.out _ hS3).mono ?_
                rintro e u4 ⟨rfl, hbq⟩
                have hS4 : Below w12.heap.size w12 u4 := hS3.trans (hbq.mono hS3.size)
                clear hbq hS3
                go_simp
                refine hK _ _ ⟨hS4, ?_⟩; clear hK K
                try go_simp
                refine wpAnyH_one (i := 32) (by kernel_rfl) rfl (fun K hK => ?_)
                go_simp
                refine (cAt.out _ hS4).mono ?_
                rintro e u5 ⟨rfl, hbq⟩
                have hS5 : Below w12.heap.size w12 u5 := hS4.trans (hbq.mono hS4.size)
                clear hbq hS4
                go_simp
                refine hK _ _ ⟨hS5, ?_⟩; clear hK K
                try go_simp
                refine tkH 33 rfl (by intro W hW; go_simp; first | done | rfl) hS5 ?_
                try go_simp
                refine tkH 34 rfl (by intro W hW; go_simp; first | done | rfl) hS5 ?_
                try go_simp
                refine tkH 35 rfl (by intro W hW; go_simp; first | done | rfl) hS5 ?_
                try go_simp
                refine tkH 36 rfl (by intro W hW; go_simp; first | done | rfl) hS5 ?_
                try go_simp
                refine tkH 38 rfl (by intro W hW; go_simp; first | done | rfl) hS5 ?_
                try go_simp
                refine tkH 39 rfl (by intro W hW; have h0 := HZ12.out W hW; go_simp; first | done | rfl) hS5 ?_
                try go_simp
                refine wpAnyH_one (i := 37) (by kernel_rfl) rfl (fun K hK => ?_)
                go_simp
                refine (cFu.out _ hS5).mono ?_
                rintro e u6 ⟨rfl, hbq⟩
                have hS6 : Below w12.heap.size w12 u6 := hS5.trans (hbq.mono hS5.size)
                clear hbq hS5
                go_simp
                refine hK _ _ ⟨hS6, ?_⟩; clear hK K
                try go_simp
                refine tkH 40 rfl (by intro W hW; go_simp; first | done | rfl) hS6 ?_
                try go_simp
                refine tkH 41 rfl (by intro W hW; go_simp; first | done | rfl) hS6 ?_
                try go_simp
                refine tkH 42 rfl (by intro W hW; go_simp; first | done | rfl) hS6 ?_
                try go_simp
                refine tkH 43 rfl (by intro W hW; go_simp; first | done | rfl) hS6 ?_
                try go_simp
                refine wpAnyH_one (i := 44) (by kernel_rfl) rfl (fun K hK => ?_)
                go_simp
                refine (cFr.out _ hS6).mono ?_
                rintro e u7 ⟨rfl, hbq⟩
                have hS7 : Below w12.heap.size w12 u7 := hS6.trans (hbq.mono hS6.size)
                clear hbq hS6
                go_simp
                refine hK _ _ ⟨hS7, ?_⟩; clear hK K
                try go_simp
                refine tkH 45 rfl (by intro W hW; go_simp; first | done | rfl) hS7 ?_
                try go_simp
                refine tkH 46 rfl (by intro W hW; go_simp; first | done | rfl) hS7 ?_
                try go_simp
                refine wpAnyH_done (by kernel_rfl) ?_ _
                have HS7 := Lib.hid hS7
                try go_simp
                apply_assumption
                go_meet
                exact ⟨rfl, HS7⟩
               case rest =>
                obtain ⟨rfl, HS7⟩ := hcut
                obtain ⟨u7, rfl⟩ : ∃ x, x = wc := ⟨_, rfl⟩
                clear cHi cWa cPc cLi cAt cFu cFr HZ12
                have e3 := (HFBC.out.on HS7.out).at_ 3 _ rfl
                go_upto_region 33 with fail
                go_cut [224] (fun v wx => v = .bool false ∧ Hid (Below w12.heap.size w12 wx))
                case first => as_aux_lemma =>
                 clear e3
                 have hM13 : m13 = n1 + n2 + n3 := HFMN.out.hM
                 have hm1 : m1 = n1 + n2 + n3 := by
                  have h1 := HFMN.out.mo.r1.len
                  have h2 := HFMN.out.fs.r13.len
                  omega
                 have hsl : sl.length = n1 + n2 + n3 := by rw [HFMN.out.mo.r1.len]; exact hm1
                 have hkm := HFMN.out.q1
                 have hsm := HSM.out
                 have HLST : Hid (((sl.drop n1).take n2).length = n2) := Lib.hid (by rw [List.length_take, List.length_drop, hsl]; omega)
                 have cRs : Hid (∀ W, Below w12.heap.size w12 W → Calls Tryz.prog 24 #[.pointer (some ⟨g, 0, none⟩)] W (IsRowV ((sl.drop n1).take n2) W)) := Lib.hid fun W hW => fresults_any g (g + 1) s b A0 n0 c0 A1 n1 c1 A2 n2 c2 A3 n3 c3 A4 n4 c4 A5 n5 c5 A6 n6 c6 A7 n7 c7 A8 n8 c8 A13 m13 c13 sl W (HONH.out W hW).fs.fn (HONH.out W hW).fs.e13 (HONH.out W hW).fs.r13 (by omega) (by omega)
                 have cVV : Hid (∀ (W : World) (A' : Option Addr) (c' : Nat) (X : Option Addr) (N C : Nat), SlV W W.heap.size A' n2 c' ((sl.drop n1).take n2) → SlV W W.heap.size X n2 C ((sl.drop n1).take n2) → N = n2 → Calls Tryz.prog 23 #[.slice A' n2 c', .slice X N C] W fun e w' => e = .returned (.bool true) ∧ Below W.heap.size W w') := Lib.hid fun W A' c' X N C h1 h2 hN => by
                  subst hN
                  exact refValues_true A' X N c' C W.heap.size _ _ W h1 h2 (Nat.le_refl _) (fun i x y' h1 h2 => by rw [h1] at h2; injection h2 with h2; rw [h2]; exact sameV_refl y')
                 have HGOT : Hid (∀ (W : World) (A' : Option Addr) (c' : Nat) (base : Nat), W.ownsRow base 43 3 (.slice A' n2 c') n2 (rowVl ((sl.drop n1).take n2)) → SlV W W.heap.size A' n2 c' ((sl.drop n1).take n2)) := Lib.hid fun W A' c' base ho => by
                  have := SlR.of_ownN (sz := 3) (bytes := 32) (f := DV.c) (fun _ => rfl) (by omega) ho (by unfold reachBytes; omega)
                  exact this
                 have l0 : (0 : Int) ≤ (n1 : Int) := by omega
                 have ln' : (n1 : Int) ≤ (n1 : Int) + (n2 : Int) := by omega
                 have wr1 : IntKind.i64.wrap ((n1 : Int) + (n2 : Int)) = (n1 : Int) + (n2 : Int) := by rw [IntKind.wrap_i64]; omega
                 have HS7c := HS7
                 rcases (show B1 = none ∨ ∃ bb bo, B1 = some ⟨bb, bo, none⟩ by
                  cases hB : B1 with
                  | none => exact .inl rfl
                  | some ad => obtain ⟨bb, bo, e, _⟩ := HFMN.out.mo.r1.at_ ad hB; exact .inr ⟨bb, bo, by rw [e]⟩) with hB | ⟨bb, bo, hB⟩
                 ·have hk0 := HFMN.out.z1 hB
                  have hcn : n1 = k1 := by omega
                  have hn20 : n2 = 0 := by omega
                  have hl0 : (sl.drop n1).take n2 = [] := by rw [hn20, List.take_zero]
                  clear hk0
                  subst hB
                  subst hcn
                  subst hn20
                  have wr2 : IntKind.i64.wrap (n1 : Int) = (n1 : Int) := by rw [IntKind.wrap_i64]; omega
                  have i1 : (n1 : Int) ≤ (n1 : Int) := by omega
                  go_wp2_with fail
                  refine wp_region_held (S := fun W => Below w12.heap.size w12 W) (by kernel_rfl) ?_
                  change wpAnyH _ _ _ _ _ _ _ _ (World.drew _)
                  have hS0 : Below w12.heap.size w12 (World.drew u7) := HS7c.out.drew
                  refine tkH 0 rfl (by intro W hW; go_simp; first | done | rfl) hS0 ?_
                  try go_simp
                  refine tkH 2 rfl (by intro W hW; go_simp; first | done | rfl) hS0 ?_
                  try go_simp
                  refine tkH 3 rfl (by intro W hW; have hm := HCMN.out.on hW; have h2 := hm.at_ 2 _ rfl; go_simp; first | done | rfl) hS0 ?_
                  try go_simp
                  refine tkH 4 rfl (by intro W hW; go_simp; first | done | rfl) hS0 ?_
                  try go_simp
                  refine tkH 5 rfl (by intro W hW; go_simp; first | done | rfl) hS0 ?_
                  try go_simp
                  refine tkH 6 rfl (by intro W hW; go_simp; first | done | rfl) hS0 ?_
                  try go_simp
                  refine tkH 7 rfl (by intro W hW; have hm := HFBC.out.on hW; have h4 := hm.at_ 4 _ rfl; have h3 := hm.at_ 3 _ rfl; go_simp; first | done | rfl) hS0 ?_
                  try go_simp
                  refine tkH 8 rfl (by intro W hW; go_simp; first | done | rfl) hS0 ?_
                  try go_simp
                  refine tkH 9 rfl (by intro W hW; go_simp; first | done | rfl) hS0 ?_
                  try go_simp
                  refine wpAnyH_two (i := 1) (j := 10) (by kernel_rfl) rfl rfl (fun K hK => ?_) (fun K hK => ?_)
                  ·go_simp
                   refine (cRs.out _ hS0).mono ?_
                   rintro e u8 ⟨A', n', c', rfl, ho, hbq⟩
                   have hS8 : Below w12.heap.size w12 u8 := hS0.trans (hbq.mono hS0.size)
                   have hnn : 0 = n' := by
                    have h1 := ho.1
                    rw [flatMap_len DV.c DV.len, HLST.out] at h1
                    omega
                   subst hnn
                   have hgot := HGOT.out u8 A' c' _ ho
                   clear hbq ho
                   go_simp
                   refine hK _ _ ⟨hS8, ?_⟩; clear hK K
                   try go_simp
                   refine wpAnyH_one (i := 10) (by kernel_rfl) rfl (fun K hK => ?_)
                   go_simp
                   refine hK _ _ ⟨hS8, ?_⟩; clear hK K
                   try go_simp
                   refine wpAnyH_one (i := 11) (by kernel_rfl) rfl (fun K hK => ?_)
                   go_simp
                   refine (cVV.out _ A' c' (none) _ (0) hgot (by rw [hl0]; exact slv_zero _ _ _ (by unfold maxLen; omega)) (by omega)).mono ?_
                   rintro e u9 ⟨rfl, hbq⟩
                   have hS9 : Below w12.heap.size w12 u9 := hS8.trans (hbq.mono hS8.size)
                   clear hbq
                   go_simp
                   refine hK _ _ ⟨hS9, ?_⟩; clear hK K
                   try go_simp
                   refine tkH 12 rfl (by intro W hW; go_simp; first | done | rfl) hS9 ?_
                   try go_simp
                   refine wpAnyH_done (by kernel_rfl) ?_ _
                   have HS9 := Lib.hid hS9
                   try go_simp
                   apply_assumption
                   go_meet
                   exact ⟨rfl, HS9⟩
                  ·go_simp
                   refine hK _ _ ⟨hS0, ?_⟩; clear hK K
                   try go_simp
                   refine wpAnyH_one (i := 1) (by kernel_rfl) rfl (fun K hK => ?_)
                   go_simp
                   refine (cRs.out _ hS0).mono ?_
                   rintro e u8 ⟨A', n', c', rfl, ho, hbq⟩
                   have hS8 : Below w12.heap.size w12 u8 := hS0.trans (hbq.mono hS0.size)
                   have hnn : 0 = n' := by
                    have h1 := ho.1
                    rw [flatMap_len DV.c DV.len, HLST.out] at h1
                    omega
                   subst hnn
                   have hgot := HGOT.out u8 A' c' _ ho
                   clear hbq ho
                   go_simp
                   refine hK _ _ ⟨hS8, ?_⟩; clear hK K
                   try go_simp
                   refine wpAnyH_one (i := 11) (by kernel_rfl) rfl (fun K hK => ?_)
                   go_simp
                   refine (cVV.out _ A' c' (none) _ (0) hgot (by rw [hl0]; exact slv_zero _ _ _ (by unfold maxLen; omega)) (by omega)).mono ?_
                   rintro e u9 ⟨rfl, hbq⟩
                   have hS9 : Below w12.heap.size w12 u9 := hS8.trans (hbq.mono hS8.size)
                   clear hbq
                   go_simp
                   refine hK _ _ ⟨hS9, ?_⟩; clear hK K
                   try go_simp
                   refine tkH 12 rfl (by intro W hW; go_simp; first | done | rfl) hS9 ?_
                   try go_simp
                   refine wpAnyH_done (by kernel_rfl) ?_ _
                   have HS9 := Lib.hid hS9
                   try go_simp
                   apply_assumption
                   go_meet
                   exact ⟨rfl, HS9⟩
                 ·subst hB
                  by_cases hcn : n1 = k1
                  ·have hn20 : n2 = 0 := by omega
                   have hl0 : (sl.drop n1).take n2 = [] := by rw [hn20, List.take_zero]
                   subst hcn
                   subst hn20
                   have wr2 : IntKind.i64.wrap (n1 : Int) = (n1 : Int) := by rw [IntKind.wrap_i64]; omega
                   have i1 : (n1 : Int) ≤ (n1 : Int) := by omega
                   go_wp2_with fail
                   refine wp_region_held (S := fun W => Below w12.heap.size w12 W) (by kernel_rfl) ?_
                   change wpAnyH _ _ _ _ _ _ _ _ (World.drew _)
                   have hS0 : Below w12.heap.size w12 (World.drew u7) := HS7c.out.drew
                   refine tkH 0 rfl (by intro W hW; go_simp; first | done | rfl) hS0 ?_
                   try go_simp
                   refine tkH 2 rfl (by intro W hW; go_simp; first | done | rfl) hS0 ?_
                   try go_simp
                   refine tkH 3 rfl (by intro W hW; have hm := HCMN.out.on hW; have h2 := hm.at_ 2 _ rfl; go_simp; first | done | rfl) hS0 ?_
                   try go_simp
                   refine tkH 4 rfl (by intro W hW; go_simp; first | done | rfl) hS0 ?_
                   try go_simp
                   refine tkH 5 rfl (by intro W hW; go_simp; first | done | rfl) hS0 ?_
                   try go_simp
                   refine tkH 6 rfl (by intro W hW; go_simp; first | done | rfl) hS0 ?_
                   try go_simp
                   refine tkH 7 rfl (by intro W hW; have hm := HFBC.out.on hW; have h4 := hm.at_ 4 _ rfl; have h3 := hm.at_ 3 _ rfl; go_simp; first | done | rfl) hS0 ?_
                   try go_simp
                   refine tkH 8 rfl (by intro W hW; go_simp; first | done | rfl) hS0 ?_
                   try go_simp
                   refine tkH 9 rfl (by intro W hW; go_simp; first | done | rfl) hS0 ?_
                   try go_simp
                   refine wpAnyH_two (i := 1) (j := 10) (by kernel_rfl) rfl rfl (fun K hK => ?_) (fun K hK => ?_)
                   ·go_simp
                    refine (cRs.out _ hS0).mono ?_
                    rintro e u8 ⟨A', n', c', rfl, ho, hbq⟩
                    have hS8 : Below w12.heap.size w12 u8 := hS0.trans (hbq.mono hS0.size)
                    have hnn : 0 = n' := by
                     have h1 := ho.1
                     rw [flatMap_len DV.c DV.len, HLST.out] at h1
                     omega
                    subst hnn
                    have hgot := HGOT.out u8 A' c' _ ho
                    clear hbq ho
                    go_simp
                    refine hK _ _ ⟨hS8, ?_⟩; clear hK K
                    try go_simp
                    refine wpAnyH_one (i := 10) (by kernel_rfl) rfl (fun K hK => ?_)
                    go_simp
                    refine hK _ _ ⟨hS8, ?_⟩; clear hK K
                    try go_simp
                    refine wpAnyH_one (i := 11) (by kernel_rfl) rfl (fun K hK => ?_)
                    go_simp
                    refine (cVV.out _ A' c' (some ⟨bb, bo, none⟩) _ (0) hgot (by rw [hl0]; exact slv_zero _ _ _ (by unfold maxLen; omega)) (by omega)).mono ?_
                    rintro e u9 ⟨rfl, hbq⟩
                    have hS9 : Below w12.heap.size w12 u9 := hS8.trans (hbq.mono hS8.size)
                    clear hbq
                    go_simp
                    refine hK _ _ ⟨hS9, ?_⟩; clear hK K
                    try go_simp
                    refine tkH 12 rfl (by intro W hW; go_simp; first | done | rfl) hS9 ?_
                    try go_simp
                    refine wpAnyH_done (by kernel_rfl) ?_ _
                    have HS9 := Lib.hid hS9
                    try go_simp
                    apply_assumption
                    go_meet
                    exact ⟨rfl, HS9⟩
                   ·go_simp
                    refine hK _ _ ⟨hS0, ?_⟩; clear hK K
                    try go_simp
                    refine wpAnyH_one (i := 1) (by kernel_rfl) rfl (fun K hK => ?_)
                    go_simp
                    refine (cRs.out _ hS0).mono ?_
                    rintro e u8 ⟨A', n', c', rfl, ho, hbq⟩
                    have hS8 : Below w12.heap.size w12 u8 := hS0.trans (hbq.mono hS0.size)
                    have hnn : 0 = n' := by
                     have h1 := ho.1
                     rw [flatMap_len DV.c DV.len, HLST.out] at h1
                     omega
                    subst hnn
                    have hgot := HGOT.out u8 A' c' _ ho
                    clear hbq ho
                    go_simp
                    refine hK _ _ ⟨hS8, ?_⟩; clear hK K
                    try go_simp
                    refine wpAnyH_one (i := 11) (by kernel_rfl) rfl (fun K hK => ?_)
                    go_simp
                    refine (cVV.out _ A' c' (some ⟨bb, bo, none⟩) _ (0) hgot (by rw [hl0]; exact slv_zero _ _ _ (by unfold maxLen; omega)) (by omega)).mono ?_
                    rintro e u9 ⟨rfl, hbq⟩
                    have hS9 : Below w12.heap.size w12 u9 := hS8.trans (hbq.mono hS8.size)
                    clear hbq
                    go_simp
                    refine hK _ _ ⟨hS9, ?_⟩; clear hK K
                    try go_simp
                    refine tkH 12 rfl (by intro W hW; go_simp; first | done | rfl) hS9 ?_
                    try go_simp
                    refine wpAnyH_done (by kernel_rfl) ?_ _
                    have HS9 := Lib.hid hS9
                    try go_simp
                    apply_assumption
                    go_meet
                    exact ⟨rfl, HS9⟩
                  ·have hcn2 : ¬ k1 = n1 := fun h => hcn h.symm
                   have lc : (n1 : Int) + (n2 : Int) ≤ (k1 : Int) := by omega
                   have HWANT : Hid (∀ W, Below w12.heap.size w12 W → SlV W W.heap.size (some ⟨bb, bo + n1 * 3, none⟩) n2 (k1 - n1) ((sl.drop n1).take n2)) := Lib.hid fun W hW => by
                    have h1 := (HONH.out W hW).mo.r1
                    have h2 := (h1.drop (show n1 ≤ m1 by omega)).take (show n2 ≤ m1 - n1 by omega)
                    rw [flat_drop DV.c 3 DV.len, flat_take DV.c 3 DV.len] at h2
                    exact h2.slv (by omega) (by omega) (by omega)
                   go_wp2_with fail
                   refine wp_region_held (S := fun W => Below w12.heap.size w12 W) (by kernel_rfl) ?_
                   change wpAnyH _ _ _ _ _ _ _ _ (World.drew _)
                   have hS0 : Below w12.heap.size w12 (World.drew u7) := HS7c.out.drew
                   refine tkH 0 rfl (by intro W hW; go_simp; first | done | rfl) hS0 ?_
                   try go_simp
                   refine tkH 2 rfl (by intro W hW; go_simp; first | done | rfl) hS0 ?_
                   try go_simp
                   refine tkH 3 rfl (by intro W hW; have hm := HCMN.out.on hW; have h2 := hm.at_ 2 _ rfl; go_simp; first | done | rfl) hS0 ?_
                   try go_simp
                   refine tkH 4 rfl (by intro W hW; go_simp; first | done | rfl) hS0 ?_
                   try go_simp
                   refine tkH 5 rfl (by intro W hW; go_simp; first | done | rfl) hS0 ?_
                   try go_simp
                   refine tkH 6 rfl (by intro W hW; go_simp; first | done | rfl) hS0 ?_
                   try go_simp
                   refine tkH 7 rfl (by intro W hW; have hm := HFBC.out.on hW; have h4 := hm.at_ 4 _ rfl; have h3 := hm.at_ 3 _ rfl; go_simp; first | done | rfl) hS0 ?_
                   try go_simp
                   refine tkH 8 rfl (by intro W hW; go_simp; first | done | rfl) hS0 ?_
                   try go_simp
                   refine tkH 9 rfl (by intro W hW; go_simp; first | done | rfl) hS0 ?_
                   try go_simp
                   refine wpAnyH_two (i := 1) (j := 10) (by kernel_rfl) rfl rfl (fun K hK => ?_) (fun K hK => ?_)
                   ·go_simp
                    refine (cRs.out _ hS0).mono ?_
                    rintro e u8 ⟨A', n', c', rfl, ho, hbq⟩
                    have hS8 : Below w12.heap.size w12 u8 := hS0.trans (hbq.mono hS0.size)
                    have hnn : n2 = n' := by
                     have h1 := ho.1
                     rw [flatMap_len DV.c DV.len, HLST.out] at h1
                     omega
                    subst hnn
                    have hgot := HGOT.out u8 A' c' _ ho
                    clear hbq ho
                    go_simp
                    refine hK _ _ ⟨hS8, ?_⟩; clear hK K
                    try go_simp
                    refine wpAnyH_one (i := 10) (by kernel_rfl) rfl (fun K hK => ?_)
                    go_simp
                    refine hK _ _ ⟨hS8, ?_⟩; clear hK K
                    try go_simp
                    refine wpAnyH_one (i := 11) (by kernel_rfl) rfl (fun K hK => ?_)
                    go_simp
                    refine (cVV.out _ A' c' (some ⟨bb, bo + n1 * 3, none⟩) _ (k1 - n1) hgot (HWANT.out u8 hS8) (by omega)).mono ?_
                    rintro e u9 ⟨rfl, hbq⟩
                    have hS9 : Below w12.heap.size w12 u9 := hS8.trans (hbq.mono hS8.size)
                    clear hbq
                    go_simp
                    refine hK _ _ ⟨hS9, ?_⟩; clear hK K
                    try go_simp
                    refine tkH 12 rfl (by intro W hW; go_simp; first | done | rfl) hS9 ?_
                    try go_simp
                    refine wpAnyH_done (by kernel_rfl) ?_ _
                    have HS9 := Lib.hid hS9
                    try go_simp
                    apply_assumption
                    go_meet
                    exact ⟨rfl, HS9⟩
                   ·go_simp
                    refine hK _ _ ⟨hS0, ?_⟩; clear hK K
                    try go_simp
                    refine wpAnyH_one (i := 1) (by kernel_rfl) rfl (fun K hK => ?_)
                    go_simp
                    refine (cRs.out _ hS0).mono ?_
                    rintro e u8 ⟨A', n', c', rfl, ho, hbq⟩
                    have hS8 : Below w12.heap.size w12 u8 := hS0.trans (hbq.mono hS0.size)
                    have hnn : n2 = n' := by
                     have h1 := ho.1
                     rw [flatMap_len DV.c DV.len, HLST.out] at h1
                     omega
                    subst hnn
                    have hgot := HGOT.out u8 A' c' _ ho
                    clear hbq ho
                    go_simp
                    refine hK _ _ ⟨hS8, ?_⟩; clear hK K
                    try go_simp
                    refine wpAnyH_one (i := 11) (by kernel_rfl) rfl (fun K hK => ?_)
                    go_simp
                    refine (cVV.out _ A' c' (some ⟨bb, bo + n1 * 3, none⟩) _ (k1 - n1) hgot (HWANT.out u8 hS8) (by omega)).mono ?_
                    rintro e u9 ⟨rfl, hbq⟩
                    have hS9 : Below w12.heap.size w12 u9 := hS8.trans (hbq.mono hS8.size)
                    clear hbq
                    go_simp
                    refine hK _ _ ⟨hS9, ?_⟩; clear hK K
                    try go_simp
                    refine tkH 12 rfl (by intro W hW; go_simp; first | done | rfl) hS9 ?_
                    try go_simp
                    refine wpAnyH_done (by kernel_rfl) ?_ _
                    have HS9 := Lib.hid hS9
                    try go_simp
                    apply_assumption
                    go_meet
                    exact ⟨rfl, HS9⟩
                case rest =>
                 obtain ⟨rfl, HS8⟩ := hcut
                 clear e3
                 have hm1b : m1 ≤ 1000 := by
                  have h0 := HFMN.out.hM
                  have h1 := HFMN.out.mo.r1.len
                  have h2 := HFMN.out.fs.r13.len
                  have h3 := HSM.out
                  omega
                 go_wp2_with fail
                 go_loopw [17] (fun kv wx => ∃ (k : Nat), kv = .int .i64 (k : Int) ∧ k ≤ m1 ∧ Hid (Below w12.heap.size w12 wx)) (fun kv _ => m1 - (intOf kv).toNat)
                 case atStart => exact ⟨0, rfl, Nat.zero_le _, HS8⟩
                 case round => as_aux_lemma =>
                  obtain ⟨k, rfl, hk, HSX⟩ := hrel
                  have hk0 : (0 : Int) ≤ (k : Int) := by omega
                  have e2 := (HCMN.out.on HSX.out).at_ 2 _ rfl
                  by_cases hkl : k < m1
                  ·have q1 : decide ((k : Int) < (m1 : Int)) = true := by rw [decide_eq_true_eq]; omega
                   have q1b : (k : Int) < (m1 : Int) := by omega
                   obtain ⟨a, ha⟩ : ∃ a, sl[k]? = some a := ⟨sl[k]'(by rw [HFMN.out.mo.r1.len]; exact hkl), List.getElem?_eq_getElem _⟩
                   have hsv : slotM sl (k : Int) = a := by
                    have := (List.getElem?_eq_some_iff.1 ha).1
                    unfold slotM
                    rw [if_pos (by omega), List.getD_eq_getElem?_getD]
                    simp [ha]
                   obtain ⟨bb, bo, hB1, hbb, _, s0, s1, s2⟩ := Rdv.at3 (HONH.out _ HSX.out).mo.r1 ha
                   have HBB := Lib.hid hB1
                   obtain ⟨av, av1, av2, av3⟩ := a
                   have cSl : Hid (∀ W, Below w12.heap.size w12 W → Calls Tryz.prog 26 #[.pointer (some ⟨g, 0, none⟩), .int .i64 (k : Int)] W fun e w' => e = .returned (vV av av1 av2 av3) ∧ Below W.heap.size W w') := Lib.hid fun W hW => by
                    have h1 := fslot_any g (g + 1) A13 m13 c13 sl (k : Int) W (HONH.out W hW).fs.e13 (HONH.out W hW).fs.r13
                    rw [hsv] at h1
                    exact h1
                   have cSa : Hid (∀ W : World, Calls Tryz.prog 25 #[vV av av1 av2 av3, vV av av1 av2 av3] W fun e w' => e = .returned (.bool true) ∧ Below W.heap.size W w') := Lib.hid fun W => by
                    have := refSameV_any ⟨av, av1, av2, av3⟩ ⟨av, av1, av2, av3⟩ W
                    rw [sameV_refl] at this
                    exact this
                   obtain ⟨u10, hu10⟩ : ∃ x, x = wr := ⟨_, rfl⟩
                   have HQS : Hid (∀ W, Below wr.heap.size wr W → W.cell? ⟨mb, 2, none⟩ = some (.slice B1 m1 k1) ∧ W.cell? ⟨bb, bo + k * 3, none⟩ = some (.int .i64 av) ∧ W.cell? ⟨bb, bo + k * 3 + 1, none⟩ = some (.int .i64 av1) ∧ W.cell? ⟨bb, bo + k * 3 + 2, none⟩ = some (.complex .f64 av2 av3)) := Lib.hid fun W hW => ⟨(hW.cell (World.block_lt_of_cell? _ _ e2)).trans e2, (hW.cell (p := ⟨bb, bo + k * 3, none⟩) hbb).trans s0, (hW.cell (p := ⟨bb, bo + k * 3 + 1, none⟩) hbb).trans s1, (hW.cell (p := ⟨bb, bo + k * 3 + 2, none⟩) hbb).trans s2⟩
                   clear ha hsv hbb s0 s1 s2
                   subst hB1
                   clear u10 hu10
                   go_upto_region 38 with fail
                   go_cut [241] (fun v wx => v = .bool false ∧ Hid (Below w12.heap.size w12 wx))
                   case first => as_aux_lemma =>
                    clear e2
                    go_wp2_with fail
                    refine wp_region_held (S := fun W => Below wr.heap.size wr W) (by kernel_rfl) ?_
                    change wpAnyH _ _ _ _ _ _ _ _ (World.drew _)
                    have hS0 : Below wr.heap.size wr (World.drew wr) := (Below.refl _ _).drew
                    refine tkH 0 rfl (by intro W hW; go_simp; first | done | rfl) hS0 ?_
                    try go_simp
                    refine tkH 1 rfl (by intro W hW; go_simp; first | done | rfl) hS0 ?_
                    try go_simp
                    refine tkH 3 rfl (by intro W hW; go_simp; first | done | rfl) hS0 ?_
                    try go_simp
                    refine tkH 4 rfl (by intro W hW; obtain ⟨h0, h1, h2, h3⟩ := HQS.out W hW; go_simp; first | done | rfl) hS0 ?_
                    try go_simp
                    refine tkH 5 rfl (by intro W hW; go_simp; first | done | rfl) hS0 ?_
                    try go_simp
                    refine wpAnyH_two (i := 2) (j := 6) (by kernel_rfl) rfl rfl (fun K hK => ?_) (fun K hK => ?_)
                    ·go_simp
                     refine (cSl.out _ (HSX.out.trans (hS0.mono HSX.out.size))).mono ?_
                     rintro e u1 ⟨rfl, hbq⟩
                     have hS1 : Below wr.heap.size wr u1 := hS0.trans (hbq.mono hS0.size)
                     clear hbq
                     go_simp
                     refine hK _ _ ⟨hS1, ?_⟩; clear hK K
                     try go_simp
                     refine wpAnyH_one (i := 6) (by kernel_rfl) rfl (fun K hK => ?_)
                     go_simp
                     refine hK _ _ ⟨hS1, ?_⟩; clear hK K
                     try go_simp
                     refine tkH 7 rfl (by intro W hW; obtain ⟨h0, h1, h2, h3⟩ := HQS.out W hW; go_simp; first | done | rfl) hS1 ?_
                     try go_simp
                     refine wpAnyH_one (i := 8) (by kernel_rfl) rfl (fun K hK => ?_)
                     go_simp
                     refine (cSa.out _).mono ?_
                     rintro e u2 ⟨rfl, hbq⟩
                     have hS2 : Below wr.heap.size wr u2 := hS1.trans (hbq.mono hS1.size)
                     clear hbq
                     go_simp
                     refine hK _ _ ⟨hS2, ?_⟩; clear hK K
                     try go_simp
                     refine tkH 9 rfl (by intro W hW; go_simp; first | done | rfl) hS2 ?_
                     try go_simp
                     refine wpAnyH_done (by kernel_rfl) ?_ _
                     have HS9 : Hid (Below w12.heap.size w12 u2) := Lib.hid (HSX.out.trans (hS2.mono HSX.out.size))
                     try go_simp
                     apply_assumption
                     go_meet
                     exact ⟨rfl, HS9⟩
                    ·go_simp
                     refine hK _ _ ⟨hS0, ?_⟩; clear hK K
                     try go_simp
                     refine tkH 7 rfl (by intro W hW; obtain ⟨h0, h1, h2, h3⟩ := HQS.out W hW; go_simp; first | done | rfl) hS0 ?_
                     try go_simp
                     refine wpAnyH_one (i := 2) (by kernel_rfl) rfl (fun K hK => ?_)
                     go_simp
                     refine (cSl.out _ (HSX.out.trans (hS0.mono HSX.out.size))).mono ?_
                     rintro e u1 ⟨rfl, hbq⟩
                     have hS1 : Below wr.heap.size wr u1 := hS0.trans (hbq.mono hS0.size)
                     clear hbq
                     go_simp
                     refine hK _ _ ⟨hS1, ?_⟩; clear hK K
                     try go_simp
                     refine wpAnyH_one (i := 8) (by kernel_rfl) rfl (fun K hK => ?_)
                     go_simp
                     refine (cSa.out _).mono ?_
                     rintro e u2 ⟨rfl, hbq⟩
                     have hS2 : Below wr.heap.size wr u2 := hS1.trans (hbq.mono hS1.size)
                     clear hbq
                     go_simp
                     refine hK _ _ ⟨hS2, ?_⟩; clear hK K
                     try go_simp
                     refine tkH 9 rfl (by intro W hW; go_simp; first | done | rfl) hS2 ?_
                     try go_simp
                     refine wpAnyH_done (by kernel_rfl) ?_ _
                     have HS9 : Hid (Below w12.heap.size w12 u2) := Lib.hid (HSX.out.trans (hS2.mono HSX.out.size))
                     try go_simp
                     apply_assumption
                     go_meet
                     exact ⟨rfl, HS9⟩
                   case rest =>
                    obtain ⟨rfl, HS9⟩ := hcut
                    clear e2
                    go_wp2_with fail
                    go_roundw
                    case rel => exact ⟨k + 1, by go_num, by omega, HS9⟩
                    case measure => first | (simp [intOf]; done) | (simp [intOf]; omega)
                  ·have q1 : decide ((k : Int) < (m1 : Int)) = false := by rw [decide_eq_false_iff_not]; omega
                   have q1b : decide (k < m1) = false := by rw [decide_eq_false_iff_not]; omega
                   have HNEXT : Hid (LoopW w10 g mb (f : Int) s b A0 n0 c0 A1 n1 c1 A2 n2 c2 A3 n3 c3 A4 n4 c4 A5 n5 c5 A6 n6 c6 A7 n7 c7 A8 n8 c8 (n1 + n2 + n3) (i + 1) wr) := Lib.hid ⟨pc, A13, m13, c13, A14, m2, c14, A15, m3, c15, B1, m1, k1, B2, m2, k2, B3, m3, k3, sl, st, cs, ms, HONH.out _ HSX.out, HCMN.out.on HSX.out, HBGN.out.trans (HSX.out.mono (by have := HFMN.out.fs.lt; omega))⟩
                   go_wp2_with fail
                   go_roundw
                   case rel => exact ⟨i + 1, by go_num, by omega, by omega, HNEXT⟩
                   case measure => first | (simp [intOf]; done) | (simp [intOf]; omega)
             ·have hnot : i = ln ∨ i = 40 := by omega
              have hgw : g ≤ wr.heap.size := by have := HFMX.out.fs.lt; omega
              have hcond : (decide ((i : Int) < (ln : Int)) = true ∧ decide ((i : Int) < 40) = false) ∨ decide ((i : Int) < (ln : Int)) = false := by
               rcases hnot with h | h
               ·exact .inr (by rw [decide_eq_false_iff_not]; omega)
               ·by_cases h2 : i < ln
                ·exact .inl ⟨by rw [decide_eq_true_eq]; omega, by rw [decide_eq_false_iff_not]; omega⟩
                ·exact .inr (by rw [decide_eq_false_iff_not]; omega)
              have HGW := Lib.hid hgw
              rcases hcond with ⟨r1, r2⟩ | r1
              ·have r1b : (i : Int) < (ln : Int) := by simpa using r1
               have r1c : decide (i < ln) = true := by rw [decide_eq_true_eq]; omega
               have r2b : decide (i < 40) = false := by simp at r2 ⊢; omega
               clear hgw
               go_wp2_with fail
               refine (cl.out _).mono ?_
               rintro e w9' ⟨rfl, hb9⟩
               have HB9 : Hid (Below w.heap.size w w9') := Lib.hid (HFINW.out _ (HBGX.out.trans (hb9.mono HGW.out)))
               clear hb9
               go_wp2_with fail
               go_ret
               exact ⟨rfl, HB9.out⟩
              ·have r1c : decide (i < ln) = false := by simp at r1 ⊢; omega
               clear hgw
               go_wp2_with fail
               refine (cl.out _).mono ?_
               rintro e w9' ⟨rfl, hb9⟩
               have HB9 : Hid (Below w.heap.size w w9') := Lib.hid (HFINW.out _ (HBGX.out.trans (hb9.mono HGW.out)))
               clear hb9
               go_wp2_with fail
               go_ret
               exact ⟨rfl, HB9.out⟩
     ·have t2 : decide ((na : Int) > 20) = true := by rw [decide_eq_true_eq]; omega
      have t2b : decide (20 < na) = true := by rw [decide_eq_true_eq]; omega
      have t2c : decide ((20 : Int) < (na : Int)) = true := by rw [decide_eq_true_eq]; omega
      go_wp2_with fail
      refine (cl.out _).mono ?_
      rintro e w9 ⟨rfl, hb9⟩
      have HB9 : Hid (Below w.heap.size w w9) := Lib.hid (HBW.out _ (HB3.out.trans (hb9.mono HB3.out.size)))
      clear hb9
      go_wp2_with fail
      go_ret
      exact ⟨rfl, HB9.out⟩
    ·have t1 : decide ((f : Int) ≥ (fn : Int)) = true := by rw [decide_eq_true_eq]; omega
     have t1b : decide (fn ≤ f) = true := by rw [decide_eq_true_eq]; omega
     go_wp2_with fail
     refine (cl.out _).mono ?_
     rintro e w9 ⟨rfl, hb9⟩
     have HB9 : Hid (Below w.heap.size w w9) := Lib.hid (HBW.out _ (HB3.out.trans (hb9.mono HB3.out.size)))
     clear hb9
     go_wp2_with fail
     go_ret
     exact ⟨rfl, HB9.out⟩
end Go.Proofs.YtobmjnmcjddhcaaGreat
