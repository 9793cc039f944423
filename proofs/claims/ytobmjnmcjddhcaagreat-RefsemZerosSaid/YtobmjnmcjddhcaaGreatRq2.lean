import Derived.Test.YtobmjnmcjddhcaaGreatRg2
import Derived.Test.YtobmjnmcjddhcaaGreatRg44
import Derived.Test.YtobmjnmcjddhcaaGreatRg42
import Derived.Test.YtobmjnmcjddhcaaGreatRg43
import Derived.BigRegion
import Derived.Deep.RegionHeld
set_option linter.unusedSimpArgs false
set_option linter.unusedVariables false
set_option maxRecDepth 100000
set_option maxHeartbeats 16000000
namespace Go.Proofs.YtobmjnmcjddhcaaGreat
open Go.RowKit
theorem refsemZeros_walk (cs0 : Array Value) (x0 : DProgram) (cs1 : Array Value) (x1 : DInput) (cs2 : Array Value) (x2 : DInt3) (w : World) (h0 : RProgram w w.heap.size cs0.toList x0) (h1 : RInput w w.heap.size cs1.toList x1) (h2 : RInt3 w w.heap.size cs2.toList x2) :
  Calls Tryz.prog 7 #[.agg cs0, .agg cs1, .agg cs2] w fun e w' => e = .returned (.bool true) ∧ Below w.heap.size w w' := by
 obtain ⟨FA, fn, fc, e0, hfs⟩ := h0
 obtain rfl : cs0 = #[.slice FA fn fc] := by rw [← Array.toArray_toList (xs := cs0), e0]
 obtain ⟨fs⟩ := x0
 dsimp only at hfs
 obtain ⟨AA, an, ac, DA, dn, dc, e1, har, hdr⟩ := h1
 obtain rfl : cs1 = #[.slice AA an ac, .slice DA dn dc] := by rw [← Array.toArray_toList (xs := cs1), e1]
 obtain ⟨ags, ds⟩ := x1
 dsimp only at har hdr
 obtain ⟨e2, wf0, wf1, wf2⟩ := h2
 obtain rfl : cs2 = #[.int .i64 x2.w0, .int .i64 x2.w1, .int .i64 x2.w2] := by rw [← Array.toArray_toList (xs := cs2), e2]
 obtain ⟨f0, f1, f2⟩ := x2
 dsimp only at e2 wf0 wf1 wf2 ⊢
 have cl := Hd refsem_lives
 obtain ⟨zb, hzb⟩ : ∃ z, w.heap.size = z := ⟨_, rfl⟩
 obtain ⟨w1, hw1⟩ : ∃ X, ((w.alloc (.cells #[.slice FA fn fc] 24)).alloc (.cells #[.slice AA an ac, .slice DA dn dc] 66)).alloc (.cells #[.int .i64 f0, .int .i64 f1, .int .i64 f2] 80) = X := ⟨_, rfl⟩
 have hb1 : Below w.heap.size w w1 := by
  rw [← hw1]
  exact ((bl_one _).trans ((bl_one _).mono (bl_one _).size)).trans ((bl_one _).mono (by simp; omega))
 have hc1 : Cells w1 zb [.slice FA fn fc] := by rw [← hw1, ← hzb]; exact ((Cells.new w [.slice FA fn fc] _).on (bl_one _)).on (bl_one _)
 have hc2 : Cells w1 (zb + 1) [.slice AA an ac, .slice DA dn dc] := by
  rw [← hw1]
  exact (cells_new_at (by simp [hzb]) [.slice AA an ac, .slice DA dn dc] _).on (bl_one _)
 have hc3 : Cells w1 (zb + 1 + 1) [.int .i64 f0, .int .i64 f1, .int .i64 f2] := by
  rw [← hw1]
  exact cells_new_at (by simp [hzb]) [.int .i64 f0, .int .i64 f1, .int .i64 f2] _
 have EP : Hid (∀ W, Below w1.heap.size w1 W → W.cell? ⟨zb, 0, none⟩ = some (.slice FA fn fc) ∧ W.cell? ⟨zb + 1, 0, none⟩ = some (.slice AA an ac) ∧ W.cell? ⟨zb + 1, 1, none⟩ = some (.slice DA dn dc) ∧ W.cell? ⟨zb + 1 + 1, 0, none⟩ = some (.int .i64 f0) ∧ W.cell? ⟨zb + 1 + 1, 1, none⟩ = some (.int .i64 f1) ∧ W.cell? ⟨zb + 1 + 1, 2, none⟩ = some (.int .i64 f2)) := Hd fun W hW => ⟨(hc1.on hW).at_ 0 _ rfl, (hc2.on hW).at_ 0 _ rfl, (hc2.on hW).at_ 1 _ rfl, (hc3.on hW).at_ 0 _ rfl, (hc3.on hW).at_ 1 _ rfl, (hc3.on hW).at_ 2 _ rfl⟩
 have HB1 := Hd hb1
 have HBW : Hid (∀ W, Below w1.heap.size w1 W → Below w.heap.size w W) := Hd fun W hW => hb1.trans (hW.mono hb1.size)
 have HFSL : Hid (∀ W, Below w1.heap.size w1 W → SlR 11 240 RFunc W w.heap.size FA fn fc fs) := Hd fun W hW => SlR.keep stable_Func hfs fun p hp => (hb1.trans (hW.mono hb1.size)).cell hp
 have HAR : Hid (∀ W, Below w1.heap.size w1 W → SlI W W.heap.size AA an ac ags ∧ SlI W W.heap.size DA dn dc ds) := Hd fun W hW => ⟨(sli_of har).on (hb1.trans (hW.mono hb1.size)), (sli_of hdr).on (hb1.trans (hW.mono hb1.size))⟩
 have HLN : Hid (fs.length = fn) := Hd hfs.1
 have HE1 := Hd hw1
 obtain ⟨p0, p1, p2, p3, p4, p5⟩ := EP.out w1 (Below.refl _ _)
 have cSm := Hd (plain29_any w.heap.size FA fn fc fs AA an ac DA dn dc w1 (HFSL.out w1 (Below.refl _ _)) hb1.size (by have := har.2.2.2.1; unfold reachBytes at this; omega) (by have := hdr.2.2.2.1; unfold reachBytes at this; omega))
 clear hb1 hc1 hc2 hc3 hfs har hdr e0 e1 e2 hw1 wf0 wf1 wf2
 go_in
 go_wp2_with fail
 rw [HE1.out]
 refine cSm.out.mono ?_
 rintro e w4 ⟨r, rfl, hr, hb2⟩
 have HR := Hd hr
 have HB4 : Hid (Below w1.heap.size w1 w4) := Hd hb2
 clear hr hb2 cSm p0 p1 p2 p3 p4 p5 HE1
 obtain ⟨p0, p1, p2, p3, p4, p5⟩ := EP.out w4 HB4.out
 cases r with
 | false =>
  go_wp2_with fail
  refine (cl.out _).mono ?_
  rintro e w9 ⟨rfl, hb9⟩
  have HB9 : Hid (Below w.heap.size w w9) := Hd (HBW.out _ (HB4.out.trans (hb9.mono HB4.out.size)))
  clear hb9
  go_wp2_with fail
  go_ret
  exact ⟨rfl, HB9.out⟩
 | true =>
  by_cases hm : f0 ≤ 1500
  ·have t1 : decide (f0 > 1500) = false := dcF (by omega)
   have t1b : decide (1500 < f0) = false := dcF (by omega)
   by_cases hm1 : f1 ≤ 20
   ·have t2 : decide (f1 > 20) = false := dcF (by omega)
    have t2b : decide (20 < f1) = false := dcF (by omega)
    by_cases hm2 : f2 ≤ 20
    ·have t3 : decide (f2 > 20) = false := dcF (by omega)
     have t3b : decide (20 < f2) = false := dcF (by omega)
     have HHF : Hid (FineB fs ∧ an ≤ 20 ∧ dn ≤ 100) := Hd ⟨(HR.out rfl).1, (HR.out rfl).2.2⟩
     have HINP : Hid (∀ W, Below w1.heap.size w1 W → InpW W FA fn fc AA an ac DA dn dc fs ags ds) := Hd fun W hW => by
      obtain ⟨h1, ⟨h2, h3⟩, h4, h5⟩ := HR.out rfl
      have := HLN.out
      exact ⟨h1, ⟨⟨⟨w.heap.size, (HBW.out W hW).size, HFSL.out W hW⟩, h3, by omega⟩, h1.can⟩, (HAR.out W hW).1, by omega, (HAR.out W hW).2, by omega⟩
     have EP4 : Hid (∀ W, Below w4.heap.size w4 W → W.cell? ⟨zb, 0, none⟩ = some (.slice FA fn fc) ∧ W.cell? ⟨zb + 1, 0, none⟩ = some (.slice AA an ac) ∧ W.cell? ⟨zb + 1, 1, none⟩ = some (.slice DA dn dc) ∧ W.cell? ⟨zb + 1 + 1, 1, none⟩ = some (.int .i64 f1) ∧ W.cell? ⟨zb + 1 + 1, 2, none⟩ = some (.int .i64 f2)) := Hd fun W hW => by
      obtain ⟨a0, a1, a2, _, a4, a5⟩ := EP.out W (HB4.out.trans (hW.mono HB4.out.size))
      exact ⟨a0, a1, a2, a4, a5⟩
     have HSA : Hid (∀ W, Below w4.heap.size w4 W → SrcCells W AA an 1 (ags.map (Value.int .i64))) := Hd fun W hW => src_map (HAR.out W (HB4.out.trans (hW.mono HB4.out.size))).1
     have HSD : Hid (∀ W, Below w4.heap.size w4 W → SrcCells W DA dn 1 (ds.map (Value.int .i64))) := Hd fun W hW => src_map (HAR.out W (HB4.out.trans (hW.mono HB4.out.size))).2
     obtain ⟨i0, hi, hz0, hz1, hz2⟩ := info_parts info_intZ
     have han : an ≤ 20 := HHF.out.2.1
     have hdn : dn ≤ 100 := HHF.out.2.2
     clear HR
     go_wp2_with fail
     clear p0 p1 p2 p3 p4 p5 t1 t1b t2 t2b t3 t3b
     refine wp_region_held (S := fun W => Below w4.heap.size w4 W) (by kernel_rfl) ?_
     change wpAnyH _ _ _ _ _ _ _ _ (World.drew _)
     have hS0 : Below w4.heap.size w4 w4.drew := (Below.refl _ _).drew
     refine tkH 1 rfl (by intro W hW; obtain ⟨q0, q1, q2, q3, q4⟩ := EP4.out W hW; go_simp; first | done | exact rfl) hS0 ?_
     try go_simp
     refine tkH 2 rfl (by intro W hW; obtain ⟨q0, q1, q2, q3, q4⟩ := EP4.out W hW; go_simp; first | done | exact rfl) hS0 ?_
     try go_simp
     refine tkH 5 rfl (by intro W hW; obtain ⟨q0, q1, q2, q3, q4⟩ := EP4.out W hW; go_simp; first | done | exact rfl) hS0 ?_
     try go_simp
     refine tkH 6 rfl (by intro W hW; obtain ⟨q0, q1, q2, q3, q4⟩ := EP4.out W hW; go_simp; first | done | exact rfl) hS0 ?_
     try go_simp
     obtain ⟨wd, hwd⟩ : ∃ X, w4.drew = X := ⟨_, rfl⟩
     rw [hwd] at hS0
     rw [hwd]
     clear hwd
     have HQd : Hid (TwR w4 wd (.slice none 0 0) 0 [] (.slice none 0 0) 0 [] none []) := Hd (TwR.start hS0)
     clear hS0
     refine (fun (hT : ∀ (mb U1 U2 : Nat) (B1 : Option Addr) (d1 : Nat) (B2 : Option Addr) (d2 : Nat) (W : World), Hid (TwR w4 W (.slice B1 an d1) an (ags.map (Value.int .i64)) (.slice B2 dn d2) dn (ds.map (Value.int .i64)) (some mb) [.slice none 0 0, .slice none 0 0]) → (?T : Nat → Nat → Nat → Option Addr → Nat → Option Addr → Nat → World → Prop) mb U1 U2 B1 d1 B2 d2 W) => ?main) ?tail
     case main =>
      refine oN3 0 4 9 rfl rfl rfl (fun K' hK => ?_) (fun K' hK => ?_) fun K' hK => ?_
      ·obtain ⟨v1, g1, hw, hg, H1⟩ := TwR.buildx HQd
       go_simp
       refine hK _ _ ⟨H1.out.pre, ?_⟩; clear hK K' hw hg
       try go_simp
       refine oN3 3 4 9 rfl rfl rfl (fun K' hK => ?_) (fun K' hK => ?_) fun K' hK => ?_
       ·refine TwR.stepx rfl (.tmp 34) (.tmp 36) rfl H1 ?qq1 ac ?qq2 (HSA.out _ H1.out.pre) (by omega) ?_
        case qq1 => go_simp
        case qq2 => go_simp
        intro B2 d2 v2 H2
        refine hK _ _ ⟨H2.out.pre, ?_⟩; clear hK K'
        try go_simp
        refine oN2 4 9 rfl rfl (fun K' hK => ?_) fun K' hK => ?_
        ·obtain ⟨v3, g3, hw, hg, H3⟩ := TwR.buildy H2
         go_simp
         refine hK _ _ ⟨H3.out.pre, ?_⟩; clear hK K' hw hg
         try go_simp
         refine oN2 7 9 rfl rfl (fun K' hK => ?_) fun K' hK => ?_
         ·refine TwR.stepy rfl (.tmp 38) (.tmp 40) rfl H3 ?qq1 dc ?qq2 (HSD.out _ H3.out.pre) (by omega) ?_
          case qq1 => go_simp
          case qq2 => go_simp
          intro B4 d4 v4 H4
          refine hK _ _ ⟨H4.out.pre, ?_⟩; clear hK K'
          try go_simp
          refine tkH 8 rfl (by intro W hW; go_simp; first | done | exact rfl) H4.out.pre ?_
          try go_simp
          refine oN1 9 rfl fun K' hK => ?_
          obtain ⟨v5, g5, hw, hg, H5⟩ := TwR.boxx H4
          go_simp
          refine hK _ _ ⟨H5.out.pre, ?_⟩; clear hK K' hw hg
          try go_simp
          exact hT g5 g1 g3 B2 d2 B4 d4 v5 (Hd H5.out)
         ·obtain ⟨v6, g6, hw, hg, H6⟩ := TwR.boxx H3
          go_simp
          refine hK _ _ ⟨H6.out.pre, ?_⟩; clear hK K' hw hg
          try go_simp
          refine oN1 7 rfl fun K' hK => ?_
          refine TwR.stepy rfl (.tmp 38) (.tmp 40) rfl H6 ?qq1 dc ?qq2 (HSD.out _ H6.out.pre) (by omega) ?_
          case qq1 => go_simp
          case qq2 => go_simp
          intro B7 d7 v7 H7
          refine hK _ _ ⟨H7.out.pre, ?_⟩; clear hK K'
          try go_simp
          refine tkH 8 rfl (by intro W hW; go_simp; first | done | exact rfl) H7.out.pre ?_
          try go_simp
          exact hT g6 g1 g3 B2 d2 B7 d7 v7 (Hd H7.out)
        ·obtain ⟨v8, g8, hw, hg, H8⟩ := TwR.boxx H2
         go_simp
         refine hK _ _ ⟨H8.out.pre, ?_⟩; clear hK K' hw hg
         try go_simp
         refine oN1 4 rfl fun K' hK => ?_
         obtain ⟨v9, g9, hw, hg, H9⟩ := TwR.buildy H8
         go_simp
         refine hK _ _ ⟨H9.out.pre, ?_⟩; clear hK K' hw hg
         try go_simp
         refine oN1 7 rfl fun K' hK => ?_
         refine TwR.stepy rfl (.tmp 38) (.tmp 40) rfl H9 ?qq1 dc ?qq2 (HSD.out _ H9.out.pre) (by omega) ?_
         case qq1 => go_simp
         case qq2 => go_simp
         intro B10 d10 v10 H10
         refine hK _ _ ⟨H10.out.pre, ?_⟩; clear hK K'
         try go_simp
         refine tkH 8 rfl (by intro W hW; go_simp; first | done | exact rfl) H10.out.pre ?_
         try go_simp
         exact hT g8 g1 g9 B2 d2 B10 d10 v10 (Hd H10.out)
       ·obtain ⟨v11, g11, hw, hg, H11⟩ := TwR.buildy H1
        go_simp
        refine hK _ _ ⟨H11.out.pre, ?_⟩; clear hK K' hw hg
        try go_simp
        refine oN2 3 9 rfl rfl (fun K' hK => ?_) fun K' hK => ?_
        ·refine TwR.stepx rfl (.tmp 34) (.tmp 36) rfl H11 ?qq1 ac ?qq2 (HSA.out _ H11.out.pre) (by omega) ?_
         case qq1 => go_simp
         case qq2 => go_simp
         intro B12 d12 v12 H12
         refine hK _ _ ⟨H12.out.pre, ?_⟩; clear hK K'
         try go_simp
         refine oN2 7 9 rfl rfl (fun K' hK => ?_) fun K' hK => ?_
         ·refine TwR.stepy rfl (.tmp 38) (.tmp 40) rfl H12 ?qq1 dc ?qq2 (HSD.out _ H12.out.pre) (by omega) ?_
          case qq1 => go_simp
          case qq2 => go_simp
          intro B13 d13 v13 H13
          refine hK _ _ ⟨H13.out.pre, ?_⟩; clear hK K'
          try go_simp
          refine tkH 8 rfl (by intro W hW; go_simp; first | done | exact rfl) H13.out.pre ?_
          try go_simp
          refine oN1 9 rfl fun K' hK => ?_
          obtain ⟨v14, g14, hw, hg, H14⟩ := TwR.boxx H13
          go_simp
          refine hK _ _ ⟨H14.out.pre, ?_⟩; clear hK K' hw hg
          try go_simp
          exact hT g14 g1 g11 B12 d12 B13 d13 v14 (Hd H14.out)
         ·obtain ⟨v15, g15, hw, hg, H15⟩ := TwR.boxx H12
          go_simp
          refine hK _ _ ⟨H15.out.pre, ?_⟩; clear hK K' hw hg
          try go_simp
          refine oN1 7 rfl fun K' hK => ?_
          refine TwR.stepy rfl (.tmp 38) (.tmp 40) rfl H15 ?qq1 dc ?qq2 (HSD.out _ H15.out.pre) (by omega) ?_
          case qq1 => go_simp
          case qq2 => go_simp
          intro B16 d16 v16 H16
          refine hK _ _ ⟨H16.out.pre, ?_⟩; clear hK K'
          try go_simp
          refine tkH 8 rfl (by intro W hW; go_simp; first | done | exact rfl) H16.out.pre ?_
          try go_simp
          exact hT g15 g1 g11 B12 d12 B16 d16 v16 (Hd H16.out)
        ·obtain ⟨v17, g17, hw, hg, H17⟩ := TwR.boxx H11
         go_simp
         refine hK _ _ ⟨H17.out.pre, ?_⟩; clear hK K' hw hg
         try go_simp
         refine oN1 3 rfl fun K' hK => ?_
         refine TwR.stepx rfl (.tmp 34) (.tmp 36) rfl H17 ?qq1 ac ?qq2 (HSA.out _ H17.out.pre) (by omega) ?_
         case qq1 => go_simp
         case qq2 => go_simp
         intro B18 d18 v18 H18
         refine hK _ _ ⟨H18.out.pre, ?_⟩; clear hK K'
         try go_simp
         refine oN1 7 rfl fun K' hK => ?_
         refine TwR.stepy rfl (.tmp 38) (.tmp 40) rfl H18 ?qq1 dc ?qq2 (HSD.out _ H18.out.pre) (by omega) ?_
         case qq1 => go_simp
         case qq2 => go_simp
         intro B19 d19 v19 H19
         refine hK _ _ ⟨H19.out.pre, ?_⟩; clear hK K'
         try go_simp
         refine tkH 8 rfl (by intro W hW; go_simp; first | done | exact rfl) H19.out.pre ?_
         try go_simp
         exact hT g17 g1 g11 B18 d18 B19 d19 v19 (Hd H19.out)
       ·obtain ⟨v20, g20, hw, hg, H20⟩ := TwR.boxx H1
        go_simp
        refine hK _ _ ⟨H20.out.pre, ?_⟩; clear hK K' hw hg
        try go_simp
        refine oN2 3 4 rfl rfl (fun K' hK => ?_) fun K' hK => ?_
        ·refine TwR.stepx rfl (.tmp 34) (.tmp 36) rfl H20 ?qq1 ac ?qq2 (HSA.out _ H20.out.pre) (by omega) ?_
         case qq1 => go_simp
         case qq2 => go_simp
         intro B21 d21 v21 H21
         refine hK _ _ ⟨H21.out.pre, ?_⟩; clear hK K'
         try go_simp
         refine oN1 4 rfl fun K' hK => ?_
         obtain ⟨v22, g22, hw, hg, H22⟩ := TwR.buildy H21
         go_simp
         refine hK _ _ ⟨H22.out.pre, ?_⟩; clear hK K' hw hg
         try go_simp
         refine oN1 7 rfl fun K' hK => ?_
         refine TwR.stepy rfl (.tmp 38) (.tmp 40) rfl H22 ?qq1 dc ?qq2 (HSD.out _ H22.out.pre) (by omega) ?_
         case qq1 => go_simp
         case qq2 => go_simp
         intro B23 d23 v23 H23
         refine hK _ _ ⟨H23.out.pre, ?_⟩; clear hK K'
         try go_simp
         refine tkH 8 rfl (by intro W hW; go_simp; first | done | exact rfl) H23.out.pre ?_
         try go_simp
         exact hT g20 g1 g22 B21 d21 B23 d23 v23 (Hd H23.out)
        ·obtain ⟨v24, g24, hw, hg, H24⟩ := TwR.buildy H20
         go_simp
         refine hK _ _ ⟨H24.out.pre, ?_⟩; clear hK K' hw hg
         try go_simp
         refine oN1 3 rfl fun K' hK => ?_
         refine TwR.stepx rfl (.tmp 34) (.tmp 36) rfl H24 ?qq1 ac ?qq2 (HSA.out _ H24.out.pre) (by omega) ?_
         case qq1 => go_simp
         case qq2 => go_simp
         intro B25 d25 v25 H25
         refine hK _ _ ⟨H25.out.pre, ?_⟩; clear hK K'
         try go_simp
         refine oN1 7 rfl fun K' hK => ?_
         refine TwR.stepy rfl (.tmp 38) (.tmp 40) rfl H25 ?qq1 dc ?qq2 (HSD.out _ H25.out.pre) (by omega) ?_
         case qq1 => go_simp
         case qq2 => go_simp
         intro B26 d26 v26 H26
         refine hK _ _ ⟨H26.out.pre, ?_⟩; clear hK K'
         try go_simp
         refine tkH 8 rfl (by intro W hW; go_simp; first | done | exact rfl) H26.out.pre ?_
         try go_simp
         exact hT g20 g1 g24 B25 d25 B26 d26 v26 (Hd H26.out)
      ·obtain ⟨v27, g27, hw, hg, H27⟩ := TwR.buildy HQd
       go_simp
       refine hK _ _ ⟨H27.out.pre, ?_⟩; clear hK K' hw hg
       try go_simp
       refine oN2 0 9 rfl rfl (fun K' hK => ?_) fun K' hK => ?_
       ·obtain ⟨v28, g28, hw, hg, H28⟩ := TwR.buildx H27
        go_simp
        refine hK _ _ ⟨H28.out.pre, ?_⟩; clear hK K' hw hg
        try go_simp
        refine oN2 3 9 rfl rfl (fun K' hK => ?_) fun K' hK => ?_
        ·refine TwR.stepx rfl (.tmp 34) (.tmp 36) rfl H28 ?qq1 ac ?qq2 (HSA.out _ H28.out.pre) (by omega) ?_
         case qq1 => go_simp
         case qq2 => go_simp
         intro B29 d29 v29 H29
         refine hK _ _ ⟨H29.out.pre, ?_⟩; clear hK K'
         try go_simp
         refine oN2 7 9 rfl rfl (fun K' hK => ?_) fun K' hK => ?_
         ·refine TwR.stepy rfl (.tmp 38) (.tmp 40) rfl H29 ?qq1 dc ?qq2 (HSD.out _ H29.out.pre) (by omega) ?_
          case qq1 => go_simp
          case qq2 => go_simp
          intro B30 d30 v30 H30
          refine hK _ _ ⟨H30.out.pre, ?_⟩; clear hK K'
          try go_simp
          refine tkH 8 rfl (by intro W hW; go_simp; first | done | exact rfl) H30.out.pre ?_
          try go_simp
          refine oN1 9 rfl fun K' hK => ?_
          obtain ⟨v31, g31, hw, hg, H31⟩ := TwR.boxx H30
          go_simp
          refine hK _ _ ⟨H31.out.pre, ?_⟩; clear hK K' hw hg
          try go_simp
          exact hT g31 g28 g27 B29 d29 B30 d30 v31 (Hd H31.out)
         ·obtain ⟨v32, g32, hw, hg, H32⟩ := TwR.boxx H29
          go_simp
          refine hK _ _ ⟨H32.out.pre, ?_⟩; clear hK K' hw hg
          try go_simp
          refine oN1 7 rfl fun K' hK => ?_
          refine TwR.stepy rfl (.tmp 38) (.tmp 40) rfl H32 ?qq1 dc ?qq2 (HSD.out _ H32.out.pre) (by omega) ?_
          case qq1 => go_simp
          case qq2 => go_simp
          intro B33 d33 v33 H33
          refine hK _ _ ⟨H33.out.pre, ?_⟩; clear hK K'
          try go_simp
          refine tkH 8 rfl (by intro W hW; go_simp; first | done | exact rfl) H33.out.pre ?_
          try go_simp
          exact hT g32 g28 g27 B29 d29 B33 d33 v33 (Hd H33.out)
        ·obtain ⟨v34, g34, hw, hg, H34⟩ := TwR.boxx H28
         go_simp
         refine hK _ _ ⟨H34.out.pre, ?_⟩; clear hK K' hw hg
         try go_simp
         refine oN1 3 rfl fun K' hK => ?_
         refine TwR.stepx rfl (.tmp 34) (.tmp 36) rfl H34 ?qq1 ac ?qq2 (HSA.out _ H34.out.pre) (by omega) ?_
         case qq1 => go_simp
         case qq2 => go_simp
         intro B35 d35 v35 H35
         refine hK _ _ ⟨H35.out.pre, ?_⟩; clear hK K'
         try go_simp
         refine oN1 7 rfl fun K' hK => ?_
         refine TwR.stepy rfl (.tmp 38) (.tmp 40) rfl H35 ?qq1 dc ?qq2 (HSD.out _ H35.out.pre) (by omega) ?_
         case qq1 => go_simp
         case qq2 => go_simp
         intro B36 d36 v36 H36
         refine hK _ _ ⟨H36.out.pre, ?_⟩; clear hK K'
         try go_simp
         refine tkH 8 rfl (by intro W hW; go_simp; first | done | exact rfl) H36.out.pre ?_
         try go_simp
         exact hT g34 g28 g27 B35 d35 B36 d36 v36 (Hd H36.out)
       ·obtain ⟨v37, g37, hw, hg, H37⟩ := TwR.boxx H27
        go_simp
        refine hK _ _ ⟨H37.out.pre, ?_⟩; clear hK K' hw hg
        try go_simp
        refine oN1 0 rfl fun K' hK => ?_
        obtain ⟨v38, g38, hw, hg, H38⟩ := TwR.buildx H37
        go_simp
        refine hK _ _ ⟨H38.out.pre, ?_⟩; clear hK K' hw hg
        try go_simp
        refine oN1 3 rfl fun K' hK => ?_
        refine TwR.stepx rfl (.tmp 34) (.tmp 36) rfl H38 ?qq1 ac ?qq2 (HSA.out _ H38.out.pre) (by omega) ?_
        case qq1 => go_simp
        case qq2 => go_simp
        intro B39 d39 v39 H39
        refine hK _ _ ⟨H39.out.pre, ?_⟩; clear hK K'
        try go_simp
        refine oN1 7 rfl fun K' hK => ?_
        refine TwR.stepy rfl (.tmp 38) (.tmp 40) rfl H39 ?qq1 dc ?qq2 (HSD.out _ H39.out.pre) (by omega) ?_
        case qq1 => go_simp
        case qq2 => go_simp
        intro B40 d40 v40 H40
        refine hK _ _ ⟨H40.out.pre, ?_⟩; clear hK K'
        try go_simp
        refine tkH 8 rfl (by intro W hW; go_simp; first | done | exact rfl) H40.out.pre ?_
        try go_simp
        exact hT g37 g38 g27 B39 d39 B40 d40 v40 (Hd H40.out)
      ·obtain ⟨v41, g41, hw, hg, H41⟩ := TwR.boxx HQd
       go_simp
       refine hK _ _ ⟨H41.out.pre, ?_⟩; clear hK K' hw hg
       try go_simp
       refine oN2 0 4 rfl rfl (fun K' hK => ?_) fun K' hK => ?_
       ·obtain ⟨v42, g42, hw, hg, H42⟩ := TwR.buildx H41
        go_simp
        refine hK _ _ ⟨H42.out.pre, ?_⟩; clear hK K' hw hg
        try go_simp
        refine oN2 3 4 rfl rfl (fun K' hK => ?_) fun K' hK => ?_
        ·refine TwR.stepx rfl (.tmp 34) (.tmp 36) rfl H42 ?qq1 ac ?qq2 (HSA.out _ H42.out.pre) (by omega) ?_
         case qq1 => go_simp
         case qq2 => go_simp
         intro B43 d43 v43 H43
         refine hK _ _ ⟨H43.out.pre, ?_⟩; clear hK K'
         try go_simp
         refine oN1 4 rfl fun K' hK => ?_
         obtain ⟨v44, g44, hw, hg, H44⟩ := TwR.buildy H43
         go_simp
         refine hK _ _ ⟨H44.out.pre, ?_⟩; clear hK K' hw hg
         try go_simp
         refine oN1 7 rfl fun K' hK => ?_
         refine TwR.stepy rfl (.tmp 38) (.tmp 40) rfl H44 ?qq1 dc ?qq2 (HSD.out _ H44.out.pre) (by omega) ?_
         case qq1 => go_simp
         case qq2 => go_simp
         intro B45 d45 v45 H45
         refine hK _ _ ⟨H45.out.pre, ?_⟩; clear hK K'
         try go_simp
         refine tkH 8 rfl (by intro W hW; go_simp; first | done | exact rfl) H45.out.pre ?_
         try go_simp
         exact hT g41 g42 g44 B43 d43 B45 d45 v45 (Hd H45.out)
        ·obtain ⟨v46, g46, hw, hg, H46⟩ := TwR.buildy H42
         go_simp
         refine hK _ _ ⟨H46.out.pre, ?_⟩; clear hK K' hw hg
         try go_simp
         refine oN1 3 rfl fun K' hK => ?_
         refine TwR.stepx rfl (.tmp 34) (.tmp 36) rfl H46 ?qq1 ac ?qq2 (HSA.out _ H46.out.pre) (by omega) ?_
         case qq1 => go_simp
         case qq2 => go_simp
         intro B47 d47 v47 H47
         refine hK _ _ ⟨H47.out.pre, ?_⟩; clear hK K'
         try go_simp
         refine oN1 7 rfl fun K' hK => ?_
         refine TwR.stepy rfl (.tmp 38) (.tmp 40) rfl H47 ?qq1 dc ?qq2 (HSD.out _ H47.out.pre) (by omega) ?_
         case qq1 => go_simp
         case qq2 => go_simp
         intro B48 d48 v48 H48
         refine hK _ _ ⟨H48.out.pre, ?_⟩; clear hK K'
         try go_simp
         refine tkH 8 rfl (by intro W hW; go_simp; first | done | exact rfl) H48.out.pre ?_
         try go_simp
         exact hT g41 g42 g46 B47 d47 B48 d48 v48 (Hd H48.out)
       ·obtain ⟨v49, g49, hw, hg, H49⟩ := TwR.buildy H41
        go_simp
        refine hK _ _ ⟨H49.out.pre, ?_⟩; clear hK K' hw hg
        try go_simp
        refine oN1 0 rfl fun K' hK => ?_
        obtain ⟨v50, g50, hw, hg, H50⟩ := TwR.buildx H49
        go_simp
        refine hK _ _ ⟨H50.out.pre, ?_⟩; clear hK K' hw hg
        try go_simp
        refine oN1 3 rfl fun K' hK => ?_
        refine TwR.stepx rfl (.tmp 34) (.tmp 36) rfl H50 ?qq1 ac ?qq2 (HSA.out _ H50.out.pre) (by omega) ?_
        case qq1 => go_simp
        case qq2 => go_simp
        intro B51 d51 v51 H51
        refine hK _ _ ⟨H51.out.pre, ?_⟩; clear hK K'
        try go_simp
        refine oN1 7 rfl fun K' hK => ?_
        refine TwR.stepy rfl (.tmp 38) (.tmp 40) rfl H51 ?qq1 dc ?qq2 (HSD.out _ H51.out.pre) (by omega) ?_
        case qq1 => go_simp
        case qq2 => go_simp
        intro B52 d52 v52 H52
        refine hK _ _ ⟨H52.out.pre, ?_⟩; clear hK K'
        try go_simp
        refine tkH 8 rfl (by intro W hW; go_simp; first | done | exact rfl) H52.out.pre ?_
        try go_simp
        exact hT g41 g50 g49 B51 d51 B52 d52 v52 (Hd H52.out)
     case tail =>
      intro mb U1 U2 B1 d1 B2 d2 w9 H9
      clear HQd HSA HSD
      obtain ⟨hx, hxs, _, _⟩ := H9.out.bx mb rfl
      have hpre := H9.out.pre
      obtain ⟨wz, hwz⟩ : ∃ X, (w9.setCell ⟨mb, 0, none⟩ (.slice B1 an d1)).setCell ⟨mb, 1, none⟩ (.slice B2 dn d2) = X := ⟨_, rfl⟩
      have HTZ0 : Hid (TwR w4 wz (.slice B1 an d1) an (ags.map (Value.int .i64)) (.slice B2 dn d2) dn (ds.map (Value.int .i64)) (some mb) [.slice B1 an d1, .slice B2 dn d2]) := Hd (by
       rw [← hwz]
       exact (H9.out.put 0 (by simp) (.slice B1 an d1)).put 1 (by simp) (.slice B2 dn d2))
      have HTZ : Hid (∃ B d, TwR w4 wz (.slice B (an + 0) d) (an + 0) (ags.map (Value.int .i64) ++ List.replicate 0 (.int .i64 0)) (.slice B2 dn d2) dn (ds.map (Value.int .i64)) (some mb) [.slice B (an + 0) d, .slice B2 dn d2]) := Hd ⟨B1, d1, by simpa using HTZ0.out⟩
      have hprz := HTZ0.out.pre
      have x0 := hx.at_ 0 _ rfl
      have x1 := hx.at_ 1 _ rfl
      have g0 := hx.fz 0 (by simp)
      have g1 := hx.fz 1 (by simp)
      clear hx hxs hpre H9
      refine wpAnyH_one (i := 10) (by kernel_rfl) rfl (fun K' hK => ?_)
      go_simp
      refine hK _ _ ⟨hprz, ?_⟩; clear hK K' x0 x1 g0 g1 hwz
      refine wpAnyH_done (by kernel_rfl) ?_ _
      try go_simp
      clear hprz HTZ0
      go_wp2_with fail
      go_loopw [9] (fun iv wr => ∃ k : Nat, iv = .int .i64 (k : Int) ∧ k ≤ f1.toNat ∧ Hid (∃ B d, TwR w4 wr (.slice B (an + k) d) (an + k) (ags.map (Value.int .i64) ++ List.replicate k (.int .i64 0)) (.slice B2 dn d2) dn (ds.map (Value.int .i64)) (some mb) [.slice B (an + k) d, .slice B2 dn d2])) (fun iv _ => f1.toNat - (intOf iv).toNat)
      case atStart => exact ⟨0, rfl, Nat.zero_le _, HTZ⟩
      case round =>
       obtain ⟨k, rfl, hk, HK⟩ := hrel
       obtain ⟨B, d, hT⟩ := HK.out
       have HTW := Hd hT
       have hk20 : (k : Int) ≤ 20 := by omega
       obtain ⟨q0, q1, q2, q3, q4⟩ := EP4.out wr hT.pre
       by_cases hlt : (k : Int) < f1
       ·have t0 : decide ((k : Int) < f1) = true := dcT hlt
        obtain ⟨w7, hw7⟩ : ∃ X, wr.alloc (.cells #[.int .i64 0] 3) = X := ⟨_, rfl⟩
        have hb7 : Below wr.heap.size wr w7 := by rw [← hw7]; exact bl_one _
        have HT7 := Hd (hT.on hb7)
        have hsrc : Hid (SrcCells w7 (some ⟨wr.heap.size, 0, none⟩) 1 1 [.int .i64 0]) := Hd (by rw [← hw7]; exact src_intZ wr 0)
        have HLT : Hid (k < f1.toNat ∧ an + k ≤ 130) := Hd ⟨by omega, by omega⟩
        have c0 := ((hT.bx mb rfl).1).at_ 0 _ rfl
        have hz4 : w4.heap.size ≤ w7.heap.size := HT7.out.pre.size
        clear hT HK hb7
        go_wp2_with (first
          | (at_builtin; go_must (refine wpList_append_src _ rfl _ _ 34 rfl w4.heap.size 3 i0 (.int .i64 0) 1 8 Tryz.underlying34 hi hz0 hz1 hz2 rfl (by decide) _ _ _ rfl HT7.out.o1 (some ⟨wr.heap.size, 0, none⟩) 1 1 [.int .i64 0] rfl hsrc.out (one_intZ 0) (by have := HLT.out; unfold maxLen; omega) (by have := HLT.out; omega) hz4 ?_)
             intro v' w8 hown hgr hat
             obtain ⟨B', d', rfl⟩ := tw_val hown
             have HT8 := Hd ((HT7.out.app hown hgr hat))
             have e0 := ((HT8.out.bx mb rfl).1).at_ 0 _ rfl
             have g0 := ((HT8.out.bx mb rfl).1).fz 0 (by simp)
             have HT9 := Hd (HT8.out.put 0 (by simp) (.slice B' (an + k + 1) d'))
             clear hown hgr hat)
          | fail)
        go_roundw
        case rel =>
         refine ⟨k + 1, by go_num, by have := HLT.out.1; omega, Hd ⟨B', d', ?_⟩⟩
         have h := HT9.out
         rw [List.append_assoc, ← List.replicate_succ'] at h
         exact h
        case measure => have := HLT.out.1; simp [intOf]; omega
       ·have t0 : decide ((k : Int) < f1) = false := dcF hlt
        obtain rfl : k = f1.toNat := by omega
        clear hT HK hk
        obtain ⟨wy, rfl⟩ : ∃ x, x = wr := ⟨_, rfl⟩
        obtain ⟨B3, rfl⟩ : ∃ x, x = B := ⟨_, rfl⟩
        obtain ⟨d3, rfl⟩ : ∃ x, x = d := ⟨_, rfl⟩
        have HTY : Hid (∃ B d, TwR w4 wy (.slice B3 (an + f1.toNat) d3) (an + f1.toNat) (ags.map (Value.int .i64) ++ List.replicate f1.toNat (.int .i64 0)) (.slice B (dn + 0) d) (dn + 0) (ds.map (Value.int .i64) ++ List.replicate 0 (.int .i64 0)) (some mb) [.slice B3 (an + f1.toNat) d3, .slice B (dn + 0) d]) := Hd ⟨B2, d2, by simpa using HTW.out⟩
        clear HTW HTZ
        go_wp2_with fail
        clear t0 hlt hk20 q0 q1 q2 q3 q4
        go_loopw [10] (fun iv wr => ∃ k : Nat, iv = .int .i64 (k : Int) ∧ k ≤ f2.toNat ∧ Hid (∃ B d, TwR w4 wr (.slice B3 (an + f1.toNat) d3) (an + f1.toNat) (ags.map (Value.int .i64) ++ List.replicate f1.toNat (.int .i64 0)) (.slice B (dn + k) d) (dn + k) (ds.map (Value.int .i64) ++ List.replicate k (.int .i64 0)) (some mb) [.slice B3 (an + f1.toNat) d3, .slice B (dn + k) d])) (fun iv _ => f2.toNat - (intOf iv).toNat)
        case atStart => exact ⟨0, rfl, Nat.zero_le _, HTY⟩
        case round =>
         obtain ⟨k, rfl, hk, HK⟩ := hrel
         obtain ⟨B, d, hT⟩ := HK.out
         have HTW := Hd hT
         have hk20 : (k : Int) ≤ 20 := by omega
         obtain ⟨q0, q1, q2, q3, q4⟩ := EP4.out wr hT.pre
         by_cases hlt : (k : Int) < f2
         ·have t0 : decide ((k : Int) < f2) = true := dcT hlt
          obtain ⟨w7, hw7⟩ : ∃ X, wr.alloc (.cells #[.int .i64 0] 3) = X := ⟨_, rfl⟩
          have hb7 : Below wr.heap.size wr w7 := by rw [← hw7]; exact bl_one _
          have HT7 := Hd (hT.on hb7)
          have hsrc : Hid (SrcCells w7 (some ⟨wr.heap.size, 0, none⟩) 1 1 [.int .i64 0]) := Hd (by rw [← hw7]; exact src_intZ wr 0)
          have HLT : Hid (k < f2.toNat ∧ dn + k ≤ 130) := Hd ⟨by omega, by omega⟩
          have c0 := ((hT.bx mb rfl).1).at_ 1 _ rfl
          have hz4 : w4.heap.size ≤ w7.heap.size := HT7.out.pre.size
          clear hT HK hb7
          go_wp2_with (first
            | (at_builtin; go_must (refine wpList_append_src _ rfl _ _ 34 rfl w4.heap.size 3 i0 (.int .i64 0) 1 8 Tryz.underlying34 hi hz0 hz1 hz2 rfl (by decide) _ _ _ rfl HT7.out.o2 (some ⟨wr.heap.size, 0, none⟩) 1 1 [.int .i64 0] rfl hsrc.out (one_intZ 0) (by have := HLT.out; unfold maxLen; omega) (by have := HLT.out; omega) hz4 ?_)
               intro v' w8 hown hgr hat
               obtain ⟨B', d', rfl⟩ := tw_val hown
               have HT8 := Hd ((HT7.out.swap.app hown hgr hat).swap)
               have e0 := ((HT8.out.bx mb rfl).1).at_ 1 _ rfl
               have g0 := ((HT8.out.bx mb rfl).1).fz 1 (by simp)
               have HT9 := Hd (HT8.out.put 1 (by simp) (.slice B' (dn + k + 1) d'))
               clear hown hgr hat)
            | fail)
          go_roundw
          case rel =>
           refine ⟨k + 1, by go_num, by have := HLT.out.1; omega, Hd ⟨B', d', ?_⟩⟩
           have h := HT9.out
           rw [List.append_assoc, ← List.replicate_succ'] at h
           exact h
          case measure => have := HLT.out.1; simp [intOf]; omega
         ·have t0 : decide ((k : Int) < f2) = false := dcF hlt
          obtain rfl : k = f2.toNat := by omega
          clear hT HK hk
          obtain ⟨wv, rfl⟩ : ∃ x, x = wr := ⟨_, rfl⟩
          obtain ⟨B4, rfl⟩ : ∃ x, x = B := ⟨_, rfl⟩
          obtain ⟨d4, rfl⟩ : ∃ x, x = d := ⟨_, rfl⟩
          have HBV : Hid (Below w4.heap.size w4 wv) := Hd HTW.out.pre
          have HTV : Hid (∀ W, Below wv.heap.size wv W → Below w1.heap.size w1 W) := Hd fun W hW => HB4.out.trans ((HBV.out.trans (hW.mono HBV.out.size)).mono HB4.out.size)
          have HMA : Hid (∀ W, Below wv.heap.size wv W → SlI W W.heap.size B3 (an + f1.toNat) d3 (ags ++ List.replicate f1.toNat 0) ∧ SlI W W.heap.size B4 (dn + f2.toNat) d4 (ds ++ List.replicate f2.toNat 0)) := Hd fun W hW => by
           have h := HTW.out.on hW
           exact ⟨tw_sli (by rw [List.map_append, List.map_replicate]; exact h.o1) (by omega), tw_sli (by rw [List.map_append, List.map_replicate]; exact h.o2) (by omega)⟩
          have cA : Hid (∀ W, Below wv.heap.size wv W → Calls Tryz.prog 29 #[.agg #[.slice FA fn fc], .agg #[.slice AA an ac, .slice DA dn dc], .int .i64 f0] W (RunQ W fs ags ds (max f0 0).toNat)) := Hd fun W hW => runQ_any f0 (HINP.out W (HTV.out W hW)) hm
          have cB : Hid (∀ W, Below wv.heap.size wv W → Calls Tryz.prog 29 #[.agg #[.slice FA fn fc], .agg #[.slice B3 (an + f1.toNat) d3, .slice B4 (dn + f2.toNat) d4], .int .i64 f0] W (RunQ W fs (ags ++ List.replicate f1.toNat 0) (ds ++ List.replicate f2.toNat 0) (max f0 0).toNat)) := Hd fun W hW => runQ_any f0 ⟨(HINP.out W (HTV.out W hW)).hf, (HINP.out W (HTV.out W hW)).pg, (HMA.out W hW).1, by omega, (HMA.out W hW).2, by omega⟩ hm
          have EPV : Hid (∀ W, Below wv.heap.size wv W → W.cell? ⟨zb, 0, none⟩ = some (.slice FA fn fc) ∧ W.cell? ⟨zb + 1, 0, none⟩ = some (.slice AA an ac) ∧ W.cell? ⟨zb + 1, 1, none⟩ = some (.slice DA dn dc) ∧ W.cell? ⟨mb, 0, none⟩ = some (.slice B3 (an + f1.toNat) d3) ∧ W.cell? ⟨mb, 1, none⟩ = some (.slice B4 (dn + f2.toNat) d4)) := Hd fun W hW => by
           obtain ⟨a0, a1, a2, _⟩ := EP4.out W (HBV.out.trans (hW.mono HBV.out.size))
           have h := ((HTW.out.on hW).bx mb rfl).1
           exact ⟨a0, a1, a2, h.at_ 0 _ rfl, h.at_ 1 _ rfl⟩
          have HHH : Hid (FineB fs) := Hd HHF.out.1
          clear HTW HTY hm hm1 hm2 han hdn HHF
          go_wp2_with fail
          clear t0 hlt hk20 q0 q1 q2 q3 q4
          refine wp_region_held (S := fun W => Below wv.heap.size wv W) (by kernel_rfl) ?_
          change wpAnyH _ _ _ _ _ _ _ _ (World.drew _)
          have hS0 : Below wv.heap.size wv wv.drew := (Below.refl _ _).drew
          refine tkH 0 rfl (by intro W hW; obtain ⟨q0, q1, q2, q3, q4⟩ := EPV.out W hW; go_simp; first | done | exact rfl) hS0 ?_
          try go_simp
          refine tkH 1 rfl (by intro W hW; obtain ⟨q0, q1, q2, q3, q4⟩ := EPV.out W hW; go_simp; first | done | exact rfl) hS0 ?_
          try go_simp
          refine tkH 2 rfl (by intro W hW; obtain ⟨q0, q1, q2, q3, q4⟩ := EPV.out W hW; go_simp; first | done | exact rfl) hS0 ?_
          try go_simp
          refine tkH 4 rfl (by intro W hW; obtain ⟨q0, q1, q2, q3, q4⟩ := EPV.out W hW; go_simp; first | done | exact rfl) hS0 ?_
          try go_simp
          refine tkH 5 rfl (by intro W hW; obtain ⟨q0, q1, q2, q3, q4⟩ := EPV.out W hW; go_simp; first | done | exact rfl) hS0 ?_
          try go_simp
          refine tkH 6 rfl (by intro W hW; obtain ⟨q0, q1, q2, q3, q4⟩ := EPV.out W hW; go_simp; first | done | exact rfl) hS0 ?_
          try go_simp
          obtain ⟨wd, hwd⟩ : ∃ X, wv.drew = X := ⟨_, rfl⟩
          rw [hwd] at hS0
          rw [hwd]
          clear hwd
          have HQd : Hid (Pr wv NoP NoP none none none none wd) := Hd (Pr.start hS0)
          clear hS0
          refine (fun (hT : ∀ (ba bb : Nat) (EA : Option Addr) (en : Nat) (ec : Nat) (ek : Int) (RA : Option Addr) (rn : Nat) (rc : Nat) (CA : Option Addr) (cn : Nat) (cc : Nat) (sa : Int) (GA : Option Addr) (gn : Nat) (gc : Nat) (gk : Int) (SA : Option Addr) (sn : Nat) (sc : Nat) (HA : Option Addr) (hn : Nat) (hc : Nat) (sb : Int) (w9 : World), Hid (∃ la lb, Pr wv (RdP fs ags ds (max f0 0).toNat EA en ec ek RA rn rc CA cn cc sa) (RdP fs (ags ++ List.replicate f1.toNat 0) (ds ++ List.replicate f2.toNat 0) (max f0 0).toNat GA gn gc gk SA sn sc HA hn hc sb) (some ba) (some bb) (some la) (some lb) w9) → (?T2 : Nat → Nat → Option Addr → Nat → Nat → Int → Option Addr → Nat → Nat → Option Addr → Nat → Nat → Int → Option Addr → Nat → Nat → Int → Option Addr → Nat → Nat → Option Addr → Nat → Nat → Int → World → Prop) ba bb EA en ec ek RA rn rc CA cn cc sa GA gn gc gk SA sn sc HA hn hc sb w9) => ?main2) ?tail2
          case main2 =>
           refine oN3 3 8 9 rfl rfl rfl (fun K' hK => ?_) (fun K' hK => ?_) fun K' hK => ?_
           ·go_simp
            refine (cA.out _ HQd.out.pre).mono ?_
            rintro e w11 hb
            obtain ⟨EA, en, ec, ek, RA, rn, rc, CA, cn, cc, sa, rfl, hN, hbl⟩ := hb.get
            have H1 := Hd (HQd.out.cA hbl (QA := RdP fs ags ds (max f0 0).toNat EA en ec ek RA rn rc CA cn cc sa) (fun l hl => by injection hl with hl; subst hl; exact hN) (NoP.on HQd.out.b _ hbl))
            clear hb hN hbl
            go_simp
            refine hK _ _ ⟨H1.out.pre, ?_⟩; clear hK K'
            try go_simp
            refine oN3 7 8 9 rfl rfl rfl (fun K' hK => ?_) (fun K' hK => ?_) fun K' hK => ?_
            ·go_simp
             refine (cB.out _ H1.out.pre).mono ?_
             rintro e w12 hb
             obtain ⟨GA, gn, gc, gk, SA, sn, sc, HA, hn, hc, sb, rfl, hN, hbl⟩ := hb.get
             have H2 := Hd (H1.out.cB hbl (QB := RdP fs (ags ++ List.replicate f1.toNat 0) (ds ++ List.replicate f2.toNat 0) (max f0 0).toNat GA gn gc gk SA sn sc HA hn hc sb) (RdP.on H1.out.a _ hbl) (fun l hl => by injection hl with hl; subst hl; exact hN))
             clear hb hN hbl
             go_simp
             refine hK _ _ ⟨H2.out.pre, ?_⟩; clear hK K'
             try go_simp
             refine oN2 8 9 rfl rfl (fun K' hK => ?_) fun K' hK => ?_
             ·obtain ⟨w13, g3, hw, hg, H3⟩ := Pr.m8x H2 (RdP.on H2.out.a) (RdP.on H2.out.b)
              go_simp
              refine hK _ _ ⟨H3.out.pre, ?_⟩; clear hK K' hw hg
              try go_simp
              refine oN1 9 rfl fun K' hK => ?_
              obtain ⟨w14, g4, hw, hg, H4⟩ := Pr.m9x H3 (RdP.on H3.out.a) (RdP.on H3.out.b)
              go_simp
              refine hK _ _ ⟨H4.out.pre, ?_⟩; clear hK K' hw hg
              try go_simp
              exact hT g3 g4 EA en ec ek RA rn rc CA cn cc sa GA gn gc gk SA sn sc HA hn hc sb w14 (Hd ⟨_, _, H4.out⟩)
             ·obtain ⟨w15, g5, hw, hg, H5⟩ := Pr.m9x H2 (RdP.on H2.out.a) (RdP.on H2.out.b)
              go_simp
              refine hK _ _ ⟨H5.out.pre, ?_⟩; clear hK K' hw hg
              try go_simp
              refine oN1 8 rfl fun K' hK => ?_
              obtain ⟨w16, g6, hw, hg, H6⟩ := Pr.m8x H5 (RdP.on H5.out.a) (RdP.on H5.out.b)
              go_simp
              refine hK _ _ ⟨H6.out.pre, ?_⟩; clear hK K' hw hg
              try go_simp
              exact hT g6 g5 EA en ec ek RA rn rc CA cn cc sa GA gn gc gk SA sn sc HA hn hc sb w16 (Hd ⟨_, _, H6.out⟩)
            ·obtain ⟨w17, g7, hw, hg, H7⟩ := Pr.m8x H1 (RdP.on H1.out.a) (NoP.on H1.out.b)
             go_simp
             refine hK _ _ ⟨H7.out.pre, ?_⟩; clear hK K' hw hg
             try go_simp
             refine oN2 7 9 rfl rfl (fun K' hK => ?_) fun K' hK => ?_
             ·go_simp
              refine (cB.out _ H7.out.pre).mono ?_
              rintro e w18 hb
              obtain ⟨GA, gn, gc, gk, SA, sn, sc, HA, hn, hc, sb, rfl, hN, hbl⟩ := hb.get
              have H8 := Hd (H7.out.cB hbl (QB := RdP fs (ags ++ List.replicate f1.toNat 0) (ds ++ List.replicate f2.toNat 0) (max f0 0).toNat GA gn gc gk SA sn sc HA hn hc sb) (RdP.on H7.out.a _ hbl) (fun l hl => by injection hl with hl; subst hl; exact hN))
              clear hb hN hbl
              go_simp
              refine hK _ _ ⟨H8.out.pre, ?_⟩; clear hK K'
              try go_simp
              refine oN1 9 rfl fun K' hK => ?_
              obtain ⟨w19, g9, hw, hg, H9⟩ := Pr.m9x H8 (RdP.on H8.out.a) (RdP.on H8.out.b)
              go_simp
              refine hK _ _ ⟨H9.out.pre, ?_⟩; clear hK K' hw hg
              try go_simp
              exact hT g7 g9 EA en ec ek RA rn rc CA cn cc sa GA gn gc gk SA sn sc HA hn hc sb w19 (Hd ⟨_, _, H9.out⟩)
             ·obtain ⟨w20, g10, hw, hg, H10⟩ := Pr.m9x H7 (RdP.on H7.out.a) (NoP.on H7.out.b)
              go_simp
              refine hK _ _ ⟨H10.out.pre, ?_⟩; clear hK K' hw hg
              try go_simp
              refine oN1 7 rfl fun K' hK => ?_
              go_simp
              refine (cB.out _ H10.out.pre).mono ?_
              rintro e w21 hb
              obtain ⟨GA, gn, gc, gk, SA, sn, sc, HA, hn, hc, sb, rfl, hN, hbl⟩ := hb.get
              have H11 := Hd (H10.out.cB hbl (QB := RdP fs (ags ++ List.replicate f1.toNat 0) (ds ++ List.replicate f2.toNat 0) (max f0 0).toNat GA gn gc gk SA sn sc HA hn hc sb) (RdP.on H10.out.a _ hbl) (fun l hl => by injection hl with hl; subst hl; exact hN))
              clear hb hN hbl
              go_simp
              refine hK _ _ ⟨H11.out.pre, ?_⟩; clear hK K'
              try go_simp
              exact hT g7 g10 EA en ec ek RA rn rc CA cn cc sa GA gn gc gk SA sn sc HA hn hc sb w21 (Hd ⟨_, _, H11.out⟩)
            ·obtain ⟨w22, g12, hw, hg, H12⟩ := Pr.m9x H1 (RdP.on H1.out.a) (NoP.on H1.out.b)
             go_simp
             refine hK _ _ ⟨H12.out.pre, ?_⟩; clear hK K' hw hg
             try go_simp
             refine oN2 7 8 rfl rfl (fun K' hK => ?_) fun K' hK => ?_
             ·go_simp
              refine (cB.out _ H12.out.pre).mono ?_
              rintro e w23 hb
              obtain ⟨GA, gn, gc, gk, SA, sn, sc, HA, hn, hc, sb, rfl, hN, hbl⟩ := hb.get
              have H13 := Hd (H12.out.cB hbl (QB := RdP fs (ags ++ List.replicate f1.toNat 0) (ds ++ List.replicate f2.toNat 0) (max f0 0).toNat GA gn gc gk SA sn sc HA hn hc sb) (RdP.on H12.out.a _ hbl) (fun l hl => by injection hl with hl; subst hl; exact hN))
              clear hb hN hbl
              go_simp
              refine hK _ _ ⟨H13.out.pre, ?_⟩; clear hK K'
              try go_simp
              refine oN1 8 rfl fun K' hK => ?_
              obtain ⟨w24, g14, hw, hg, H14⟩ := Pr.m8x H13 (RdP.on H13.out.a) (RdP.on H13.out.b)
              go_simp
              refine hK _ _ ⟨H14.out.pre, ?_⟩; clear hK K' hw hg
              try go_simp
              exact hT g14 g12 EA en ec ek RA rn rc CA cn cc sa GA gn gc gk SA sn sc HA hn hc sb w24 (Hd ⟨_, _, H14.out⟩)
             ·obtain ⟨w25, g15, hw, hg, H15⟩ := Pr.m8x H12 (RdP.on H12.out.a) (NoP.on H12.out.b)
              go_simp
              refine hK _ _ ⟨H15.out.pre, ?_⟩; clear hK K' hw hg
              try go_simp
              refine oN1 7 rfl fun K' hK => ?_
              go_simp
              refine (cB.out _ H15.out.pre).mono ?_
              rintro e w26 hb
              obtain ⟨GA, gn, gc, gk, SA, sn, sc, HA, hn, hc, sb, rfl, hN, hbl⟩ := hb.get
              have H16 := Hd (H15.out.cB hbl (QB := RdP fs (ags ++ List.replicate f1.toNat 0) (ds ++ List.replicate f2.toNat 0) (max f0 0).toNat GA gn gc gk SA sn sc HA hn hc sb) (RdP.on H15.out.a _ hbl) (fun l hl => by injection hl with hl; subst hl; exact hN))
              clear hb hN hbl
              go_simp
              refine hK _ _ ⟨H16.out.pre, ?_⟩; clear hK K'
              try go_simp
              exact hT g15 g12 EA en ec ek RA rn rc CA cn cc sa GA gn gc gk SA sn sc HA hn hc sb w26 (Hd ⟨_, _, H16.out⟩)
           ·obtain ⟨w27, g17, hw, hg, H17⟩ := Pr.m8x HQd (NoP.on HQd.out.a) (NoP.on HQd.out.b)
            go_simp
            refine hK _ _ ⟨H17.out.pre, ?_⟩; clear hK K' hw hg
            try go_simp
            refine oN2 3 9 rfl rfl (fun K' hK => ?_) fun K' hK => ?_
            ·go_simp
             refine (cA.out _ H17.out.pre).mono ?_
             rintro e w28 hb
             obtain ⟨EA, en, ec, ek, RA, rn, rc, CA, cn, cc, sa, rfl, hN, hbl⟩ := hb.get
             have H18 := Hd (H17.out.cA hbl (QA := RdP fs ags ds (max f0 0).toNat EA en ec ek RA rn rc CA cn cc sa) (fun l hl => by injection hl with hl; subst hl; exact hN) (NoP.on H17.out.b _ hbl))
             clear hb hN hbl
             go_simp
             refine hK _ _ ⟨H18.out.pre, ?_⟩; clear hK K'
             try go_simp
             refine oN2 7 9 rfl rfl (fun K' hK => ?_) fun K' hK => ?_
             ·go_simp
              refine (cB.out _ H18.out.pre).mono ?_
              rintro e w29 hb
              obtain ⟨GA, gn, gc, gk, SA, sn, sc, HA, hn, hc, sb, rfl, hN, hbl⟩ := hb.get
              have H19 := Hd (H18.out.cB hbl (QB := RdP fs (ags ++ List.replicate f1.toNat 0) (ds ++ List.replicate f2.toNat 0) (max f0 0).toNat GA gn gc gk SA sn sc HA hn hc sb) (RdP.on H18.out.a _ hbl) (fun l hl => by injection hl with hl; subst hl; exact hN))
              clear hb hN hbl
              go_simp
              refine hK _ _ ⟨H19.out.pre, ?_⟩; clear hK K'
              try go_simp
              refine oN1 9 rfl fun K' hK => ?_
              obtain ⟨w30, g20, hw, hg, H20⟩ := Pr.m9x H19 (RdP.on H19.out.a) (RdP.on H19.out.b)
              go_simp
              refine hK _ _ ⟨H20.out.pre, ?_⟩; clear hK K' hw hg
              try go_simp
              exact hT g17 g20 EA en ec ek RA rn rc CA cn cc sa GA gn gc gk SA sn sc HA hn hc sb w30 (Hd ⟨_, _, H20.out⟩)
             ·obtain ⟨w31, g21, hw, hg, H21⟩ := Pr.m9x H18 (RdP.on H18.out.a) (NoP.on H18.out.b)
              go_simp
              refine hK _ _ ⟨H21.out.pre, ?_⟩; clear hK K' hw hg
              try go_simp
              refine oN1 7 rfl fun K' hK => ?_
              go_simp
              refine (cB.out _ H21.out.pre).mono ?_
              rintro e w32 hb
              obtain ⟨GA, gn, gc, gk, SA, sn, sc, HA, hn, hc, sb, rfl, hN, hbl⟩ := hb.get
              have H22 := Hd (H21.out.cB hbl (QB := RdP fs (ags ++ List.replicate f1.toNat 0) (ds ++ List.replicate f2.toNat 0) (max f0 0).toNat GA gn gc gk SA sn sc HA hn hc sb) (RdP.on H21.out.a _ hbl) (fun l hl => by injection hl with hl; subst hl; exact hN))
              clear hb hN hbl
              go_simp
              refine hK _ _ ⟨H22.out.pre, ?_⟩; clear hK K'
              try go_simp
              exact hT g17 g21 EA en ec ek RA rn rc CA cn cc sa GA gn gc gk SA sn sc HA hn hc sb w32 (Hd ⟨_, _, H22.out⟩)
            ·obtain ⟨w33, g23, hw, hg, H23⟩ := Pr.m9x H17 (NoP.on H17.out.a) (NoP.on H17.out.b)
             go_simp
             refine hK _ _ ⟨H23.out.pre, ?_⟩; clear hK K' hw hg
             try go_simp
             refine oN1 3 rfl fun K' hK => ?_
             go_simp
             refine (cA.out _ H23.out.pre).mono ?_
             rintro e w34 hb
             obtain ⟨EA, en, ec, ek, RA, rn, rc, CA, cn, cc, sa, rfl, hN, hbl⟩ := hb.get
             have H24 := Hd (H23.out.cA hbl (QA := RdP fs ags ds (max f0 0).toNat EA en ec ek RA rn rc CA cn cc sa) (fun l hl => by injection hl with hl; subst hl; exact hN) (NoP.on H23.out.b _ hbl))
             clear hb hN hbl
             go_simp
             refine hK _ _ ⟨H24.out.pre, ?_⟩; clear hK K'
             try go_simp
             refine oN1 7 rfl fun K' hK => ?_
             go_simp
             refine (cB.out _ H24.out.pre).mono ?_
             rintro e w35 hb
             obtain ⟨GA, gn, gc, gk, SA, sn, sc, HA, hn, hc, sb, rfl, hN, hbl⟩ := hb.get
             have H25 := Hd (H24.out.cB hbl (QB := RdP fs (ags ++ List.replicate f1.toNat 0) (ds ++ List.replicate f2.toNat 0) (max f0 0).toNat GA gn gc gk SA sn sc HA hn hc sb) (RdP.on H24.out.a _ hbl) (fun l hl => by injection hl with hl; subst hl; exact hN))
             clear hb hN hbl
             go_simp
             refine hK _ _ ⟨H25.out.pre, ?_⟩; clear hK K'
             try go_simp
             exact hT g17 g23 EA en ec ek RA rn rc CA cn cc sa GA gn gc gk SA sn sc HA hn hc sb w35 (Hd ⟨_, _, H25.out⟩)
           ·obtain ⟨w36, g26, hw, hg, H26⟩ := Pr.m9x HQd (NoP.on HQd.out.a) (NoP.on HQd.out.b)
            go_simp
            refine hK _ _ ⟨H26.out.pre, ?_⟩; clear hK K' hw hg
            try go_simp
            refine oN2 3 8 rfl rfl (fun K' hK => ?_) fun K' hK => ?_
            ·go_simp
             refine (cA.out _ H26.out.pre).mono ?_
             rintro e w37 hb
             obtain ⟨EA, en, ec, ek, RA, rn, rc, CA, cn, cc, sa, rfl, hN, hbl⟩ := hb.get
             have H27 := Hd (H26.out.cA hbl (QA := RdP fs ags ds (max f0 0).toNat EA en ec ek RA rn rc CA cn cc sa) (fun l hl => by injection hl with hl; subst hl; exact hN) (NoP.on H26.out.b _ hbl))
             clear hb hN hbl
             go_simp
             refine hK _ _ ⟨H27.out.pre, ?_⟩; clear hK K'
             try go_simp
             refine oN2 7 8 rfl rfl (fun K' hK => ?_) fun K' hK => ?_
             ·go_simp
              refine (cB.out _ H27.out.pre).mono ?_
              rintro e w38 hb
              obtain ⟨GA, gn, gc, gk, SA, sn, sc, HA, hn, hc, sb, rfl, hN, hbl⟩ := hb.get
              have H28 := Hd (H27.out.cB hbl (QB := RdP fs (ags ++ List.replicate f1.toNat 0) (ds ++ List.replicate f2.toNat 0) (max f0 0).toNat GA gn gc gk SA sn sc HA hn hc sb) (RdP.on H27.out.a _ hbl) (fun l hl => by injection hl with hl; subst hl; exact hN))
              clear hb hN hbl
              go_simp
              refine hK _ _ ⟨H28.out.pre, ?_⟩; clear hK K'
              try go_simp
              refine oN1 8 rfl fun K' hK => ?_
              obtain ⟨w39, g29, hw, hg, H29⟩ := Pr.m8x H28 (RdP.on H28.out.a) (RdP.on H28.out.b)
              go_simp
              refine hK _ _ ⟨H29.out.pre, ?_⟩; clear hK K' hw hg
              try go_simp
              exact hT g29 g26 EA en ec ek RA rn rc CA cn cc sa GA gn gc gk SA sn sc HA hn hc sb w39 (Hd ⟨_, _, H29.out⟩)
             ·obtain ⟨w40, g30, hw, hg, H30⟩ := Pr.m8x H27 (RdP.on H27.out.a) (NoP.on H27.out.b)
              go_simp
              refine hK _ _ ⟨H30.out.pre, ?_⟩; clear hK K' hw hg
              try go_simp
              refine oN1 7 rfl fun K' hK => ?_
              go_simp
              refine (cB.out _ H30.out.pre).mono ?_
              rintro e w41 hb
              obtain ⟨GA, gn, gc, gk, SA, sn, sc, HA, hn, hc, sb, rfl, hN, hbl⟩ := hb.get
              have H31 := Hd (H30.out.cB hbl (QB := RdP fs (ags ++ List.replicate f1.toNat 0) (ds ++ List.replicate f2.toNat 0) (max f0 0).toNat GA gn gc gk SA sn sc HA hn hc sb) (RdP.on H30.out.a _ hbl) (fun l hl => by injection hl with hl; subst hl; exact hN))
              clear hb hN hbl
              go_simp
              refine hK _ _ ⟨H31.out.pre, ?_⟩; clear hK K'
              try go_simp
              exact hT g30 g26 EA en ec ek RA rn rc CA cn cc sa GA gn gc gk SA sn sc HA hn hc sb w41 (Hd ⟨_, _, H31.out⟩)
            ·obtain ⟨w42, g32, hw, hg, H32⟩ := Pr.m8x H26 (NoP.on H26.out.a) (NoP.on H26.out.b)
             go_simp
             refine hK _ _ ⟨H32.out.pre, ?_⟩; clear hK K' hw hg
             try go_simp
             refine oN1 3 rfl fun K' hK => ?_
             go_simp
             refine (cA.out _ H32.out.pre).mono ?_
             rintro e w43 hb
             obtain ⟨EA, en, ec, ek, RA, rn, rc, CA, cn, cc, sa, rfl, hN, hbl⟩ := hb.get
             have H33 := Hd (H32.out.cA hbl (QA := RdP fs ags ds (max f0 0).toNat EA en ec ek RA rn rc CA cn cc sa) (fun l hl => by injection hl with hl; subst hl; exact hN) (NoP.on H32.out.b _ hbl))
             clear hb hN hbl
             go_simp
             refine hK _ _ ⟨H33.out.pre, ?_⟩; clear hK K'
             try go_simp
             refine oN1 7 rfl fun K' hK => ?_
             go_simp
             refine (cB.out _ H33.out.pre).mono ?_
             rintro e w44 hb
             obtain ⟨GA, gn, gc, gk, SA, sn, sc, HA, hn, hc, sb, rfl, hN, hbl⟩ := hb.get
             have H34 := Hd (H33.out.cB hbl (QB := RdP fs (ags ++ List.replicate f1.toNat 0) (ds ++ List.replicate f2.toNat 0) (max f0 0).toNat GA gn gc gk SA sn sc HA hn hc sb) (RdP.on H33.out.a _ hbl) (fun l hl => by injection hl with hl; subst hl; exact hN))
             clear hb hN hbl
             go_simp
             refine hK _ _ ⟨H34.out.pre, ?_⟩; clear hK K'
             try go_simp
             exact hT g32 g26 EA en ec ek RA rn rc CA cn cc sa GA gn gc gk SA sn sc HA hn hc sb w44 (Hd ⟨_, _, H34.out⟩)
          case tail2 =>
           intro ba bb EA en ec ek RA rn rc CA cn cc sa GA gn gc gk SA sn sc HA hn hc sb w9 H9
           clear cA cB HQd 
           obtain ⟨la, lb, h9⟩ := H9.out
           have hx := (h9.c8 ba rfl).1
           have hy := (h9.c9 bb rfl).1
           have hxs := (h9.c8 ba rfl).2
           have hys := (h9.c9 bb rfl).2
           have hne := h9.ne ba bb rfl rfl
           have hpre := h9.pre
           obtain ⟨ua, rla, cha, esa, hua⟩ := h9.a la rfl
           obtain ⟨ub, rlb, chb, esb, hub⟩ := h9.b lb rfl
           have a8 := h9.a8 la ba rfl rfl
           have a9 := h9.a9 la bb rfl rfl
           have b8 := h9.b8 lb ba rfl rfl
           have b9 := h9.b9 lb bb rfl rfl
           clear h9 H9
           obtain ⟨wx, hwx⟩ : ∃ X, set5r w9 ba (.slice EA en ec) (.int .i64 ek) (.slice RA rn rc) (.slice CA cn cc) (.int .i64 sa) = X := ⟨_, rfl⟩
           obtain ⟨wz, hwz⟩ : ∃ X, set5r wx bb (.slice GA gn gc) (.int .i64 gk) (.slice SA sn sc) (.slice HA hn hc) (.int .i64 sb) = X := ⟨_, rfl⟩
           have hkx : Kp (fun j => j = ba) w9 wx := by rw [← hwx]; exact kp_set5r _ _ _ _ _ _ _
           have hkz : Kp (fun j => j = bb) wx wz := by rw [← hwz]; exact kp_set5r _ _ _ _ _ _ _
           have hprx : Below wv.heap.size wv wx := by rw [← hwx]; exact bl_set5r hpre hxs
           have hprz : Below wv.heap.size wv wz := by rw [← hwz]; exact bl_set5r hprx hys
           have hcx : Cells wz ba [.slice EA en ec, .int .i64 ek, .slice RA rn rc, .slice CA cn cc, .int .i64 sa] := Cells.kp (by rw [← hwx]; exact cells_set5r hx.c) hkz hne
           have hyx : NBox wx bb := hy.kp hkx (fun e => hne e.symm)
           have hcy : Cells wz bb [.slice GA gn gc, .int .i64 gk, .slice SA sn sc, .slice HA hn hc, .int .i64 sb] := by rw [← hwz]; exact cells_set5r hyx.c
           have hsx : wx.heap.size = w9.heap.size := by rw [← hwx]; simp [World.setCell]
           have hsz : wz.heap.size = wx.heap.size := by rw [← hwz]; simp [World.setCell]
           have HA9 := Hd ((hua.far hx hkx hsx a8).far hyx hkz hsz a9)
           have HB9 := Hd ((hub.far hx hkx hsx b8).far hyx hkz hsz b9)
           have HCX := Hd hcx
           have HCY := Hd hcy
           have HPZ := Hd hprz
           have HZX := Hd hyx
           have HES := Hd (And.intro esa esb)
           have x0 := hx.c.at_ 0 _ rfl
           have x1 := hx.c.at_ 1 _ rfl
           have x2 := hx.c.at_ 2 _ rfl
           have x3 := hx.c.at_ 3 _ rfl
           have x4 := hx.c.at_ 4 _ rfl
           have f0 := hx.c.fz 0 (by simp)
           have f1 := hx.c.fz 1 (by simp)
           have f2 := hx.c.fz 2 (by simp)
           have f3 := hx.c.fz 3 (by simp)
           have f4 := hx.c.fz 4 (by simp)
           have HWE := Hd hwz
           clear hx hy hxs hys hua hub a8 a9 b8 b9 hkx hkz hcx hcy hyx hpre hprz hne hwz hsx hsz esa esb
           refine wpAnyH_one (i := 10) (by kernel_rfl) rfl (fun K' hK => ?_)
           go_simp
           refine hK _ _ ⟨hprx, ?_⟩; clear hK K' x0 x1 x2 x3 x4 f0 f1 f2 f3 f4 hwx
           have hwz := HWE.out
           have x0 := HZX.out.c.at_ 0 _ rfl
           have x1 := HZX.out.c.at_ 1 _ rfl
           have x2 := HZX.out.c.at_ 2 _ rfl
           have x3 := HZX.out.c.at_ 3 _ rfl
           have x4 := HZX.out.c.at_ 4 _ rfl
           have f0 := HZX.out.c.fz 0 (by simp)
           have f1 := HZX.out.c.fz 1 (by simp)
           have f2 := HZX.out.c.fz 2 (by simp)
           have f3 := HZX.out.c.fz 3 (by simp)
           have f4 := HZX.out.c.fz 4 (by simp)
           refine wpAnyH_one (i := 11) (by kernel_rfl) rfl (fun K' hK => ?_)
           go_simp
           refine hK _ _ ⟨HPZ.out, ?_⟩; clear hK K' x0 x1 x2 x3 x4 f0 f1 f2 f3 f4 hwz HWE HZX hprx
           refine wpAnyH_done (by kernel_rfl) ?_ _
           try go_simp
           have hub := ends_zeros (getD_zeros ds f2.toNat) (getD_zeros ags f1.toNat) HA9.out.ends HB9.out.ends
           subst hub
           have HWZ : Hid (∀ W, Below wz.heap.size wz W → Below w.heap.size w W) := Hd fun W hW => HBW.out W (HTV.out W (HPZ.out.trans (hW.mono HPZ.out.size)))
           have x0 := HCX.out.at_ 0 _ rfl
           have x1 := HCX.out.at_ 1 _ rfl
           have x2 := HCX.out.at_ 2 _ rfl
           have x3 := HCX.out.at_ 3 _ rfl
           have x4 := HCX.out.at_ 4 _ rfl
           have y0 := HCY.out.at_ 0 _ rfl
           have y1 := HCY.out.at_ 1 _ rfl
           have y2 := HCY.out.at_ 2 _ rfl
           have y3 := HCY.out.at_ 3 _ rfl
           have y4 := HCY.out.at_ 4 _ rfl
           obtain rfl : sb = sa := HES.out.2.trans HES.out.1.symm
           have cG := Hd (runs_same HA9.out HB9.out sb)
           go_wp2_with fail
           refine cG.out.mono ?_
           rintro e w6 ⟨rfl, hb6⟩
           have HB6 := Hd hb6
           have hc := HCX.out.on hb6
           have hd := HCY.out.on hb6
           clear x0 x1 x2 x3 x4 y0 y1 y2 y3 y4 hb6 cG
           have x4 := hc.at_ 4 _ rfl
           have y4 := hd.at_ 4 _ rfl
           go_wp2_with fail
           refine (cl.out _).mono ?_
           rintro e w9 ⟨rfl, hb9⟩
           have HB9 : Hid (Below w.heap.size w w9) := Hd (HWZ.out _ (HB6.out.trans (hb9.mono HB6.out.size)))
           clear hb9
           go_wp2_with fail
           go_ret
           exact ⟨rfl, HB9.out⟩
    ·have t3 : decide (f2 > 20) = true := dcT (by omega)
     have t3b : decide (20 < f2) = true := dcT (by omega)
     go_wp2_with fail
     refine (cl.out _).mono ?_
     rintro e w9 ⟨rfl, hb9⟩
     have HB9 : Hid (Below w.heap.size w w9) := Hd (HBW.out _ (HB4.out.trans (hb9.mono HB4.out.size)))
     clear hb9
     go_wp2_with fail
     go_ret
     exact ⟨rfl, HB9.out⟩
   ·have t2 : decide (f1 > 20) = true := dcT (by omega)
    have t2b : decide (20 < f1) = true := dcT (by omega)
    go_wp2_with fail
    refine (cl.out _).mono ?_
    rintro e w9 ⟨rfl, hb9⟩
    have HB9 : Hid (Below w.heap.size w w9) := Hd (HBW.out _ (HB4.out.trans (hb9.mono HB4.out.size)))
    clear hb9
    go_wp2_with fail
    go_ret
    exact ⟨rfl, HB9.out⟩
  ·have t1 : decide (f0 > 1500) = true := dcT (by omega)
   have t1b : decide (1500 < f0) = true := dcT (by omega)
   go_wp2_with fail
   refine (cl.out _).mono ?_
   rintro e w9 ⟨rfl, hb9⟩
   have HB9 : Hid (Below w.heap.size w w9) := Hd (HBW.out _ (HB4.out.trans (hb9.mono HB4.out.size)))
   clear hb9
   go_wp2_with fail
   go_ret
   exact ⟨rfl, HB9.out⟩
end Go.Proofs.YtobmjnmcjddhcaaGreat
