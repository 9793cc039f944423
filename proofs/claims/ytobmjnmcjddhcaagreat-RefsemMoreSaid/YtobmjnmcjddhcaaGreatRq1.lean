import Derived.Test.YtobmjnmcjddhcaaGreatRg2
import Derived.Test.YtobmjnmcjddhcaaGreatRg41
import Derived.Test.YtobmjnmcjddhcaaGreatRg42
import Derived.Test.YtobmjnmcjddhcaaGreatRg43
import Derived.BigRegion
set_option linter.unusedSimpArgs false
set_option linter.unusedVariables false
set_option maxRecDepth 100000
set_option maxHeartbeats 16000000
namespace Go.Proofs.YtobmjnmcjddhcaaGreat
open Go.RowKit
theorem refsemMore_walk (cs0 : Array Value) (x0 : DProgram) (cs1 : Array Value) (x1 : DInput) (cs2 : Array Value) (x2 : DInt2) (w : World) (h0 : RProgram w w.heap.size cs0.toList x0) (h1 : RInput w w.heap.size cs1.toList x1) (h2 : RInt2 w w.heap.size cs2.toList x2) :
  Calls Tryz.prog 5 #[.agg cs0, .agg cs1, .agg cs2] w fun e w' => e = .returned (.bool true) ∧ Below w.heap.size w w' := by
 obtain ⟨FA, fn, fc, e0, hfs⟩ := h0
 obtain rfl : cs0 = #[.slice FA fn fc] := by rw [← Array.toArray_toList (xs := cs0), e0]
 obtain ⟨fs⟩ := x0
 dsimp only at hfs
 obtain ⟨AA, an, ac, DA, dn, dc, e1, har, hdr⟩ := h1
 obtain rfl : cs1 = #[.slice AA an ac, .slice DA dn dc] := by rw [← Array.toArray_toList (xs := cs1), e1]
 obtain ⟨ags, ds⟩ := x1
 dsimp only at har hdr
 obtain ⟨e2, wf0, wf1⟩ := h2
 obtain rfl : cs2 = #[.int .i64 x2.w0, .int .i64 x2.w1] := by rw [← Array.toArray_toList (xs := cs2), e2]
 obtain ⟨f0, f1⟩ := x2
 dsimp only at e2 wf0 wf1 ⊢
 have cl := Hd refsem_lives
 obtain ⟨zb, hzb⟩ : ∃ z, w.heap.size = z := ⟨_, rfl⟩
 obtain ⟨w1, hw1⟩ : ∃ X, ((w.alloc (.cells #[.slice FA fn fc] 24)).alloc (.cells #[.slice AA an ac, .slice DA dn dc] 66)).alloc (.cells #[.int .i64 f0, .int .i64 f1] 75) = X := ⟨_, rfl⟩
 have hb1 : Below w.heap.size w w1 := by
  rw [← hw1]
  exact ((bl_one _).trans ((bl_one _).mono (bl_one _).size)).trans ((bl_one _).mono (by simp; omega))
 have hc1 : Cells w1 zb [.slice FA fn fc] := by rw [← hw1, ← hzb]; exact ((Cells.new w [.slice FA fn fc] _).on (bl_one _)).on (bl_one _)
 have hc2 : Cells w1 (zb + 1) [.slice AA an ac, .slice DA dn dc] := by
  rw [← hw1]
  exact (cells_new_at (by simp [hzb]) [.slice AA an ac, .slice DA dn dc] _).on (bl_one _)
 have hc3 : Cells w1 (zb + 1 + 1) [.int .i64 f0, .int .i64 f1] := by
  rw [← hw1]
  exact cells_new_at (by simp [hzb]) [.int .i64 f0, .int .i64 f1] _
 have EP : Hid (∀ W, Below w1.heap.size w1 W → W.cell? ⟨zb, 0, none⟩ = some (.slice FA fn fc) ∧ W.cell? ⟨zb + 1, 0, none⟩ = some (.slice AA an ac) ∧ W.cell? ⟨zb + 1, 1, none⟩ = some (.slice DA dn dc) ∧ W.cell? ⟨zb + 1 + 1, 0, none⟩ = some (.int .i64 f0) ∧ W.cell? ⟨zb + 1 + 1, 1, none⟩ = some (.int .i64 f1)) := Hd fun W hW => ⟨(hc1.on hW).at_ 0 _ rfl, (hc2.on hW).at_ 0 _ rfl, (hc2.on hW).at_ 1 _ rfl, (hc3.on hW).at_ 0 _ rfl, (hc3.on hW).at_ 1 _ rfl⟩
 have HB1 := Hd hb1
 have HBW : Hid (∀ W, Below w1.heap.size w1 W → Below w.heap.size w W) := Hd fun W hW => hb1.trans (hW.mono hb1.size)
 have HFSL : Hid (∀ W, Below w1.heap.size w1 W → SlR 11 240 RFunc W w.heap.size FA fn fc fs) := Hd fun W hW => SlR.keep stable_Func hfs fun p hp => (hb1.trans (hW.mono hb1.size)).cell hp
 have HAR : Hid (∀ W, Below w1.heap.size w1 W → SlI W W.heap.size AA an ac ags ∧ SlI W W.heap.size DA dn dc ds) := Hd fun W hW => ⟨(sli_of har).on (hb1.trans (hW.mono hb1.size)), (sli_of hdr).on (hb1.trans (hW.mono hb1.size))⟩
 have HLN : Hid (fs.length = fn) := Hd hfs.1
 have HE1 := Hd hw1
 obtain ⟨p0, p1, p2, p3, p4⟩ := EP.out w1 (Below.refl _ _)
 obtain ⟨wd, hwd⟩ : ∃ X, w1.drew = X := ⟨_, rfl⟩
 have HWD := Hd hwd
 have HBD : Hid (Below w1.heap.size w1 wd) := Hd (by rw [← hwd]; exact (Below.refl _ _).drew)
 obtain ⟨ls, hls⟩ : ∃ v, min f0 f1 = v := ⟨_, rfl⟩
 obtain ⟨mr, hmr⟩ : ∃ v, max f0 f1 = v := ⟨_, rfl⟩
 have cSm := Hd (plain29_any w.heap.size FA fn fc fs AA an ac DA dn dc wd (HFSL.out wd HBD.out) (Nat.le_trans hb1.size HBD.out.size) (by have := har.2.2.2.1; unfold reachBytes at this; omega) (by have := hdr.2.2.2.1; unfold reachBytes at this; omega))
 have he1 : (if f1 < f0 then f1 else f0) = ls := by rw [← hls]; split <;> omega
 have he2 : (if f0 < f1 then f1 else f0) = mr := by rw [← hmr]; split <;> omega
 have HLM : Hid (ls ≤ mr) := Hd (by omega)
 clear hb1 hc1 hc2 hc3 hfs har hdr e0 e1 e2 hw1 hls hmr wf0 wf1 hwd
 go_in
 go_wp2_with fail
 rw [HE1.out]
 go_region
 try rw [he1, he2]
 rw [HWD.out]
 clear he1 he2 p0 p1 p2 p3 p4
 obtain ⟨p0, p1, p2, p3, p4⟩ := EP.out wd HBD.out
 go_simp
 go_wp2_with fail
 refine cSm.out.mono ?_
 rintro e w4 ⟨r, rfl, hr, hb2⟩
 have HR := Hd hr
 have HB4 : Hid (Below w1.heap.size w1 w4) := Hd (HBD.out.trans (hb2.mono HBD.out.size))
 clear hr hb2 cSm p0 p1 p2 p3 p4 HE1
 obtain ⟨p0, p1, p2, p3, p4⟩ := EP.out w4 HB4.out
 cases r with
 | false =>
  go_wp2_with fail
  refine (cl.out _).mono ?_
  rintro e w9 ⟨rfl, hb9⟩
  have HB9 : Hid (Below w.heap.size w w9) := Hd (HBW.out _ (HB4.out.trans (hb9.mono HB4.out.size)))
  clear hb9
  go_wp2_with fail
  go_ret
  exact ⟨rfl, HB9.out⟩
 | true =>
  by_cases hm : mr ≤ 1500
  ·have t1 : decide (mr > 1500) = false := dcF (by omega)
   have t1b : decide (1500 < mr) = false := dcF (by omega)
   have HINP : Hid (∀ W, Below w1.heap.size w1 W → InpW W FA fn fc AA an ac DA dn dc fs ags ds) := Hd fun W hW => by
    obtain ⟨h1, ⟨h2, h3⟩, h4, h5⟩ := HR.out rfl
    have := HLN.out
    exact ⟨h1, ⟨⟨⟨w.heap.size, (HBW.out W hW).size, HFSL.out W hW⟩, h3, by omega⟩, h1.can⟩, (HAR.out W hW).1, by omega, (HAR.out W hW).2, by omega⟩
   have hlm : ls ≤ 1500 := by have := HLM.out; omega
   have cA : Hid (∀ W, Below w4.heap.size w4 W → Calls Tryz.prog 29 #[.agg #[.slice FA fn fc], .agg #[.slice AA an ac, .slice DA dn dc], .int .i64 ls] W (RunQ W fs ags ds (max ls 0).toNat)) := Hd fun W hW => runQ_any ls (HINP.out W (HB4.out.trans (hW.mono HB4.out.size))) hlm
   have cB : Hid (∀ W, Below w4.heap.size w4 W → Calls Tryz.prog 29 #[.agg #[.slice FA fn fc], .agg #[.slice AA an ac, .slice DA dn dc], .int .i64 mr] W (RunQ W fs ags ds (max mr 0).toNat)) := Hd fun W hW => runQ_any mr (HINP.out W (HB4.out.trans (hW.mono HB4.out.size))) hm
   have EP4 : Hid (∀ W, Below w4.heap.size w4 W → W.cell? ⟨zb, 0, none⟩ = some (.slice FA fn fc) ∧ W.cell? ⟨zb + 1, 0, none⟩ = some (.slice AA an ac) ∧ W.cell? ⟨zb + 1, 1, none⟩ = some (.slice DA dn dc)) := Hd fun W hW => by
    obtain ⟨a0, a1, a2, _⟩ := EP.out W (HB4.out.trans (hW.mono HB4.out.size))
    exact ⟨a0, a1, a2⟩
   clear HR hm hlm
   go_wp2_with fail
   clear p0 p1 p2 p3 p4 t1 t1b
   refine wp_region_held (S := fun W => Below w4.heap.size w4 W) (by kernel_rfl) ?_
   change wpAnyH _ _ _ _ _ _ _ _ (World.drew _)
   have hS0 : Below w4.heap.size w4 w4.drew := (Below.refl _ _).drew
   refine tkH 0 rfl (by intro W hW; obtain ⟨q0, q1, q2⟩ := EP4.out W hW; go_simp; first | done | exact rfl) hS0 ?_
   try go_simp
   refine tkH 1 rfl (by intro W hW; obtain ⟨q0, q1, q2⟩ := EP4.out W hW; go_simp; first | done | exact rfl) hS0 ?_
   try go_simp
   refine tkH 2 rfl (by intro W hW; obtain ⟨q0, q1, q2⟩ := EP4.out W hW; go_simp; first | done | exact rfl) hS0 ?_
   try go_simp
   refine tkH 4 rfl (by intro W hW; obtain ⟨q0, q1, q2⟩ := EP4.out W hW; go_simp; first | done | exact rfl) hS0 ?_
   try go_simp
   refine tkH 5 rfl (by intro W hW; obtain ⟨q0, q1, q2⟩ := EP4.out W hW; go_simp; first | done | exact rfl) hS0 ?_
   try go_simp
   refine tkH 6 rfl (by intro W hW; obtain ⟨q0, q1, q2⟩ := EP4.out W hW; go_simp; first | done | exact rfl) hS0 ?_
   try go_simp
   obtain ⟨wd, hwd⟩ : ∃ X, w4.drew = X := ⟨_, rfl⟩
   rw [hwd] at hS0
   rw [hwd]
   clear hwd
   have HQd : Hid (Pr w4 NoP NoP none none none none wd) := Hd (Pr.start hS0)
   clear hS0
   refine (fun (hT : ∀ (ba bb : Nat) (EA : Option Addr) (en : Nat) (ec : Nat) (ek : Int) (RA : Option Addr) (rn : Nat) (rc : Nat) (CA : Option Addr) (cn : Nat) (cc : Nat) (sa : Int) (GA : Option Addr) (gn : Nat) (gc : Nat) (gk : Int) (SA : Option Addr) (sn : Nat) (sc : Nat) (HA : Option Addr) (hn : Nat) (hc : Nat) (sb : Int) (w9 : World), Hid (∃ la lb, Pr w4 (RdP fs ags ds (max ls 0).toNat EA en ec ek RA rn rc CA cn cc sa) (RdP fs ags ds (max mr 0).toNat GA gn gc gk SA sn sc HA hn hc sb) (some ba) (some bb) (some la) (some lb) w9) → (?T : Nat → Nat → Option Addr → Nat → Nat → Int → Option Addr → Nat → Nat → Option Addr → Nat → Nat → Int → Option Addr → Nat → Nat → Int → Option Addr → Nat → Nat → Option Addr → Nat → Nat → Int → World → Prop) ba bb EA en ec ek RA rn rc CA cn cc sa GA gn gc gk SA sn sc HA hn hc sb w9) => ?main) ?tail
   case main =>
    refine oN3 3 8 9 rfl rfl rfl (fun K' hK => ?_) (fun K' hK => ?_) fun K' hK => ?_
    ·go_simp
     refine (cA.out _ HQd.out.pre).mono ?_
     rintro e w11 hb
     obtain ⟨EA, en, ec, ek, RA, rn, rc, CA, cn, cc, sa, rfl, hN, hbl⟩ := hb.get
     have H1 := Hd (HQd.out.cA hbl (QA := RdP fs ags ds (max ls 0).toNat EA en ec ek RA rn rc CA cn cc sa) (fun l hl => by injection hl with hl; subst hl; exact hN) (NoP.on HQd.out.b _ hbl))
     clear hb hN hbl
     go_simp
     refine hK _ _ ⟨H1.out.pre, ?_⟩; clear hK K'
     try go_simp
     refine oN3 7 8 9 rfl rfl rfl (fun K' hK => ?_) (fun K' hK => ?_) fun K' hK => ?_
     ·go_simp
      refine (cB.out _ H1.out.pre).mono ?_
      rintro e w12 hb
      obtain ⟨GA, gn, gc, gk, SA, sn, sc, HA, hn, hc, sb, rfl, hN, hbl⟩ := hb.get
      have H2 := Hd (H1.out.cB hbl (QB := RdP fs ags ds (max mr 0).toNat GA gn gc gk SA sn sc HA hn hc sb) (RdP.on H1.out.a _ hbl) (fun l hl => by injection hl with hl; subst hl; exact hN))
      clear hb hN hbl
      go_simp
      refine hK _ _ ⟨H2.out.pre, ?_⟩; clear hK K'
      try go_simp
      refine oN2 8 9 rfl rfl (fun K' hK => ?_) fun K' hK => ?_
      ·obtain ⟨w13, g3, hw, hg, H3⟩ := Pr.m8x H2 (RdP.on H2.out.a) (RdP.on H2.out.b)
       go_simp
       refine hK _ _ ⟨H3.out.pre, ?_⟩; clear hK K' hw hg
       try go_simp
       refine oN1 9 rfl fun K' hK => ?_
       obtain ⟨w14, g4, hw, hg, H4⟩ := Pr.m9x H3 (RdP.on H3.out.a) (RdP.on H3.out.b)
       go_simp
       refine hK _ _ ⟨H4.out.pre, ?_⟩; clear hK K' hw hg
       try go_simp
       exact hT g3 g4 EA en ec ek RA rn rc CA cn cc sa GA gn gc gk SA sn sc HA hn hc sb w14 (Hd ⟨_, _, H4.out⟩)
      ·obtain ⟨w15, g5, hw, hg, H5⟩ := Pr.m9x H2 (RdP.on H2.out.a) (RdP.on H2.out.b)
       go_simp
       refine hK _ _ ⟨H5.out.pre, ?_⟩; clear hK K' hw hg
       try go_simp
       refine oN1 8 rfl fun K' hK => ?_
       obtain ⟨w16, g6, hw, hg, H6⟩ := Pr.m8x H5 (RdP.on H5.out.a) (RdP.on H5.out.b)
       go_simp
       refine hK _ _ ⟨H6.out.pre, ?_⟩; clear hK K' hw hg
       try go_simp
       exact hT g6 g5 EA en ec ek RA rn rc CA cn cc sa GA gn gc gk SA sn sc HA hn hc sb w16 (Hd ⟨_, _, H6.out⟩)
     ·obtain ⟨w17, g7, hw, hg, H7⟩ := Pr.m8x H1 (RdP.on H1.out.a) (NoP.on H1.out.b)
      go_simp
      refine hK _ _ ⟨H7.out.pre, ?_⟩; clear hK K' hw hg
      try go_simp
      refine oN2 7 9 rfl rfl (fun K' hK => ?_) fun K' hK => ?_
      ·go_simp
       refine (cB.out _ H7.out.pre).mono ?_
       rintro e w18 hb
       obtain ⟨GA, gn, gc, gk, SA, sn, sc, HA, hn, hc, sb, rfl, hN, hbl⟩ := hb.get
       have H8 := Hd (H7.out.cB hbl (QB := RdP fs ags ds (max mr 0).toNat GA gn gc gk SA sn sc HA hn hc sb) (RdP.on H7.out.a _ hbl) (fun l hl => by injection hl with hl; subst hl; exact hN))
       clear hb hN hbl
       go_simp
       refine hK _ _ ⟨H8.out.pre, ?_⟩; clear hK K'
       try go_simp
       refine oN1 9 rfl fun K' hK => ?_
       obtain ⟨w19, g9, hw, hg, H9⟩ := Pr.m9x H8 (RdP.on H8.out.a) (RdP.on H8.out.b)
       go_simp
       refine hK _ _ ⟨H9.out.pre, ?_⟩; clear hK K' hw hg
       try go_simp
       exact hT g7 g9 EA en ec ek RA rn rc CA cn cc sa GA gn gc gk SA sn sc HA hn hc sb w19 (Hd ⟨_, _, H9.out⟩)
      ·obtain ⟨w20, g10, hw, hg, H10⟩ := Pr.m9x H7 (RdP.on H7.out.a) (NoP.on H7.out.b)
       go_simp
       refine hK _ _ ⟨H10.out.pre, ?_⟩; clear hK K' hw hg
       try go_simp
       refine oN1 7 rfl fun K' hK => ?_
       go_simp
       refine (cB.out _ H10.out.pre).mono ?_
       rintro e w21 hb
       obtain ⟨GA, gn, gc, gk, SA, sn, sc, HA, hn, hc, sb, rfl, hN, hbl⟩ := hb.get
       have H11 := Hd (H10.out.cB hbl (QB := RdP fs ags ds (max mr 0).toNat GA gn gc gk SA sn sc HA hn hc sb) (RdP.on H10.out.a _ hbl) (fun l hl => by injection hl with hl; subst hl; exact hN))
       clear hb hN hbl
       go_simp
       refine hK _ _ ⟨H11.out.pre, ?_⟩; clear hK K'
       try go_simp
       exact hT g7 g10 EA en ec ek RA rn rc CA cn cc sa GA gn gc gk SA sn sc HA hn hc sb w21 (Hd ⟨_, _, H11.out⟩)
     ·obtain ⟨w22, g12, hw, hg, H12⟩ := Pr.m9x H1 (RdP.on H1.out.a) (NoP.on H1.out.b)
      go_simp
      refine hK _ _ ⟨H12.out.pre, ?_⟩; clear hK K' hw hg
      try go_simp
      refine oN2 7 8 rfl rfl (fun K' hK => ?_) fun K' hK => ?_
      ·go_simp
       refine (cB.out _ H12.out.pre).mono ?_
       rintro e w23 hb
       obtain ⟨GA, gn, gc, gk, SA, sn, sc, HA, hn, hc, sb, rfl, hN, hbl⟩ := hb.get
       have H13 := Hd (H12.out.cB hbl (QB := RdP fs ags ds (max mr 0).toNat GA gn gc gk SA sn sc HA hn hc sb) (RdP.on H12.out.a _ hbl) (fun l hl => by injection hl with hl; subst hl; exact hN))
       clear hb hN hbl
       go_simp
       refine hK _ _ ⟨H13.out.pre, ?_⟩; clear hK K'
       try go_simp
       refine oN1 8 rfl fun K' hK => ?_
       obtain ⟨w24, g14, hw, hg, H14⟩ := Pr.m8x H13 (RdP.on H13.out.a) (RdP.on H13.out.b)
       go_simp
       refine hK _ _ ⟨H14.out.pre, ?_⟩; clear hK K' hw hg
       try go_simp
       exact hT g14 g12 EA en ec ek RA rn rc CA cn cc sa GA gn gc gk SA sn sc HA hn hc sb w24 (Hd ⟨_, _, H14.out⟩)
      ·obtain ⟨w25, g15, hw, hg, H15⟩ := Pr.m8x H12 (RdP.on H12.out.a) (NoP.on H12.out.b)
       go_simp
       refine hK _ _ ⟨H15.out.pre, ?_⟩; clear hK K' hw hg
       try go_simp
       refine oN1 7 rfl fun K' hK => ?_
       go_simp
       refine (cB.out _ H15.out.pre).mono ?_
       rintro e w26 hb
       obtain ⟨GA, gn, gc, gk, SA, sn, sc, HA, hn, hc, sb, rfl, hN, hbl⟩ := hb.get
       have H16 := Hd (H15.out.cB hbl (QB := RdP fs ags ds (max mr 0).toNat GA gn gc gk SA sn sc HA hn hc sb) (RdP.on H15.out.a _ hbl) (fun l hl => by injection hl with hl; subst hl; exact hN))
       clear hb hN hbl
       go_simp
       refine hK _ _ ⟨H16.out.pre, ?_⟩; clear hK K'
       try go_simp
       exact hT g15 g12 EA en ec ek RA rn rc CA cn cc sa GA gn gc gk SA sn sc HA hn hc sb w26 (Hd ⟨_, _, H16.out⟩)
    ·obtain ⟨w27, g17, hw, hg, H17⟩ := Pr.m8x HQd (NoP.on HQd.out.a) (NoP.on HQd.out.b)
     go_simp
     refine hK _ _ ⟨H17.out.pre, ?_⟩; clear hK K' hw hg
     try go_simp
     refine oN2 3 9 rfl rfl (fun K' hK => ?_) fun K' hK => ?_
     ·go_simp
      refine (cA.out _ H17.out.pre).mono ?_
      rintro e w28 hb
      obtain ⟨EA, en, ec, ek, RA, rn, rc, CA, cn, cc, sa, rfl, hN, hbl⟩ := hb.get
      have H18 := Hd (H17.out.cA hbl (QA := RdP fs ags ds (max ls 0).toNat EA en ec ek RA rn rc CA cn cc sa) (fun l hl => by injection hl with hl; subst hl; exact hN) (NoP.on H17.out.b _ hbl))
      clear hb hN hbl
      go_simp
      refine hK _ _ ⟨H18.out.pre, ?_⟩; clear hK K'
      try go_simp
      refine oN2 7 9 rfl rfl (fun K' hK => ?_) fun K' hK => ?_
      ·go_simp
       refine (cB.out _ H18.out.pre).mono ?_
       rintro e w29 hb
       obtain ⟨GA, gn, gc, gk, SA, sn, sc, HA, hn, hc, sb, rfl, hN, hbl⟩ := hb.get
       have H19 := Hd (H18.out.cB hbl (QB := RdP fs ags ds (max mr 0).toNat GA gn gc gk SA sn sc HA hn hc sb) (RdP.on H18.out.a _ hbl) (fun l hl => by injection hl with hl; subst hl; exact hN))
       clear hb hN hbl
       go_simp
       refine hK _ _ ⟨H19.out.pre, ?_⟩; clear hK K'
       try go_simp
       refine oN1 9 rfl fun K' hK => ?_
       obtain ⟨w30, g20, hw, hg, H20⟩ := Pr.m9x H19 (RdP.on H19.out.a) (RdP.on H19.out.b)
       go_simp
       refine hK _ _ ⟨H20.out.pre, ?_⟩; clear hK K' hw hg
       try go_simp
       exact hT g17 g20 EA en ec ek RA rn rc CA cn cc sa GA gn gc gk SA sn sc HA hn hc sb w30 (Hd ⟨_, _, H20.out⟩)
      ·obtain ⟨w31, g21, hw, hg, H21⟩ := Pr.m9x H18 (RdP.on H18.out.a) (NoP.on H18.out.b)
       go_simp
       refine hK _ _ ⟨H21.out.pre, ?_⟩; clear hK K' hw hg
       try go_simp
       refine oN1 7 rfl fun K' hK => ?_
       go_simp
       refine (cB.out _ H21.out.pre).mono ?_
       rintro e w32 hb
       obtain ⟨GA, gn, gc, gk, SA, sn, sc, HA, hn, hc, sb, rfl, hN, hbl⟩ := hb.get
       have H22 := Hd (H21.out.cB hbl (QB := RdP fs ags ds (max mr 0).toNat GA gn gc gk SA sn sc HA hn hc sb) (RdP.on H21.out.a _ hbl) (fun l hl => by injection hl with hl; subst hl; exact hN))
       clear hb hN hbl
       go_simp
       refine hK _ _ ⟨H22.out.pre, ?_⟩; clear hK K'
       try go_simp
       exact hT g17 g21 EA en ec ek RA rn rc CA cn cc sa GA gn gc gk SA sn sc HA hn hc sb w32 (Hd ⟨_, _, H22.out⟩)
     ·obtain ⟨w33, g23, hw, hg, H23⟩ := Pr.m9x H17 (NoP.on H17.out.a) (NoP.on H17.out.b)
      go_simp
      refine hK _ _ ⟨H23.out.pre, ?_⟩; clear hK K' hw hg
      try go_simp
      refine oN1 3 rfl fun K' hK => ?_
      go_simp
      refine (cA.out _ H23.out.pre).mono ?_
      rintro e w34 hb
      obtain ⟨EA, en, ec, ek, RA, rn, rc, CA, cn, cc, sa, rfl, hN, hbl⟩ := hb.get
      have H24 := Hd (H23.out.cA hbl (QA := RdP fs ags ds (max ls 0).toNat EA en ec ek RA rn rc CA cn cc sa) (fun l hl => by injection hl with hl; subst hl; exact hN) (NoP.on H23.out.b _ hbl))
      clear hb hN hbl
      go_simp
      refine hK _ _ ⟨H24.out.pre, ?_⟩; clear hK K'
      try go_simp
      refine oN1 7 rfl fun K' hK => ?_
      go_simp
      refine (cB.out _ H24.out.pre).mono ?_
      rintro e w35 hb
      obtain ⟨GA, gn, gc, gk, SA, sn, sc, HA, hn, hc, sb, rfl, hN, hbl⟩ := hb.get
      have H25 := Hd (H24.out.cB hbl (QB := RdP fs ags ds (max mr 0).toNat GA gn gc gk SA sn sc HA hn hc sb) (RdP.on H24.out.a _ hbl) (fun l hl => by injection hl with hl; subst hl; exact hN))
      clear hb hN hbl
      go_simp
      refine hK _ _ ⟨H25.out.pre, ?_⟩; clear hK K'
      try go_simp
      exact hT g17 g23 EA en ec ek RA rn rc CA cn cc sa GA gn gc gk SA sn sc HA hn hc sb w35 (Hd ⟨_, _, H25.out⟩)
    ·obtain ⟨w36, g26, hw, hg, H26⟩ := Pr.m9x HQd (NoP.on HQd.out.a) (NoP.on HQd.out.b)
     go_simp
     refine hK _ _ ⟨H26.out.pre, ?_⟩; clear hK K' hw hg
     try go_simp
     refine oN2 3 8 rfl rfl (fun K' hK => ?_) fun K' hK => ?_
     ·go_simp
      refine (cA.out _ H26.out.pre).mono ?_
      rintro e w37 hb
      obtain ⟨EA, en, ec, ek, RA, rn, rc, CA, cn, cc, sa, rfl, hN, hbl⟩ := hb.get
      have H27 := Hd (H26.out.cA hbl (QA := RdP fs ags ds (max ls 0).toNat EA en ec ek RA rn rc CA cn cc sa) (fun l hl => by injection hl with hl; subst hl; exact hN) (NoP.on H26.out.b _ hbl))
      clear hb hN hbl
      go_simp
      refine hK _ _ ⟨H27.out.pre, ?_⟩; clear hK K'
      try go_simp
      refine oN2 7 8 rfl rfl (fun K' hK => ?_) fun K' hK => ?_
      ·go_simp
       refine (cB.out _ H27.out.pre).mono ?_
       rintro e w38 hb
       obtain ⟨GA, gn, gc, gk, SA, sn, sc, HA, hn, hc, sb, rfl, hN, hbl⟩ := hb.get
       have H28 := Hd (H27.out.cB hbl (QB := RdP fs ags ds (max mr 0).toNat GA gn gc gk SA sn sc HA hn hc sb) (RdP.on H27.out.a _ hbl) (fun l hl => by injection hl with hl; subst hl; exact hN))
       clear hb hN hbl
       go_simp
       refine hK _ _ ⟨H28.out.pre, ?_⟩; clear hK K'
       try go_simp
       refine oN1 8 rfl fun K' hK => ?_
       obtain ⟨w39, g29, hw, hg, H29⟩ := Pr.m8x H28 (RdP.on H28.out.a) (RdP.on H28.out.b)
       go_simp
       refine hK _ _ ⟨H29.out.pre, ?_⟩; clear hK K' hw hg
       try go_simp
       exact hT g29 g26 EA en ec ek RA rn rc CA cn cc sa GA gn gc gk SA sn sc HA hn hc sb w39 (Hd ⟨_, _, H29.out⟩)
      ·obtain ⟨w40, g30, hw, hg, H30⟩ := Pr.m8x H27 (RdP.on H27.out.a) (NoP.on H27.out.b)
       go_simp
       refine hK _ _ ⟨H30.out.pre, ?_⟩; clear hK K' hw hg
       try go_simp
       refine oN1 7 rfl fun K' hK => ?_
       go_simp
       refine (cB.out _ H30.out.pre).mono ?_
       rintro e w41 hb
       obtain ⟨GA, gn, gc, gk, SA, sn, sc, HA, hn, hc, sb, rfl, hN, hbl⟩ := hb.get
       have H31 := Hd (H30.out.cB hbl (QB := RdP fs ags ds (max mr 0).toNat GA gn gc gk SA sn sc HA hn hc sb) (RdP.on H30.out.a _ hbl) (fun l hl => by injection hl with hl; subst hl; exact hN))
       clear hb hN hbl
       go_simp
       refine hK _ _ ⟨H31.out.pre, ?_⟩; clear hK K'
       try go_simp
       exact hT g30 g26 EA en ec ek RA rn rc CA cn cc sa GA gn gc gk SA sn sc HA hn hc sb w41 (Hd ⟨_, _, H31.out⟩)
     ·obtain ⟨w42, g32, hw, hg, H32⟩ := Pr.m8x H26 (NoP.on H26.out.a) (NoP.on H26.out.b)
      go_simp
      refine hK _ _ ⟨H32.out.pre, ?_⟩; clear hK K' hw hg
      try go_simp
      refine oN1 3 rfl fun K' hK => ?_
      go_simp
      refine (cA.out _ H32.out.pre).mono ?_
      rintro e w43 hb
      obtain ⟨EA, en, ec, ek, RA, rn, rc, CA, cn, cc, sa, rfl, hN, hbl⟩ := hb.get
      have H33 := Hd (H32.out.cA hbl (QA := RdP fs ags ds (max ls 0).toNat EA en ec ek RA rn rc CA cn cc sa) (fun l hl => by injection hl with hl; subst hl; exact hN) (NoP.on H32.out.b _ hbl))
      clear hb hN hbl
      go_simp
      refine hK _ _ ⟨H33.out.pre, ?_⟩; clear hK K'
      try go_simp
      refine oN1 7 rfl fun K' hK => ?_
      go_simp
      refine (cB.out _ H33.out.pre).mono ?_
      rintro e w44 hb
      obtain ⟨GA, gn, gc, gk, SA, sn, sc, HA, hn, hc, sb, rfl, hN, hbl⟩ := hb.get
      have H34 := Hd (H33.out.cB hbl (QB := RdP fs ags ds (max mr 0).toNat GA gn gc gk SA sn sc HA hn hc sb) (RdP.on H33.out.a _ hbl) (fun l hl => by injection hl with hl; subst hl; exact hN))
      clear hb hN hbl
      go_simp
      refine hK _ _ ⟨H34.out.pre, ?_⟩; clear hK K'
      try go_simp
      exact hT g32 g26 EA en ec ek RA rn rc CA cn cc sa GA gn gc gk SA sn sc HA hn hc sb w44 (Hd ⟨_, _, H34.out⟩)
   case tail =>
    intro ba bb EA en ec ek RA rn rc CA cn cc sa GA gn gc gk SA sn sc HA hn hc sb w9 H9
    clear cA cB HQd 
    obtain ⟨la, lb, h9⟩ := H9.out
    have hx := (h9.c8 ba rfl).1
    have hy := (h9.c9 bb rfl).1
    have hxs := (h9.c8 ba rfl).2
    have hys := (h9.c9 bb rfl).2
    have hne := h9.ne ba bb rfl rfl
    have hpre := h9.pre
    obtain ⟨ua, rla, cha, esa, hua⟩ := h9.a la rfl
    obtain ⟨ub, rlb, chb, esb, hub⟩ := h9.b lb rfl
    have a8 := h9.a8 la ba rfl rfl
    have a9 := h9.a9 la bb rfl rfl
    have b8 := h9.b8 lb ba rfl rfl
    have b9 := h9.b9 lb bb rfl rfl
    clear h9 H9
    obtain ⟨wx, hwx⟩ : ∃ X, set5r w9 ba (.slice EA en ec) (.int .i64 ek) (.slice RA rn rc) (.slice CA cn cc) (.int .i64 sa) = X := ⟨_, rfl⟩
    obtain ⟨wz, hwz⟩ : ∃ X, set5r wx bb (.slice GA gn gc) (.int .i64 gk) (.slice SA sn sc) (.slice HA hn hc) (.int .i64 sb) = X := ⟨_, rfl⟩
    have hkx : Kp (fun j => j = ba) w9 wx := by rw [← hwx]; exact kp_set5r _ _ _ _ _ _ _
    have hkz : Kp (fun j => j = bb) wx wz := by rw [← hwz]; exact kp_set5r _ _ _ _ _ _ _
    have hprx : Below w4.heap.size w4 wx := by rw [← hwx]; exact bl_set5r hpre hxs
    have hprz : Below w4.heap.size w4 wz := by rw [← hwz]; exact bl_set5r hprx hys
    have hcx : Cells wz ba [.slice EA en ec, .int .i64 ek, .slice RA rn rc, .slice CA cn cc, .int .i64 sa] := Cells.kp (by rw [← hwx]; exact cells_set5r hx.c) hkz hne
    have hyx : NBox wx bb := hy.kp hkx (fun e => hne e.symm)
    have hcy : Cells wz bb [.slice GA gn gc, .int .i64 gk, .slice SA sn sc, .slice HA hn hc, .int .i64 sb] := by rw [← hwz]; exact cells_set5r hyx.c
    have hsx : wx.heap.size = w9.heap.size := by rw [← hwx]; simp [World.setCell]
    have hsz : wz.heap.size = wx.heap.size := by rw [← hwz]; simp [World.setCell]
    have HA9 := Hd ((hua.far hx hkx hsx a8).far hyx hkz hsz a9)
    have HB9 := Hd ((hub.far hx hkx hsx b8).far hyx hkz hsz b9)
    have HCX := Hd hcx
    have HCY := Hd hcy
    have HPZ := Hd hprz
    have HZX := Hd hyx
    have HES := Hd (And.intro esa esb)
    have x0 := hx.c.at_ 0 _ rfl
    have x1 := hx.c.at_ 1 _ rfl
    have x2 := hx.c.at_ 2 _ rfl
    have x3 := hx.c.at_ 3 _ rfl
    have x4 := hx.c.at_ 4 _ rfl
    have f0 := hx.c.fz 0 (by simp)
    have f1 := hx.c.fz 1 (by simp)
    have f2 := hx.c.fz 2 (by simp)
    have f3 := hx.c.fz 3 (by simp)
    have f4 := hx.c.fz 4 (by simp)
    have HWE := Hd hwz
    clear hx hy hxs hys hua hub a8 a9 b8 b9 hkx hkz hcx hcy hyx hpre hprz hne hwz hsx hsz esa esb
    refine wpAnyH_one (i := 10) (by kernel_rfl) rfl (fun K' hK => ?_)
    go_simp
    refine hK _ _ ⟨hprx, ?_⟩; clear hK K' x0 x1 x2 x3 x4 f0 f1 f2 f3 f4 hwx
    have hwz := HWE.out
    have x0 := HZX.out.c.at_ 0 _ rfl
    have x1 := HZX.out.c.at_ 1 _ rfl
    have x2 := HZX.out.c.at_ 2 _ rfl
    have x3 := HZX.out.c.at_ 3 _ rfl
    have x4 := HZX.out.c.at_ 4 _ rfl
    have f0 := HZX.out.c.fz 0 (by simp)
    have f1 := HZX.out.c.fz 1 (by simp)
    have f2 := HZX.out.c.fz 2 (by simp)
    have f3 := HZX.out.c.fz 3 (by simp)
    have f4 := HZX.out.c.fz 4 (by simp)
    refine wpAnyH_one (i := 11) (by kernel_rfl) rfl (fun K' hK => ?_)
    go_simp
    refine hK _ _ ⟨HPZ.out, ?_⟩; clear hK K' x0 x1 x2 x3 x4 f0 f1 f2 f3 f4 hwz HWE HZX hprx
    refine wpAnyH_done (by kernel_rfl) ?_ _
    try go_simp
    obtain ⟨hm1, hm2⟩ := ends_more (show (max ls 0).toNat ≤ (max mr 0).toNat by have := HLM.out; omega) HA9.out.ends HB9.out.ends
    have HWZ : Hid (∀ W, Below wz.heap.size wz W → Below w.heap.size w W) := Hd fun W hW => HBW.out W (HB4.out.trans ((HPZ.out.mono (Nat.le_refl _)).trans (hW.mono HPZ.out.size) |>.mono HB4.out.size))
    have x0 := HCX.out.at_ 0 _ rfl
    have x1 := HCX.out.at_ 1 _ rfl
    have x2 := HCX.out.at_ 2 _ rfl
    have x3 := HCX.out.at_ 3 _ rfl
    have x4 := HCX.out.at_ 4 _ rfl
    have y0 := HCY.out.at_ 0 _ rfl
    have y1 := HCY.out.at_ 1 _ rfl
    have y2 := HCY.out.at_ 2 _ rfl
    have y3 := HCY.out.at_ 3 _ rfl
    have y4 := HCY.out.at_ 4 _ rfl
    rcases HA9.out.fin.three with ⟨rfl, hn⟩ | hthree
    ·have HPRE := Hd hm2
     obtain ⟨_, hst⟩ := ends_none (HINP.out w1 (Below.refl _ _)).hf HA9.out.ends hn
     have hrn : rn = 0 := by
      have h1 := HA9.out.rs.1
      rcases HA9.out.fin with ⟨_, _, h, _⟩ | ⟨rs, h, _⟩ | ⟨c, h, _⟩
      ·rw [h] at h1; exact h1.symm
      ·rw [hn] at h; cases h
      ·rw [hn] at h; cases h
     subst hrn
     have hsa : sa = max ls 0 := by rw [HES.out.1, hst]; omega
     have cG : Hid (Calls Tryz.prog 32 #[.slice EA en ec, .slice GA gn gc] wz fun e w' => e = .returned (.bool true) ∧ Below wz.heap.size wz w') := Hd (begins_pre HA9.out.ev HB9.out.ev hm2)
     clear hm1 hm2 hn hst
     by_cases h0 : 0 ≤ ls
     ·have hsl : ls = sa := by omega
      clear hsa
      subst hsl
      have h0b : max ls 0 = ls := by omega
      go_wp2_with fail
      refine cG.out.mono ?_
      rintro e w6 ⟨rfl, hb6⟩
      have HB6 := Hd hb6
      have hc := HCX.out.on hb6
      clear x0 x1 x2 x3 x4 y0 y1 y2 y3 y4 hb6 cG
      have x2 := hc.at_ 2 _ rfl
      have x4 := hc.at_ 4 _ rfl
      go_wp2_with fail
      refine (cl.out _).mono ?_
      rintro e w9 ⟨rfl, hb9⟩
      have HB9 : Hid (Below w.heap.size w w9) := Hd (HWZ.out _ (HB6.out.trans (hb9.mono HB6.out.size)))
      clear hb9
      go_wp2_with fail
      go_ret
      exact ⟨rfl, HB9.out⟩
     ·have hsl : sa = 0 := by omega
      clear hsa
      subst hsl
      have h0b : max ls 0 = 0 := by omega
      have h0c : ls < 0 := by omega
      go_wp2_with fail
      refine cG.out.mono ?_
      rintro e w6 ⟨rfl, hb6⟩
      have HB6 := Hd hb6
      have hc := HCX.out.on hb6
      clear x0 x1 x2 x3 x4 y0 y1 y2 y3 y4 hb6 cG
      have x2 := hc.at_ 2 _ rfl
      have x4 := hc.at_ 4 _ rfl
      go_wp2_with fail
      refine (cl.out _).mono ?_
      rintro e w9 ⟨rfl, hb9⟩
      have HB9 : Hid (Below w.heap.size w w9) := Hd (HWZ.out _ (HB6.out.trans (hb9.mono HB6.out.size)))
      clear hb9
      go_wp2_with fail
      go_ret
      exact ⟨rfl, HB9.out⟩
    ·have hn : ua.fin ≠ none := by rcases hthree with ⟨_, h⟩ | ⟨_, h⟩ <;> exact h
     have hek : (ek != 3) = true := by rcases hthree with ⟨rfl, _⟩ | ⟨rfl, _⟩ <;> rfl
     have hub := hm1 hn
     subst hub
     obtain rfl : sb = sa := HES.out.2.trans HES.out.1.symm
     have cG := Hd (runs_same HA9.out HB9.out sb)
     clear hm1 hm2 hn hthree
     go_wp2_with fail
     refine cG.out.mono ?_
     rintro e w6 ⟨rfl, hb6⟩
     have HB6 := Hd hb6
     have hc := HCX.out.on hb6
     have hd := HCY.out.on hb6
     clear x0 x1 x2 x3 x4 y0 y1 y2 y3 y4 hb6 cG
     have x4 := hc.at_ 4 _ rfl
     have y4 := hd.at_ 4 _ rfl
     go_wp2_with fail
     refine (cl.out _).mono ?_
     rintro e w9 ⟨rfl, hb9⟩
     have HB9 : Hid (Below w.heap.size w w9) := Hd (HWZ.out _ (HB6.out.trans (hb9.mono HB6.out.size)))
     clear hb9
     go_wp2_with fail
     go_ret
     exact ⟨rfl, HB9.out⟩
  ·have t1 : decide (mr > 1500) = true := dcT (by omega)
   have t1b : decide (1500 < mr) = true := dcT (by omega)
   go_wp2_with fail
   refine (cl.out _).mono ?_
   rintro e w9 ⟨rfl, hb9⟩
   have HB9 : Hid (Below w.heap.size w w9) := Hd (HBW.out _ (HB4.out.trans (hb9.mono HB4.out.size)))
   clear hb9
   go_wp2_with fail
   go_ret
   exact ⟨rfl, HB9.out⟩
end Go.Proofs.YtobmjnmcjddhcaaGreat
