/-
  Order: the walk of OrderOf.
-/
import Derived.Test.YtnfoahcdmaphnaaOt6
import Derived.Test.YtnfoahcdmaphnaaGs9
namespace Go.Proofs.Ytnfoahcdmaphnaa
open Go.RowKit
set_option linter.unusedSimpArgs false
set_option linter.unusedVariables false
theorem nil_ints (W : World) : SlI W W.heap.size none 0 0 [] := ⟨rfl, Nat.le_refl _, by unfold maxLen; omega, by simp, fun h => by omega⟩
set_option maxRecDepth 100000 in
set_option maxHeartbeats 16000000 in
theorem orderOf_walk (cs0 : Array Value) (x0 : DProgram) (SA : Option Addr) (sn sc : Nat) (l : List DSite) (w : World) (h0 : RProgram w w.heap.size cs0.toList x0) (h1 : SlR 2 16 RSite w w.heap.size SA sn sc l) :
    Calls Try.prog 3 #[.agg cs0, .slice SA sn sc] w fun e w' => e = .returned (.bool true) ∧ Below w.heap.size w w' := by
  obtain ⟨FA, fn, fc, e0, hfs⟩ := h0
  have hs := sls_of h1
  obtain rfl : cs0 = #[.slice FA fn fc] := by rw [← Array.toArray_toList (xs := cs0), e0]
  obtain ⟨fs⟩ := x0
  dsimp only at hfs
  have cl := Lib.hid order_lives
  obtain ⟨codes, hco⟩ : ∃ l, fs.map DFunc.code = l := ⟨_, rfl⟩
  obtain ⟨g, hg⟩ : ∃ g, w.heap.size = g := ⟨_, rfl⟩
  obtain ⟨w1, hw1⟩ : ∃ X, w.alloc (.cells #[.slice FA fn fc] 24) = X := ⟨_, rfl⟩
  have x2 : Cells w1 g [.slice FA fn fc] := by rw [← hw1, ← hg]; exact Cells.new w [.slice FA fn fc] _
  have hb1 : Below w.heap.size w w1 := by rw [← hw1]; exact bl_one _
  have EQ : Hid (∀ W, Below w1.heap.size w1 W → W.cell? ⟨g, 0, none⟩ = some (.slice FA fn fc)) := Lib.hid fun W hW => (x2.on hW).at_ 0 _ rfl
  have HB1 := Lib.hid hb1
  have HP : Hid (∀ W, Below w1.heap.size w1 W → PgW W W.heap.size FA fn fc codes) := Lib.hid fun W hW => by rw [← hco]; exact (pgw_of hfs).on (hb1.trans (hW.mono hb1.size))
  have HS : Hid (∀ W, Below w1.heap.size w1 W → SlS W W.heap.size SA sn sc l) := Lib.hid fun W hW => SlS.on hs (hb1.trans (hW.mono hb1.size))
  have HBW : Hid (∀ W, Below w1.heap.size w1 W → Below w.heap.size w W) := Lib.hid fun W hW => hb1.trans (hW.mono hb1.size)
  have cSm := Lib.hid (small16_any w.heap.size FA fn fc fs w1 (SlR.keep stable_Func hfs fun p hp => hb1.cell hp) hb1.size)
  have HSM : Hid (fs.length = fn ∧ codes.length = fn) := Lib.hid ⟨hfs.1, by rw [← hco, List.length_map]; exact hfs.1⟩
  have q0 := EQ.out w1 (Below.refl _ _)
  clear x2 hb1 hfs e0 hco hs h1
  go_enter Try.func3, Try.ntmps3
  go_wp2_with fail
  refine cSm.out.mono ?_
  rintro e w3 ⟨r, rfl, hr, hb3⟩
  have HR := Lib.hid hr
  have HC3 := Lib.hid hb3
  clear hr hb3 cSm q0 hw1 hg
  have hcl : Hid (∀ W, Below w1.heap.size w1 W → Calls Try.prog 6 #[] W fun e w' => e = .returned (.bool true) ∧ Below w.heap.size w w') := Lib.hid fun W hW => (cl.out W).mono (by
    rintro e w' ⟨rfl, hb⟩
    exact ⟨rfl, (HBW.out W hW).trans (hb.mono (HBW.out W hW).size)⟩)
  cases r with
  | false =>
    go_wp2_with fail
    refine (hcl.out w3 HC3.out).mono ?_
    rintro e w4 ⟨rfl, hb4⟩
    go_wp2_with fail
    go_ret
    exact ⟨rfl, hb4⟩
  | true =>
    by_cases hsn : 100 < sn
    · have hsn1 : (100 : Int) < (sn : Int) := by omega
      go_wp2_with fail
      refine (hcl.out w3 HC3.out).mono ?_
      rintro e w4 ⟨rfl, hb4⟩
      go_wp2_with fail
      go_ret
      exact ⟨rfl, hb4⟩
    · have hsn1 : ¬ (100 : Int) < (sn : Int) := by omega
      have hsn' : sn ≤ 100 := by omega
      have hfn : fn ≤ 50 := by have h1 := (HR.out rfl).1; have h2 := HSM.out.1; omega
      have hsn2 : (sn : Int) ≤ 100 := by omega
      have HW3 : Hid (∀ W, Below w3.heap.size w3 W → Below w1.heap.size w1 W) := Lib.hid fun W hW => HC3.out.trans (hW.mono HC3.out.size)
      have EQ3 : Hid (∀ W, Below w3.heap.size w3 W → W.cell? ⟨g, 0, none⟩ = some (.slice FA fn fc)) := Lib.hid fun W hW => EQ.out W (HW3.out W hW)
      have cA : Hid (∀ W, Below w3.heap.size w3 W → Calls Try.prog 7 #[.agg #[.slice FA fn fc], .slice SA sn sc] W (IsTk codes l fn W)) := Lib.hid fun W hW => takes_any FA fn fc codes SA sn sc l W (HP.out W (HW3.out W hW)) (HS.out W (HW3.out W hW)) hfn hsn'
      have cB : Hid (∀ W, Below w3.heap.size w3 W → Calls Try.prog 8 #[.agg #[.slice FA fn fc], .slice SA sn sc] W (IsTk codes l fn W)) := Lib.hid fun W hW => rtakes_any FA fn fc codes SA sn sc l W (HP.out W (HW3.out W hW)) (HS.out W (HW3.out W hW)) hfn hsn'
      have cF : Hid (∀ W, Below w1.heap.size w1 W → Calls Try.prog 10 #[.agg #[.slice FA fn fc], .slice SA sn sc] W (IsOf codes l fn W)) := Lib.hid fun W hW => of_any FA fn fc codes SA sn sc l W (HP.out W hW) (HS.out W hW) hfn hsn'
      have cG : Hid (∀ W, Below w1.heap.size w1 W → Calls Try.prog 11 #[.agg #[.slice FA fn fc], .slice SA sn sc] W (IsOf codes l fn W)) := Lib.hid fun W hW => rof_any FA fn fc codes SA sn sc l W (HP.out W hW) (HS.out W hW) hfn hsn'
      go_wp2_with fail
      refine wp_region_held (S := fun W => Below w3.heap.size w3 W) (by kernel_rfl) ?_
      change wpAnyH _ _ _ _ _ _ _ _ (World.drew _)
      have hS0 : Below w3.heap.size w3 w3.drew := (Below.refl _ _).drew
      refine wpAnyH_take (i := 0) (v := .agg #[.slice FA fn fc]) rfl (by kernel_rfl) (by kernel_rfl) (by kernel_rfl) (fun _ _ _ h => h) (Or.inl ⟨by rfl, by intro W hW; have q0 := EQ3.out W hW; go_simp; try (first | (with_reducible rfl) | omega)⟩) hS0 ?_
      refine wpAnyH_take (i := 1) (v := .slice SA sn sc) rfl (by kernel_rfl) (by kernel_rfl) (by kernel_rfl) (fun _ _ _ h => h) (Or.inl ⟨by rfl, by intro W hW; go_simp; try (first | (with_reducible rfl) | omega)⟩) hS0 ?_
      refine wpAnyH_take (i := 3) (v := .agg #[.slice FA fn fc]) rfl (by kernel_rfl) (by kernel_rfl) (by kernel_rfl) (fun _ _ _ h => h) (Or.inl ⟨by rfl, by intro W hW; have q0 := EQ3.out W hW; go_simp; try (first | (with_reducible rfl) | omega)⟩) hS0 ?_
      refine wpAnyH_take (i := 4) (v := .slice SA sn sc) rfl (by kernel_rfl) (by kernel_rfl) (by kernel_rfl) (fun _ _ _ h => h) (Or.inl ⟨by rfl, by intro W hW; go_simp; try (first | (with_reducible rfl) | omega)⟩) hS0 ?_
      try go_simp
      refine wpAnyH_one (i := 2) (by kernel_rfl) rfl (fun K hK => ?_)
      go_simp
      refine (cA.out _ hS0).mono ?_
      rintro e w4 ⟨A1, c1, rfl, hg1, hb4⟩
      have hS4 : Below w3.heap.size w3 w4 := hS0.trans (hb4.mono (by simp))
      have HG1 := Lib.hid hg1
      clear hb4 hg1
      go_simp
      refine hK _ _ ⟨hS4, ?_⟩; clear hK K
      refine wpAnyH_one (i := 5) (by kernel_rfl) rfl (fun K hK => ?_)
      go_simp
      refine (cB.out _ hS4).mono ?_
      rintro e w5 ⟨A2, c2, rfl, hg2, hb5⟩
      have hS5 : Below w3.heap.size w3 w5 := hS4.trans (hb5.mono hS4.size)
      have HG2 := Lib.hid hg2
      have HG15 : Hid (GrW w5 w5.heap.size A1 fn c1 (takesU codes l fn)) := Lib.hid ((HG1.out.keep hb5).more hb5.size)
      clear hb5 hg2
      go_simp
      refine hK _ _ ⟨hS5, ?_⟩; clear hK K
      refine wpAnyH_one (i := 6) (by kernel_rfl) rfl (fun K hK => ?_)
      go_simp
      refine hK _ _ ⟨hS5, ?_⟩; clear hK K
      refine wpAnyH_one (i := 7) (by kernel_rfl) rfl (fun K hK => ?_)
      go_simp
      refine hK _ _ ⟨hS5, ?_⟩; clear hK K
      try go_simp
      refine wpAnyH_done (by kernel_rfl) ?_ _
      have HC5 : Hid (Below w1.heap.size w1 w5) := Lib.hid (HC3.out.trans (hS5.mono HC3.out.size))
      clear hS0 hS4 hS5 HG1
      go_simp
      have tnn : ((fn : Int) != (fn : Int)) = false := by simp
      go_wp2_with fail
      go_loopw [7] (fun iv wr => ∃ i : Nat, iv = .int .i64 i ∧ i ≤ fn ∧ Hid (Below w5.heap.size w5 wr)) (fun iv _ => fn - (intOf iv).toNat)
      case atStart => exact ⟨0, rfl, Nat.zero_le _, Lib.hid (Below.refl _ _)⟩
      case round =>
        obtain ⟨i, rfl, hi, HK⟩ := hrel
        have hi0 : (0 : Int) ≤ (i : Int) := by omega
        have HKC : Hid (Below w1.heap.size w1 wr) := Lib.hid (HC5.out.trans (HK.out.mono HC5.out.size))
        by_cases hlt : i < fn
        · have hin : (i : Int) < (fn : Int) := by omega
          obtain ⟨b1, o1, Ai, ni, ci, rfl, hbb1, hz1, hr1⟩ := ((HG15.out.keep HK.out).more HK.out.size).row hlt
          obtain ⟨b2, o2, Bi, mi, di, rfl, hbb2, hz2, hr2⟩ := ((HG2.out.keep HK.out).more HK.out.size).row hlt
          obtain rfl : mi = ni := by have e1 := hr1.1; have e2 := hr2.1; omega
          have hni : mi ≤ 60 := by have e1 := hr1.1; have e2 := takesU_small codes l fn i (by have := HSM.out.2; omega); omega
          have HZ1 : Hid (∀ W, Below wr.heap.size wr W → W.cell? ⟨b1, o1 + i, none⟩ = some (.slice Ai mi ci)) := Lib.hid fun W hW => (hW.cell (p := ⟨b1, o1 + i, none⟩) hbb1).trans hz1
          have HZ2 : Hid (∀ W, Below wr.heap.size wr W → W.cell? ⟨b2, o2 + i, none⟩ = some (.slice Bi mi di)) := Lib.hid fun W hW => (hW.cell (p := ⟨b2, o2 + i, none⟩) hbb2).trans hz2
          have hbd : Below wr.heap.size wr wr.drew := (Below.refl _ _).drew
          have cE := Lib.hid (ints_same mi ci di Ai Bi _ wr.drew (hr1.keep hbd (Nat.le_refl _)) (hr2.keep hbd (Nat.le_refl _)) (by omega))
          clear hz1 hz2 hr1 hr2 hbd
          go_wp2_with fail
          refine wp_region_held (S := fun W => Below wr.heap.size wr W) (by kernel_rfl) ?_
          change wpAnyH _ _ _ _ _ _ _ _ (World.drew _)
          have hS0 : Below wr.heap.size wr wr.drew := (Below.refl _ _).drew
          refine wpAnyH_take (i := 0) (v := .slice (some ⟨b1, o1, none⟩) fn c1) rfl (by kernel_rfl) (by kernel_rfl) (by kernel_rfl) (fun _ _ _ h => h) (Or.inl ⟨by rfl, by intro W hW; go_simp; try (first | (with_reducible rfl) | omega)⟩) hS0 ?_
          refine wpAnyH_take (i := 1) (v := .int .i64 (i : Int)) rfl (by kernel_rfl) (by kernel_rfl) (by kernel_rfl) (fun _ _ _ h => h) (Or.inl ⟨by rfl, by intro W hW; go_simp; try (first | (with_reducible rfl) | omega)⟩) hS0 ?_
          refine wpAnyH_take (i := 4) (v := .slice (some ⟨b2, o2, none⟩) fn c2) rfl (by kernel_rfl) (by kernel_rfl) (by kernel_rfl) (fun _ _ _ h => h) (Or.inl ⟨by rfl, by intro W hW; go_simp; try (first | (with_reducible rfl) | omega)⟩) hS0 ?_
          refine wpAnyH_take (i := 5) (v := .int .i64 (i : Int)) rfl (by kernel_rfl) (by kernel_rfl) (by kernel_rfl) (fun _ _ _ h => h) (Or.inl ⟨by rfl, by intro W hW; go_simp; try (first | (with_reducible rfl) | omega)⟩) hS0 ?_
          try go_simp
          refine wpAnyH_take (i := 2) (v := .pointer (some ⟨b1, o1 + i, none⟩)) rfl (by kernel_rfl) (by kernel_rfl) (by kernel_rfl) (fun _ _ _ h => h) (Or.inl ⟨by rfl, by intro W hW; go_simp; try (first | (with_reducible rfl) | omega)⟩) hS0 ?_
          refine wpAnyH_take (i := 6) (v := .pointer (some ⟨b2, o2 + i, none⟩)) rfl (by kernel_rfl) (by kernel_rfl) (by kernel_rfl) (fun _ _ _ h => h) (Or.inl ⟨by rfl, by intro W hW; go_simp; try (first | (with_reducible rfl) | omega)⟩) hS0 ?_
          try go_simp
          refine wpAnyH_take (i := 3) (v := .slice Ai mi ci) rfl (by kernel_rfl) (by kernel_rfl) (by kernel_rfl) (fun _ _ _ h => h) (Or.inl ⟨by rfl, by intro W hW; have q3 := HZ1.out W hW; go_simp; try (first | (with_reducible rfl) | omega)⟩) hS0 ?_
          refine wpAnyH_take (i := 7) (v := .slice Bi mi di) rfl (by kernel_rfl) (by kernel_rfl) (by kernel_rfl) (fun _ _ _ h => h) (Or.inl ⟨by rfl, by intro W hW; have q3 := HZ2.out W hW; go_simp; try (first | (with_reducible rfl) | omega)⟩) hS0 ?_
          try go_simp
          refine wpAnyH_one (i := 8) (by kernel_rfl) rfl (fun K hK => ?_)
          go_simp
          refine (cE.out).mono ?_
          rintro e w6 ⟨rfl, hb6⟩
          have hS6 : Below wr.heap.size wr w6 := hS0.trans (hb6.mono (by simp))
          clear hb6
          go_simp
          refine hK _ _ ⟨hS6, ?_⟩; clear hK K
          refine wpAnyH_one (i := 9) (by kernel_rfl) rfl (fun K hK => ?_)
          go_simp
          refine hK _ _ ⟨hS6, ?_⟩; clear hK K
          try go_simp
          refine wpAnyH_done (by kernel_rfl) ?_ _
          have HK6 : Hid (Below w5.heap.size w5 w6) := Lib.hid (HK.out.trans (hS6.mono HK.out.size))
          clear hS0 hS6
          go_simp
          go_wp2_with fail
          go_roundw
          case rel => exact ⟨i + 1, by go_num, by omega, HK6⟩
          case measure => simp [intOf]; omega
        · obtain rfl : i = fn := by omega
          have q0 := EQ.out wr HKC.out
          have cX := Lib.hid (cF.out wr HKC.out)
          go_wp2_with fail
          refine cX.out.mono ?_
          rintro e w6 h6
          have H6 := Lib.hid h6
          have hb6 : Below wr.heap.size wr w6 := by
            rcases h6 with ⟨_, _, hb⟩ | ⟨_, _, _, _, _, _, _, _, _, _, _, _, hb⟩
            · exact hb
            · exact hb
          have HC6 : Hid (Below w1.heap.size w1 w6) := Lib.hid (HKC.out.trans (hb6.mono HKC.out.size))
          have cY := Lib.hid (cG.out w6 HC6.out)
          have q6 := EQ.out w6 HC6.out
          clear h6 hb6 cX q0
          rcases H6.out with ⟨hcir, rfl, _⟩ | ⟨hno, A6, m6, c6, o6, lf6, d6, rfl, hrest⟩
          · have HCI := Lib.hid hcir
            clear hcir
            go_wp2_with fail
            refine cY.out.mono ?_
            rintro e w7 h7
            rcases h7 with ⟨_, rfl, hb7⟩ | ⟨hno, _⟩
            · have HC7 : Hid (Below w1.heap.size w1 w7) := Lib.hid (HC6.out.trans (hb7.mono HC6.out.size))
              have cE := Lib.hid (ints_same 0 0 0 none none [] w7 (nil_ints w7) (nil_ints w7) (by omega))
              clear hb7 q6
              go_wp2_with fail
              refine cE.out.mono ?_
              rintro e w8 ⟨rfl, hb8⟩
              have HC8 : Hid (Below w1.heap.size w1 w8) := Lib.hid (HC7.out.trans (hb8.mono HC7.out.size))
              clear hb8 cE
              go_wp2_with fail
              refine (hcl.out w8 HC8.out).mono ?_
              rintro e w9 ⟨rfl, hb9⟩
              go_wp2_with fail
              go_ret
              exact ⟨rfl, hb9⟩
            · obtain ⟨j, hj, hj2⟩ := HCI.out
              exact absurd hj2 (hno j hj)
          · have HNO := Lib.hid hno
            have HRS := Lib.hid hrest
            clear hno hrest
            go_wp2_with fail
            refine cY.out.mono ?_
            rintro e w7 h7
            rcases h7 with ⟨⟨j, hj, hj2⟩, _⟩ | ⟨_, A7, m7, c7, o7, lf7, d7, rfl, ho7, hl7, hp7, hn7, hb7⟩
            · exact absurd hj2 (HNO.out j hj)
            · obtain ⟨ho6, hl6, hp6, hn6, _⟩ := HRS.out
              have heq : o6 = o7 := order_same hl6 hl7 hp6 hp7 hn6 hn7
              subst heq
              have h6' := own_keep ho6 hb7
              obtain rfl : m7 = m6 := by have e1 := h6'.1; have e2 := ho7.1; omega
              have hm : m7 ≤ 100000 := by have e2 := ho7.1; unfold rowN at e2; rw [List.length_map] at e2; have := hp7.len; rw [takesU_len] at this; omega
              rw [rowN_eq] at h6' ho7
              have cE := Lib.hid (ints_same m7 c6 c7 A6 A7 _ w7 (SlI.own h6' hm) (SlI.own ho7 hm) hm)
              have HC7 : Hid (Below w1.heap.size w1 w7) := Lib.hid (HC6.out.trans (hb7.mono HC6.out.size))
              clear ho6 hl6 hp6 hn6 ho7 hl7 hp7 hn7 hb7 h6' hm q6
              go_wp2_with fail
              refine cE.out.mono ?_
              rintro e w8 ⟨rfl, hb8⟩
              have HC8 : Hid (Below w1.heap.size w1 w8) := Lib.hid (HC7.out.trans (hb8.mono HC7.out.size))
              clear hb8 cE
              go_wp2_with fail
              refine (hcl.out w8 HC8.out).mono ?_
              rintro e w9 ⟨rfl, hb9⟩
              go_wp2_with fail
              go_ret
              exact ⟨rfl, hb9⟩
end Go.Proofs.Ytnfoahcdmaphnaa
