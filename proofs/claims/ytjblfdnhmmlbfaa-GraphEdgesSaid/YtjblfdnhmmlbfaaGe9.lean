/-
  Graphs of programs: the walk of GraphEdges.
-/
import Derived.Test.YtjblfdnhmmlbfaaGe8
import Derived.Test.YtjblfdnhmmlbfaaGs9
namespace Go.Proofs.Ytjblfdnhmmlbfaa
open Go.RowKit Go.Maps
set_option linter.unusedSimpArgs false
set_option linter.unusedVariables false
theorem toM_two (codes : List (List DInstr)) (f a : Int) : toM codes f [a, a] = toM codes f [a] := by
  unfold toM leadsB
  simp
set_option maxRecDepth 100000 in
set_option maxHeartbeats 16000000 in
theorem graphEdges_walk (cs0 : Array Value) (x0 : DProgram) (f : Int) (w : World) (h0 : RProgram w w.heap.size cs0.toList x0) (hwf : (Lit.int .i64 f).wf = true) :
    Calls Try.prog 3 #[.agg cs0, .int .i64 f] w fun e w' => e = .returned (.bool true) ∧ Below w.heap.size w w' := by
  obtain ⟨FA, fn, fc, e0, hfs⟩ := h0
  obtain rfl : cs0 = #[.slice FA fn fc] := by rw [← Array.toArray_toList (xs := cs0), e0]
  obtain ⟨fs⟩ := x0
  dsimp only at hfs
  have cl := Lib.hid graph_lives
  obtain ⟨codes, hco⟩ : ∃ l, fs.map DFunc.code = l := ⟨_, rfl⟩
  obtain ⟨g, hg⟩ : ∃ g, w.heap.size = g := ⟨_, rfl⟩
  obtain ⟨w1, hw1⟩ : ∃ X, w.alloc (.cells #[.slice FA fn fc] 24) = X := ⟨_, rfl⟩
  have x2 : Cells w1 g [.slice FA fn fc] := by rw [← hw1, ← hg]; exact Cells.new w [.slice FA fn fc] _
  have hb1 : Below w.heap.size w w1 := by rw [← hw1]; exact bl_one _
  have EQ : Hid (∀ W, Below w1.heap.size w1 W → W.cell? ⟨g, 0, none⟩ = some (.slice FA fn fc)) := Lib.hid fun W hW => (x2.on hW).at_ 0 _ rfl
  have HP : Hid (∀ W, Below w1.heap.size w1 W → PgW W w.heap.size FA fn fc codes) := Lib.hid fun W hW => by rw [← hco]; exact (pgw_of hfs).keep (hb1.trans (hW.mono hb1.size))
  have HBW : Hid (∀ W, Below w1.heap.size w1 W → Below w.heap.size w W) := Lib.hid fun W hW => hb1.trans (hW.mono hb1.size)
  have HWS : Hid (∀ W, Below w1.heap.size w1 W → w.heap.size ≤ W.heap.size) := Lib.hid fun W hW => (HBW.out W hW).size
  have cSm := Lib.hid (small16_any w.heap.size FA fn fc fs w1 (SlR.keep stable_Func hfs fun p hp => hb1.cell hp) hb1.size)
  have HSM : Hid (fs.length = fn ∧ ∀ C ∈ codes, ∃ x ∈ fs, x.code = C) := Lib.hid ⟨hfs.1, fun C hC => by rw [← hco] at hC; obtain ⟨x, hx, e⟩ := List.mem_map.1 hC; exact ⟨x, hx, e⟩⟩
  have HCL : Hid (codes.length = fn) := Lib.hid (by rw [← hco, List.length_map]; exact hfs.1)
  have q0 := EQ.out w1 (Below.refl _ _)
  clear x2 hb1 hfs e0 hco
  go_enter Try.func3, Try.ntmps3
  go_wp2_with fail
  refine cSm.out.mono ?_
  rintro e w3 ⟨r, rfl, hr, hb3⟩
  have HR := Lib.hid hr
  have HC3 := Lib.hid hb3
  clear hr hb3 cSm q0 hw1 hg
  have hcl : Hid (∀ W, Below w1.heap.size w1 W → Calls Try.prog 5 #[] W fun e w' => e = .returned (.bool true) ∧ Below w.heap.size w w') := Lib.hid fun W hW => (cl.out W).mono (by
    rintro e w' ⟨rfl, hb⟩
    exact ⟨rfl, (HBW.out W hW).trans (hb.mono (HBW.out W hW).size)⟩)
  cases r with
  | false =>
    go_wp2_with fail
    refine (hcl.out w3 HC3.out).mono ?_
    rintro e w4 ⟨rfl, hb4⟩
    go_wp2_with fail
    go_ret
    exact ⟨rfl, hb4⟩
  | true =>
    obtain ⟨hfn, hsm⟩ := HR.out rfl
    have hfn : fn ≤ 50 := by have := HSM.out.1; omega
    have HS : Hid (∀ C ∈ codes, C.length ≤ 150) := Lib.hid fun C hC => by obtain ⟨x, hx, rfl⟩ := HSM.out.2 C hC; exact smallF_code (hsm x hx)
    clear hsm HR HSM
    have HEM : Hid (∀ i, (rowG (edgesU codes fn) i).length ≤ 50) := Lib.hid fun i => by have := edgesU_max codes fn i; have := HCL.out; omega
    have HEI : Hid (∀ i x, x ∈ rowG (edgesU codes fn) i → 0 ≤ x ∧ x < (fn : Int)) := Lib.hid fun i x hx => by have := edgesU_in codes fn i x hx; have := HCL.out; omega
    have HW3 : Hid (∀ W, Below w3.heap.size w3 W → Below w1.heap.size w1 W) := Lib.hid fun W hW => HC3.out.trans (hW.mono HC3.out.size)
    have EQ3 : Hid (∀ W, Below w3.heap.size w3 W → W.cell? ⟨g, 0, none⟩ = some (.slice FA fn fc)) := Lib.hid fun W hW => EQ.out W (HW3.out W hW)
    have cA : Hid (∀ W, Below w3.heap.size w3 W → Calls Try.prog 6 #[.agg #[.slice FA fn fc]] W (IsEd codes fn W)) := Lib.hid fun W hW => edges_any w.heap.size FA fn fc codes W (HP.out W (HW3.out W hW)) (HWS.out W (HW3.out W hW)) hfn HS.out
    have cB : Hid (∀ W, Below w3.heap.size w3 W → Calls Try.prog 7 #[.agg #[.slice FA fn fc]] W (IsEd codes fn W)) := Lib.hid fun W hW => redges_any w.heap.size FA fn fc codes W (HP.out W (HW3.out W hW)) (HWS.out W (HW3.out W hW)) hfn HS.out
    go_wp2_with fail
    refine wp_region_held (S := fun W => Below w3.heap.size w3 W) (by kernel_rfl) ?_
    change wpAnyH _ _ _ _ _ _ _ _ (World.drew _)
    have hS0 : Below w3.heap.size w3 w3.drew := (Below.refl _ _).drew
    refine wpAnyH_take (i := 0) (v := .agg #[.slice FA fn fc]) rfl (by kernel_rfl) (by kernel_rfl) (by kernel_rfl) (fun _ _ _ h => h) (Or.inl ⟨by rfl, by intro W hW; have q0 := EQ3.out W hW; go_simp; try (first | (with_reducible rfl) | omega)⟩) hS0 ?_
    refine wpAnyH_take (i := 2) (v := .agg #[.slice FA fn fc]) rfl (by kernel_rfl) (by kernel_rfl) (by kernel_rfl) (fun _ _ _ h => h) (Or.inl ⟨by rfl, by intro W hW; have q0 := EQ3.out W hW; go_simp; try (first | (with_reducible rfl) | omega)⟩) hS0 ?_
    try go_simp
    refine wpAnyH_one (i := 1) (by kernel_rfl) rfl (fun K hK => ?_)
    go_simp
    refine (cA.out _ hS0).mono ?_
    rintro e w4 ⟨A1, c1, rfl, hg1, hb4⟩
    have hS4 := hS0.trans (hb4.mono hS0.size)
    have HG1 := Lib.hid hg1
    clear hg1
    clear hb4
    go_simp
    refine hK _ _ ⟨hS4, ?_⟩; clear hK K
    refine wpAnyH_one (i := 3) (by kernel_rfl) rfl (fun K hK => ?_)
    go_simp
    refine (cB.out _ hS4).mono ?_
    rintro e w5 ⟨A2, c2, rfl, hg2, hb5⟩
    have hS5 := hS4.trans (hb5.mono hS4.size)
    have HG2 := Lib.hid hg2
    have HG15 : Hid (GrW w5 w5.heap.size A1 fn c1 (edgesU codes fn)) := Lib.hid ((HG1.out.keep hb5).more hb5.size)
    clear hg2
    clear hb5
    go_simp
    refine hK _ _ ⟨hS5, ?_⟩; clear hK K
    refine wpAnyH_one (i := 4) (by kernel_rfl) rfl (fun K hK => ?_)
    go_simp
    refine hK _ _ ⟨hS5, ?_⟩; clear hK K
    refine wpAnyH_one (i := 5) (by kernel_rfl) rfl (fun K hK => ?_)
    go_simp
    refine hK _ _ ⟨hS5, ?_⟩; clear hK K
    try go_simp
    refine wpAnyH_done (by kernel_rfl) ?_ _
    have HC5 : Hid (Below w1.heap.size w1 w5) := Lib.hid (HC3.out.trans (hS5.mono HC3.out.size))
    clear hS0 hS4 hS5 HG1
    go_simp
    have tnn : ((fn : Int) != (fn : Int)) = false := by simp
    go_wp2_with fail
    go_loopw [7] (fun iv wr => ∃ i : Nat, iv = .int .i64 i ∧ i ≤ fn ∧ Hid (Below w5.heap.size w5 wr)) (fun iv _ => fn - (intOf iv).toNat)
    case atStart => exact ⟨0, rfl, Nat.zero_le _, Lib.hid (Below.refl _ _)⟩
    case round =>
      obtain ⟨i, rfl, hi, HK⟩ := hrel
      have hi0 : (0 : Int) ≤ (i : Int) := by omega
      have HKC : Hid (Below w1.heap.size w1 wr) := Lib.hid (HC5.out.trans (HK.out.mono HC5.out.size))
      by_cases hlt : i < fn
      · have hin : (i : Int) < (fn : Int) := by omega
        obtain ⟨b1, o1, Ai, ni, ci, rfl, hbb1, hz1, hr1⟩ := ((HG15.out.keep HK.out).more HK.out.size).row hlt
        obtain ⟨b2, o2, Bi, mi, di, rfl, hbb2, hz2, hr2⟩ := ((HG2.out.keep HK.out).more HK.out.size).row hlt
        obtain rfl : mi = ni := by have e1 := hr1.1; have e2 := hr2.1; omega
        have hni : mi ≤ 60 := by have e1 := hr1.1; have e2 := HEM.out i; omega
        have HZ1 : Hid (∀ W, Below wr.heap.size wr W → W.cell? ⟨b1, o1 + i, none⟩ = some (.slice Ai mi ci)) := Lib.hid fun W hW => (hW.cell (p := ⟨b1, o1 + i, none⟩) hbb1).trans hz1
        have HZ2 : Hid (∀ W, Below wr.heap.size wr W → W.cell? ⟨b2, o2 + i, none⟩ = some (.slice Bi mi di)) := Lib.hid fun W hW => (hW.cell (p := ⟨b2, o2 + i, none⟩) hbb2).trans hz2
        have hbd : Below wr.heap.size wr wr.drew := (Below.refl _ _).drew
        have cE := Lib.hid (ints_same mi ci di Ai Bi _ wr.drew (hr1.keep hbd (Nat.le_refl _)) (hr2.keep hbd (Nat.le_refl _)) (by omega))
        clear hz1 hz2 hr1 hr2 hbd
        go_wp2_with fail
        refine wp_region_held (S := fun W => Below wr.heap.size wr W) (by kernel_rfl) ?_
        change wpAnyH _ _ _ _ _ _ _ _ (World.drew _)
        have hS0 : Below wr.heap.size wr wr.drew := (Below.refl _ _).drew
        refine wpAnyH_take (i := 0) (v := .slice (some ⟨b1, o1, none⟩) fn c1) rfl (by kernel_rfl) (by kernel_rfl) (by kernel_rfl) (fun _ _ _ h => h) (Or.inl ⟨by rfl, by intro W hW; go_simp; try (first | (with_reducible rfl) | omega)⟩) hS0 ?_
        refine wpAnyH_take (i := 1) (v := .int .i64 (i : Int)) rfl (by kernel_rfl) (by kernel_rfl) (by kernel_rfl) (fun _ _ _ h => h) (Or.inl ⟨by rfl, by intro W hW; go_simp; try (first | (with_reducible rfl) | omega)⟩) hS0 ?_
        refine wpAnyH_take (i := 4) (v := .slice (some ⟨b2, o2, none⟩) fn c2) rfl (by kernel_rfl) (by kernel_rfl) (by kernel_rfl) (fun _ _ _ h => h) (Or.inl ⟨by rfl, by intro W hW; go_simp; try (first | (with_reducible rfl) | omega)⟩) hS0 ?_
        refine wpAnyH_take (i := 5) (v := .int .i64 (i : Int)) rfl (by kernel_rfl) (by kernel_rfl) (by kernel_rfl) (fun _ _ _ h => h) (Or.inl ⟨by rfl, by intro W hW; go_simp; try (first | (with_reducible rfl) | omega)⟩) hS0 ?_
        try go_simp
        refine wpAnyH_take (i := 2) (v := .pointer (some ⟨b1, o1 + i, none⟩)) rfl (by kernel_rfl) (by kernel_rfl) (by kernel_rfl) (fun _ _ _ h => h) (Or.inl ⟨by rfl, by intro W hW; go_simp; try (first | (with_reducible rfl) | omega)⟩) hS0 ?_
        refine wpAnyH_take (i := 6) (v := .pointer (some ⟨b2, o2 + i, none⟩)) rfl (by kernel_rfl) (by kernel_rfl) (by kernel_rfl) (fun _ _ _ h => h) (Or.inl ⟨by rfl, by intro W hW; go_simp; try (first | (with_reducible rfl) | omega)⟩) hS0 ?_
        try go_simp
        refine wpAnyH_take (i := 3) (v := .slice Ai mi ci) rfl (by kernel_rfl) (by kernel_rfl) (by kernel_rfl) (fun _ _ _ h => h) (Or.inl ⟨by rfl, by intro W hW; have q3 := HZ1.out W hW; go_simp; try (first | (with_reducible rfl) | omega)⟩) hS0 ?_
        refine wpAnyH_take (i := 7) (v := .slice Bi mi di) rfl (by kernel_rfl) (by kernel_rfl) (by kernel_rfl) (fun _ _ _ h => h) (Or.inl ⟨by rfl, by intro W hW; have q3 := HZ2.out W hW; go_simp; try (first | (with_reducible rfl) | omega)⟩) hS0 ?_
        try go_simp
        refine wpAnyH_one (i := 8) (by kernel_rfl) rfl (fun K hK => ?_)
        go_simp
        refine (cE.out).mono ?_
        rintro e w6 ⟨rfl, hb6⟩
        have hS6 := hS0.trans (hb6.mono hS0.size)
        clear hb6
        go_simp
        refine hK _ _ ⟨hS6, ?_⟩; clear hK K
        refine wpAnyH_one (i := 9) (by kernel_rfl) rfl (fun K hK => ?_)
        go_simp
        refine hK _ _ ⟨hS6, ?_⟩; clear hK K
        try go_simp
        refine wpAnyH_done (by kernel_rfl) ?_ _
        have HK6 : Hid (Below w5.heap.size w5 w6) := Lib.hid (HK.out.trans (hS6.mono HK.out.size))
        clear hS0 hS6
        go_simp
        go_wp2_with fail
        go_roundw
        case rel => exact ⟨i + 1, by go_num, by omega, HK6⟩
        case measure => simp [intOf]; omega
      · obtain rfl : i = fn := by omega
        have cK := Lib.hid (come_any A2 i c2 (edgesU codes i) f wr ((HG2.out.keep HK.out).more HK.out.size) hfn (fun k => by have := HEM.out k; omega) HEI.out)
        go_wp2_with fail
        refine cK.out.mono ?_
        rintro e w7 ⟨AR, mR, cR, lR, rfl, hmR, hlR, hoR, hb7⟩
        have HC7 : Hid (Below w1.heap.size w1 w7) := Lib.hid (HKC.out.trans (hb7.mono HKC.out.size))
        have OR := Lib.hid hoR
        have HRL : Hid (∀ l, ReachL (edgesU codes i) f l → l = lR) := Lib.hid fun l hl => rising_ext _ _ hl.1 hlR.1 fun x => by rw [hl.2 x, hlR.2 x]
        clear hlR hoR hb7 cK
        have HW7 : Hid (∀ W, Below w7.heap.size w7 W → Below w1.heap.size w1 W) := Lib.hid fun W hW => HC7.out.trans (hW.mono HC7.out.size)
        have EQ7 : Hid (∀ W, Below w7.heap.size w7 W → W.cell? ⟨g, 0, none⟩ = some (.slice FA i fc)) := Lib.hid fun W hW => EQ.out W (HW7.out W hW)
        have cC : Hid (∀ W, Below w7.heap.size w7 W → Calls Try.prog 10 #[.agg #[.slice FA i fc], .int .i64 f] W (IsRow2 (toM codes f [23]) W)) := Lib.hid fun W hW => callees_any w.heap.size FA i fc codes f W (HP.out W (HW7.out W hW)) (HWS.out W (HW7.out W hW)) hfn HS.out
        have cT23 : Hid (∀ W, Below w7.heap.size w7 W → Calls Try.prog 11 #[.agg #[.slice FA i fc], .int .i64 f, .int .i64 23, .int .i64 23] W (IsRow2 (toM codes f [23]) W)) := Lib.hid fun W hW => by rw [← toM_two]; exact to_any w.heap.size FA i fc codes f 23 23 W (HP.out W (HW7.out W hW)) (HWS.out W (HW7.out W hW)) hfn HS.out
        have cD : Hid (∀ W, Below w7.heap.size w7 W → Calls Try.prog 12 #[.agg #[.slice FA i fc], .int .i64 f] W (IsRow2 (toM codes f [24]) W)) := Lib.hid fun W hW => defers_any w.heap.size FA i fc codes f W (HP.out W (HW7.out W hW)) (HWS.out W (HW7.out W hW)) hfn HS.out
        have cT24 : Hid (∀ W, Below w7.heap.size w7 W → Calls Try.prog 11 #[.agg #[.slice FA i fc], .int .i64 f, .int .i64 24, .int .i64 24] W (IsRow2 (toM codes f [24]) W)) := Lib.hid fun W hW => by rw [← toM_two]; exact to_any w.heap.size FA i fc codes f 24 24 W (HP.out W (HW7.out W hW)) (HWS.out W (HW7.out W hW)) hfn HS.out
        have cR2 : Hid (∀ W, Below w7.heap.size w7 W → Calls Try.prog 13 #[.agg #[.slice FA i fc], .int .i64 f] W (IsReach (edgesU codes i) f W)) := Lib.hid fun W hW => reach_any w.heap.size FA i fc codes f W (HP.out W (HW7.out W hW)) (HWS.out W (HW7.out W hW)) hfn HS.out
        go_wp2_with fail
        refine wp_region_held (S := fun W => Below w7.heap.size w7 W) (by kernel_rfl) ?_
        change wpAnyH _ _ _ _ _ _ _ _ (World.drew _)
        have hS0 : Below w7.heap.size w7 w7.drew := (Below.refl _ _).drew
        refine wpAnyH_take (i := 0) (v := .agg #[.slice FA i fc]) rfl (by kernel_rfl) (by kernel_rfl) (by kernel_rfl) (fun _ _ _ h => h) (Or.inl ⟨by rfl, by intro W hW; have q0 := EQ7.out W hW; go_simp; try (first | (with_reducible rfl) | omega)⟩) hS0 ?_
        refine wpAnyH_take (i := 1) (v := .int .i64 f) rfl (by kernel_rfl) (by kernel_rfl) (by kernel_rfl) (fun _ _ _ h => h) (Or.inl ⟨by rfl, by intro W hW; go_simp; try (first | (with_reducible rfl) | omega)⟩) hS0 ?_
        refine wpAnyH_take (i := 3) (v := .agg #[.slice FA i fc]) rfl (by kernel_rfl) (by kernel_rfl) (by kernel_rfl) (fun _ _ _ h => h) (Or.inl ⟨by rfl, by intro W hW; have q0 := EQ7.out W hW; go_simp; try (first | (with_reducible rfl) | omega)⟩) hS0 ?_
        refine wpAnyH_take (i := 4) (v := .int .i64 f) rfl (by kernel_rfl) (by kernel_rfl) (by kernel_rfl) (fun _ _ _ h => h) (Or.inl ⟨by rfl, by intro W hW; go_simp; try (first | (with_reducible rfl) | omega)⟩) hS0 ?_
        try go_simp
        refine wpAnyH_one (i := 2) (by kernel_rfl) rfl (fun K hK => ?_)
        go_simp
        refine (cC.out _ hS0).mono ?_
        rintro e w8 ⟨A8, m8, c8, rfl, hm8, ho8, hb8⟩
        have hS8 := hS0.trans (hb8.mono hS0.size)
        have O8 := Lib.hid ho8
        clear ho8
        clear hb8
        go_simp
        refine hK _ _ ⟨hS8, ?_⟩; clear hK K
        refine wpAnyH_one (i := 5) (by kernel_rfl) rfl (fun K hK => ?_)
        go_simp
        refine (cT23.out _ hS8).mono ?_
        rintro e w9 ⟨A9, m9, c9, rfl, hm9, ho9, hb9⟩
        have hS9 := hS8.trans (hb9.mono hS8.size)
        obtain rfl : m9 = m8 := by have e1 := O8.out.1; have e2 := ho9.1; omega
        have cE := Lib.hid (ints_same m9 c8 c9 A8 A9 _ w9 (SlI.own (own_keep O8.out hb9) (by omega)) (SlI.own ho9 (by omega)) (by omega))
        clear ho9 O8
        clear hb9
        go_simp
        refine hK _ _ ⟨hS9, ?_⟩; clear hK K
        refine wpAnyH_one (i := 6) (by kernel_rfl) rfl (fun K hK => ?_)
        go_simp
        refine (cE.out).mono ?_
        rintro e w10 ⟨rfl, hb10⟩
        have hS10 := hS9.trans (hb10.mono hS9.size)
        clear cE
        clear hb10
        go_simp
        refine hK _ _ ⟨hS10, ?_⟩; clear hK K
        refine wpAnyH_one (i := 7) (by kernel_rfl) rfl (fun K hK => ?_)
        go_simp
        refine hK _ _ ⟨hS10, ?_⟩; clear hK K
        refine wpAnyH_take (i := 8) (v := .agg #[.slice FA i fc]) rfl (by kernel_rfl) (by kernel_rfl) (by kernel_rfl) (fun _ _ _ h => h) (Or.inl ⟨by rfl, by intro W hW; have q0 := EQ7.out W hW; go_simp; try (first | (with_reducible rfl) | omega)⟩) hS10 ?_
        refine wpAnyH_take (i := 9) (v := .int .i64 f) rfl (by kernel_rfl) (by kernel_rfl) (by kernel_rfl) (fun _ _ _ h => h) (Or.inl ⟨by rfl, by intro W hW; go_simp; try (first | (with_reducible rfl) | omega)⟩) hS10 ?_
        refine wpAnyH_take (i := 11) (v := .agg #[.slice FA i fc]) rfl (by kernel_rfl) (by kernel_rfl) (by kernel_rfl) (fun _ _ _ h => h) (Or.inl ⟨by rfl, by intro W hW; have q0 := EQ7.out W hW; go_simp; try (first | (with_reducible rfl) | omega)⟩) hS10 ?_
        refine wpAnyH_take (i := 12) (v := .int .i64 f) rfl (by kernel_rfl) (by kernel_rfl) (by kernel_rfl) (fun _ _ _ h => h) (Or.inl ⟨by rfl, by intro W hW; go_simp; try (first | (with_reducible rfl) | omega)⟩) hS10 ?_
        try go_simp
        refine wpAnyH_one (i := 10) (by kernel_rfl) rfl (fun K hK => ?_)
        go_simp
        refine (cD.out _ hS10).mono ?_
        rintro e w11 ⟨A11, m11, c11, rfl, hm11, ho11, hb11⟩
        have hS11 := hS10.trans (hb11.mono hS10.size)
        have O11 := Lib.hid ho11
        clear ho11
        clear hb11
        go_simp
        refine hK _ _ ⟨hS11, ?_⟩; clear hK K
        refine wpAnyH_one (i := 13) (by kernel_rfl) rfl (fun K hK => ?_)
        go_simp
        refine (cT24.out _ hS11).mono ?_
        rintro e w12 ⟨A12, m12, c12, rfl, hm12, ho12, hb12⟩
        have hS12 := hS11.trans (hb12.mono hS11.size)
        obtain rfl : m12 = m11 := by have e1 := O11.out.1; have e2 := ho12.1; omega
        have cE := Lib.hid (ints_same m12 c11 c12 A11 A12 _ w12 (SlI.own (own_keep O11.out hb12) (by omega)) (SlI.own ho12 (by omega)) (by omega))
        clear ho12 O11
        clear hb12
        go_simp
        refine hK _ _ ⟨hS12, ?_⟩; clear hK K
        refine wpAnyH_one (i := 14) (by kernel_rfl) rfl (fun K hK => ?_)
        go_simp
        refine (cE.out).mono ?_
        rintro e w13 ⟨rfl, hb13⟩
        have hS13 := hS12.trans (hb13.mono hS12.size)
        clear cE
        clear hb13
        go_simp
        refine hK _ _ ⟨hS13, ?_⟩; clear hK K
        refine wpAnyH_one (i := 15) (by kernel_rfl) rfl (fun K hK => ?_)
        go_simp
        refine hK _ _ ⟨hS13, ?_⟩; clear hK K
        refine wpAnyH_one (i := 16) (by kernel_rfl) rfl (fun K hK => ?_)
        go_simp
        refine hK _ _ ⟨hS13, ?_⟩; clear hK K
        refine wpAnyH_take (i := 17) (v := .agg #[.slice FA i fc]) rfl (by kernel_rfl) (by kernel_rfl) (by kernel_rfl) (fun _ _ _ h => h) (Or.inl ⟨by rfl, by intro W hW; have q0 := EQ7.out W hW; go_simp; try (first | (with_reducible rfl) | omega)⟩) hS13 ?_
        refine wpAnyH_take (i := 18) (v := .int .i64 f) rfl (by kernel_rfl) (by kernel_rfl) (by kernel_rfl) (fun _ _ _ h => h) (Or.inl ⟨by rfl, by intro W hW; go_simp; try (first | (with_reducible rfl) | omega)⟩) hS13 ?_
        refine wpAnyH_take (i := 20) (v := .slice AR mR cR) rfl (by kernel_rfl) (by kernel_rfl) (by kernel_rfl) (fun _ _ _ h => h) (Or.inl ⟨by rfl, by intro W hW; go_simp; try (first | (with_reducible rfl) | omega)⟩) hS13 ?_
        try go_simp
        refine wpAnyH_one (i := 19) (by kernel_rfl) rfl (fun K hK => ?_)
        go_simp
        refine (cR2.out _ hS13).mono ?_
        rintro e w14 ⟨A14, m14, c14, l14, rfl, hm14, hl14, ho14, hb14⟩
        have hS14 := hS13.trans (hb14.mono hS13.size)
        obtain rfl : l14 = lR := HRL.out l14 hl14
        have ho7 := own_keep OR.out (hS13.trans (hb14.mono hS13.size))
        obtain rfl : m14 = mR := by have e1 := ho7.1; have e2 := ho14.1; omega
        have cE := Lib.hid (ints_same m14 c14 cR A14 AR _ w14 (SlI.own ho14 (by omega)) (SlI.own ho7 (by omega)) (by omega))
        clear ho14 ho7 hl14
        clear hb14
        go_simp
        refine hK _ _ ⟨hS14, ?_⟩; clear hK K
        refine wpAnyH_one (i := 21) (by kernel_rfl) rfl (fun K hK => ?_)
        go_simp
        refine (cE.out).mono ?_
        rintro e w15 ⟨rfl, hb15⟩
        have hS15 := hS14.trans (hb15.mono hS14.size)
        clear cE
        clear hb15
        go_simp
        refine hK _ _ ⟨hS15, ?_⟩; clear hK K
        refine wpAnyH_one (i := 22) (by kernel_rfl) rfl (fun K hK => ?_)
        go_simp
        refine hK _ _ ⟨hS15, ?_⟩; clear hK K
        refine wpAnyH_one (i := 23) (by kernel_rfl) rfl (fun K hK => ?_)
        go_simp
        refine hK _ _ ⟨hS15, ?_⟩; clear hK K
        refine wpAnyH_one (i := 24) (by kernel_rfl) rfl (fun K hK => ?_)
        go_simp
        refine (cl.out _).mono ?_
        rintro e w16 ⟨rfl, hb16⟩
        have hS16 := hS15.trans (hb16.mono hS15.size)
        clear hb16
        go_simp
        refine hK _ _ ⟨hS16, ?_⟩; clear hK K
        refine wpAnyH_one (i := 25) (by kernel_rfl) rfl (fun K hK => ?_)
        go_simp
        refine hK _ _ ⟨hS16, ?_⟩; clear hK K
        refine wpAnyH_one (i := 26) (by kernel_rfl) rfl (fun K hK => ?_)
        go_simp
        refine hK _ _ ⟨hS16, ?_⟩; clear hK K
        try go_simp
        refine wpAnyH_done (by kernel_rfl) ?_ _
        have HC16 : Hid (Below w.heap.size w w16) := Lib.hid (HBW.out _ (HC7.out.trans (hS16.mono HC7.out.size)))
        clear hS0 hS8 hS9 hS10 hS11 hS12 hS13 hS14 hS15 hS16
        go_simp
        go_wp2_with fail
        go_ret
        exact ⟨rfl, HC16.out⟩
end Go.Proofs.Ytjblfdnhmmlbfaa
