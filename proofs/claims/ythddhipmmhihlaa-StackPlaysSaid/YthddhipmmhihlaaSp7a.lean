/-
  The flat stack: a round, Push.
-/
import Derived.Test.YthddhipmmhihlaaSp6
import Derived.Deep.DeepCutAuto
namespace Go.Proofs.Ythddhipmmhihlaa
open Go.RowKit
set_option linter.unusedSimpArgs false
set_option linter.unusedVariables false
attribute [local go_sem] run_store_cplx
set_option maxRecDepth 100000 in
set_option maxHeartbeats 8000000 in
theorem step_0 (w wr : World) (t n lc : Nat) (lA : Option Addr) (k N M vk vn vr vi : Int) (HS : LT w wr t lA n lc) (ht : t ≤ 300) (wfk : (Lit.int .i64 k).wf = true) (wfN : (Lit.int .i64 N).wf = true) (wfM : (Lit.int .i64 M).wf = true) (hk : k.tmod 7 = 0) :
    Calls Try.prog 14 #[.pointer (some ⟨w.heap.size, 0, none⟩), .slice lA n lc, .agg #[.int .i64 k, .int .i64 N, .int .i64 M, .int .i64 vk, .int .i64 vn, .int .i64 vr, .int .i64 vi]] wr (StepTo w t) := by
  obtain ⟨hbwr, A, c, vs, hsk, hsl, hok, hnt, hB⟩ := HS
  have HH : Hid (Below w.heap.size w wr ∧ SkW wr w.heap.size A c vs ∧ SlV wr wr.heap.size lA n lc vs ∧ Ok wr (Bk w.heap.size A) lA ∧ n ≤ t ∧ ∀ j, Bk w.heap.size A j → w.heap.size ≤ j) := Lib.hid ⟨hbwr, hsk, hsl, hok, hnt, hB⟩
  have hn : n ≤ 300 := by omega
  have hvn := hsl.1
  have hnlc : n ≤ lc := hsl.2.1
  have hlcm : lc ≤ maxLen := hsl.2.2.1
  clear hbwr hsk hsl hok hB
  have z3 : (wr.alloc (.cells #[.int .i64 k, .int .i64 N, .int .i64 M, .int .i64 vk, .int .i64 vn, .int .i64 vr, .int .i64 vi] 57)).cell? ⟨wr.heap.size, 3, none⟩ = some (.int .i64 vk) := (new_cells (Below.refl _ _) 3 _ rfl).1
  have z4 : (wr.alloc (.cells #[.int .i64 k, .int .i64 N, .int .i64 M, .int .i64 vk, .int .i64 vn, .int .i64 vr, .int .i64 vi] 57)).cell? ⟨wr.heap.size, 4, none⟩ = some (.int .i64 vn) := (new_cells (Below.refl _ _) 4 _ rfl).1
  have z5 : (wr.alloc (.cells #[.int .i64 k, .int .i64 N, .int .i64 M, .int .i64 vk, .int .i64 vn, .int .i64 vr, .int .i64 vi] 57)).cell? ⟨wr.heap.size, 5, none⟩ = some (.int .i64 vr) := (new_cells (Below.refl _ _) 5 _ rfl).1
  have z6 : (wr.alloc (.cells #[.int .i64 k, .int .i64 N, .int .i64 M, .int .i64 vk, .int .i64 vn, .int .i64 vr, .int .i64 vi] 57)).cell? ⟨wr.heap.size, 6, none⟩ = some (.int .i64 vi) := (new_cells (Below.refl _ _) 6 _ rfl).1
  go_enter Try.func14, Try.ntmps14
  go_upto_region 2 with fail
  go_cut [9] (fun v wx => ∃ vb : Nat, v = .pointer (some ⟨vb, 0, none⟩) ∧ Hid (StW w wx t lA n lc A c vs wr.heap.size vb k N M ⟨vk, vn, nr vr, nr vi⟩))
  case first =>
    go_wp2_with fail
    refine (value_any vk vn vr vi _).mono ?_
    rintro e w2 ⟨rfl, hb2⟩
    have HST : Hid (StW w (w2.alloc (.cells #[.int .i64 vk, .int .i64 vn, .complex .f64 (nr vr) (nr vi)] 45)) t lA n lc A c vs wr.heap.size w2.heap.size k N M ⟨vk, vn, nr vr, nr vi⟩) := Lib.hid (StW.mk0 HH.out.1 HH.out.2.1 HH.out.2.2.1 HH.out.2.2.2.1 HH.out.2.2.2.2.1 HH.out.2.2.2.2.2 hb2)
    clear hb2 z3 z4 z5 z6 HH
    go_wp2_with fail
    go_meet
    exact ⟨_, rfl, HST⟩
  case rest =>
    obtain ⟨vb, rfl, HW⟩ := hcut
    clear HH z3 z4 z5 z6
    obtain ⟨ob, hob⟩ : ∃ x, wr.heap.size = x := ⟨_, rfl⟩
    rw [hob] at HW ⊢
    have o0 := HW.out.o0
    have t0 : (k.tmod 7 == 0) = true := by simp [hk]
    clear hk hob
    have cP := Lib.hid (spush_any w.heap.size c A vs ⟨vk, vn, nr vr, nr vi⟩ wc HW.out.sk (by omega))
    have hv0 := HW.out.v0
    have hv1 := HW.out.v1
    have hv2 := HW.out.v2
    simp only at hv0 hv1 hv2
    go_wp2_with fail
    refine cP.out.mono ?_
    rintro e w5 ⟨⟨u, rfl⟩, hst5⟩
    clear hv0 hv1 hv2
    obtain ⟨A5, c5, hsk5, hk5, hT5⟩ := id hst5
    have hv0 := hk5.cellv HW.out.v0 HW.out.nvb
    have hv1 := hk5.cellv HW.out.v1 HW.out.nvb
    have hv2 := hk5.cellv HW.out.v2 HW.out.nvb
    simp only at hv0 hv1 hv2
    have HQ5 : Hid (∀ W : World, Kp (fun _ => False) w5 W → W.cell? ⟨vb, 0, none⟩ = some (.int .i64 vk) ∧ W.cell? ⟨vb, 1, none⟩ = some (.int .i64 vn) ∧ W.cell? ⟨vb, 2, none⟩ = some (.complex .f64 (nr vr) (nr vi))) := Lib.hid fun W hW => ⟨hW.cellv hv0 id, hW.cellv hv1 id, hW.cellv hv2 id⟩
    have HL5 : Hid (∀ W : World, Kp (fun _ => False) w5 W → SrcCells W lA n 3 (vs.flatMap cellsV)) := Lib.hid fun W hW => HW.out.src hk5 hW
    have hflat : (vs ++ [(⟨vk, vn, nr vr, nr vi⟩ : DV)]).flatMap cellsV = vs.flatMap cellsV ++ [.int .i64 vk, .int .i64 vn, .complex .f64 (nr vr) (nr vi)] := by simp [cellsV]
    have FIN : Hid (∀ (W : World) (A' : Option Addr) (c' : Nat), Kp (fun _ => False) w5 W → W.ownsRow w5.heap.size 45 3 (.slice A' (n + 1) c') (n + 1) (vs.flatMap cellsV ++ [.int .i64 vk, .int .i64 vn, .complex .f64 (nr vr) (nr vi)]) → LT w W (t + 2) A' (n + 1) c') := Lib.hid fun W A' c' hW hown => HW.out.own hst5 hW (RowF.ofOwn (by rw [hflat]; exact hown)) 2 (by omega) (by omega)
    obtain ⟨i0, hi, hz0, hz1, hz2⟩ := info_parts info_val
    have hone1 := Lib.hid (oneV vs)
    have hone2 : Hid (∀ u ∈ [Value.int .i64 vk, .int .i64 vn, .complex .f64 (nr vr) (nr vi)], u.oneCell' = true) := Lib.hid (by
      intro u hu
      simp at hu
      rcases hu with rfl | rfl | rfl <;> rfl)
    have hn63 : 0 + n ≤ maxLen := by unfold maxLen; omega
    have hnb : (0 + n) * 32 ≤ 140737488355328 := by omega
    have hn63' : n + 1 ≤ maxLen := by unfold maxLen; omega
    have hnb' : (n + 1) * 32 ≤ 140737488355328 := by omega
    have hS0 : Kp (fun _ => False) w5 w5.drew := (Kp.refl _ _).drew
    clear hflat hsk5 hk5 hT5 hst5 cP hv0 hv1 hv2 HW hvn hlcm
    go_wp2_with fail
    refine wp_region_held (S := fun W => Kp (fun _ => False) w5 W) (by kernel_rfl) ?_
    change wpAnyH _ _ _ _ _ _ _ _ (World.drew _)
    refine wpAnyH_take (i := 1) (v := .slice lA n lc) rfl (by kernel_rfl) (by kernel_rfl) (by kernel_rfl) (fun _ _ _ h => h) (Or.inl ⟨by rfl, by intro W hW; go_simp; try (first | (with_reducible rfl) | omega)⟩) hS0 ?_
    refine wpAnyH_take (i := 3) (v := vV vk vn (nr vr) (nr vi)) rfl (by kernel_rfl) (by kernel_rfl) (by kernel_rfl) (fun _ _ _ h => h) (Or.inl ⟨by rfl, by intro W hW; obtain ⟨g0, g1, g2⟩ := HQ5.out W hW; go_simp; try (first | (with_reducible rfl) | omega)⟩) hS0 ?_
    refine wpAnyH_two (i := 0) (j := 4) (by kernel_rfl) rfl rfl (fun K hK => ?_) (fun K hK => ?_)
    · go_simp
      have hS1 : Kp (fun _ => False) w5 (w5.drew.alloc (.cells #[] 45)) := hS0.alloc _
      have hw0 := Lib.hid (World.ownsRow_lit (base := w5.heap.size) (e := 45) (size := 3) w5.drew #[] 0 (Nat.le_refl _) (by unfold maxLen; omega) rfl)
      refine hK _ _ ⟨hS1, ?_⟩; clear hK K
      refine wpAnyH_two (i := 2) (j := 4) (by kernel_rfl) rfl rfl (fun K hK => ?_) (fun K hK => ?_)
      · refine step_append_src _ rfl (.tmp 29) (.tmp 30) 24 rfl w5.heap.size 45 i0 (.agg #[.int .i64 0, .int .i64 0, .complex .f64 0 0]) 3 32 Try.underlying24 hi hz0 hz1 hz2 rfl (by decide) (.slice (some ⟨w5.drew.heap.size, 0, none⟩) 0 0) 0 [] ?qq1 hw0.out lA n lc (vs.flatMap cellsV) ?qq2 (HL5.out _ hS1) hone1.out hn63 hnb (hS1).size ?_
        case qq1 => go_simp
        case qq2 => go_simp
        intro v' W2 hown hgrow hat
        rw [Nat.zero_add, List.nil_append] at hown
        obtain ⟨A2, c2, rfl, _⟩ := own_form hown
        have hS2 : Kp (fun _ => False) w5 W2 := (hS1).ofGrown hgrow (fun j hj hl => by have h9 := (World.ownsRow.lt hw0.out j hj).1; have : j < w5.heap.size := hl; omega)
        have HW2 := Lib.hid hown
        clear hown hgrow hat
        refine hK _ _ ⟨hS2, ?_⟩; clear hK K
        refine wpAnyH_one (i := 4) (by kernel_rfl) rfl (fun K hK => ?_)
        go_simp
        refine hK _ _ ⟨(hS2.alloc _), ?_⟩; clear hK K
        have hsrc := Lib.hid (own_src (World.ownsRow_lit (base := W2.heap.size) (e := 45) (size := 3) W2 #[.int .i64 vk, .int .i64 vn, .complex .f64 (nr vr) (nr vi)] 1 (Nat.le_refl _) (by unfold maxLen; omega) rfl))
        refine wpAnyH_one (i := 5) (by kernel_rfl) rfl (fun K hK => ?_)
        refine step_append_src _ rfl (.tmp 31) (.tmp 33) 24 rfl w5.heap.size 45 i0 (.agg #[.int .i64 0, .int .i64 0, .complex .f64 0 0]) 3 32 Try.underlying24 hi hz0 hz1 hz2 rfl (by decide) (.slice A2 n c2) n (vs.flatMap cellsV) ?qq3 (HW2.out.alloc _) (some ⟨W2.heap.size, 0, none⟩) 1 1 [.int .i64 vk, .int .i64 vn, .complex .f64 (nr vr) (nr vi)] ?qq4 hsrc.out hone2.out hn63' hnb' (hS2.alloc _).size ?_
        case qq3 => go_simp
        case qq4 => go_simp
        intro v' W4 hown4 hgrow4 hat4
        obtain ⟨A4, c4, rfl, _⟩ := own_form hown4
        have hS4 : Kp (fun _ => False) w5 W4 := (hS2.alloc _).ofGrown hgrow4 (fun j hj hl => by have h9 := (World.ownsRow.lt HW2.out j hj).1; have : j < w5.heap.size := hl; omega)
        have F := Lib.hid (FIN.out W4 A4 c4 hS4 hown4)
        clear hown4 hgrow4 hat4
        refine hK _ _ ⟨hS4, ?_⟩; clear hK K
        refine wpAnyH_take (i := 6) (v := .slice A4 (n + 1) c4) rfl (by kernel_rfl) (by kernel_rfl) (by kernel_rfl) (fun _ _ _ h => h) (Or.inl ⟨by rfl, by intro W hW; go_simp; try (first | (with_reducible rfl) | omega)⟩) hS4 ?_
        refine wpAnyH_take (i := 7) (v := .bool true) rfl (by kernel_rfl) (by kernel_rfl) (by kernel_rfl) (fun _ _ _ h => h) (Or.inl ⟨by rfl, by intro W hW; go_simp; try (first | (with_reducible rfl) | omega)⟩) hS4 ?_
        refine wpAnyH_done (by kernel_rfl) ?_ _
        go_wp2_with fail
        go_ret2
        exact ⟨A4, n + 1, c4, rfl, F.out⟩
      · go_simp
        have hsrc0 := own_src (World.ownsRow_lit (base := w5.heap.size) (e := 45) (size := 3) (w5.drew.alloc (.cells #[] 45)) #[.int .i64 vk, .int .i64 vn, .complex .f64 (nr vr) (nr vi)] 1 (by simp) (by unfold maxLen; omega) rfl)
        rw [show (w5.drew.alloc (.cells #[] 45)).heap.size = w5.heap.size + 1 by simp] at hsrc0
        have hsrc0 := Lib.hid hsrc0
        refine hK _ _ ⟨hS1.alloc _, ?_⟩; clear hK K
        refine wpAnyH_one (i := 2) (by kernel_rfl) rfl (fun K hK => ?_)
        refine step_append_src _ rfl (.tmp 29) (.tmp 30) 24 rfl w5.heap.size 45 i0 (.agg #[.int .i64 0, .int .i64 0, .complex .f64 0 0]) 3 32 Try.underlying24 hi hz0 hz1 hz2 rfl (by decide) (.slice (some ⟨w5.drew.heap.size, 0, none⟩) 0 0) 0 [] ?qq1 (hw0.out.alloc _) lA n lc (vs.flatMap cellsV) ?qq2 (HL5.out _ (hS1.alloc _)) hone1.out hn63 hnb ((hS1.alloc _)).size ?_
        case qq1 => go_simp
        case qq2 => go_simp
        intro v' W2 hown hgrow hat
        rw [Nat.zero_add, List.nil_append] at hown
        obtain ⟨A2, c2, rfl, _⟩ := own_form hown
        have hS2 : Kp (fun _ => False) w5 W2 := ((hS1.alloc _)).ofGrown hgrow (fun j hj hl => by have h9 := (World.ownsRow.lt hw0.out j hj).1; have : j < w5.heap.size := hl; omega)
        have HW2 := Lib.hid hown
        have hkap : Kp (fun j => j = w5.heap.size) _ W2 := (Kp.refl _ _).ofGrown hgrow (fun j hj _ => by simp [Value.ownBlock] at hj; exact hj.symm)
        have hsrc := Lib.hid (hsrc0.out.keep fun ad j u ha hc => hkap.cellv hc (by injection ha with ha; subst ha; simp [Addr.add]; split <;> simp))
        clear hown hgrow hat hkap
        refine hK _ _ ⟨hS2, ?_⟩; clear hK K
        refine wpAnyH_one (i := 5) (by kernel_rfl) rfl (fun K hK => ?_)
        refine step_append_src _ rfl (.tmp 31) (.tmp 33) 24 rfl w5.heap.size 45 i0 (.agg #[.int .i64 0, .int .i64 0, .complex .f64 0 0]) 3 32 Try.underlying24 hi hz0 hz1 hz2 rfl (by decide) (.slice A2 n c2) n (vs.flatMap cellsV) ?qq3 HW2.out (some ⟨w5.heap.size + 1, 0, none⟩) 1 1 [.int .i64 vk, .int .i64 vn, .complex .f64 (nr vr) (nr vi)] ?qq4 hsrc.out hone2.out hn63' hnb' (hS2).size ?_
        case qq3 => go_simp
        case qq4 => go_simp
        intro v' W4 hown4 hgrow4 hat4
        obtain ⟨A4, c4, rfl, _⟩ := own_form hown4
        have hS4 : Kp (fun _ => False) w5 W4 := (hS2).ofGrown hgrow4 (fun j hj hl => by have h9 := (World.ownsRow.lt HW2.out j hj).1; have : j < w5.heap.size := hl; omega)
        have F := Lib.hid (FIN.out W4 A4 c4 hS4 hown4)
        clear hown4 hgrow4 hat4
        refine hK _ _ ⟨hS4, ?_⟩; clear hK K
        refine wpAnyH_take (i := 6) (v := .slice A4 (n + 1) c4) rfl (by kernel_rfl) (by kernel_rfl) (by kernel_rfl) (fun _ _ _ h => h) (Or.inl ⟨by rfl, by intro W hW; go_simp; try (first | (with_reducible rfl) | omega)⟩) hS4 ?_
        refine wpAnyH_take (i := 7) (v := .bool true) rfl (by kernel_rfl) (by kernel_rfl) (by kernel_rfl) (fun _ _ _ h => h) (Or.inl ⟨by rfl, by intro W hW; go_simp; try (first | (with_reducible rfl) | omega)⟩) hS4 ?_
        refine wpAnyH_done (by kernel_rfl) ?_ _
        go_wp2_with fail
        go_ret2
        exact ⟨A4, n + 1, c4, rfl, F.out⟩
    · go_simp
      have hS1 : Kp (fun _ => False) w5 (w5.drew.alloc (.cells #[.int .i64 vk, .int .i64 vn, .complex .f64 (nr vr) (nr vi)] 45)) := hS0.alloc _
      have hsrc0 := Lib.hid (own_src (World.ownsRow_lit (base := w5.heap.size) (e := 45) (size := 3) w5.drew #[.int .i64 vk, .int .i64 vn, .complex .f64 (nr vr) (nr vi)] 1 (Nat.le_refl _) (by unfold maxLen; omega) rfl))
      refine hK _ _ ⟨hS1, ?_⟩; clear hK K
      refine wpAnyH_one (i := 0) (by kernel_rfl) rfl (fun K hK => ?_)
      go_simp
      refine hK _ _ ⟨(hS1.alloc _), ?_⟩; clear hK K
      have hw0 := World.ownsRow_lit (base := w5.heap.size) (e := 45) (size := 3) (w5.drew.alloc (.cells #[.int .i64 vk, .int .i64 vn, .complex .f64 (nr vr) (nr vi)] 45)) #[] 0 (by simp) (by unfold maxLen; omega) rfl
      rw [show (w5.drew.alloc (.cells #[.int .i64 vk, .int .i64 vn, .complex .f64 (nr vr) (nr vi)] 45)).heap.size = w5.heap.size + 1 by simp] at hw0
      have hw0 := Lib.hid hw0
      refine wpAnyH_one (i := 2) (by kernel_rfl) rfl (fun K hK => ?_)
      refine step_append_src _ rfl (.tmp 29) (.tmp 30) 24 rfl w5.heap.size 45 i0 (.agg #[.int .i64 0, .int .i64 0, .complex .f64 0 0]) 3 32 Try.underlying24 hi hz0 hz1 hz2 rfl (by decide) (.slice (some ⟨w5.heap.size + 1, 0, none⟩) 0 0) 0 [] ?qq1 hw0.out lA n lc (vs.flatMap cellsV) ?qq2 (HL5.out _ (hS1.alloc _)) hone1.out hn63 hnb ((hS1.alloc _)).size ?_
      case qq1 => go_simp
      case qq2 => go_simp
      intro v' W2 hown hgrow hat
      rw [Nat.zero_add, List.nil_append] at hown
      obtain ⟨A2, c2, rfl, _⟩ := own_form hown
      have hS2 : Kp (fun _ => False) w5 W2 := ((hS1.alloc _)).ofGrown hgrow (fun j hj hl => by have h9 := (World.ownsRow.lt hw0.out j hj).1; have : j < w5.heap.size := hl; omega)
      have HW2 := Lib.hid hown
      have hkap : Kp (fun j => j = w5.heap.size + 1) _ W2 := (Kp.refl _ _).ofGrown hgrow (fun j hj _ => by simp [Value.ownBlock] at hj; exact hj.symm)
      have hsrc := Lib.hid ((hsrc0.out.keep fun ad j u ha hc => ((Kp.refl (fun _ => False) _).alloc (.cells #[] 45)).cellv hc id).keep fun ad j u ha hc => hkap.cellv hc (by injection ha with ha; subst ha; simp [Addr.add]; split <;> simp))
      clear hown hgrow hat hkap
      refine hK _ _ ⟨hS2, ?_⟩; clear hK K
      refine wpAnyH_one (i := 5) (by kernel_rfl) rfl (fun K hK => ?_)
      refine step_append_src _ rfl (.tmp 31) (.tmp 33) 24 rfl w5.heap.size 45 i0 (.agg #[.int .i64 0, .int .i64 0, .complex .f64 0 0]) 3 32 Try.underlying24 hi hz0 hz1 hz2 rfl (by decide) (.slice A2 n c2) n (vs.flatMap cellsV) ?qq3 HW2.out (some ⟨w5.heap.size, 0, none⟩) 1 1 [.int .i64 vk, .int .i64 vn, .complex .f64 (nr vr) (nr vi)] ?qq4 hsrc.out hone2.out hn63' hnb' (hS2).size ?_
      case qq3 => go_simp
      case qq4 => go_simp
      intro v' W4 hown4 hgrow4 hat4
      obtain ⟨A4, c4, rfl, _⟩ := own_form hown4
      have hS4 : Kp (fun _ => False) w5 W4 := (hS2).ofGrown hgrow4 (fun j hj hl => by have h9 := (World.ownsRow.lt HW2.out j hj).1; have : j < w5.heap.size := hl; omega)
      have F := Lib.hid (FIN.out W4 A4 c4 hS4 hown4)
      clear hown4 hgrow4 hat4
      refine hK _ _ ⟨hS4, ?_⟩; clear hK K
      refine wpAnyH_take (i := 6) (v := .slice A4 (n + 1) c4) rfl (by kernel_rfl) (by kernel_rfl) (by kernel_rfl) (fun _ _ _ h => h) (Or.inl ⟨by rfl, by intro W hW; go_simp; try (first | (with_reducible rfl) | omega)⟩) hS4 ?_
      refine wpAnyH_take (i := 7) (v := .bool true) rfl (by kernel_rfl) (by kernel_rfl) (by kernel_rfl) (fun _ _ _ h => h) (Or.inl ⟨by rfl, by intro W hW; go_simp; try (first | (with_reducible rfl) | omega)⟩) hS4 ?_
      refine wpAnyH_done (by kernel_rfl) ?_ _
      go_wp2_with fail
      go_ret2
      exact ⟨A4, n + 1, c4, rfl, F.out⟩
end Go.Proofs.Ythddhipmmhihlaa
