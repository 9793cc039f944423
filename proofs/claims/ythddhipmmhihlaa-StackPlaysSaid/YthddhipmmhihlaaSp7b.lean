/-
  The flat stack: a round, Pop.
-/
import Derived.Test.YthddhipmmhihlaaSp6
import Derived.Deep.DeepCutAuto
namespace Go.Proofs.Ythddhipmmhihlaa
open Go.RowKit
set_option linter.unusedSimpArgs false
set_option linter.unusedVariables false
attribute [local go_sem] run_store_cplx
set_option maxRecDepth 100000 in
set_option maxHeartbeats 8000000 in
theorem step_1 (w wr : World) (t n lc : Nat) (lA : Option Addr) (k N M vk vn vr vi : Int) (HS : LT w wr t lA n lc) (ht : t ≤ 300) (wfk : (Lit.int .i64 k).wf = true) (wfN : (Lit.int .i64 N).wf = true) (wfM : (Lit.int .i64 M).wf = true) (hk : k.tmod 7 = 1) :
    Calls Try.prog 14 #[.pointer (some ⟨w.heap.size, 0, none⟩), .slice lA n lc, .agg #[.int .i64 k, .int .i64 N, .int .i64 M, .int .i64 vk, .int .i64 vn, .int .i64 vr, .int .i64 vi]] wr (StepTo w t) := by
  obtain ⟨hbwr, A, c, vs, hsk, hsl, hok, hnt, hB⟩ := HS
  have HH : Hid (Below w.heap.size w wr ∧ SkW wr w.heap.size A c vs ∧ SlV wr wr.heap.size lA n lc vs ∧ Ok wr (Bk w.heap.size A) lA ∧ n ≤ t ∧ ∀ j, Bk w.heap.size A j → w.heap.size ≤ j) := Lib.hid ⟨hbwr, hsk, hsl, hok, hnt, hB⟩
  have hn : n ≤ 300 := by omega
  have hvn := hsl.1
  have hnlc : n ≤ lc := hsl.2.1
  have hlcm : lc ≤ maxLen := hsl.2.2.1
  clear hbwr hsk hsl hok hB
  have z3 : (wr.alloc (.cells #[.int .i64 k, .int .i64 N, .int .i64 M, .int .i64 vk, .int .i64 vn, .int .i64 vr, .int .i64 vi] 57)).cell? ⟨wr.heap.size, 3, none⟩ = some (.int .i64 vk) := (new_cells (Below.refl _ _) 3 _ rfl).1
  have z4 : (wr.alloc (.cells #[.int .i64 k, .int .i64 N, .int .i64 M, .int .i64 vk, .int .i64 vn, .int .i64 vr, .int .i64 vi] 57)).cell? ⟨wr.heap.size, 4, none⟩ = some (.int .i64 vn) := (new_cells (Below.refl _ _) 4 _ rfl).1
  have z5 : (wr.alloc (.cells #[.int .i64 k, .int .i64 N, .int .i64 M, .int .i64 vk, .int .i64 vn, .int .i64 vr, .int .i64 vi] 57)).cell? ⟨wr.heap.size, 5, none⟩ = some (.int .i64 vr) := (new_cells (Below.refl _ _) 5 _ rfl).1
  have z6 : (wr.alloc (.cells #[.int .i64 k, .int .i64 N, .int .i64 M, .int .i64 vk, .int .i64 vn, .int .i64 vr, .int .i64 vi] 57)).cell? ⟨wr.heap.size, 6, none⟩ = some (.int .i64 vi) := (new_cells (Below.refl _ _) 6 _ rfl).1
  go_enter Try.func14, Try.ntmps14
  go_upto_region 2 with fail
  go_cut [9] (fun v wx => ∃ vb : Nat, v = .pointer (some ⟨vb, 0, none⟩) ∧ Hid (StW w wx t lA n lc A c vs wr.heap.size vb k N M ⟨vk, vn, nr vr, nr vi⟩))
  case first =>
    go_wp2_with fail
    refine (value_any vk vn vr vi _).mono ?_
    rintro e w2 ⟨rfl, hb2⟩
    have HST : Hid (StW w (w2.alloc (.cells #[.int .i64 vk, .int .i64 vn, .complex .f64 (nr vr) (nr vi)] 45)) t lA n lc A c vs wr.heap.size w2.heap.size k N M ⟨vk, vn, nr vr, nr vi⟩) := Lib.hid (StW.mk0 HH.out.1 HH.out.2.1 HH.out.2.2.1 HH.out.2.2.2.1 HH.out.2.2.2.2.1 HH.out.2.2.2.2.2 hb2)
    clear hb2 z3 z4 z5 z6 HH
    go_wp2_with fail
    go_meet
    exact ⟨_, rfl, HST⟩
  case rest =>
    obtain ⟨vb, rfl, HW⟩ := hcut
    clear HH z3 z4 z5 z6
    obtain ⟨ob, hob⟩ : ∃ x, wr.heap.size = x := ⟨_, rfl⟩
    rw [hob] at HW ⊢
    have o0 := HW.out.o0
    have t0 : (k.tmod 7 == 0) = false := by simp [hk]
    have t1 : (k.tmod 7 == 1) = true := by simp [hk]
    clear hk hob
    have cP := Lib.hid (pop_any w.heap.size c A vs wc HW.out.sk (by omega))
    go_wp2_with fail
    refine cP.out.mono ?_
    rintro e w5 ⟨rfl, hst5⟩
    rw [hvn] at hst5
    obtain ⟨⟨a1, a2, a3, a4⟩, hgv⟩ : ∃ v, getM vs ((vs.length : Int) - 1) = v := ⟨_, rfl⟩
    rw [hgv]
    show _
    obtain ⟨w6, hw6⟩ : ∃ x, w5.alloc (.cells #[.int .i64 a1, .int .i64 a2, .complex .f64 a3 a4] 45) = x := ⟨_, rfl⟩
    have z := fun j u hu => (new_cells (w := w5) (cs := #[.int .i64 a1, .int .i64 a2, .complex .f64 a3 a4]) (t := 45) (Below.refl _ _) j u hu).1
    rw [hw6] at z
    have hk56 : Kp (fun _ => False) w5 w6 := by rw [← hw6]; exact (Kp.refl _ _).alloc _
    have z0 := z 0 _ rfl
    have z1 := z 1 _ rfl
    have z2 := z 2 _ rfl
    clear z
    have HQ6 : Hid (∀ W : World, Kp (fun _ => False) w6 W → W.cell? ⟨w5.heap.size, 0, none⟩ = some (.int .i64 a1) ∧ W.cell? ⟨w5.heap.size, 1, none⟩ = some (.int .i64 a2) ∧ W.cell? ⟨w5.heap.size, 2, none⟩ = some (.complex .f64 a3 a4)) := Lib.hid fun W hW => ⟨hW.cellv z0 id, hW.cellv z1 id, hW.cellv z2 id⟩
    have HE6 := Lib.hid hw6
    clear hw6 z0 z1 z2
    unfold aggV
    obtain ⟨p5, hp5⟩ : ∃ x, w5.heap.size = x := ⟨_, rfl⟩
    rw [hp5] at HQ6
    rcases Nat.eq_zero_or_pos n with rfl | hn0
    · obtain rfl : vs = [] := List.eq_nil_of_length_eq_zero hvn
      simp only [getM] at hgv
      have F : Hid (∀ W, Kp (fun _ => False) w6 W → LT w W (t + 2) lA 0 lc) := Lib.hid fun W hW => (HW.out.cutTo (us := []) hst5 HW.out.sl (fun ad h => ⟨ad, h, rfl⟩) 2 (by omega)).on (hk56.trans hW)
      obtain ⟨rfl, rfl, rfl, rfl⟩ : a1 = 0 ∧ a2 = 0 ∧ a3 = 0 ∧ a4 = 0 := by simp [zDV] at hgv; omega
      have hq9 : ∀ w : World, (Op.equalIn 9999 43 (.complex .f64 0 0) (.complex .f64 0 0)).run Try.prog w = .ok true w := fun w => by first | kernel_rfl | rfl | simp [Op.equalIn, go_sem]
      have hS0 : Kp (fun _ => False) w6 w6.drew := (Kp.refl _ _).drew
      clear hst5 HW cP hk56 hgv
      go_wp2_with fail
      rw [HE6.out]
      refine wp_region_held (S := fun W => Kp (fun _ => False) w6 W) (by kernel_rfl) ?_
      change wpAnyH _ _ _ _ _ _ _ _ (World.drew _)
      refine wpAnyH_take (i := 0) (v := .slice lA 0 lc) rfl (by kernel_rfl) (by kernel_rfl) (by kernel_rfl) (fun _ _ _ h => h) (Or.inl ⟨by rfl, by intro W hW; go_simp; try (first | (with_reducible rfl) | omega)⟩) hS0 ?_
      refine wpAnyH_take (i := 1) (v := vV 0 0 0 0) rfl (by kernel_rfl) (by kernel_rfl) (by kernel_rfl) (fun _ _ _ h => h) (Or.inl ⟨by rfl, by intro W hW; obtain ⟨g0, g1, g2⟩ := HQ6.out W hW; go_simp; try (first | (with_reducible rfl) | omega)⟩) hS0 ?_
      refine wpAnyH_take (i := 2) (v := vV 0 0 0 0) rfl (by kernel_rfl) (by kernel_rfl) (by kernel_rfl) (fun _ _ _ h => h) (Or.inl ⟨by rfl, by intro W hW; go_simp; try (first | (with_reducible rfl) | omega)⟩) hS0 ?_
      refine wpAnyH_take (i := 3) (v := .bool true) rfl (by kernel_rfl) (by kernel_rfl) (by kernel_rfl) (fun _ _ _ h => h) (Or.inl ⟨by rfl, by intro W hW; go_simp; try (first | (with_reducible rfl) | omega)⟩) hS0 ?_
      refine wpAnyH_take (i := 4) (v := .slice lA 0 lc) rfl (by kernel_rfl) (by kernel_rfl) (by kernel_rfl) (fun _ _ _ h => h) (Or.inl ⟨by rfl, by intro W hW; go_simp; try (first | (with_reducible rfl) | omega)⟩) hS0 ?_
      refine wpAnyH_take (i := 5) (v := .bool true) rfl (by kernel_rfl) (by kernel_rfl) (by kernel_rfl) (fun _ _ _ h => h) (Or.inl ⟨by rfl, by intro W hW; go_simp; try (first | (with_reducible rfl) | omega)⟩) hS0 ?_
      refine wpAnyH_done (by kernel_rfl) ?_ _
      go_wp2_with fail
      go_ret2
      exact ⟨lA, 0, lc, rfl, F.out _ hS0⟩
    · obtain ⟨b, off, ⟨b1, b2, b3, b4⟩, e, hb, hx, p0, p1, p2⟩ := slv_at HW.out.sl (show n - 1 < n by omega)
      subst e
      have hgv' : (⟨a1, a2, a3, a4⟩ : DV) = ⟨b1, b2, b3, b4⟩ := by
        rw [← hgv]
        unfold getM
        rw [if_pos (by omega), show ((vs.length : Int) - 1).toNat = n - 1 by omega, hx]
        rfl
      injection hgv' with e1 e2 e3 e4
      subst e1 e2 e3 e4
      obtain ⟨A2, hA2, hsl2, hbl2⟩ := sl_sliced HW.out.sl (Nat.zero_le (n - 1)) (show n - 1 ≤ n by omega)
      rw [Nat.sub_zero, Nat.sub_zero] at hA2 hsl2
      rw [List.drop_zero] at hsl2
      have F : Hid (∀ W, Kp (fun _ => False) w6 W → LT w W (t + 2) A2 (n - 1) lc) := Lib.hid fun W hW => (HW.out.cutTo hst5 hsl2 hbl2 2 (by omega)).on (hk56.trans hW)
      obtain ⟨A5, c5, hsk5, hk5, hT5⟩ := id hst5
      have nb : ¬ Bk w.heap.size A b := (HW.out.ok _ rfl).2
      have HQ5 : Hid (∀ W : World, Kp (fun _ => False) w6 W → W.cell? ⟨b, off + (n - 1) * 3, none⟩ = some (.int .i64 a1) ∧ W.cell? ⟨b, off + (n - 1) * 3 + 1, none⟩ = some (.int .i64 a2) ∧ W.cell? ⟨b, off + (n - 1) * 3 + 2, none⟩ = some (.complex .f64 a3 a4)) := Lib.hid fun W hW => ⟨(hk56.trans hW).cellv (hk5.cellv p0 nb) id, (hk56.trans hW).cellv (hk5.cellv p1 nb) id, (hk56.trans hW).cellv (hk5.cellv p2 nb) id⟩
      have HSL := Lib.hid hA2
      obtain ⟨m, rfl⟩ : ∃ m, n = m + 1 := ⟨n - 1, by omega⟩
      rw [Nat.add_sub_cancel] at HSL F HQ5
      have hm1 : ((m + 1 : Nat) : Int) - 1 = (m : Int) := by omega
      have tn : (((m + 1 : Nat) : Int) == 0) = false := by simp; omega
      have HWR : Hid (IntKind.i64.wrap (m : Int) = (m : Int)) := Lib.hid (by rw [IntKind.wrap_i64]; omega)
      have hS0 : Kp (fun _ => False) w6 w6.drew := (Kp.refl _ _).drew
      have hml : m ≤ lc := by omega
      clear hst5 HW cP hk56 hgv hA2 hsl2 hbl2 hsk5 hk5 hT5 nb p0 p1 p2 hx hb
      go_wp2_with fail
      rw [HE6.out]
      refine wp_region_held (S := fun W => Kp (fun _ => False) w6 W) (by kernel_rfl) ?_
      change wpAnyH _ _ _ _ _ _ _ _ (World.drew _)
      refine wpAnyH_take (i := 0) (v := .slice (some ⟨b, off, none⟩) (m + 1) lc) rfl (by kernel_rfl) (by kernel_rfl) (by kernel_rfl) (fun _ _ _ h => h) (Or.inl ⟨by rfl, by intro W hW; go_simp; try (first | (with_reducible rfl) | omega)⟩) hS0 ?_
      refine wpAnyH_take (i := 1) (v := .int .i64 ((m + 1 : Nat) : Int)) rfl (by kernel_rfl) (by kernel_rfl) (by kernel_rfl) (fun _ _ _ h => h) (Or.inl ⟨by rfl, by intro W hW; go_simp; try (first | (with_reducible rfl) | omega)⟩) hS0 ?_
      refine wpAnyH_take (i := 2) (v := .int .i64 m) rfl (by kernel_rfl) (by kernel_rfl) (by kernel_rfl) (fun _ _ _ h => h) (Or.inl ⟨by rfl, by intro W hW; have hwr := HWR.out; go_simp; try (first | (with_reducible rfl) | omega)⟩) hS0 ?_
      refine wpAnyH_take (i := 3) (v := .slice A2 m lc) rfl (by kernel_rfl) (by kernel_rfl) (by kernel_rfl) (fun _ _ _ h => h) (Or.inl ⟨by rfl, by intro W hW; rw [← HSL.out]; go_simp; try (first | (with_reducible rfl) | omega)⟩) hS0 ?_
      refine wpAnyH_take (i := 4) (v := vV a1 a2 a3 a4) rfl (by kernel_rfl) (by kernel_rfl) (by kernel_rfl) (fun _ _ _ h => h) (Or.inl ⟨by rfl, by intro W hW; obtain ⟨g0, g1, g2⟩ := HQ6.out W hW; go_simp; try (first | (with_reducible rfl) | omega)⟩) hS0 ?_
      refine wpAnyH_take (i := 5) (v := .slice (some ⟨b, off, none⟩) (m + 1) lc) rfl (by kernel_rfl) (by kernel_rfl) (by kernel_rfl) (fun _ _ _ h => h) (Or.inl ⟨by rfl, by intro W hW; go_simp; try (first | (with_reducible rfl) | omega)⟩) hS0 ?_
      refine wpAnyH_take (i := 6) (v := .int .i64 ((m + 1 : Nat) : Int)) rfl (by kernel_rfl) (by kernel_rfl) (by kernel_rfl) (fun _ _ _ h => h) (Or.inl ⟨by rfl, by intro W hW; go_simp; try (first | (with_reducible rfl) | omega)⟩) hS0 ?_
      refine wpAnyH_take (i := 7) (v := .int .i64 m) rfl (by kernel_rfl) (by kernel_rfl) (by kernel_rfl) (fun _ _ _ h => h) (Or.inl ⟨by rfl, by intro W hW; have hwr := HWR.out; go_simp; try (first | (with_reducible rfl) | omega)⟩) hS0 ?_
      refine wpAnyH_take (i := 8) (v := .pointer (some ⟨b, off + m * 3, none⟩)) rfl (by kernel_rfl) (by kernel_rfl) (by kernel_rfl) (fun _ _ _ h => h) (Or.inl ⟨by rfl, by intro W hW; go_simp; try (first | (with_reducible rfl) | omega)⟩) hS0 ?_
      refine wpAnyH_take (i := 9) (v := vV a1 a2 a3 a4) rfl (by kernel_rfl) (by kernel_rfl) (by kernel_rfl) (fun _ _ _ h => h) (Or.inl ⟨by rfl, by intro W hW; obtain ⟨g0, g1, g2⟩ := HQ5.out W hW; go_simp; try (first | (with_reducible rfl) | omega)⟩) hS0 ?_
      refine wpAnyH_one (i := 10) (by kernel_rfl) rfl (fun K hK => ?_)
      go_simp
      refine Calls.mono (refSameV_any ⟨a1, a2, a3, a4⟩ ⟨a1, a2, a3, a4⟩ _) ?_
      rintro e w7 ⟨rfl, hb7⟩
      rw [sameV_refl]
      have hS7 : Kp (fun _ => False) w6 w7 := hS0.ofBelow hb7
      clear hb7
      go_simp
      refine hK _ _ ⟨hS7, ?_⟩; clear hK K
      refine wpAnyH_take (i := 11) (v := .slice A2 m lc) rfl (by kernel_rfl) (by kernel_rfl) (by kernel_rfl) (fun _ _ _ h => h) (Or.inl ⟨by rfl, by intro W hW; go_simp; try (first | (with_reducible rfl) | omega)⟩) hS7 ?_
      refine wpAnyH_take (i := 12) (v := .bool true) rfl (by kernel_rfl) (by kernel_rfl) (by kernel_rfl) (fun _ _ _ h => h) (Or.inl ⟨by rfl, by intro W hW; go_simp; try (first | (with_reducible rfl) | omega)⟩) hS7 ?_
      refine wpAnyH_done (by kernel_rfl) ?_ _
      go_wp2_with fail
      go_ret2
      exact ⟨A2, m, lc, rfl, F.out _ hS7⟩
end Go.Proofs.Ythddhipmmhihlaa
