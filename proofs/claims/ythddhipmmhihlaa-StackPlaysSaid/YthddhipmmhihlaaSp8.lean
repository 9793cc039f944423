/-
  Whatever is put on the flat stack: the walk.
-/
import Derived.Test.YthddhipmmhihlaaSp7
import Derived.Deep.DeepCutAuto
import Derived.Deep.LoopGhost
namespace Go.Proofs.Ythddhipmmhihlaa
open Go.RowKit
set_option linter.unusedSimpArgs false
set_option linter.unusedVariables false
attribute [local go_sem] run_store_cplx
theorem LT.parts {w wr : World} {t n lc : Nat} {lA : Option Addr} (h : LT w wr t lA n lc) : ∃ A c vs, SkW wr w.heap.size A c vs ∧ SlV wr wr.heap.size lA n lc vs ∧ vs.length = n ∧ n ≤ t := by
  obtain ⟨_, A, c, vs, h1, h2, _, h4, _⟩ := h
  exact ⟨A, c, vs, h1, h2, h2.1, h4⟩
set_option maxRecDepth 100000 in
set_option maxHeartbeats 8000000 in
theorem stackPlays_walk (cA : Option Addr) (cn cc : Nat) (ops : List DOp7) (w : World) (h : SlR 7 56 ROp7 w w.heap.size cA cn cc ops) :
    Calls Try.prog 5 #[.slice cA cn cc] w fun e w' => e = .returned (.bool true) ∧ Below w.heap.size w w' := by
  have hcm : cn ≤ 9223372036854775807 := by have := h.2.1; have := h.2.2.1; unfold maxLen at this; omega
  obtain ⟨w1, hw1⟩ : ∃ w1, w.alloc (.cells #[.slice none 0 0] 53) = w1 := ⟨_, rfl⟩
  have hp1 : SkW w1 w.heap.size none 0 [] := by rw [← hw1]; exact stack_new w
  have hb1 : Below w.heap.size w w1 := by rw [← hw1]; exact (Below.refl _ _).alloc (Nat.le_refl _) _
  have H0 : Hid (LT w w1 (2 * 0) none 0 0) := Lib.hid ⟨hb1, none, 0, [], hp1, SlR.nil_ _ _, fun ad ha => (by cases ha), Nat.le_refl _, fun j hj => by rcases hj with rfl | h; exact Nat.le_refl _; cases h⟩
  have HC := Lib.hid h
  have HE := Lib.hid hw1
  clear h hp1 hb1 hw1
  go_enter Try.func5, Try.ntmps5
  go_wp2_with fail
  rw [HE.out]
  go_loopg [4, 5] cn (fun g l i wr => ∃ (t n lc : Nat) (lA : Option Addr), l = .slice lA n lc ∧ i = .int .i64 t ∧ t ≤ cn ∧ t ≤ 60 ∧ g = cn - t ∧ Hid (LT w wr (2 * t) lA n lc))
  case atStart => exact ⟨0, 0, 0, none, rfl, rfl, Nat.zero_le _, by omega, rfl, H0⟩
  case round =>
    obtain ⟨t, n, lc, lA, rfl, rfl, htc, ht60, rfl, HS⟩ := hrel
    by_cases htt : t < cn ∧ t < 60
    · obtain ⟨ht1, ht2⟩ := htt
      obtain ⟨b, off, ⟨k, N, M, ⟨vk, vn, vr, vi⟩⟩, rfl, hb, hx, p0, p1, p2, p3, p4, p5, p6, wk, wN, wM⟩ := op7_at HC.out ht1
      have q0 := (HS.out.bw.cell (p := ⟨b, off + t * 7, none⟩) hb).trans p0
      have q1 := (HS.out.bw.cell (p := ⟨b, off + t * 7 + 1, none⟩) hb).trans p1
      have q2 := (HS.out.bw.cell (p := ⟨b, off + t * 7 + 2, none⟩) hb).trans p2
      have q3 := (HS.out.bw.cell (p := ⟨b, off + t * 7 + 3, none⟩) hb).trans p3
      have q4 := (HS.out.bw.cell (p := ⟨b, off + t * 7 + 4, none⟩) hb).trans p4
      have q5 := (HS.out.bw.cell (p := ⟨b, off + t * 7 + 5, none⟩) hb).trans p5
      have q6 := (HS.out.bw.cell (p := ⟨b, off + t * 7 + 6, none⟩) hb).trans p6
      simp only at q0 q1 q2 q3 q4 q5 q6 wk wN wM
      have cS := Lib.hid (step_any w wr (2 * t) n lc lA k N M vk vn vr vi HS.out (by omega) wk wN wM)
      clear p0 p1 p2 p3 p4 p5 p6 hx hb
      go_wp2_with fail
      refine cS.out.mono ?_
      rintro e w3 ⟨lA3, n3, lc3, rfl, hlt3⟩
      have HS3 : Hid (LT w w3 (2 * (t + 1)) lA3 n3 lc3) := Lib.hid hlt3
      obtain ⟨A3, c3, vs3, hsk3, hsl3, hvn3, hn3⟩ := hlt3.parts
      have cL := len_box w.heap.size A3 vs3.length c3 w3 hsk3.c0 (by omega)
      rw [hvn3] at cL
      have CL := Lib.hid cL
      have HSK := Lib.hid hsk3
      have HSL := Lib.hid hsl3
      have HVN := Lib.hid hvn3
      have hn3' : n3 ≤ 300 := by omega
      have tnn : ((n3 : Int) != n3) = false := by simp
      clear q0 q1 q2 q3 q4 q5 q6 cS hlt3 hsk3 hsl3 hvn3 cL
      go_wp2_with fail
      refine CL.out.mono ?_
      rintro e w' ⟨rfl, rfl⟩
      go_wp2_with fail
      go_loopg [8] n3 (fun g i wx => ∃ kq : Nat, i = .int .i64 kq ∧ kq ≤ n3 ∧ g = n3 - kq ∧ Hid (Kp (fun _ => False) w3 wx))
      case atStart => exact ⟨0, rfl, Nat.zero_le _, rfl, Lib.hid (Kp.refl _ _)⟩
      case round =>
        obtain ⟨kq, rfl, hkq, rfl, HK⟩ := hrel
        by_cases hlt : kq < n3
        · obtain ⟨bq, offq, ⟨vk, vn, vx, vy⟩, rfl, hbq, hxq, p0, p1, p2⟩ := slv_at HSL.out hlt
          have hgq : getM vs3 (kq : Int) = ⟨vk, vn, vx, vy⟩ := by unfold getM; rw [if_pos (by omega)]; simp [hxq]
          have cG := Lib.hid (fun (W : World) (hW : Kp (fun _ => False) w3 W) => get_any w.heap.size c3 A3 vs3 kq W (HSK.out.on hW) (by have := HVN.out; omega))
          rw [hgq] at cG
          have HQ : Hid (∀ W : World, Kp (fun _ => False) w3 W → W.cell? ⟨bq, offq + kq * 3, none⟩ = some (.int .i64 vk) ∧ W.cell? ⟨bq, offq + kq * 3 + 1, none⟩ = some (.int .i64 vn) ∧ W.cell? ⟨bq, offq + kq * 3 + 2, none⟩ = some (.complex .f64 vx vy)) := Lib.hid fun W hW => ⟨hW.cellv p0 id, hW.cellv p1 id, hW.cellv p2 id⟩
          have hlt' : (kq : Int) < n3 := by omega
          have hS0 := HK.out.drew
          clear p0 p1 p2 hxq hbq hgq HSL HSK HVN HS CL tnn
          go_wp2_with fail
          refine wp_region_held (S := fun W => Kp (fun _ => False) w3 W) (by kernel_rfl) ?_
          change wpAnyH _ _ _ _ _ _ _ _ (World.drew _)
          refine wpAnyH_take (i := 0) (v := .pointer (some ⟨w.heap.size, 0, none⟩)) rfl (by kernel_rfl) (by kernel_rfl) (by kernel_rfl) (fun _ _ _ h => h) (Or.inl ⟨by rfl, by intro W hW; go_simp; try (first | (with_reducible rfl) | omega)⟩) hS0 ?_
          refine wpAnyH_take (i := 1) (v := .int .i64 kq) rfl (by kernel_rfl) (by kernel_rfl) (by kernel_rfl) (fun _ _ _ h => h) (Or.inl ⟨by rfl, by intro W hW; go_simp; try (first | (with_reducible rfl) | omega)⟩) hS0 ?_
          refine wpAnyH_take (i := 3) (v := .slice (some ⟨bq, offq, none⟩) n3 lc3) rfl (by kernel_rfl) (by kernel_rfl) (by kernel_rfl) (fun _ _ _ h => h) (Or.inl ⟨by rfl, by intro W hW; go_simp; try (first | (with_reducible rfl) | omega)⟩) hS0 ?_
          refine wpAnyH_take (i := 4) (v := .int .i64 kq) rfl (by kernel_rfl) (by kernel_rfl) (by kernel_rfl) (fun _ _ _ h => h) (Or.inl ⟨by rfl, by intro W hW; go_simp; try (first | (with_reducible rfl) | omega)⟩) hS0 ?_
          refine wpAnyH_all (rs := [2, 5]) (by kernel_rfl) (by simp) (fun x hx => ?_)
          simp only [List.mem_cons, List.not_mem_nil, or_false] at hx
          rcases hx with rfl | rfl
          · refine wpOp_step rfl (fun K hK => ?_)
            go_simp
            refine (cG.out _ hS0).mono ?_
            rintro e w5 ⟨rfl, hb5⟩
            have hS5 : Kp (fun _ => False) w3 w5 := hS0.ofBelow hb5
            clear hb5 cG
            go_simp
            refine hK _ _ ⟨hS5, ?_⟩; clear hK K
            refine wpAnyH_take (i := 5) (v := .pointer (some ⟨bq, offq + kq * 3, none⟩)) rfl (by kernel_rfl) (by kernel_rfl) (by kernel_rfl) (fun _ _ _ h => h) (Or.inl ⟨by rfl, by intro W hW; go_simp; try (first | (with_reducible rfl) | omega)⟩) hS5 ?_
            refine wpAnyH_take (i := 6) (v := vV vk vn vx vy) rfl (by kernel_rfl) (by kernel_rfl) (by kernel_rfl) (fun _ _ _ h => h) (Or.inl ⟨by rfl, by intro W hW; obtain ⟨g0, g1, g2⟩ := HQ.out W hW; go_simp; try (first | (with_reducible rfl) | omega)⟩) hS5 ?_
            refine wpAnyH_one (i := 7) (by kernel_rfl) rfl (fun K hK => ?_)
            go_simp
            refine (refSameV_any ⟨vk, vn, vx, vy⟩ ⟨vk, vn, vx, vy⟩ _).mono ?_
            rintro e w6 ⟨rfl, hb6⟩
            rw [sameV_refl]
            have hS6 : Kp (fun _ => False) w3 w6 := hS5.ofBelow hb6
            clear hb6
            go_simp
            refine hK _ _ ⟨hS6, ?_⟩; clear hK K
            refine wpAnyH_take (i := 8) (v := .bool false) rfl (by kernel_rfl) (by kernel_rfl) (by kernel_rfl) (fun _ _ _ h => h) (Or.inl ⟨by rfl, by intro W hW; go_simp; try (first | (with_reducible rfl) | omega)⟩) hS6 ?_
            refine wpAnyH_done (by kernel_rfl) ?_ _
            have HK6 := Lib.hid hS6
            go_simp
            go_wp2_with fail
            go_roundg (n3 - (kq + 1))
            case measure => omega
            case rel => exact ⟨kq + 1, by go_num, by omega, rfl, HK6⟩
          · refine wpOp_step rfl (fun K hK => ?_)
            go_simp
            refine hK _ _ ⟨hS0, ?_⟩; clear hK K
            refine wpAnyH_take (i := 6) (v := vV vk vn vx vy) rfl (by kernel_rfl) (by kernel_rfl) (by kernel_rfl) (fun _ _ _ h => h) (Or.inl ⟨by rfl, by intro W hW; obtain ⟨g0, g1, g2⟩ := HQ.out W hW; go_simp; try (first | (with_reducible rfl) | omega)⟩) hS0 ?_
            refine wpAnyH_one (i := 2) (by kernel_rfl) rfl (fun K hK => ?_)
            go_simp
            refine (cG.out _ hS0).mono ?_
            rintro e w5 ⟨rfl, hb5⟩
            have hS5 : Kp (fun _ => False) w3 w5 := hS0.ofBelow hb5
            clear hb5 cG
            go_simp
            refine hK _ _ ⟨hS5, ?_⟩; clear hK K
            refine wpAnyH_one (i := 7) (by kernel_rfl) rfl (fun K hK => ?_)
            go_simp
            refine (refSameV_any ⟨vk, vn, vx, vy⟩ ⟨vk, vn, vx, vy⟩ _).mono ?_
            rintro e w6 ⟨rfl, hb6⟩
            rw [sameV_refl]
            have hS6 : Kp (fun _ => False) w3 w6 := hS5.ofBelow hb6
            clear hb6
            go_simp
            refine hK _ _ ⟨hS6, ?_⟩; clear hK K
            refine wpAnyH_take (i := 8) (v := .bool false) rfl (by kernel_rfl) (by kernel_rfl) (by kernel_rfl) (fun _ _ _ h => h) (Or.inl ⟨by rfl, by intro W hW; go_simp; try (first | (with_reducible rfl) | omega)⟩) hS6 ?_
            refine wpAnyH_done (by kernel_rfl) ?_ _
            have HK6 := Lib.hid hS6
            go_simp
            go_wp2_with fail
            go_roundg (n3 - (kq + 1))
            case measure => omega
            case rel => exact ⟨kq + 1, by go_num, by omega, rfl, HK6⟩
        · have hkn : kq = n3 := by omega
          subst hkn
          have HS4 := Lib.hid (HS3.out.on HK.out)
          go_wp2_with fail
          go_roundg (cn - (t + 1))
          case measure => omega
          case rel => exact ⟨t + 1, _, _, _, rfl, by go_num, by omega, by omega, rfl, HS4⟩
    · have hexit : t = cn ∨ t = 60 := by omega
      have HB := Lib.hid HS.out.bw
      rcases hexit with rfl | rfl
      · go_wp2_with fail
        refine (stack_lives _).mono ?_
        rintro e w9 ⟨rfl, hb9⟩
        have HB9 := Lib.hid (bl_trans HB.out HB.out.size hb9)
        clear hb9
        go_wp2_with fail
        go_ret
        exact ⟨rfl, HB9.out⟩
      · have h60 : cn = 60 ∨ 60 < cn := by omega
        rcases h60 with rfl | h60
        · go_wp2_with fail
          refine (stack_lives _).mono ?_
          rintro e w9 ⟨rfl, hb9⟩
          have HB9 := Lib.hid (bl_trans HB.out HB.out.size hb9)
          clear hb9
          go_wp2_with fail
          go_ret
          exact ⟨rfl, HB9.out⟩
        · have h60' : (60 : Int) < cn := by omega
          go_wp2_with fail
          refine (stack_lives _).mono ?_
          rintro e w9 ⟨rfl, hb9⟩
          have HB9 := Lib.hid (bl_trans HB.out HB.out.size hb9)
          clear hb9
          go_wp2_with fail
          go_ret
          exact ⟨rfl, HB9.out⟩
end Go.Proofs.Ythddhipmmhihlaa
