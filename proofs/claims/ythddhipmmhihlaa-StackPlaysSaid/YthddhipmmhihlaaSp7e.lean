/-
  The flat stack: a round, Grow.
-/
import Derived.Test.YthddhipmmhihlaaSp6
import Derived.Deep.DeepCutAuto
namespace Go.Proofs.Ythddhipmmhihlaa
open Go.RowKit
set_option linter.unusedSimpArgs false
set_option linter.unusedVariables false
attribute [local go_sem] run_store_cplx
set_option maxRecDepth 100000 in
set_option maxHeartbeats 8000000 in
theorem step_4 (w wr : World) (t n lc : Nat) (lA : Option Addr) (k N M vk vn vr vi : Int) (HS : LT w wr t lA n lc) (ht : t ≤ 300) (wfk : (Lit.int .i64 k).wf = true) (wfN : (Lit.int .i64 N).wf = true) (wfM : (Lit.int .i64 M).wf = true) (hk : k.tmod 7 = 4) :
    Calls Try.prog 14 #[.pointer (some ⟨w.heap.size, 0, none⟩), .slice lA n lc, .agg #[.int .i64 k, .int .i64 N, .int .i64 M, .int .i64 vk, .int .i64 vn, .int .i64 vr, .int .i64 vi]] wr (StepTo w t) := by
  obtain ⟨hbwr, A, c, vs, hsk, hsl, hok, hnt, hB⟩ := HS
  have HH : Hid (Below w.heap.size w wr ∧ SkW wr w.heap.size A c vs ∧ SlV wr wr.heap.size lA n lc vs ∧ Ok wr (Bk w.heap.size A) lA ∧ n ≤ t ∧ ∀ j, Bk w.heap.size A j → w.heap.size ≤ j) := Lib.hid ⟨hbwr, hsk, hsl, hok, hnt, hB⟩
  have hn : n ≤ 300 := by omega
  have hvn := hsl.1
  have hnlc : n ≤ lc := hsl.2.1
  have hlcm : lc ≤ maxLen := hsl.2.2.1
  clear hbwr hsk hsl hok hB
  have z3 : (wr.alloc (.cells #[.int .i64 k, .int .i64 N, .int .i64 M, .int .i64 vk, .int .i64 vn, .int .i64 vr, .int .i64 vi] 57)).cell? ⟨wr.heap.size, 3, none⟩ = some (.int .i64 vk) := (new_cells (Below.refl _ _) 3 _ rfl).1
  have z4 : (wr.alloc (.cells #[.int .i64 k, .int .i64 N, .int .i64 M, .int .i64 vk, .int .i64 vn, .int .i64 vr, .int .i64 vi] 57)).cell? ⟨wr.heap.size, 4, none⟩ = some (.int .i64 vn) := (new_cells (Below.refl _ _) 4 _ rfl).1
  have z5 : (wr.alloc (.cells #[.int .i64 k, .int .i64 N, .int .i64 M, .int .i64 vk, .int .i64 vn, .int .i64 vr, .int .i64 vi] 57)).cell? ⟨wr.heap.size, 5, none⟩ = some (.int .i64 vr) := (new_cells (Below.refl _ _) 5 _ rfl).1
  have z6 : (wr.alloc (.cells #[.int .i64 k, .int .i64 N, .int .i64 M, .int .i64 vk, .int .i64 vn, .int .i64 vr, .int .i64 vi] 57)).cell? ⟨wr.heap.size, 6, none⟩ = some (.int .i64 vi) := (new_cells (Below.refl _ _) 6 _ rfl).1
  go_enter Try.func14, Try.ntmps14
  go_upto_region 2 with fail
  go_cut [9] (fun v wx => ∃ vb : Nat, v = .pointer (some ⟨vb, 0, none⟩) ∧ Hid (StW w wx t lA n lc A c vs wr.heap.size vb k N M ⟨vk, vn, nr vr, nr vi⟩))
  case first =>
    go_wp2_with fail
    refine (value_any vk vn vr vi _).mono ?_
    rintro e w2 ⟨rfl, hb2⟩
    have HST : Hid (StW w (w2.alloc (.cells #[.int .i64 vk, .int .i64 vn, .complex .f64 (nr vr) (nr vi)] 45)) t lA n lc A c vs wr.heap.size w2.heap.size k N M ⟨vk, vn, nr vr, nr vi⟩) := Lib.hid (StW.mk0 HH.out.1 HH.out.2.1 HH.out.2.2.1 HH.out.2.2.2.1 HH.out.2.2.2.2.1 HH.out.2.2.2.2.2 hb2)
    clear hb2 z3 z4 z5 z6 HH
    go_wp2_with fail
    go_meet
    exact ⟨_, rfl, HST⟩
  case rest =>
    obtain ⟨vb, rfl, HW⟩ := hcut
    clear HH z3 z4 z5 z6
    obtain ⟨ob, hob⟩ : ∃ x, wr.heap.size = x := ⟨_, rfl⟩
    rw [hob] at HW ⊢
    have o0 := HW.out.o0
    have t0 : (k.tmod 7 == 0) = false := by simp [hk]
    have t1 : (k.tmod 7 == 1) = false := by simp [hk]
    have t2 : (k.tmod 7 == 2) = false := by simp [hk]
    have t3 : (k.tmod 7 == 3) = false := by simp [hk]
    have t4 : (k.tmod 7 == 4) = true := by simp [hk]
    clear hk hob
    have o1 := HW.out.o1
    obtain ⟨w1, hw1⟩ : ∃ x, wc.alloc (.cells #[.int .i64 N, .int .i64 1] 38) = x := ⟨_, rfl⟩
    have hk1 : Kp (fun _ => False) wc w1 := by rw [← hw1]; exact (Kp.refl _ _).alloc _
    have z := fun j u hu => (new_cells (w := wc) (cs := #[.int .i64 N, .int .i64 1]) (t := 38) (Below.refl _ _) j u hu).1
    rw [hw1] at z
    have z0 := z 0 _ rfl
    have z1 := z 1 _ rfl
    obtain ⟨tb, htb⟩ : ∃ x, wc.heap.size = x := ⟨_, rfl⟩
    rw [htb] at z0 z1
    have hs1 : w1.heap.size = tb + 1 := by rw [← hw1]; simp; omega
    have ntb : ¬ Bk w.heap.size A tb := fun h => by have := HW.out.sk.blk_lt h; omega
    have HT : Hid (∀ W : World, Kp (Bk w.heap.size A) w1 W → W.cell? ⟨tb, 0, none⟩ = some (.int .i64 N) ∧ W.cell? ⟨tb, 1, none⟩ = some (.int .i64 1)) := Lib.hid fun W hW => ⟨hW.cellv z0 ntb, hW.cellv z1 ntb⟩
    have HL1 : Hid (∀ W : World, Kp (fun _ => False) w1 W → SrcCells W lA n 3 (vs.flatMap cellsV)) := Lib.hid fun W hW => HW.out.src (hk1.mono fun _ _ h => h.elim) hW
    have HG : Hid (∀ W4 : World, Kp (fun _ => False) w1 W4 → Calls Try.prog 28 #[.pointer (some ⟨w.heap.size, 0, none⟩), .slice (some ⟨tb, 0, none⟩) 2 2] W4 fun e w' => e = .returned (.int .i64 n) ∧ SkTo W4 w.heap.size A (vs ++ zsM [N, 1]) w') := Lib.hid fun W4 hW4 => by
      have hq : SlR 1 8 (RInt .i64) W4 W4.heap.size (some ⟨tb, 0, none⟩) 2 2 [N, 1] := by
        refine ⟨rfl, Nat.le_refl _, by unfold maxLen; omega, by unfold reachBytes; omega, fun _ => ⟨tb, 0, rfl, by have := hW4.size; omega, fun i x hi => ?_⟩⟩
        have hi2 := (List.getElem?_eq_some_iff.1 hi).1
        rcases (show i = 0 ∨ i = 1 by simp at hi2; omega) with rfl | rfl
        · simp at hi; subst hi
          refine ⟨[.int .i64 N], rfl, fun j u hj => ?_, rfl, wfN⟩
          have hj0 : j = 0 := by have := (List.getElem?_eq_some_iff.1 hj).1; simp at this; omega
          subst hj0
          simp at hj
          subst hj
          exact hW4.cellv z0 id
        · simp at hi; subst hi
          refine ⟨[.int .i64 1], rfl, fun j u hj => ?_, rfl, by decide⟩
          have hj0 : j = 0 := by have := (List.getElem?_eq_some_iff.1 hj).1; simp at this; omega
          subst hj0
          simp at hj
          subst hj
          exact hW4.cellv z1 id
      have := grow_any w.heap.size c 2 2 _ A vs [N, 1] W4 (HW.out.sk.on (hk1.trans hW4)) (by omega) (by decide) (by decide) hq
      rw [hvn] at this
      exact this
    have htb1 : tb ≤ w1.heap.size := by omega
    have hflat : (vs ++ zsM [N, 1]).flatMap cellsV = vs.flatMap cellsV ++ [.int .i64 (zeroM N), .int .i64 0, .complex .f64 0 0, .int .i64 (zeroM 1), .int .i64 0, .complex .f64 0 0] := by simp [cellsV, zsM]
    have FIN : Hid (∀ (W4 W7 : World) (A' : Option Addr) (c' : Nat), Kp (fun _ => False) w1 W4 → W4.ownsRow w1.heap.size 45 3 (.slice A' (n + 2) c') (n + 2) (vs.flatMap cellsV ++ [.int .i64 (zeroM N), .int .i64 0, .complex .f64 0 0, .int .i64 (zeroM 1), .int .i64 0, .complex .f64 0 0]) → SkTo W4 w.heap.size A (vs ++ zsM [N, 1]) W7 → LT w W7 (t + 2) A' (n + 2) c') := Lib.hid fun W4 W7 A' c' hW hown hs => HW.out.own2 (hk1.trans hW) (RowF.ofOwn (by rw [hflat, htb]; exact hown.mono htb1)) hs 2 (by omega) (by omega)
    have HKG : Hid (∀ (W4 W7 : World), Kp (fun _ => False) w1 W4 → SkTo W4 w.heap.size A (vs ++ zsM [N, 1]) W7 → Kp (Bk w.heap.size A) w1 W7) := Lib.hid fun W4 W7 h1 h2 => by obtain ⟨_, _, _, h3, _⟩ := h2; exact (h1.mono fun _ _ h => h.elim).trans h3
    obtain ⟨i0, hi, hz0, hz1, hz2⟩ := info_parts info_val
    have hone1 := Lib.hid (oneV vs)
    have hone2 : Hid (∀ u ∈ [Value.int .i64 (zeroM N), .int .i64 0, .complex .f64 0 0, .int .i64 (zeroM 1), .int .i64 0, .complex .f64 0 0], u.oneCell' = true) := Lib.hid (by
      intro u hu
      simp only [List.mem_cons, List.not_mem_nil, or_false] at hu
      rcases hu with rfl | rfl | rfl | rfl | rfl | rfl <;> rfl)
    have hn63 : 0 + n ≤ maxLen := by unfold maxLen; omega
    have hnb : (0 + n) * 32 ≤ 140737488355328 := by omega
    have hn63' : n + 2 ≤ maxLen := by unfold maxLen; omega
    have hnb' : (n + 2) * 32 ≤ 140737488355328 := by omega
    have tnn : ((n : Int) == n) = true := by simp
    have HE1 := Lib.hid hw1
    have HTB := Lib.hid htb
    have hS0 : Kp (Bk w.heap.size A) w1 w1.drew := (Kp.refl _ _).drew
    have hF0 : Kp (fun _ => False) w1 w1.drew := (Kp.refl _ _).drew
    clear z z0 z1 hk1 ntb hflat HW hvn hlcm hw1 hs1 htb
    go_wp2_with fail
    rw [HE1.out, HTB.out]
    refine wp_region_held (S := fun W => Kp (Bk w.heap.size A) w1 W) (by kernel_rfl) ?_
    change wpAnyH _ _ _ _ _ _ _ _ (World.drew _)
    refine wpAnyH_take (i := 1) (v := .slice lA n lc) rfl (by kernel_rfl) (by kernel_rfl) (by kernel_rfl) (fun _ _ _ h => h) (Or.inl ⟨by rfl, by intro W hW; go_simp; try (first | (with_reducible rfl) | omega)⟩) hS0 ?_
    refine wpAnyH_take (i := 3) (v := .slice (some ⟨tb, 0, none⟩) 2 2) rfl (by kernel_rfl) (by kernel_rfl) (by kernel_rfl) (fun _ _ _ h => h) (Or.inl ⟨by rfl, by intro W hW; go_simp; try (first | (with_reducible rfl) | omega)⟩) hS0 ?_
    refine wpAnyH_take (i := 4) (v := .pointer (some ⟨tb, 0, none⟩)) rfl (by kernel_rfl) (by kernel_rfl) (by kernel_rfl) (fun _ _ _ h => h) (Or.inl ⟨by rfl, by intro W hW; go_simp; try (first | (with_reducible rfl) | omega)⟩) hS0 ?_
    refine wpAnyH_take (i := 5) (v := .int .i64 N) rfl (by kernel_rfl) (by kernel_rfl) (by kernel_rfl) (fun _ _ _ h => h) (Or.inl ⟨by rfl, by intro W hW; obtain ⟨g0, g1⟩ := HT.out W hW; go_simp; try (first | (with_reducible rfl) | omega)⟩) hS0 ?_
    refine wpAnyH_take (i := 7) (v := .slice (some ⟨tb, 0, none⟩) 2 2) rfl (by kernel_rfl) (by kernel_rfl) (by kernel_rfl) (fun _ _ _ h => h) (Or.inl ⟨by rfl, by intro W hW; go_simp; try (first | (with_reducible rfl) | omega)⟩) hS0 ?_
    refine wpAnyH_take (i := 8) (v := .pointer (some ⟨tb, 1, none⟩)) rfl (by kernel_rfl) (by kernel_rfl) (by kernel_rfl) (fun _ _ _ h => h) (Or.inl ⟨by rfl, by intro W hW; go_simp; try (first | (with_reducible rfl) | omega)⟩) hS0 ?_
    refine wpAnyH_take (i := 9) (v := .int .i64 1) rfl (by kernel_rfl) (by kernel_rfl) (by kernel_rfl) (fun _ _ _ h => h) (Or.inl ⟨by rfl, by intro W hW; obtain ⟨g0, g1⟩ := HT.out W hW; go_simp; try (first | (with_reducible rfl) | omega)⟩) hS0 ?_
    refine wpAnyH_take (i := 13) (v := .pointer (some ⟨w.heap.size, 0, none⟩)) rfl (by kernel_rfl) (by kernel_rfl) (by kernel_rfl) (fun _ _ _ h => h) (Or.inl ⟨by rfl, by intro W hW; go_simp; try (first | (with_reducible rfl) | omega)⟩) hS0 ?_
    refine wpAnyH_take (i := 14) (v := .slice (some ⟨tb, 0, none⟩) 2 2) rfl (by kernel_rfl) (by kernel_rfl) (by kernel_rfl) (fun _ _ _ h => h) (Or.inl ⟨by rfl, by intro W hW; go_simp; try (first | (with_reducible rfl) | omega)⟩) hS0 ?_
    refine wpAnyH_take (i := 16) (v := .int .i64 n) rfl (by kernel_rfl) (by kernel_rfl) (by kernel_rfl) (fun _ _ _ h => h) (Or.inl ⟨by rfl, by intro W hW; go_simp; try (first | (with_reducible rfl) | omega)⟩) hS0 ?_
    refine wpAnyH_one (i := 0) (by kernel_rfl) rfl (fun K hK => ?_)
    go_simp
    have hF1 : Kp (fun _ => False) w1 (w1.drew.alloc (.cells #[] 45)) := hF0.alloc _
    have hS1 : Kp (Bk w.heap.size A) w1 (w1.drew.alloc (.cells #[] 45)) := hS0.alloc _
    have hw0 := Lib.hid (World.ownsRow_lit (base := w1.heap.size) (e := 45) (size := 3) w1.drew #[] 0 (Nat.le_refl _) (by unfold maxLen; omega) rfl)
    refine hK _ _ ⟨hS1, ?_⟩; clear hK K
    refine wpAnyH_one (i := 2) (by kernel_rfl) rfl (fun K hK => ?_)
    refine step_append_src _ rfl (.tmp 103) (.tmp 104) 24 rfl w1.heap.size 45 i0 (.agg #[.int .i64 0, .int .i64 0, .complex .f64 0 0]) 3 32 Try.underlying24 hi hz0 hz1 hz2 rfl (by decide) (.slice (some ⟨w1.drew.heap.size, 0, none⟩) 0 0) 0 [] ?qq1 hw0.out lA n lc (vs.flatMap cellsV) ?qq2 (HL1.out _ hF1) hone1.out hn63 hnb hF1.size ?_
    case qq1 => go_simp
    case qq2 => go_simp
    intro v' W2 hown hgrow hat
    rw [Nat.zero_add, List.nil_append] at hown
    obtain ⟨A2, c2, rfl, _⟩ := own_form hown
    have hF2 : Kp (fun _ => False) w1 W2 := hF1.ofGrown hgrow (fun j hj hl => by have h9 := (World.ownsRow.lt hw0.out j hj).1; have : j < w1.heap.size := hl; omega)
    have hS2 : Kp (Bk w.heap.size A) w1 W2 := hF2.mono fun _ _ h => h.elim
    have HW2 := Lib.hid hown
    clear hown hgrow hat hw0
    refine hK _ _ ⟨hS2, ?_⟩; clear hK K
    refine wpAnyH_one (i := 6) (by kernel_rfl) rfl (fun K hK => ?_)
    go_simp
    refine (refZero_any N W2).mono ?_
    rintro e W3 ⟨rfl, hb3⟩
    have hF3 := hF2.ofBelow hb3
    have hS3 := hS2.ofBelow hb3
    have HW3 := Lib.hid ((Kp.ofBelow (S := fun _ => False) (Kp.refl _ _) hb3).own HW2.out fun _ _ => id)
    clear hb3 HW2
    go_simp
    refine hK _ _ ⟨hS3, ?_⟩; clear hK K
    refine wpAnyH_one (i := 10) (by kernel_rfl) rfl (fun K hK => ?_)
    go_simp
    refine (refZero_any 1 W3).mono ?_
    rintro e W4 ⟨rfl, hb4⟩
    have hF4 := hF3.ofBelow hb4
    have hS4 := hS3.ofBelow hb4
    have HW4 := Lib.hid ((Kp.ofBelow (S := fun _ => False) (Kp.refl _ _) hb4).own HW3.out fun _ _ => id)
    clear hb4 HW3
    go_simp
    refine hK _ _ ⟨hS4, ?_⟩; clear hK K
    refine wpAnyH_one (i := 11) (by kernel_rfl) rfl (fun K hK => ?_)
    go_simp
    have hF5 : Kp (fun _ => False) w1 (W4.alloc (.cells #[.int .i64 (zeroM N), .int .i64 0, .complex .f64 0 0, .int .i64 (zeroM 1), .int .i64 0, .complex .f64 0 0] 45)) := hF4.alloc _
    have hS5 : Kp (Bk w.heap.size A) w1 (W4.alloc (.cells #[.int .i64 (zeroM N), .int .i64 0, .complex .f64 0 0, .int .i64 (zeroM 1), .int .i64 0, .complex .f64 0 0] 45)) := hS4.alloc _
    have hsrc := Lib.hid (own_src (World.ownsRow_lit (base := W4.heap.size) (e := 45) (size := 3) W4 #[.int .i64 (zeroM N), .int .i64 0, .complex .f64 0 0, .int .i64 (zeroM 1), .int .i64 0, .complex .f64 0 0] 2 (Nat.le_refl _) (by unfold maxLen; omega) rfl))
    have hbz : w1.heap.size ≤ (W4.alloc (.cells #[.int .i64 (zeroM N), .int .i64 0, .complex .f64 0 0, .int .i64 (zeroM 1), .int .i64 0, .complex .f64 0 0] 45)).heap.size := hF5.size
    refine hK _ _ ⟨hS5, ?_⟩; clear hK K
    refine wpAnyH_one (i := 12) (by kernel_rfl) rfl (fun K hK => ?_)
    refine step_append_src _ rfl (.tmp 105) (.tmp 114) 24 rfl w1.heap.size 45 i0 (.agg #[.int .i64 0, .int .i64 0, .complex .f64 0 0]) 3 32 Try.underlying24 hi hz0 hz1 hz2 rfl (by decide) (.slice A2 n c2) n (vs.flatMap cellsV) ?qq3 (HW4.out.alloc _) (some ⟨W4.heap.size, 0, none⟩) 2 2 [.int .i64 (zeroM N), .int .i64 0, .complex .f64 0 0, .int .i64 (zeroM 1), .int .i64 0, .complex .f64 0 0] ?qq4 hsrc.out hone2.out hn63' hnb' hbz ?_
    case qq3 => go_simp
    case qq4 => go_simp
    intro v' W6 hown6 hgrow6 hat6
    obtain ⟨A6, c6, rfl, _⟩ := own_form hown6
    have hF6 : Kp (fun _ => False) w1 W6 := hF5.ofGrown hgrow6 (fun j hj hl => by have h9 := (World.ownsRow.lt HW4.out j hj).1; have : j < w1.heap.size := hl; omega)
    have hS6 : Kp (Bk w.heap.size A) w1 W6 := hF6.mono fun _ _ h => h.elim
    have HOW := Lib.hid hown6
    have HG6 := Lib.hid (HG.out W6 hF6)
    have HF6 := Lib.hid hF6
    clear hown6 hgrow6 hat6 hsrc HW4 HG
    refine hK _ _ ⟨hS6, ?_⟩; clear hK K
    refine wpAnyH_one (i := 15) (by kernel_rfl) rfl (fun K hK => ?_)
    go_simp
    refine HG6.out.mono ?_
    rintro e W7 ⟨rfl, hst7⟩
    have F := Lib.hid (FIN.out W6 W7 A6 c6 HF6.out HOW.out hst7)
    have hS7 := HKG.out W6 W7 HF6.out hst7
    clear hst7 HG6 HOW FIN HKG
    go_simp
    refine hK _ _ ⟨hS7, ?_⟩; clear hK K
    refine wpAnyH_take (i := 17) (v := .bool true) rfl (by kernel_rfl) (by kernel_rfl) (by kernel_rfl) (fun _ _ _ h => h) (Or.inl ⟨by rfl, by intro W hW; go_simp; try (first | (with_reducible rfl) | omega)⟩) hS7 ?_
    refine wpAnyH_take (i := 18) (v := .slice A6 (n + 2) c6) rfl (by kernel_rfl) (by kernel_rfl) (by kernel_rfl) (fun _ _ _ h => h) (Or.inl ⟨by rfl, by intro W hW; go_simp; try (first | (with_reducible rfl) | omega)⟩) hS7 ?_
    refine wpAnyH_take (i := 19) (v := .bool true) rfl (by kernel_rfl) (by kernel_rfl) (by kernel_rfl) (fun _ _ _ h => h) (Or.inl ⟨by rfl, by intro W hW; go_simp; try (first | (with_reducible rfl) | omega)⟩) hS7 ?_
    refine wpAnyH_done (by kernel_rfl) ?_ _
    go_wp2_with fail
    go_ret2
    exact ⟨A6, n + 2, c6, rfl, F.out⟩
end Go.Proofs.Ythddhipmmhihlaa
