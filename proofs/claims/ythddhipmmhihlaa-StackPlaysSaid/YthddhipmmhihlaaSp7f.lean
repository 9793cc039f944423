/-
  The flat stack: a round, Top.
-/
import Derived.Test.YthddhipmmhihlaaSp6
import Derived.Deep.DeepCutAuto
namespace Go.Proofs.Ythddhipmmhihlaa
open Go.RowKit
set_option linter.unusedSimpArgs false
set_option linter.unusedVariables false
attribute [local go_sem] run_store_cplx
set_option maxRecDepth 100000 in
set_option maxHeartbeats 8000000 in
theorem step_5 (w wr : World) (t n lc : Nat) (lA : Option Addr) (k N M vk vn vr vi : Int) (HS : LT w wr t lA n lc) (ht : t ≤ 300) (wfk : (Lit.int .i64 k).wf = true) (wfN : (Lit.int .i64 N).wf = true) (wfM : (Lit.int .i64 M).wf = true) (hk : k.tmod 7 = 5) :
    Calls Try.prog 14 #[.pointer (some ⟨w.heap.size, 0, none⟩), .slice lA n lc, .agg #[.int .i64 k, .int .i64 N, .int .i64 M, .int .i64 vk, .int .i64 vn, .int .i64 vr, .int .i64 vi]] wr (StepTo w t) := by
  obtain ⟨hbwr, A, c, vs, hsk, hsl, hok, hnt, hB⟩ := HS
  have HH : Hid (Below w.heap.size w wr ∧ SkW wr w.heap.size A c vs ∧ SlV wr wr.heap.size lA n lc vs ∧ Ok wr (Bk w.heap.size A) lA ∧ n ≤ t ∧ ∀ j, Bk w.heap.size A j → w.heap.size ≤ j) := Lib.hid ⟨hbwr, hsk, hsl, hok, hnt, hB⟩
  have hn : n ≤ 300 := by omega
  have hvn := hsl.1
  have hnlc : n ≤ lc := hsl.2.1
  have hlcm : lc ≤ maxLen := hsl.2.2.1
  clear hbwr hsk hsl hok hB
  have z3 : (wr.alloc (.cells #[.int .i64 k, .int .i64 N, .int .i64 M, .int .i64 vk, .int .i64 vn, .int .i64 vr, .int .i64 vi] 57)).cell? ⟨wr.heap.size, 3, none⟩ = some (.int .i64 vk) := (new_cells (Below.refl _ _) 3 _ rfl).1
  have z4 : (wr.alloc (.cells #[.int .i64 k, .int .i64 N, .int .i64 M, .int .i64 vk, .int .i64 vn, .int .i64 vr, .int .i64 vi] 57)).cell? ⟨wr.heap.size, 4, none⟩ = some (.int .i64 vn) := (new_cells (Below.refl _ _) 4 _ rfl).1
  have z5 : (wr.alloc (.cells #[.int .i64 k, .int .i64 N, .int .i64 M, .int .i64 vk, .int .i64 vn, .int .i64 vr, .int .i64 vi] 57)).cell? ⟨wr.heap.size, 5, none⟩ = some (.int .i64 vr) := (new_cells (Below.refl _ _) 5 _ rfl).1
  have z6 : (wr.alloc (.cells #[.int .i64 k, .int .i64 N, .int .i64 M, .int .i64 vk, .int .i64 vn, .int .i64 vr, .int .i64 vi] 57)).cell? ⟨wr.heap.size, 6, none⟩ = some (.int .i64 vi) := (new_cells (Below.refl _ _) 6 _ rfl).1
  go_enter Try.func14, Try.ntmps14
  go_upto_region 2 with fail
  go_cut [9] (fun v wx => ∃ vb : Nat, v = .pointer (some ⟨vb, 0, none⟩) ∧ Hid (StW w wx t lA n lc A c vs wr.heap.size vb k N M ⟨vk, vn, nr vr, nr vi⟩))
  case first =>
    go_wp2_with fail
    refine (value_any vk vn vr vi _).mono ?_
    rintro e w2 ⟨rfl, hb2⟩
    have HST : Hid (StW w (w2.alloc (.cells #[.int .i64 vk, .int .i64 vn, .complex .f64 (nr vr) (nr vi)] 45)) t lA n lc A c vs wr.heap.size w2.heap.size k N M ⟨vk, vn, nr vr, nr vi⟩) := Lib.hid (StW.mk0 HH.out.1 HH.out.2.1 HH.out.2.2.1 HH.out.2.2.2.1 HH.out.2.2.2.2.1 HH.out.2.2.2.2.2 hb2)
    clear hb2 z3 z4 z5 z6 HH
    go_wp2_with fail
    go_meet
    exact ⟨_, rfl, HST⟩
  case rest =>
    obtain ⟨vb, rfl, HW⟩ := hcut
    clear HH z3 z4 z5 z6
    obtain ⟨ob, hob⟩ : ∃ x, wr.heap.size = x := ⟨_, rfl⟩
    rw [hob] at HW ⊢
    have o0 := HW.out.o0
    have t0 : (k.tmod 7 == 0) = false := by simp [hk]
    have t1 : (k.tmod 7 == 1) = false := by simp [hk]
    have t2 : (k.tmod 7 == 2) = false := by simp [hk]
    have t3 : (k.tmod 7 == 3) = false := by simp [hk]
    have t4 : (k.tmod 7 == 4) = false := by simp [hk]
    have t5 : (k.tmod 7 == 5) = true := by simp [hk]
    clear hk hob
    obtain ⟨m, hm⟩ : ∃ m : Nat, min (max N 0) (n : Int) = (m : Int) := ⟨(min (max N 0) (n : Int)).toNat, by omega⟩
    have hmn : m ≤ n := by omega
    have cT := top_any w.heap.size c A vs N wc.drew (HW.out.sk.on (Kp.refl _ _).drew) (by omega)
    rw [top_eq vs N n m hvn hm] at cT
    obtain ⟨d, hd⟩ : ∃ d, n - m = d := ⟨_, rfl⟩
    rw [hd] at cT
    obtain ⟨A2, hA2, hsl2, hbl2⟩ := sl_sliced HW.out.sl (show d ≤ n by omega) (Nat.le_refl n)
    rw [show n - d = m by omega] at hA2 hsl2
    have hlen : ((vs.take n).drop d).length = m := hsl2.1
    have HSL := Lib.hid hA2
    have F : Hid (∀ W, Kp (fun _ => False) wc W → LT w W (t + 2) lA n lc) := Lib.hid fun W hW => (HW.out.lt 2).on hW
    have HV : Hid (∀ (W : World) (A' : Option Addr) (c' : Nat), Kp (fun _ => False) wc W → SlV W W.heap.size A' m c' ((vs.take n).drop d) → Calls Try.prog 13 #[.slice A' m c', .slice A2 m (lc - d)] W fun e w' => e = .returned (.bool true) ∧ Below W.heap.size W w') := Lib.hid fun W A' c' hW h1 => refValues_true A' A2 m c' (lc - d) W.heap.size _ _ W h1 (SlR.kp hsl2 (Nat.le_refl _) (fun _ _ => id) hW) (Nat.le_refl _) (fun i x y hx hy => by rw [hx] at hy; injection hy with hy; subst hy; exact sameV_refl x)
    have HQ : Hid (∀ W : World, Kp (fun _ => False) wc W → W.cell? ⟨ob, 1, none⟩ = some (.int .i64 N)) := Lib.hid fun W hW => hW.cellv HW.out.o1 id
    generalize (vs.take n).drop d = us at *
    have CT := Lib.hid cT
    have HM : Hid (min (max N 0) (n : Int) = (m : Int)) := Lib.hid hm
    have HD : Hid ((n : Int) - m = d ∧ d ≤ n ∧ IntKind.i64.wrap (d : Int) = d) := Lib.hid ⟨by omega, by omega, by rw [IntKind.wrap_i64]; omega⟩
    have hdn : (d : Int) ≤ n := by omega
    have hS0 : Kp (fun _ => False) wc wc.drew := (Kp.refl _ _).drew
    clear cT hA2 hsl2 hbl2 HW hvn hm hd
    go_wp2_with fail
    refine wp_region_held (S := fun W => Kp (fun _ => False) wc W) (by kernel_rfl) ?_
    change wpAnyH _ _ _ _ _ _ _ _ (World.drew _)
    refine wpAnyH_take (i := 0) (v := .slice lA n lc) rfl (by kernel_rfl) (by kernel_rfl) (by kernel_rfl) (fun _ _ _ h => h) (Or.inl ⟨by rfl, by intro W hW; go_simp; try (first | (with_reducible rfl) | omega)⟩) hS0 ?_
    refine wpAnyH_take (i := 1) (v := .pointer (some ⟨w.heap.size, 0, none⟩)) rfl (by kernel_rfl) (by kernel_rfl) (by kernel_rfl) (fun _ _ _ h => h) (Or.inl ⟨by rfl, by intro W hW; go_simp; try (first | (with_reducible rfl) | omega)⟩) hS0 ?_
    refine wpAnyH_take (i := 2) (v := .pointer (some ⟨ob, 1, none⟩)) rfl (by kernel_rfl) (by kernel_rfl) (by kernel_rfl) (fun _ _ _ h => h) (Or.inl ⟨by rfl, by intro W hW; go_simp; try (first | (with_reducible rfl) | omega)⟩) hS0 ?_
    refine wpAnyH_take (i := 3) (v := .int .i64 N) rfl (by kernel_rfl) (by kernel_rfl) (by kernel_rfl) (fun _ _ _ h => h) (Or.inl ⟨by rfl, by intro W hW; have g1 := HQ.out W hW; go_simp; try (first | (with_reducible rfl) | omega)⟩) hS0 ?_
    refine wpAnyH_take (i := 5) (v := .slice lA n lc) rfl (by kernel_rfl) (by kernel_rfl) (by kernel_rfl) (fun _ _ _ h => h) (Or.inl ⟨by rfl, by intro W hW; go_simp; try (first | (with_reducible rfl) | omega)⟩) hS0 ?_
    refine wpAnyH_take (i := 6) (v := .int .i64 n) rfl (by kernel_rfl) (by kernel_rfl) (by kernel_rfl) (fun _ _ _ h => h) (Or.inl ⟨by rfl, by intro W hW; go_simp; try (first | (with_reducible rfl) | omega)⟩) hS0 ?_
    refine wpAnyH_take (i := 7) (v := .pointer (some ⟨ob, 1, none⟩)) rfl (by kernel_rfl) (by kernel_rfl) (by kernel_rfl) (fun _ _ _ h => h) (Or.inl ⟨by rfl, by intro W hW; go_simp; try (first | (with_reducible rfl) | omega)⟩) hS0 ?_
    refine wpAnyH_take (i := 8) (v := .int .i64 N) rfl (by kernel_rfl) (by kernel_rfl) (by kernel_rfl) (fun _ _ _ h => h) (Or.inl ⟨by rfl, by intro W hW; have g1 := HQ.out W hW; go_simp; try (first | (with_reducible rfl) | omega)⟩) hS0 ?_
    refine wpAnyH_take (i := 10) (v := .int .i64 n) rfl (by kernel_rfl) (by kernel_rfl) (by kernel_rfl) (fun _ _ _ h => h) (Or.inl ⟨by rfl, by intro W hW; go_simp; try (first | (with_reducible rfl) | omega)⟩) hS0 ?_
    refine wpAnyH_take (i := 9) (v := .int .i64 (max N 0)) rfl (by kernel_rfl) (by kernel_rfl) (by kernel_rfl) (fun _ _ _ h => h) (Or.inl ⟨by rfl, by intro W hW; go_simp; split <;> omega⟩) hS0 ?_
    refine wpAnyH_take (i := 11) (v := .int .i64 m) rfl (by kernel_rfl) (by kernel_rfl) (by kernel_rfl) (fun _ _ _ h => h) (Or.inl ⟨by rfl, by intro W hW; go_simp; have hm := HM.out; (try split) <;> (try simp) <;> omega⟩) hS0 ?_
    refine wpAnyH_take (i := 12) (v := .int .i64 d) rfl (by kernel_rfl) (by kernel_rfl) (by kernel_rfl) (fun _ _ _ h => h) (Or.inl ⟨by rfl, by intro W hW; have h9 := HD.out.2.2; have h8 := HD.out.1; go_simp; try (first | (with_reducible rfl) | omega)⟩) hS0 ?_
    refine wpAnyH_all (rs := [4, 13]) (by kernel_rfl) (by simp) (fun x hx => ?_)
    simp only [List.mem_cons, List.not_mem_nil, or_false] at hx
    rcases hx with rfl | rfl
    · refine wpOp_step rfl (fun K hK => ?_)
      go_simp
      refine CT.out.mono ?_
      rintro e w5 ⟨A5, c5, rfl, hs5, hb5⟩
      have hS5 : Kp (fun _ => False) wc w5 := hS0.ofBelow hb5
      rw [hlen] at hs5 ⊢
      have CV := Lib.hid (HV.out w5 A5 c5 hS5 hs5)
      clear hs5 hb5 CT HV
      go_simp
      refine hK _ _ ⟨hS5, ?_⟩; clear hK K
      refine wpAnyH_take (i := 13) (v := .slice A2 m (lc - d)) rfl (by kernel_rfl) (by kernel_rfl) (by kernel_rfl) (fun _ _ _ h => h) (Or.inl ⟨by rfl, by intro W hW; rw [← HSL.out]; go_simp; try (first | (with_reducible rfl) | omega)⟩) hS5 ?_
      refine wpAnyH_one (i := 14) (by kernel_rfl) rfl (fun K hK => ?_)
      go_simp
      refine CV.out.mono ?_
      rintro e w6 ⟨rfl, hb6⟩
      have hS6 := hS5.ofBelow hb6
      clear hb6 CV
      go_simp
      refine hK _ _ ⟨hS6, ?_⟩; clear hK K
      refine wpAnyH_take (i := 15) (v := .slice lA n lc) rfl (by kernel_rfl) (by kernel_rfl) (by kernel_rfl) (fun _ _ _ h => h) (Or.inl ⟨by rfl, by intro W hW; go_simp; try (first | (with_reducible rfl) | omega)⟩) hS6 ?_
      refine wpAnyH_take (i := 16) (v := .bool true) rfl (by kernel_rfl) (by kernel_rfl) (by kernel_rfl) (fun _ _ _ h => h) (Or.inl ⟨by rfl, by intro W hW; go_simp; try (first | (with_reducible rfl) | omega)⟩) hS6 ?_
      refine wpAnyH_done (by kernel_rfl) ?_ _
      go_wp2_with fail
      go_ret2
      exact ⟨lA, n, lc, rfl, F.out _ hS6⟩
    · refine wpOp_step rfl (fun K hK => ?_)
      go_simp
      refine hK _ _ ⟨hS0, ?_⟩; clear hK K
      rw [show Value.slice (if lc = d then lA else Option.map (fun x => x.add (d * 3)) lA) (n - d) (lc - d) = .slice A2 m (lc - d) from by rw [← HSL.out]; rfl]
      refine wpAnyH_one (i := 4) (by kernel_rfl) rfl (fun K hK => ?_)
      go_simp
      refine CT.out.mono ?_
      rintro e w5 ⟨A5, c5, rfl, hs5, hb5⟩
      have hS5 : Kp (fun _ => False) wc w5 := hS0.ofBelow hb5
      rw [hlen] at hs5 ⊢
      have CV := Lib.hid (HV.out w5 A5 c5 hS5 hs5)
      clear hs5 hb5 CT HV
      go_simp
      refine hK _ _ ⟨hS5, ?_⟩; clear hK K
      refine wpAnyH_one (i := 14) (by kernel_rfl) rfl (fun K hK => ?_)
      go_simp
      refine CV.out.mono ?_
      rintro e w6 ⟨rfl, hb6⟩
      have hS6 := hS5.ofBelow hb6
      clear hb6 CV
      go_simp
      refine hK _ _ ⟨hS6, ?_⟩; clear hK K
      refine wpAnyH_take (i := 15) (v := .slice lA n lc) rfl (by kernel_rfl) (by kernel_rfl) (by kernel_rfl) (fun _ _ _ h => h) (Or.inl ⟨by rfl, by intro W hW; go_simp; try (first | (with_reducible rfl) | omega)⟩) hS6 ?_
      refine wpAnyH_take (i := 16) (v := .bool true) rfl (by kernel_rfl) (by kernel_rfl) (by kernel_rfl) (fun _ _ _ h => h) (Or.inl ⟨by rfl, by intro W hW; go_simp; try (first | (with_reducible rfl) | omega)⟩) hS6 ?_
      refine wpAnyH_done (by kernel_rfl) ?_ _
      go_wp2_with fail
      go_ret2
      exact ⟨lA, n, lc, rfl, F.out _ hS6⟩
end Go.Proofs.Ythddhipmmhihlaa
