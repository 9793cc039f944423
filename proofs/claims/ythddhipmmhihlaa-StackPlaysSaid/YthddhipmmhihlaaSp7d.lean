/-
  The flat stack: a round, Set.
-/
import Derived.Test.YthddhipmmhihlaaSp6
import Derived.Deep.DeepCutAuto
namespace Go.Proofs.Ythddhipmmhihlaa
open Go.RowKit
set_option linter.unusedSimpArgs false
set_option linter.unusedVariables false
attribute [local go_sem] run_store_cplx
set_option maxRecDepth 100000 in
set_option maxHeartbeats 8000000 in
theorem step_3 (w wr : World) (t n lc : Nat) (lA : Option Addr) (k N M vk vn vr vi : Int) (HS : LT w wr t lA n lc) (ht : t ≤ 300) (wfk : (Lit.int .i64 k).wf = true) (wfN : (Lit.int .i64 N).wf = true) (wfM : (Lit.int .i64 M).wf = true) (hk : k.tmod 7 = 3) :
    Calls Try.prog 14 #[.pointer (some ⟨w.heap.size, 0, none⟩), .slice lA n lc, .agg #[.int .i64 k, .int .i64 N, .int .i64 M, .int .i64 vk, .int .i64 vn, .int .i64 vr, .int .i64 vi]] wr (StepTo w t) := by
  obtain ⟨hbwr, A, c, vs, hsk, hsl, hok, hnt, hB⟩ := HS
  have HH : Hid (Below w.heap.size w wr ∧ SkW wr w.heap.size A c vs ∧ SlV wr wr.heap.size lA n lc vs ∧ Ok wr (Bk w.heap.size A) lA ∧ n ≤ t ∧ ∀ j, Bk w.heap.size A j → w.heap.size ≤ j) := Lib.hid ⟨hbwr, hsk, hsl, hok, hnt, hB⟩
  have hn : n ≤ 300 := by omega
  have hvn := hsl.1
  have hnlc : n ≤ lc := hsl.2.1
  have hlcm : lc ≤ maxLen := hsl.2.2.1
  clear hbwr hsk hsl hok hB
  have z3 : (wr.alloc (.cells #[.int .i64 k, .int .i64 N, .int .i64 M, .int .i64 vk, .int .i64 vn, .int .i64 vr, .int .i64 vi] 57)).cell? ⟨wr.heap.size, 3, none⟩ = some (.int .i64 vk) := (new_cells (Below.refl _ _) 3 _ rfl).1
  have z4 : (wr.alloc (.cells #[.int .i64 k, .int .i64 N, .int .i64 M, .int .i64 vk, .int .i64 vn, .int .i64 vr, .int .i64 vi] 57)).cell? ⟨wr.heap.size, 4, none⟩ = some (.int .i64 vn) := (new_cells (Below.refl _ _) 4 _ rfl).1
  have z5 : (wr.alloc (.cells #[.int .i64 k, .int .i64 N, .int .i64 M, .int .i64 vk, .int .i64 vn, .int .i64 vr, .int .i64 vi] 57)).cell? ⟨wr.heap.size, 5, none⟩ = some (.int .i64 vr) := (new_cells (Below.refl _ _) 5 _ rfl).1
  have z6 : (wr.alloc (.cells #[.int .i64 k, .int .i64 N, .int .i64 M, .int .i64 vk, .int .i64 vn, .int .i64 vr, .int .i64 vi] 57)).cell? ⟨wr.heap.size, 6, none⟩ = some (.int .i64 vi) := (new_cells (Below.refl _ _) 6 _ rfl).1
  go_enter Try.func14, Try.ntmps14
  go_upto_region 2 with fail
  go_cut [9] (fun v wx => ∃ vb : Nat, v = .pointer (some ⟨vb, 0, none⟩) ∧ Hid (StW w wx t lA n lc A c vs wr.heap.size vb k N M ⟨vk, vn, nr vr, nr vi⟩))
  case first =>
    go_wp2_with fail
    refine (value_any vk vn vr vi _).mono ?_
    rintro e w2 ⟨rfl, hb2⟩
    have HST : Hid (StW w (w2.alloc (.cells #[.int .i64 vk, .int .i64 vn, .complex .f64 (nr vr) (nr vi)] 45)) t lA n lc A c vs wr.heap.size w2.heap.size k N M ⟨vk, vn, nr vr, nr vi⟩) := Lib.hid (StW.mk0 HH.out.1 HH.out.2.1 HH.out.2.2.1 HH.out.2.2.2.1 HH.out.2.2.2.2.1 HH.out.2.2.2.2.2 hb2)
    clear hb2 z3 z4 z5 z6 HH
    go_wp2_with fail
    go_meet
    exact ⟨_, rfl, HST⟩
  case rest =>
    obtain ⟨vb, rfl, HW⟩ := hcut
    clear HH z3 z4 z5 z6
    obtain ⟨ob, hob⟩ : ∃ x, wr.heap.size = x := ⟨_, rfl⟩
    rw [hob] at HW ⊢
    have o0 := HW.out.o0
    have t0 : (k.tmod 7 == 0) = false := by simp [hk]
    have t1 : (k.tmod 7 == 1) = false := by simp [hk]
    have t2 : (k.tmod 7 == 2) = false := by simp [hk]
    have t3 : (k.tmod 7 == 3) = true := by simp [hk]
    clear hk hob
    have o1 := HW.out.o1
    have hv0 := HW.out.v0
    have hv1 := HW.out.v1
    have hv2 := HW.out.v2
    simp only at hv0 hv1 hv2
    have hc0 := HW.out.sk.c0
    rw [hvn] at hc0
    rcases (show (N < 0 ∨ (n : Int) ≤ N) ∨ ∃ i : Nat, N = (i : Int) ∧ i < n by rcases Int.lt_or_le N 0 with h | h; exact .inl (.inl h); rcases Int.lt_or_le N n with h' | h'; exact .inr ⟨N.toNat, by omega, by omega⟩; exact .inl (.inr h')) with hout | ⟨i, rfl, hin⟩
    · have cS := Lib.hid (set_out w.heap.size n c A N ⟨vk, vn, nr vr, nr vi⟩ wc hc0 (by omega) (by omega))
      go_wp2_with fail
      refine cS.out.mono ?_
      rintro e w5 ⟨rfl, hb5⟩
      have hk5 : Kp (fun _ => False) wc w5 := (Kp.refl _ _).ofBelow hb5
      have q1 : w5.cell? ⟨ob, 1, none⟩ = some (.int .i64 N) := hk5.cellv o1 id
      have F : Hid (LT w w5 (t + 2) lA n lc) := Lib.hid ((HW.out.lt 2).on hk5)
      clear hb5 hk5 HW cS hv0 hv1 hv2 o1 o0 hc0
      rcases hout with h1 | h1
      · go_wp2_with fail
        go_ret2
        exact ⟨lA, n, lc, rfl, F.out⟩
      · have h1' : ¬ N < 0 := by omega
        go_wp2_with fail
        go_ret2
        exact ⟨lA, n, lc, rfl, F.out⟩
    · obtain ⟨r, rfl⟩ : ∃ r, A = some ⟨r, 0, none⟩ := by
        rcases HW.out.sk.row.form with ⟨_, h0, _⟩ | ⟨r, e, _⟩
        · omega
        · exact ⟨r, e⟩
      have cS := Lib.hid (set_in w.heap.size c r vs i ⟨vk, vn, nr vr, nr vi⟩ wc HW.out.sk (by omega) (by omega))
      go_wp2_with fail
      refine cS.out.mono ?_
      rintro e w5 ⟨rfl, hst5⟩
      obtain ⟨A5, c5, hsk5, hk5, hT5⟩ := id hst5
      have q1 : w5.cell? ⟨ob, 1, none⟩ = some (.int .i64 i) := hk5.cellv o1 HW.out.nob
      have HV : Hid (∀ W : World, Kp (fun _ => False) w5 W → W.cell? ⟨vb, 0, none⟩ = some (.int .i64 vk) ∧ W.cell? ⟨vb, 1, none⟩ = some (.int .i64 vn) ∧ W.cell? ⟨vb, 2, none⟩ = some (.complex .f64 (nr vr) (nr vi)) ∧ W.cell? ⟨ob, 1, none⟩ = some (.int .i64 i)) := Lib.hid fun W hW => ⟨hW.cellv (hk5.cellv hv0 HW.out.nvb) id, hW.cellv (hk5.cellv hv1 HW.out.nvb) id, hW.cellv (hk5.cellv hv2 HW.out.nvb) id, hW.cellv q1 id⟩
      have h1' : ¬ (i : Int) < 0 := by omega
      have h2' : (i : Int) < n := by omega
      have h3' : ¬ (n : Int) ≤ i := by omega
      have hsrc := Lib.hid (HW.out.src hk5 ((Kp.refl _ w5).alloc (.cells #[] 45)))
      have HO := Lib.hid (World.ownsRow_lit (base := w5.heap.size) (e := 45) (size := 3) w5 #[] 0 (Nat.le_refl _) (by unfold maxLen; omega) rfl)
      have hone1 := Lib.hid (oneV vs)
      obtain ⟨i0, hi, hz0, hz1, hz2⟩ := info_parts info_val
      have hn63 : 0 + n ≤ maxLen := by unfold maxLen; omega
      have hnb : (0 + n) * 32 ≤ 140737488355328 := by omega
      have hsz : w5.heap.size ≤ (w5.alloc (.cells #[] 45)).heap.size := by simp
      clear hsk5 hk5 hT5 cS hv0 hv1 hv2 o1 o0 hc0
      go_wp2_with (first
        | (at_builtin; go_must (refine wpList_append_src _ rfl _ _ 24 rfl w5.heap.size 45 i0 (.agg #[.int .i64 0, .int .i64 0, .complex .f64 0 0]) 3 32 Try.underlying24 hi hz0 hz1 hz2 rfl (by decide) _ _ _ rfl HO.out lA n lc (vs.flatMap cellsV) rfl hsrc.out hone1.out hn63 hnb hsz ?_)
           intro v' w6 hown hgrow hat
           rw [Nat.zero_add, List.nil_append] at hown
           obtain ⟨A6, c6, rfl, _, hA6⟩ := own_form hown
           have hk6 : Kp (fun _ => False) w5 w6 := ((Kp.refl _ _).alloc _).ofGrown hgrow (fun j hj hl => by have h9 := (World.ownsRow.lt HO.out j hj).1; have : j < w5.heap.size := hl; omega)
           have hrow := RowF.ofOwn hown
           obtain ⟨r6, rfl⟩ : ∃ r, A6 = some ⟨r, 0, none⟩ := by
             rcases hrow.form with ⟨_, h0, _⟩ | ⟨r, e, _⟩
             · omega
             · exact ⟨r, e⟩
           have hl6 := (RowF.sl (sz := 3) (bytes := 32) (f := cellsV) (fun _ => rfl) (by decide) hrow (by unfold reachBytes; omega))
           obtain ⟨b, off, v0, e, hb, hx, p0, p1, p2⟩ := slv_at hl6 hin
           simp at e
           obtain ⟨rfl, rfl⟩ := e
           simp only [Nat.zero_add] at p0 p1 p2
           obtain ⟨u0, u1, u2, u3⟩ := v0
           simp only at p0 p1 p2
           have hfz := hrow.cells.2.2.2
           have f0 := hfz (i * 3)
           have f1 := hfz (i * 3 + 1)
           have f2 := hfz (i * 3 + 2)
           obtain ⟨y0, y1, y2, y3⟩ := HV.out w6 hk6
           have F : Hid (LT w (w6.setCells r6 (i * 3) [.int .i64 vk, .int .i64 vn, .complex .f64 (nr vr) (nr vi)]) (t + 2) (some ⟨r6, 0, none⟩) n c6) := Lib.hid (HW.out.own hst5 (hk6.setCells (fun hl => by have := hrow.cells.1; omega) _ _) (hrow.store3 (v := ⟨vk, vn, nr vr, nr vi⟩) hvn hin) 2 (by omega) (by omega))
           clear hown hgrow hat hk6 hrow hl6 hx hfz hst5 HW hb hA6))
      go_wp2_with fail
      go_ret2
      exact ⟨_, n, c6, rfl, F.out⟩
end Go.Proofs.Ythddhipmmhihlaa
