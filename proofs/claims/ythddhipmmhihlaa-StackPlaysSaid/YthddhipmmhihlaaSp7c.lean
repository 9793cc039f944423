/-
  The flat stack: a round, Cut.
-/
import Derived.Test.YthddhipmmhihlaaSp6
import Derived.Deep.DeepCutAuto
namespace Go.Proofs.Ythddhipmmhihlaa
open Go.RowKit
set_option linter.unusedSimpArgs false
set_option linter.unusedVariables false
attribute [local go_sem] run_store_cplx
set_option maxRecDepth 100000 in
set_option maxHeartbeats 8000000 in
theorem step_2 (w wr : World) (t n lc : Nat) (lA : Option Addr) (k N M vk vn vr vi : Int) (HS : LT w wr t lA n lc) (ht : t ≤ 300) (wfk : (Lit.int .i64 k).wf = true) (wfN : (Lit.int .i64 N).wf = true) (wfM : (Lit.int .i64 M).wf = true) (hk : k.tmod 7 = 2) :
    Calls Try.prog 14 #[.pointer (some ⟨w.heap.size, 0, none⟩), .slice lA n lc, .agg #[.int .i64 k, .int .i64 N, .int .i64 M, .int .i64 vk, .int .i64 vn, .int .i64 vr, .int .i64 vi]] wr (StepTo w t) := by
  obtain ⟨hbwr, A, c, vs, hsk, hsl, hok, hnt, hB⟩ := HS
  have HH : Hid (Below w.heap.size w wr ∧ SkW wr w.heap.size A c vs ∧ SlV wr wr.heap.size lA n lc vs ∧ Ok wr (Bk w.heap.size A) lA ∧ n ≤ t ∧ ∀ j, Bk w.heap.size A j → w.heap.size ≤ j) := Lib.hid ⟨hbwr, hsk, hsl, hok, hnt, hB⟩
  have hn : n ≤ 300 := by omega
  have hvn := hsl.1
  have hnlc : n ≤ lc := hsl.2.1
  have hlcm : lc ≤ maxLen := hsl.2.2.1
  clear hbwr hsk hsl hok hB
  have z3 : (wr.alloc (.cells #[.int .i64 k, .int .i64 N, .int .i64 M, .int .i64 vk, .int .i64 vn, .int .i64 vr, .int .i64 vi] 57)).cell? ⟨wr.heap.size, 3, none⟩ = some (.int .i64 vk) := (new_cells (Below.refl _ _) 3 _ rfl).1
  have z4 : (wr.alloc (.cells #[.int .i64 k, .int .i64 N, .int .i64 M, .int .i64 vk, .int .i64 vn, .int .i64 vr, .int .i64 vi] 57)).cell? ⟨wr.heap.size, 4, none⟩ = some (.int .i64 vn) := (new_cells (Below.refl _ _) 4 _ rfl).1
  have z5 : (wr.alloc (.cells #[.int .i64 k, .int .i64 N, .int .i64 M, .int .i64 vk, .int .i64 vn, .int .i64 vr, .int .i64 vi] 57)).cell? ⟨wr.heap.size, 5, none⟩ = some (.int .i64 vr) := (new_cells (Below.refl _ _) 5 _ rfl).1
  have z6 : (wr.alloc (.cells #[.int .i64 k, .int .i64 N, .int .i64 M, .int .i64 vk, .int .i64 vn, .int .i64 vr, .int .i64 vi] 57)).cell? ⟨wr.heap.size, 6, none⟩ = some (.int .i64 vi) := (new_cells (Below.refl _ _) 6 _ rfl).1
  go_enter Try.func14, Try.ntmps14
  go_upto_region 2 with fail
  go_cut [9] (fun v wx => ∃ vb : Nat, v = .pointer (some ⟨vb, 0, none⟩) ∧ Hid (StW w wx t lA n lc A c vs wr.heap.size vb k N M ⟨vk, vn, nr vr, nr vi⟩))
  case first =>
    go_wp2_with fail
    refine (value_any vk vn vr vi _).mono ?_
    rintro e w2 ⟨rfl, hb2⟩
    have HST : Hid (StW w (w2.alloc (.cells #[.int .i64 vk, .int .i64 vn, .complex .f64 (nr vr) (nr vi)] 45)) t lA n lc A c vs wr.heap.size w2.heap.size k N M ⟨vk, vn, nr vr, nr vi⟩) := Lib.hid (StW.mk0 HH.out.1 HH.out.2.1 HH.out.2.2.1 HH.out.2.2.2.1 HH.out.2.2.2.2.1 HH.out.2.2.2.2.2 hb2)
    clear hb2 z3 z4 z5 z6 HH
    go_wp2_with fail
    go_meet
    exact ⟨_, rfl, HST⟩
  case rest =>
    obtain ⟨vb, rfl, HW⟩ := hcut
    clear HH z3 z4 z5 z6
    obtain ⟨ob, hob⟩ : ∃ x, wr.heap.size = x := ⟨_, rfl⟩
    rw [hob] at HW ⊢
    have o0 := HW.out.o0
    have t0 : (k.tmod 7 == 0) = false := by simp [hk]
    have t1 : (k.tmod 7 == 1) = false := by simp [hk]
    have t2 : (k.tmod 7 == 2) = true := by simp [hk]
    clear hk hob
    have cC := Lib.hid (cut_any w.heap.size c A vs N wc HW.out.sk (by omega))
    have o1 := HW.out.o1
    go_wp2_with fail
    refine cC.out.mono ?_
    rintro e w5 ⟨⟨u, rfl⟩, ⟨c', hsk5⟩, hk5⟩
    have hst5 := SkTo.ofCut hsk5 hk5
    have q1 : w5.cell? ⟨ob, 1, none⟩ = some (.int .i64 N) := hk5.cellv HW.out.o1 (fun e => HW.out.nob (.inl e))
    obtain ⟨m, hm⟩ : ∃ m : Nat, min (max N 0) (n : Int) = (m : Int) := ⟨(min (max N 0) (n : Int)).toNat, by omega⟩
    have hmn : m ≤ n := by omega
    have htk : vs.take (max N 0).toNat = vs.take m := by
      rcases Nat.lt_or_ge (max N 0).toNat n with h | h
      · rw [show (max N 0).toNat = m by omega]
      · rw [List.take_of_length_le (by omega), List.take_of_length_le (by omega)]
    rw [htk] at hst5
    obtain ⟨A2, hA2, hsl2, hbl2⟩ := sl_sliced HW.out.sl (Nat.zero_le m) hmn
    rw [Nat.sub_zero, Nat.sub_zero] at hA2 hsl2
    rw [List.drop_zero] at hsl2
    have F : Hid (LT w w5 (t + 2) A2 m lc) := Lib.hid (HW.out.cutTo hst5 hsl2 hbl2 2 (by omega))
    have HSL := Lib.hid hA2
    have hmc : m ≤ lc := by omega
    clear hA2 hsl2 hbl2 htk hst5 hsk5 hk5 cC HW o1 o0
    rcases (show N < 0 ∨ (0 ≤ N ∧ N < (n : Int)) ∨ (0 ≤ N ∧ N = (n : Int)) ∨ (0 ≤ N ∧ (n : Int) < N) by omega) with h1 | ⟨h1, h2⟩ | ⟨h1, h2⟩ | ⟨h1, h2⟩
    · have hm1 : max N 0 = 0 := by omega
      obtain rfl : m = 0 := by omega
      have hm2 : min 0 (n : Int) = 0 := by omega
      have hn0 : ¬ (n : Int) < 0 := by omega
      clear hm
      go_wp2_with fail
      go_ret2
      refine ⟨A2, _, lc, ?_, F.out⟩
      rw [← HSL.out]
      first | rfl | simp [sliced, map_add0]
    · obtain rfl : N = (m : Int) := by omega
      have hm1 : max (m : Int) 0 = m := by omega
      have hm2 : min (m : Int) (n : Int) = m := by omega
      have h1' : ¬ (m : Int) < 0 := by omega
      have hn0 : ¬ (n : Int) < m := by omega
      have hmc' : (m : Int) ≤ lc := by omega
      clear hm
      go_wp2_with fail
      go_ret2
      refine ⟨A2, _, lc, ?_, F.out⟩
      rw [← HSL.out]
      first | rfl | simp [sliced, map_add0]
    · subst h2
      obtain rfl : m = n := by omega
      have hm1 : max (m : Int) 0 = m := by omega
      have hm2 : min (m : Int) (m : Int) = m := by omega
      have h1' : ¬ (m : Int) < 0 := by omega
      have hmc' : (m : Int) ≤ lc := by omega
      clear hm
      go_wp2_with fail
      go_ret2
      refine ⟨A2, _, lc, ?_, F.out⟩
      rw [← HSL.out]
      first | rfl | simp [sliced, map_add0]
    · obtain rfl : m = n := by omega
      have hm1 : max N 0 = N := by omega
      have hm2 : min N (m : Int) = m := by omega
      have h1' : ¬ N < 0 := by omega
      have hmc' : (m : Int) ≤ lc := by omega
      clear hm
      go_wp2_with fail
      go_ret2
      refine ⟨A2, _, lc, ?_, F.out⟩
      rw [← HSL.out]
      first | rfl | simp [sliced, map_add0]
end Go.Proofs.Ythddhipmmhihlaa
