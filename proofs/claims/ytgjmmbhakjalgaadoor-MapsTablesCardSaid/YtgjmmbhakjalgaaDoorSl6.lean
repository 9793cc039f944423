/-
  Sets of slots: the program's set of a range.
-/
import Derived.Test.YtgjmmbhakjalgaaDoorSl5
namespace Go.Proofs.YtgjmmbhakjalgaaDoor
open Go.RowKit
set_option linter.unusedSimpArgs false
set_option linter.unusedVariables false
def rangeW (lo : Int) (k : Nat) : W4 := foldW zW ((List.range k).map fun (i : Nat) => lo + (i : Int))
theorem rangeW_succ (lo : Int) (k : Nat) : rangeW lo (k + 1) = withM (rangeW lo k) (lo + (k : Int)) := by
  unfold rangeW foldW
  rw [List.range_succ, List.map_append, List.foldl_append]
  rfl
theorem rangeW_zero (lo : Int) : rangeW lo 0 = zW := rfl
def rangeM (f t : Int) : W4 := rangeW (max f 0) (min t 256 - max f 0).toNat
set_option maxRecDepth 100000 in
set_option maxHeartbeats 2000000 in
theorem range_a (f t : Int) (w : World) (hf : f < 0) (ht : 256 < t) (hb0 : -9223372036854775808 ≤ f) (hb1 : f < 9223372036854775808) : Calls Tryd.prog 27 #[.int .i64 f, .int .i64 t] w (IsW (rangeW (0 : Int) ((256 : Int) - (0 : Int)).toNat) w) := by
  have HS := Lib.hid (TwoW.start w)
  obtain ⟨N, hN⟩ : ∃ N, ((256 : Int) - (0 : Int)).toNat = N := ⟨_, rfl⟩
  rw [hN]
  have hm : max f 0 = 0 := by omega
  go_enter Tryd.func27, Tryd.ntmps27
  go_wp2_with fail
  go_loopw [6] (fun i wr => ∃ k : Nat, i = .int .i64 ((0 : Int) + (k : Int)) ∧ k ≤ N ∧ Hid (TwoW w wr (rangeW (0 : Int) k))) (fun i _ => N - (intOf i - (0 : Int)).toNat)
  case atStart => exact ⟨0, by simp, Nat.zero_le _, HS⟩
  case round =>
    obtain ⟨k, rfl, hk, HT⟩ := hrel
    have s0 := HT.out.s0
    have s1 := HT.out.s1
    have s2 := HT.out.s2
    have s3 := HT.out.s3
    have fs := HT.out.fs
    obtain ⟨i, hi'⟩ : ∃ i : Int, (0 : Int) + (k : Int) = i := ⟨_, rfl⟩
    by_cases hlt : k < N
    · have hil : i < (256 : Int) := by omega
      have HX : Hid (rangeW (0 : Int) (k + 1) = withM (rangeW (0 : Int) k) i) := Lib.hid (by rw [rangeW_succ, hi'])
      have hok := HT.out.ok
      have cw := Lib.hid (fun w => with_any (rangeW (0 : Int) k) hok i w)
      have HOK := Lib.hid (withM_ok hok i)
      have hiw : IntKind.i64.wrap (i + 1) = i + 1 := by rw [IntKind.wrap_i64]; omega
      rw [hi']
      have HQ := Lib.hid hi'
      generalize rangeW (0 : Int) k = s at *
      generalize withM s i = s' at *
      have hmi : min t 256 = 256 := by omega
      clear hok hi'
      go_wp2_with fail
      refine (cw.out _).mono ?_
      rintro e w1 ⟨rfl, hb1⟩
      have HT1 := Lib.hid (HT.out.call hb1)
      have s0 := HT1.out.s0
      have s1 := HT1.out.s1
      have s2 := HT1.out.s2
      have s3 := HT1.out.s3
      have fs := HT1.out.fs
      have HT2 := Lib.hid (HT1.out.put s' HOK.out)
      clear hb1 cw
      go_wp2_with fail
      go_roundw
      case rel => exact ⟨k + 1, by have := HQ.out; congr 1; omega, by omega, Lib.hid (by rw [HX.out]; exact HT2.out)⟩
      case measure => have := HQ.out; simp [intOf]; omega
    · have hkn : k = N := by omega
      subst hkn
      have hil : ¬ i < (256 : Int) := by omega
      have r0 := HT.out.r0
      have r1 := HT.out.r1
      have r2 := HT.out.r2
      have r3 := HT.out.r3
      have fr := HT.out.fr
      rw [hi']
      generalize rangeW (0 : Int) k = s at *
      have hne : ¬ w.heap.size = w.heap.size + 1 := by omega
      have hne' : ¬ w.heap.size + 1 = w.heap.size := by omega
      have hmi : min t 256 = 256 := by omega
      clear hi'
      go_wp2_with fail
      refine bodyPost_ret (v := aggW s) (by simp [results, Tryd.results27, go_sem, r0, r1, r2, r3, fr, s0, s1, s2, s3, hne, hne']) rfl ⟨rfl, ?_⟩
      exact below3 HT.out.bw (Nat.le_refl _) _ _ _ _
set_option maxRecDepth 100000 in
set_option maxHeartbeats 2000000 in
theorem range_b (f t : Int) (w : World) (hf : f < 0) (ht : t ≤ 256) (hb0 : -9223372036854775808 ≤ f) (hb1 : f < 9223372036854775808) : Calls Tryd.prog 27 #[.int .i64 f, .int .i64 t] w (IsW (rangeW (0 : Int) (t - (0 : Int)).toNat) w) := by
  have HS := Lib.hid (TwoW.start w)
  obtain ⟨N, hN⟩ : ∃ N, (t - (0 : Int)).toNat = N := ⟨_, rfl⟩
  rw [hN]
  have hm : max f 0 = 0 := by omega
  go_enter Tryd.func27, Tryd.ntmps27
  go_wp2_with fail
  go_loopw [6] (fun i wr => ∃ k : Nat, i = .int .i64 ((0 : Int) + (k : Int)) ∧ k ≤ N ∧ Hid (TwoW w wr (rangeW (0 : Int) k))) (fun i _ => N - (intOf i - (0 : Int)).toNat)
  case atStart => exact ⟨0, by simp, Nat.zero_le _, HS⟩
  case round =>
    obtain ⟨k, rfl, hk, HT⟩ := hrel
    have s0 := HT.out.s0
    have s1 := HT.out.s1
    have s2 := HT.out.s2
    have s3 := HT.out.s3
    have fs := HT.out.fs
    obtain ⟨i, hi'⟩ : ∃ i : Int, (0 : Int) + (k : Int) = i := ⟨_, rfl⟩
    by_cases hlt : k < N
    · have hil : i < t := by omega
      have HX : Hid (rangeW (0 : Int) (k + 1) = withM (rangeW (0 : Int) k) i) := Lib.hid (by rw [rangeW_succ, hi'])
      have hok := HT.out.ok
      have cw := Lib.hid (fun w => with_any (rangeW (0 : Int) k) hok i w)
      have HOK := Lib.hid (withM_ok hok i)
      have hiw : IntKind.i64.wrap (i + 1) = i + 1 := by rw [IntKind.wrap_i64]; omega
      rw [hi']
      have HQ := Lib.hid hi'
      generalize rangeW (0 : Int) k = s at *
      generalize withM s i = s' at *
      have hmi : min t 256 = t := by omega
      have hnt : ¬ 256 < t := by omega
      clear hok hi'
      go_wp2_with fail
      refine (cw.out _).mono ?_
      rintro e w1 ⟨rfl, hb1⟩
      have HT1 := Lib.hid (HT.out.call hb1)
      have s0 := HT1.out.s0
      have s1 := HT1.out.s1
      have s2 := HT1.out.s2
      have s3 := HT1.out.s3
      have fs := HT1.out.fs
      have HT2 := Lib.hid (HT1.out.put s' HOK.out)
      clear hb1 cw
      go_wp2_with fail
      go_roundw
      case rel => exact ⟨k + 1, by have := HQ.out; congr 1; omega, by omega, Lib.hid (by rw [HX.out]; exact HT2.out)⟩
      case measure => have := HQ.out; simp [intOf]; omega
    · have hkn : k = N := by omega
      subst hkn
      have hil : ¬ i < t := by omega
      have r0 := HT.out.r0
      have r1 := HT.out.r1
      have r2 := HT.out.r2
      have r3 := HT.out.r3
      have fr := HT.out.fr
      rw [hi']
      generalize rangeW (0 : Int) k = s at *
      have hne : ¬ w.heap.size = w.heap.size + 1 := by omega
      have hne' : ¬ w.heap.size + 1 = w.heap.size := by omega
      have hmi : min t 256 = t := by omega
      have hnt : ¬ 256 < t := by omega
      clear hi'
      go_wp2_with fail
      refine bodyPost_ret (v := aggW s) (by simp [results, Tryd.results27, go_sem, r0, r1, r2, r3, fr, s0, s1, s2, s3, hne, hne']) rfl ⟨rfl, ?_⟩
      exact below3 HT.out.bw (Nat.le_refl _) _ _ _ _
set_option maxRecDepth 100000 in
set_option maxHeartbeats 2000000 in
theorem range_c (f t : Int) (w : World) (hf : 0 ≤ f) (ht : 256 < t) (hb0 : -9223372036854775808 ≤ f) (hb1 : f < 9223372036854775808) : Calls Tryd.prog 27 #[.int .i64 f, .int .i64 t] w (IsW (rangeW f ((256 : Int) - f).toNat) w) := by
  have HS := Lib.hid (TwoW.start w)
  obtain ⟨N, hN⟩ : ∃ N, ((256 : Int) - f).toNat = N := ⟨_, rfl⟩
  rw [hN]
  have hm : max f 0 = f := by omega
  have hnf : ¬ f < 0 := by omega
  go_enter Tryd.func27, Tryd.ntmps27
  go_wp2_with fail
  go_loopw [6] (fun i wr => ∃ k : Nat, i = .int .i64 (f + (k : Int)) ∧ k ≤ N ∧ Hid (TwoW w wr (rangeW f k))) (fun i _ => N - (intOf i - f).toNat)
  case atStart => exact ⟨0, by simp, Nat.zero_le _, HS⟩
  case round =>
    obtain ⟨k, rfl, hk, HT⟩ := hrel
    have s0 := HT.out.s0
    have s1 := HT.out.s1
    have s2 := HT.out.s2
    have s3 := HT.out.s3
    have fs := HT.out.fs
    obtain ⟨i, hi'⟩ : ∃ i : Int, f + (k : Int) = i := ⟨_, rfl⟩
    by_cases hlt : k < N
    · have hil : i < (256 : Int) := by omega
      have HX : Hid (rangeW f (k + 1) = withM (rangeW f k) i) := Lib.hid (by rw [rangeW_succ, hi'])
      have hok := HT.out.ok
      have cw := Lib.hid (fun w => with_any (rangeW f k) hok i w)
      have HOK := Lib.hid (withM_ok hok i)
      have hiw : IntKind.i64.wrap (i + 1) = i + 1 := by rw [IntKind.wrap_i64]; omega
      rw [hi']
      have HQ := Lib.hid hi'
      generalize rangeW f k = s at *
      generalize withM s i = s' at *
      have hmi : min t 256 = 256 := by omega
      clear hok hi'
      go_wp2_with fail
      refine (cw.out _).mono ?_
      rintro e w1 ⟨rfl, hb1⟩
      have HT1 := Lib.hid (HT.out.call hb1)
      have s0 := HT1.out.s0
      have s1 := HT1.out.s1
      have s2 := HT1.out.s2
      have s3 := HT1.out.s3
      have fs := HT1.out.fs
      have HT2 := Lib.hid (HT1.out.put s' HOK.out)
      clear hb1 cw
      go_wp2_with fail
      go_roundw
      case rel => exact ⟨k + 1, by have := HQ.out; congr 1; omega, by omega, Lib.hid (by rw [HX.out]; exact HT2.out)⟩
      case measure => have := HQ.out; simp [intOf]; omega
    · have hkn : k = N := by omega
      subst hkn
      have hil : ¬ i < (256 : Int) := by omega
      have r0 := HT.out.r0
      have r1 := HT.out.r1
      have r2 := HT.out.r2
      have r3 := HT.out.r3
      have fr := HT.out.fr
      rw [hi']
      generalize rangeW f k = s at *
      have hne : ¬ w.heap.size = w.heap.size + 1 := by omega
      have hne' : ¬ w.heap.size + 1 = w.heap.size := by omega
      have hmi : min t 256 = 256 := by omega
      clear hi'
      go_wp2_with fail
      refine bodyPost_ret (v := aggW s) (by simp [results, Tryd.results27, go_sem, r0, r1, r2, r3, fr, s0, s1, s2, s3, hne, hne']) rfl ⟨rfl, ?_⟩
      exact below3 HT.out.bw (Nat.le_refl _) _ _ _ _
set_option maxRecDepth 100000 in
set_option maxHeartbeats 2000000 in
theorem range_d (f t : Int) (w : World) (hf : 0 ≤ f) (ht : t ≤ 256) (hb0 : -9223372036854775808 ≤ f) (hb1 : f < 9223372036854775808) : Calls Tryd.prog 27 #[.int .i64 f, .int .i64 t] w (IsW (rangeW f (t - f).toNat) w) := by
  have HS := Lib.hid (TwoW.start w)
  obtain ⟨N, hN⟩ : ∃ N, (t - f).toNat = N := ⟨_, rfl⟩
  rw [hN]
  have hm : max f 0 = f := by omega
  have hnf : ¬ f < 0 := by omega
  go_enter Tryd.func27, Tryd.ntmps27
  go_wp2_with fail
  go_loopw [6] (fun i wr => ∃ k : Nat, i = .int .i64 (f + (k : Int)) ∧ k ≤ N ∧ Hid (TwoW w wr (rangeW f k))) (fun i _ => N - (intOf i - f).toNat)
  case atStart => exact ⟨0, by simp, Nat.zero_le _, HS⟩
  case round =>
    obtain ⟨k, rfl, hk, HT⟩ := hrel
    have s0 := HT.out.s0
    have s1 := HT.out.s1
    have s2 := HT.out.s2
    have s3 := HT.out.s3
    have fs := HT.out.fs
    obtain ⟨i, hi'⟩ : ∃ i : Int, f + (k : Int) = i := ⟨_, rfl⟩
    by_cases hlt : k < N
    · have hil : i < t := by omega
      have HX : Hid (rangeW f (k + 1) = withM (rangeW f k) i) := Lib.hid (by rw [rangeW_succ, hi'])
      have hok := HT.out.ok
      have cw := Lib.hid (fun w => with_any (rangeW f k) hok i w)
      have HOK := Lib.hid (withM_ok hok i)
      have hiw : IntKind.i64.wrap (i + 1) = i + 1 := by rw [IntKind.wrap_i64]; omega
      rw [hi']
      have HQ := Lib.hid hi'
      generalize rangeW f k = s at *
      generalize withM s i = s' at *
      have hmi : min t 256 = t := by omega
      have hnt : ¬ 256 < t := by omega
      clear hok hi'
      go_wp2_with fail
      refine (cw.out _).mono ?_
      rintro e w1 ⟨rfl, hb1⟩
      have HT1 := Lib.hid (HT.out.call hb1)
      have s0 := HT1.out.s0
      have s1 := HT1.out.s1
      have s2 := HT1.out.s2
      have s3 := HT1.out.s3
      have fs := HT1.out.fs
      have HT2 := Lib.hid (HT1.out.put s' HOK.out)
      clear hb1 cw
      go_wp2_with fail
      go_roundw
      case rel => exact ⟨k + 1, by have := HQ.out; congr 1; omega, by omega, Lib.hid (by rw [HX.out]; exact HT2.out)⟩
      case measure => have := HQ.out; simp [intOf]; omega
    · have hkn : k = N := by omega
      subst hkn
      have hil : ¬ i < t := by omega
      have r0 := HT.out.r0
      have r1 := HT.out.r1
      have r2 := HT.out.r2
      have r3 := HT.out.r3
      have fr := HT.out.fr
      rw [hi']
      generalize rangeW f k = s at *
      have hne : ¬ w.heap.size = w.heap.size + 1 := by omega
      have hne' : ¬ w.heap.size + 1 = w.heap.size := by omega
      have hmi : min t 256 = t := by omega
      have hnt : ¬ 256 < t := by omega
      clear hi'
      go_wp2_with fail
      refine bodyPost_ret (v := aggW s) (by simp [results, Tryd.results27, go_sem, r0, r1, r2, r3, fr, s0, s1, s2, s3, hne, hne']) rfl ⟨rfl, ?_⟩
      exact below3 HT.out.bw (Nat.le_refl _) _ _ _ _
theorem range_any (f t : Int) (w : World) (hb0 : -9223372036854775808 ≤ f) (hb1 : f < 9223372036854775808) : Calls Tryd.prog 27 #[.int .i64 f, .int .i64 t] w (IsW (rangeM f t) w) := by
  unfold rangeM
  by_cases hf : f < 0
  · rw [show max f 0 = 0 by omega]
    by_cases ht : 256 < t
    · rw [show min t 256 = 256 by omega]; exact range_a f t w hf ht hb0 hb1
    · rw [show min t 256 = t by omega]; exact range_b f t w hf (by omega) hb0 hb1
  · rw [show max f 0 = f by omega]
    by_cases ht : 256 < t
    · rw [show min t 256 = 256 by omega]; exact range_c f t w (by omega) ht hb0 hb1
    · rw [show min t 256 = t by omega]; exact range_d f t w (by omega) (by omega) hb0 hb1
end Go.Proofs.YtgjmmbhakjalgaaDoor
