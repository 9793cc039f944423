/-
  Sets of slots: the document's set of a row, and of a range.
-/
import Derived.Test.YtgjmmbhakjalgaaDoorSl6
namespace Go.Proofs.YtgjmmbhakjalgaaDoor
open Go.RowKit
set_option linter.unusedSimpArgs false
set_option linter.unusedVariables false
theorem add_wrap {a r : Nat} (hs : a + 2 ^ r < 18446744073709551616) : IntKind.u64.wrap ((a : Int) + 2 ^ r) = ((a + 2 ^ r : Nat) : Int) := by
  have h2 : ((2 ^ r : Nat) : Int) = 2 ^ r := by simp
  rw [← h2, ← Int.natCast_add, IntKind.wrap_u64]
  exact Int.emod_eq_of_lt (Int.natCast_nonneg _) (Int.ofNat_lt.2 hs)

set_option maxRecDepth 100000 in
set_option maxHeartbeats 2000000 in
theorem rof_any (A : Option Addr) (n c B : Nat) (xs : List Int) (w : World) (h : SlR 1 8 (RInt .i64) w B A n c xs) (hB : B ≤ w.heap.size) (hn : n ≤ 1000) :
    Calls Tryd.prog 16 #[.slice A n c] w (IsW (foldW zW xs) w) := by
  have H := Lib.hid h
  have HL : Hid (xs.length = n) := h.1
  have HB := Lib.hid hB
  have HS := Lib.hid (TwoW.start w)
  clear h hB
  go_enter Tryd.func16, Tryd.ntmps16
  go_wp2_with fail
  go_loopw [4] (fun i wr => ∃ k : Nat, i = .int .i64 k ∧ k ≤ n ∧ Hid (TwoW w wr (foldW zW (xs.take k)))) (fun i _ => n - (intOf i).toNat)
  case atStart => exact ⟨0, rfl, Nat.zero_le _, HS⟩
  case round =>
    obtain ⟨k, rfl, hk, HT⟩ := hrel
    have s0 := HT.out.s0
    have s1 := HT.out.s1
    have s2 := HT.out.s2
    have s3 := HT.out.s3
    have fs := HT.out.fs
    by_cases hlt : k < n
    · obtain ⟨b, off, t, rfl, hb, hx, q⟩ := int_at' H.out hlt
      have q0 : wr.cell? ⟨b, off + k, none⟩ = some (.int .i64 t) := (HT.out.bw.cell (by have := HB.out; show b < _; omega)).trans q
      have HX : Hid (foldW zW (xs.take (k + 1)) = withM (foldW zW (xs.take k)) t) := Lib.hid (foldW_snoc xs k t hx)
      have hok := HT.out.ok
      generalize foldW zW (xs.take k) = s at *
      clear q hx hb
      by_cases h0 : 0 ≤ t
      · by_cases h1 : t ≤ 255
        · obtain ⟨m, hmt⟩ : ∃ m : Nat, (m : Int) = t := ⟨t.toNat, by omega⟩
          have hm256 : m < 256 := by omega
          have ch := Lib.hid (rhas_any s hok t)
          cases hmem : memM s (m : Int) with
          | true =>
            have HW : Hid (withM s t = s) := Lib.hid (by rw [← hmt]; exact withM_mem hmem)
            rw [← hmt, hmem, hmt] at ch
            clear hok hmem hmt
            go_wp2_with fail
            refine (ch.out _).mono ?_
            rintro e w1 ⟨rfl, hb1⟩
            have HT1 := Lib.hid (HT.out.call hb1)
            clear hb1 ch
            go_wp2_with fail
            go_roundw
            case rel => exact ⟨k + 1, by go_num, by omega, Lib.hid (by rw [HX.out, HW.out]; exact HT1.out)⟩
            case measure => simp [intOf]; omega
          | false =>
            rw [← hmt, hmem, hmt] at ch
            have q4 : m / 64 < 4 := by omega
            obtain ⟨q, hqd⟩ : ∃ q, m / 64 = q := ⟨_, rfl⟩
            obtain ⟨r, hrd⟩ : ∃ r, m % 64 = r := ⟨_, rfl⟩
            have hadd := withM_add hok (n := m) hm256 hmem
            rw [hqd, hrd] at hadd
            have HP := Lib.hid (fun W (hW : TwoW w W s) => hW.putq q (by omega) (s.get q + 2 ^ r) (withM s (m : Int)) hadd.1 (withM_ok hok _))
            have hr : r < 64 := by omega
            have hq4 : q < 4 := by omega
            have hsq := fun W (hW : TwoW w W s) => hW.sc q hq4
            have hwadd := add_wrap hadd.2
            have hp := nat_wrap hr
            have hq : t.tdiv 64 = (q : Int) := by rw [Int.tdiv_eq_ediv_of_nonneg (by omega)]; omega
            have hmd : t.tmod 64 = (r : Int) := by rw [Int.tmod_eq_emod_of_nonneg (by omega)]; omega
            have hw : IntKind.i64.wrap (r : Int) = r := by rw [IntKind.wrap_i64]; omega
            have hw1 : IntKind.i64.wrap (q : Int) = q := by rw [IntKind.wrap_i64]; omega
            rw [hmt] at HP
            clear hok hmem hadd hqd hrd hmt hm256 q4
            go_wp2_with fail
            refine (ch.out _).mono ?_
            rintro e w1 ⟨rfl, hb1⟩
            have HT1 := Lib.hid (HT.out.call hb1)
            have z0 := hsq w1 HT1.out
            have fs := HT1.out.fs
            have HT2 := Lib.hid (HP.out w1 HT1.out)
            generalize s.get q = a at *
            clear hb1 ch hsq HP
            go_wp2_with fail
            go_roundw
            case rel => exact ⟨k + 1, by go_num, by omega, Lib.hid (by rw [HX.out]; exact HT2.out)⟩
            case measure => simp [intOf]; omega
        · have HW : Hid (withM s t = s) := Lib.hid (withM_out (by omega))
          clear hok
          go_wp2_with fail
          go_roundw
          case rel => exact ⟨k + 1, by go_num, by omega, Lib.hid (by rw [HX.out, HW.out]; exact HT.out)⟩
          case measure => simp [intOf]; omega
      · have HW : Hid (withM s t = s) := Lib.hid (withM_out (by omega))
        clear hok
        go_wp2_with fail
        go_roundw
        case rel => exact ⟨k + 1, by go_num, by omega, Lib.hid (by rw [HX.out, HW.out]; exact HT.out)⟩
        case measure => simp [intOf]; omega
    · have hkn : k = n := by omega
      subst hkn
      have r0 := HT.out.r0
      have r1 := HT.out.r1
      have r2 := HT.out.r2
      have r3 := HT.out.r3
      have fr := HT.out.fr
      have HT3 : Hid (TwoW w wr (foldW zW xs)) := Lib.hid (by
        have := HT.out
        rw [List.take_of_length_le (by rw [HL.out]; exact Nat.le_refl _)] at this
        exact this)
      have e : foldW zW (xs.take k) = foldW zW xs := by rw [List.take_of_length_le (by rw [HL.out]; exact Nat.le_refl _)]
      rw [e] at s0 s1 s2 s3
      clear HT e
      generalize foldW zW xs = s at *
      have hne : ¬ w.heap.size = w.heap.size + 1 := by omega
      have hne' : ¬ w.heap.size + 1 = w.heap.size := by omega
      go_wp2_with fail
      refine bodyPost_ret (v := aggW s) (by simp [results, Tryd.results16, go_sem, r0, r1, r2, r3, fr, s0, s1, s2, s3, hne, hne']) rfl ⟨rfl, ?_⟩
      exact below3 HT3.out.bw (Nat.le_refl _) _ _ _ _
theorem rangeW_memF (lo : Int) (h0 : 0 ≤ lo) : ∀ k : Nat, lo + (k : Int) ≤ 256 → ∀ m : Nat, m < 256 → memM (rangeW lo k) (m : Int) = decide (lo ≤ (m : Int) ∧ (m : Int) < lo + (k : Int)) := by
  intro k
  induction k with
  | zero =>
    intro _ m hm
    rw [rangeW_zero, memM_in hm]
    have : (zW.get (m / 64)).testBit (m % 64) = false := by
      unfold zW W4.get
      simp
    rw [this]
    simp
    try omega
  | succ k ih =>
    intro hk m hm
    obtain ⟨l, hl⟩ : ∃ l : Nat, (l : Int) = lo + (k : Int) := ⟨(lo + (k : Int)).toNat, by omega⟩
    rw [rangeW_succ, ← hl, memM_with (by omega) m hm, ih (by omega) m hm, ← Bool.decide_or]
    apply decide_eq_decide.2
    omega
theorem rangeW_not (lo : Int) (k : Nat) (h0 : 0 ≤ lo) (h1 : lo + (k : Int) < 256) : memM (rangeW lo k) (lo + (k : Int)) = false := by
  obtain ⟨m, hm⟩ : ∃ m : Nat, (m : Int) = lo + (k : Int) := ⟨(lo + (k : Int)).toNat, by omega⟩
  rw [← hm, rangeW_memF lo h0 k (by omega) m (by omega)]
  simp
  omega
set_option maxRecDepth 100000 in
set_option maxHeartbeats 2000000 in
theorem rrange_a (f t : Int) (w : World) (hf : f < 0) (ht : 256 < t) (hb0 : -9223372036854775808 ≤ f) (hb1 : f < 9223372036854775808) : Calls Tryd.prog 19 #[.int .i64 f, .int .i64 t] w (IsW (rangeW (0 : Int) ((256 : Int) - (0 : Int)).toNat) w) := by
  have HS := Lib.hid (TwoW.start w)
  obtain ⟨N, hN⟩ : ∃ N, ((256 : Int) - (0 : Int)).toNat = N := ⟨_, rfl⟩
  rw [hN]
  have hm : max f 0 = 0 := by omega
  go_enter Tryd.func19, Tryd.ntmps19
  go_wp2_with fail
  go_loopw [6] (fun i wr => ∃ k : Nat, i = .int .i64 ((0 : Int) + (k : Int)) ∧ k ≤ N ∧ Hid (TwoW w wr (rangeW (0 : Int) k))) (fun i _ => N - (intOf i - (0 : Int)).toNat)
  case atStart => exact ⟨0, by simp, Nat.zero_le _, HS⟩
  case round =>
    obtain ⟨k, rfl, hk, HT⟩ := hrel
    have s0 := HT.out.s0
    have s1 := HT.out.s1
    have s2 := HT.out.s2
    have s3 := HT.out.s3
    have fs := HT.out.fs
    obtain ⟨i, hi'⟩ : ∃ i : Int, (0 : Int) + (k : Int) = i := ⟨_, rfl⟩
    by_cases hlt : k < N
    · have hil : i < (256 : Int) := by omega
      have HX : Hid (rangeW (0 : Int) (k + 1) = withM (rangeW (0 : Int) k) i) := Lib.hid (by rw [rangeW_succ, hi'])
      have hok := HT.out.ok
      have hiw : IntKind.i64.wrap (i + 1) = i + 1 := by rw [IntKind.wrap_i64]; omega
      obtain ⟨m, hmt⟩ : ∃ m : Nat, (m : Int) = i := ⟨i.toNat, by omega⟩
      have hm256 : m < 256 := by omega
      have hmem : memM (rangeW (0 : Int) k) (m : Int) = false := by
        rw [hmt, ← hi']
        exact rangeW_not (0 : Int) k (by omega) (by omega)
      rw [hi']
      have HQ := Lib.hid hi'
      generalize rangeW (0 : Int) k = s at *
      have hmi : min t 256 = 256 := by omega
      have q4 : m / 64 < 4 := by omega
      obtain ⟨q, hqd⟩ : ∃ q, m / 64 = q := ⟨_, rfl⟩
      obtain ⟨r, hrd⟩ : ∃ r, m % 64 = r := ⟨_, rfl⟩
      have hadd := withM_add hok (n := m) hm256 hmem
      rw [hqd, hrd] at hadd
      have HP := Lib.hid (fun W (hW : TwoW w W s) => hW.putq q (by omega) (s.get q + 2 ^ r) (withM s (m : Int)) hadd.1 (withM_ok hok _))
      have hr : r < 64 := by omega
      have hq4 : q < 4 := by omega
      have hsq := fun W (hW : TwoW w W s) => hW.sc q hq4
      have hwadd := add_wrap hadd.2
      have hp := nat_wrap hr
      have hq : i.tdiv 64 = (q : Int) := by rw [Int.tdiv_eq_ediv_of_nonneg (by omega)]; omega
      have hmd : i.tmod 64 = (r : Int) := by rw [Int.tmod_eq_emod_of_nonneg (by omega)]; omega
      have hw : IntKind.i64.wrap (r : Int) = r := by rw [IntKind.wrap_i64]; omega
      have hw1 : IntKind.i64.wrap (q : Int) = q := by rw [IntKind.wrap_i64]; omega
      rw [hmt] at HP
      have z0 := hsq wr HT.out
      have HT2 := Lib.hid (HP.out wr HT.out)
      generalize s.get q = a at *
      clear hok hmem hadd hqd hrd hmt hm256 q4 hsq HP hi'
      go_wp2_with fail
      go_roundw
      case rel => exact ⟨k + 1, by have := HQ.out; congr 1; omega, by omega, Lib.hid (by rw [HX.out]; exact HT2.out)⟩
      case measure => have := HQ.out; simp [intOf]; omega
    · have hkn : k = N := by omega
      subst hkn
      have hil : ¬ i < (256 : Int) := by omega
      have r0 := HT.out.r0
      have r1 := HT.out.r1
      have r2 := HT.out.r2
      have r3 := HT.out.r3
      have fr := HT.out.fr
      rw [hi']
      generalize rangeW (0 : Int) k = s at *
      have hne : ¬ w.heap.size = w.heap.size + 1 := by omega
      have hne' : ¬ w.heap.size + 1 = w.heap.size := by omega
      have hmi : min t 256 = 256 := by omega
      clear hi'
      go_wp2_with fail
      refine bodyPost_ret (v := aggW s) (by simp [results, Tryd.results19, go_sem, r0, r1, r2, r3, fr, s0, s1, s2, s3, hne, hne']) rfl ⟨rfl, ?_⟩
      exact below3 HT.out.bw (Nat.le_refl _) _ _ _ _
set_option maxRecDepth 100000 in
set_option maxHeartbeats 2000000 in
theorem rrange_b (f t : Int) (w : World) (hf : f < 0) (ht : t ≤ 256) (hb0 : -9223372036854775808 ≤ f) (hb1 : f < 9223372036854775808) : Calls Tryd.prog 19 #[.int .i64 f, .int .i64 t] w (IsW (rangeW (0 : Int) (t - (0 : Int)).toNat) w) := by
  have HS := Lib.hid (TwoW.start w)
  obtain ⟨N, hN⟩ : ∃ N, (t - (0 : Int)).toNat = N := ⟨_, rfl⟩
  rw [hN]
  have hm : max f 0 = 0 := by omega
  go_enter Tryd.func19, Tryd.ntmps19
  go_wp2_with fail
  go_loopw [6] (fun i wr => ∃ k : Nat, i = .int .i64 ((0 : Int) + (k : Int)) ∧ k ≤ N ∧ Hid (TwoW w wr (rangeW (0 : Int) k))) (fun i _ => N - (intOf i - (0 : Int)).toNat)
  case atStart => exact ⟨0, by simp, Nat.zero_le _, HS⟩
  case round =>
    obtain ⟨k, rfl, hk, HT⟩ := hrel
    have s0 := HT.out.s0
    have s1 := HT.out.s1
    have s2 := HT.out.s2
    have s3 := HT.out.s3
    have fs := HT.out.fs
    obtain ⟨i, hi'⟩ : ∃ i : Int, (0 : Int) + (k : Int) = i := ⟨_, rfl⟩
    by_cases hlt : k < N
    · have hil : i < t := by omega
      have HX : Hid (rangeW (0 : Int) (k + 1) = withM (rangeW (0 : Int) k) i) := Lib.hid (by rw [rangeW_succ, hi'])
      have hok := HT.out.ok
      have hiw : IntKind.i64.wrap (i + 1) = i + 1 := by rw [IntKind.wrap_i64]; omega
      obtain ⟨m, hmt⟩ : ∃ m : Nat, (m : Int) = i := ⟨i.toNat, by omega⟩
      have hm256 : m < 256 := by omega
      have hmem : memM (rangeW (0 : Int) k) (m : Int) = false := by
        rw [hmt, ← hi']
        exact rangeW_not (0 : Int) k (by omega) (by omega)
      rw [hi']
      have HQ := Lib.hid hi'
      generalize rangeW (0 : Int) k = s at *
      have hmi : min t 256 = t := by omega
      have hnt : ¬ 256 < t := by omega
      have q4 : m / 64 < 4 := by omega
      obtain ⟨q, hqd⟩ : ∃ q, m / 64 = q := ⟨_, rfl⟩
      obtain ⟨r, hrd⟩ : ∃ r, m % 64 = r := ⟨_, rfl⟩
      have hadd := withM_add hok (n := m) hm256 hmem
      rw [hqd, hrd] at hadd
      have HP := Lib.hid (fun W (hW : TwoW w W s) => hW.putq q (by omega) (s.get q + 2 ^ r) (withM s (m : Int)) hadd.1 (withM_ok hok _))
      have hr : r < 64 := by omega
      have hq4 : q < 4 := by omega
      have hsq := fun W (hW : TwoW w W s) => hW.sc q hq4
      have hwadd := add_wrap hadd.2
      have hp := nat_wrap hr
      have hq : i.tdiv 64 = (q : Int) := by rw [Int.tdiv_eq_ediv_of_nonneg (by omega)]; omega
      have hmd : i.tmod 64 = (r : Int) := by rw [Int.tmod_eq_emod_of_nonneg (by omega)]; omega
      have hw : IntKind.i64.wrap (r : Int) = r := by rw [IntKind.wrap_i64]; omega
      have hw1 : IntKind.i64.wrap (q : Int) = q := by rw [IntKind.wrap_i64]; omega
      rw [hmt] at HP
      have z0 := hsq wr HT.out
      have HT2 := Lib.hid (HP.out wr HT.out)
      generalize s.get q = a at *
      clear hok hmem hadd hqd hrd hmt hm256 q4 hsq HP hi'
      go_wp2_with fail
      go_roundw
      case rel => exact ⟨k + 1, by have := HQ.out; congr 1; omega, by omega, Lib.hid (by rw [HX.out]; exact HT2.out)⟩
      case measure => have := HQ.out; simp [intOf]; omega
    · have hkn : k = N := by omega
      subst hkn
      have hil : ¬ i < t := by omega
      have r0 := HT.out.r0
      have r1 := HT.out.r1
      have r2 := HT.out.r2
      have r3 := HT.out.r3
      have fr := HT.out.fr
      rw [hi']
      generalize rangeW (0 : Int) k = s at *
      have hne : ¬ w.heap.size = w.heap.size + 1 := by omega
      have hne' : ¬ w.heap.size + 1 = w.heap.size := by omega
      have hmi : min t 256 = t := by omega
      have hnt : ¬ 256 < t := by omega
      clear hi'
      go_wp2_with fail
      refine bodyPost_ret (v := aggW s) (by simp [results, Tryd.results19, go_sem, r0, r1, r2, r3, fr, s0, s1, s2, s3, hne, hne']) rfl ⟨rfl, ?_⟩
      exact below3 HT.out.bw (Nat.le_refl _) _ _ _ _
set_option maxRecDepth 100000 in
set_option maxHeartbeats 2000000 in
theorem rrange_c (f t : Int) (w : World) (hf : 0 ≤ f) (ht : 256 < t) (hb0 : -9223372036854775808 ≤ f) (hb1 : f < 9223372036854775808) : Calls Tryd.prog 19 #[.int .i64 f, .int .i64 t] w (IsW (rangeW f ((256 : Int) - f).toNat) w) := by
  have HS := Lib.hid (TwoW.start w)
  obtain ⟨N, hN⟩ : ∃ N, ((256 : Int) - f).toNat = N := ⟨_, rfl⟩
  rw [hN]
  have hm : max f 0 = f := by omega
  have hnf : ¬ f < 0 := by omega
  go_enter Tryd.func19, Tryd.ntmps19
  go_wp2_with fail
  go_loopw [6] (fun i wr => ∃ k : Nat, i = .int .i64 (f + (k : Int)) ∧ k ≤ N ∧ Hid (TwoW w wr (rangeW f k))) (fun i _ => N - (intOf i - f).toNat)
  case atStart => exact ⟨0, by simp, Nat.zero_le _, HS⟩
  case round =>
    obtain ⟨k, rfl, hk, HT⟩ := hrel
    have s0 := HT.out.s0
    have s1 := HT.out.s1
    have s2 := HT.out.s2
    have s3 := HT.out.s3
    have fs := HT.out.fs
    obtain ⟨i, hi'⟩ : ∃ i : Int, f + (k : Int) = i := ⟨_, rfl⟩
    by_cases hlt : k < N
    · have hil : i < (256 : Int) := by omega
      have HX : Hid (rangeW f (k + 1) = withM (rangeW f k) i) := Lib.hid (by rw [rangeW_succ, hi'])
      have hok := HT.out.ok
      have hiw : IntKind.i64.wrap (i + 1) = i + 1 := by rw [IntKind.wrap_i64]; omega
      obtain ⟨m, hmt⟩ : ∃ m : Nat, (m : Int) = i := ⟨i.toNat, by omega⟩
      have hm256 : m < 256 := by omega
      have hmem : memM (rangeW f k) (m : Int) = false := by
        rw [hmt, ← hi']
        exact rangeW_not f k (by omega) (by omega)
      rw [hi']
      have HQ := Lib.hid hi'
      generalize rangeW f k = s at *
      have hmi : min t 256 = 256 := by omega
      have q4 : m / 64 < 4 := by omega
      obtain ⟨q, hqd⟩ : ∃ q, m / 64 = q := ⟨_, rfl⟩
      obtain ⟨r, hrd⟩ : ∃ r, m % 64 = r := ⟨_, rfl⟩
      have hadd := withM_add hok (n := m) hm256 hmem
      rw [hqd, hrd] at hadd
      have HP := Lib.hid (fun W (hW : TwoW w W s) => hW.putq q (by omega) (s.get q + 2 ^ r) (withM s (m : Int)) hadd.1 (withM_ok hok _))
      have hr : r < 64 := by omega
      have hq4 : q < 4 := by omega
      have hsq := fun W (hW : TwoW w W s) => hW.sc q hq4
      have hwadd := add_wrap hadd.2
      have hp := nat_wrap hr
      have hq : i.tdiv 64 = (q : Int) := by rw [Int.tdiv_eq_ediv_of_nonneg (by omega)]; omega
      have hmd : i.tmod 64 = (r : Int) := by rw [Int.tmod_eq_emod_of_nonneg (by omega)]; omega
      have hw : IntKind.i64.wrap (r : Int) = r := by rw [IntKind.wrap_i64]; omega
      have hw1 : IntKind.i64.wrap (q : Int) = q := by rw [IntKind.wrap_i64]; omega
      rw [hmt] at HP
      have z0 := hsq wr HT.out
      have HT2 := Lib.hid (HP.out wr HT.out)
      generalize s.get q = a at *
      clear hok hmem hadd hqd hrd hmt hm256 q4 hsq HP hi'
      go_wp2_with fail
      go_roundw
      case rel => exact ⟨k + 1, by have := HQ.out; congr 1; omega, by omega, Lib.hid (by rw [HX.out]; exact HT2.out)⟩
      case measure => have := HQ.out; simp [intOf]; omega
    · have hkn : k = N := by omega
      subst hkn
      have hil : ¬ i < (256 : Int) := by omega
      have r0 := HT.out.r0
      have r1 := HT.out.r1
      have r2 := HT.out.r2
      have r3 := HT.out.r3
      have fr := HT.out.fr
      rw [hi']
      generalize rangeW f k = s at *
      have hne : ¬ w.heap.size = w.heap.size + 1 := by omega
      have hne' : ¬ w.heap.size + 1 = w.heap.size := by omega
      have hmi : min t 256 = 256 := by omega
      clear hi'
      go_wp2_with fail
      refine bodyPost_ret (v := aggW s) (by simp [results, Tryd.results19, go_sem, r0, r1, r2, r3, fr, s0, s1, s2, s3, hne, hne']) rfl ⟨rfl, ?_⟩
      exact below3 HT.out.bw (Nat.le_refl _) _ _ _ _
set_option maxRecDepth 100000 in
set_option maxHeartbeats 2000000 in
theorem rrange_d (f t : Int) (w : World) (hf : 0 ≤ f) (ht : t ≤ 256) (hb0 : -9223372036854775808 ≤ f) (hb1 : f < 9223372036854775808) : Calls Tryd.prog 19 #[.int .i64 f, .int .i64 t] w (IsW (rangeW f (t - f).toNat) w) := by
  have HS := Lib.hid (TwoW.start w)
  obtain ⟨N, hN⟩ : ∃ N, (t - f).toNat = N := ⟨_, rfl⟩
  rw [hN]
  have hm : max f 0 = f := by omega
  have hnf : ¬ f < 0 := by omega
  go_enter Tryd.func19, Tryd.ntmps19
  go_wp2_with fail
  go_loopw [6] (fun i wr => ∃ k : Nat, i = .int .i64 (f + (k : Int)) ∧ k ≤ N ∧ Hid (TwoW w wr (rangeW f k))) (fun i _ => N - (intOf i - f).toNat)
  case atStart => exact ⟨0, by simp, Nat.zero_le _, HS⟩
  case round =>
    obtain ⟨k, rfl, hk, HT⟩ := hrel
    have s0 := HT.out.s0
    have s1 := HT.out.s1
    have s2 := HT.out.s2
    have s3 := HT.out.s3
    have fs := HT.out.fs
    obtain ⟨i, hi'⟩ : ∃ i : Int, f + (k : Int) = i := ⟨_, rfl⟩
    by_cases hlt : k < N
    · have hil : i < t := by omega
      have HX : Hid (rangeW f (k + 1) = withM (rangeW f k) i) := Lib.hid (by rw [rangeW_succ, hi'])
      have hok := HT.out.ok
      have hiw : IntKind.i64.wrap (i + 1) = i + 1 := by rw [IntKind.wrap_i64]; omega
      obtain ⟨m, hmt⟩ : ∃ m : Nat, (m : Int) = i := ⟨i.toNat, by omega⟩
      have hm256 : m < 256 := by omega
      have hmem : memM (rangeW f k) (m : Int) = false := by
        rw [hmt, ← hi']
        exact rangeW_not f k (by omega) (by omega)
      rw [hi']
      have HQ := Lib.hid hi'
      generalize rangeW f k = s at *
      have hmi : min t 256 = t := by omega
      have hnt : ¬ 256 < t := by omega
      have q4 : m / 64 < 4 := by omega
      obtain ⟨q, hqd⟩ : ∃ q, m / 64 = q := ⟨_, rfl⟩
      obtain ⟨r, hrd⟩ : ∃ r, m % 64 = r := ⟨_, rfl⟩
      have hadd := withM_add hok (n := m) hm256 hmem
      rw [hqd, hrd] at hadd
      have HP := Lib.hid (fun W (hW : TwoW w W s) => hW.putq q (by omega) (s.get q + 2 ^ r) (withM s (m : Int)) hadd.1 (withM_ok hok _))
      have hr : r < 64 := by omega
      have hq4 : q < 4 := by omega
      have hsq := fun W (hW : TwoW w W s) => hW.sc q hq4
      have hwadd := add_wrap hadd.2
      have hp := nat_wrap hr
      have hq : i.tdiv 64 = (q : Int) := by rw [Int.tdiv_eq_ediv_of_nonneg (by omega)]; omega
      have hmd : i.tmod 64 = (r : Int) := by rw [Int.tmod_eq_emod_of_nonneg (by omega)]; omega
      have hw : IntKind.i64.wrap (r : Int) = r := by rw [IntKind.wrap_i64]; omega
      have hw1 : IntKind.i64.wrap (q : Int) = q := by rw [IntKind.wrap_i64]; omega
      rw [hmt] at HP
      have z0 := hsq wr HT.out
      have HT2 := Lib.hid (HP.out wr HT.out)
      generalize s.get q = a at *
      clear hok hmem hadd hqd hrd hmt hm256 q4 hsq HP hi'
      go_wp2_with fail
      go_roundw
      case rel => exact ⟨k + 1, by have := HQ.out; congr 1; omega, by omega, Lib.hid (by rw [HX.out]; exact HT2.out)⟩
      case measure => have := HQ.out; simp [intOf]; omega
    · have hkn : k = N := by omega
      subst hkn
      have hil : ¬ i < t := by omega
      have r0 := HT.out.r0
      have r1 := HT.out.r1
      have r2 := HT.out.r2
      have r3 := HT.out.r3
      have fr := HT.out.fr
      rw [hi']
      generalize rangeW f k = s at *
      have hne : ¬ w.heap.size = w.heap.size + 1 := by omega
      have hne' : ¬ w.heap.size + 1 = w.heap.size := by omega
      have hmi : min t 256 = t := by omega
      have hnt : ¬ 256 < t := by omega
      clear hi'
      go_wp2_with fail
      refine bodyPost_ret (v := aggW s) (by simp [results, Tryd.results19, go_sem, r0, r1, r2, r3, fr, s0, s1, s2, s3, hne, hne']) rfl ⟨rfl, ?_⟩
      exact below3 HT.out.bw (Nat.le_refl _) _ _ _ _
theorem rrange_any (f t : Int) (w : World) (hb0 : -9223372036854775808 ≤ f) (hb1 : f < 9223372036854775808) : Calls Tryd.prog 19 #[.int .i64 f, .int .i64 t] w (IsW (rangeM f t) w) := by
  unfold rangeM
  by_cases hf : f < 0
  · rw [show max f 0 = 0 by omega]
    by_cases ht : 256 < t
    · rw [show min t 256 = 256 by omega]; exact rrange_a f t w hf ht hb0 hb1
    · rw [show min t 256 = t by omega]; exact rrange_b f t w hf (by omega) hb0 hb1
  · rw [show max f 0 = f by omega]
    by_cases ht : 256 < t
    · rw [show min t 256 = 256 by omega]; exact rrange_c f t w (by omega) ht hb0 hb1
    · rw [show min t 256 = t by omega]; exact rrange_d f t w (by omega) (by omega) hb0 hb1
end Go.Proofs.YtgjmmbhakjalgaaDoor
