import Derived.Test.YtobmjnmcjddhcaaGreatCFs1
import Derived.Test.YtobmjnmcjddhcaaGreatCB1
set_option linter.unusedSimpArgs false
set_option linter.unusedVariables false
set_option maxRecDepth 100000
set_option maxHeartbeats 2000000
namespace Go.Proofs.YtobmjnmcjddhcaaGreat
open Go.RowKit
theorem shr_test (a r : Nat) : (((a : Int) / 2 ^ r).tmod 2 == 1) = a.testBit r := by
 have e : ((a : Int) / 2 ^ r) = ((a / 2 ^ r : Nat) : Int) := by simp
 have t := test_shr a r
 rw [e, Int.tmod_eq_emod_of_nonneg (Int.natCast_nonneg _)]
 cases h : a.testBit r with
 | true => rw [h] at t; simp at t; simp; omega
 | false => rw [h] at t; simp at t; simp; omega
theorem rhas_in (s : W4) (h : s.Ok) (m : Nat) (hm : m < 256) (w : World) : Calls Tryz.prog 158 #[aggW s, .int .i64 (m : Int)] w fun e w' => e = .returned (.bool (memM s (m : Int))) ∧ Below w.heap.size w w' := by
 obtain ⟨n, hn⟩ : ∃ n : Int, (m : Int) = n := ⟨_, rfl⟩
 obtain ⟨q, hqd⟩ : ∃ q, m / 64 = q := ⟨_, rfl⟩
 obtain ⟨r, hrd⟩ : ∃ r, m % 64 = r := ⟨_, rfl⟩
 have hq4 : q < 4 := by omega
 have hr : r < 64 := by omega
 have hq : n.tdiv 64 = (q : Int) := by rw [Int.tdiv_eq_ediv_of_nonneg (by omega)]; omega
 have hmd : n.tmod 64 = (r : Int) := by rw [Int.tmod_eq_emod_of_nonneg (by omega)]; omega
 have hw : IntKind.i64.wrap (r : Int) = r := by rw [IntKind.wrap_i64]; omega
 have hw1 : IntKind.i64.wrap (q : Int) = q := by rw [IntKind.wrap_i64]; omega
 have hcell := set_new w s q hq4
 have hn0 : 0 ≤ n := by omega
 have hn1 : n ≤ 255 := by omega
 have hlt := h.get q
 have hv : memM s (m : Int) = (s.get q).testBit r := by rw [memM_in hm, hqd, hrd]
 rw [hv, hn]
 generalize s.get q = a at *
 clear h hm hqd hrd hn hv
 go_enter Tryz.func158, Tryz.ntmps158
 go_wp2_with fail
 go_ret
 exact ⟨by rw [← shr_test a r]; rfl, bl_one _⟩
theorem rhas_any (s : W4) (h : s.Ok) (n : Int) (w : World) : Calls Tryz.prog 158 #[aggW s, .int .i64 n] w fun e w' => e = .returned (.bool (memM s n)) ∧ Below w.heap.size w w' := by
 by_cases hn : 0 ≤ n ∧ n < 256
 ·obtain ⟨m, rfl⟩ : ∃ m : Nat, n = (m : Int) := ⟨n.toNat, by omega⟩
  exact rhas_in s h m (by omega) w
 ·rw [memM_out hn]
  by_cases h0 : 0 ≤ n
  ·have h1 : ¬ n ≤ 255 := by omega
   go_enter Tryz.func158, Tryz.ntmps158
   go_wp2_with fail
   go_ret
   exact ⟨rfl, bl_one _⟩
  ·go_enter Tryz.func158, Tryz.ntmps158
   go_wp2_with fail
   go_ret
   exact ⟨rfl, bl_one _⟩
theorem rofs_any (A : Option Addr) (n c B : Nat) (xs : List Int) (w : World) (h : SlI w B A n c xs) (hB : B ≤ w.heap.size) (hn : n ≤ 1000) :
  Calls Tryz.prog 174 #[.slice A n c] w (IsW (foldW zW xs) w) := by
 have H := Lib.hid h
 have HL : Hid (xs.length = n) := h.1
 have HB := Lib.hid hB
 have HS := Lib.hid (TwoW.start w)
 clear h hB
 go_enter Tryz.func174, Tryz.ntmps174
 go_wp2_with fail
 go_loopw [4] (fun i wr => ∃ k : Nat, i = .int .i64 k ∧ k ≤ n ∧ Hid (TwoW w wr (foldW zW (xs.take k)))) (fun i _ => n - (intOf i).toNat)
 case atStart => exact ⟨0, rfl, Nat.zero_le _, HS⟩
 case round =>
  obtain ⟨k, rfl, hk, HT⟩ := hrel
  have s0 := HT.out.s0
  have s1 := HT.out.s1
  have s2 := HT.out.s2
  have s3 := HT.out.s3
  have fs := HT.out.fs
  by_cases hlt : k < n
  ·obtain ⟨b, off, t, rfl, hb, hx, q⟩ := SlR.cell1 (f := Value.int .i64) H.out hlt
   have q0 : wr.cell? ⟨b, off + k, none⟩ = some (.int .i64 t) := (HT.out.bw.cell (by have := HB.out; show b < _; omega)).trans q
   have HX : Hid (foldW zW (xs.take (k + 1)) = withM (foldW zW (xs.take k)) t) := Lib.hid (foldW_snoc xs k t hx)
   have hok := HT.out.ok
   generalize foldW zW (xs.take k) = s at *
   clear q hx hb
   by_cases h0 : 0 ≤ t
   ·by_cases h1 : t ≤ 255
    ·obtain ⟨m, hmt⟩ : ∃ m : Nat, (m : Int) = t := ⟨t.toNat, by omega⟩
     have hm256 : m < 256 := by omega
     have ch := Lib.hid (rhas_any s hok t)
     cases hmem : memM s (m : Int) with
     | true =>
      have HW : Hid (withM s t = s) := Lib.hid (by rw [← hmt]; exact withM_mem hmem)
      rw [← hmt, hmem, hmt] at ch
      clear hok hmem hmt
      go_wp2_with fail
      refine (ch.out _).mono ?_
      rintro e w1 ⟨rfl, hb1⟩
      have HT1 := Lib.hid (HT.out.call hb1)
      clear hb1 ch
      go_wp2_with fail
      go_roundw
      case rel => exact ⟨k + 1, by go_num, by omega, Lib.hid (by rw [HX.out, HW.out]; exact HT1.out)⟩
      case measure => simp [intOf]; omega
     | false =>
      rw [← hmt, hmem, hmt] at ch
      have q4 : m / 64 < 4 := by omega
      obtain ⟨q, hqd⟩ : ∃ q, m / 64 = q := ⟨_, rfl⟩
      obtain ⟨r, hrd⟩ : ∃ r, m % 64 = r := ⟨_, rfl⟩
      have hadd := withM_add hok (n := m) hm256 hmem
      rw [hqd, hrd] at hadd
      have HP := Lib.hid (fun W (hW : TwoW w W s) => hW.putq q (by omega) (s.get q + 2 ^ r) (withM s (m : Int)) hadd.1 (withM_ok hok _))
      have hr : r < 64 := by omega
      have hq4 : q < 4 := by omega
      have hsq := fun W (hW : TwoW w W s) => hW.sc q hq4
      have hwadd := add_wrap hadd.2
      have hp := nat_wrap hr
      have hq : t.tdiv 64 = (q : Int) := by rw [Int.tdiv_eq_ediv_of_nonneg (by omega)]; omega
      have hmd : t.tmod 64 = (r : Int) := by rw [Int.tmod_eq_emod_of_nonneg (by omega)]; omega
      have hw : IntKind.i64.wrap (r : Int) = r := by rw [IntKind.wrap_i64]; omega
      have hw1 : IntKind.i64.wrap (q : Int) = q := by rw [IntKind.wrap_i64]; omega
      rw [hmt] at HP
      clear hok hmem hadd hqd hrd hmt hm256 q4
      go_wp2_with fail
      refine (ch.out _).mono ?_
      rintro e w1 ⟨rfl, hb1⟩
      have HT1 := Lib.hid (HT.out.call hb1)
      have z0 := hsq w1 HT1.out
      have fs := HT1.out.fs
      have HT2 := Lib.hid (HP.out w1 HT1.out)
      generalize s.get q = a at *
      clear hb1 ch hsq HP
      go_wp2_with fail
      go_roundw
      case rel => exact ⟨k + 1, by go_num, by omega, Lib.hid (by rw [HX.out]; exact HT2.out)⟩
      case measure => simp [intOf]; omega
    ·have HW : Hid (withM s t = s) := Lib.hid (withM_out (by omega))
     clear hok
     go_wp2_with fail
     go_roundw
     case rel => exact ⟨k + 1, by go_num, by omega, Lib.hid (by rw [HX.out, HW.out]; exact HT.out)⟩
     case measure => simp [intOf]; omega
   ·have HW : Hid (withM s t = s) := Lib.hid (withM_out (by omega))
    clear hok
    go_wp2_with fail
    go_roundw
    case rel => exact ⟨k + 1, by go_num, by omega, Lib.hid (by rw [HX.out, HW.out]; exact HT.out)⟩
    case measure => simp [intOf]; omega
  ·have hkn : k = n := by omega
   subst hkn
   have r0 := HT.out.r0
   have r1 := HT.out.r1
   have r2 := HT.out.r2
   have r3 := HT.out.r3
   have fr := HT.out.fr
   have HT3 : Hid (TwoW w wr (foldW zW xs)) := Lib.hid (by
    have := HT.out
    rw [List.take_of_length_le (by rw [HL.out]; exact Nat.le_refl _)] at this
    exact this)
   have e : foldW zW (xs.take k) = foldW zW xs := by rw [List.take_of_length_le (by rw [HL.out]; exact Nat.le_refl _)]
   rw [e] at s0 s1 s2 s3
   clear HT e
   generalize foldW zW xs = s at *
   have hne : ¬ w.heap.size = w.heap.size + 1 := by omega
   have hne' : ¬ w.heap.size + 1 = w.heap.size := by omega
   go_wp2_with fail
   refine bodyPost_ret (v := aggW s) (by simp [results, Tryz.results174, go_sem, r0, r1, r2, r3, fr, s0, s1, s2, s3, hne, hne']) rfl ⟨rfl, ?_⟩
   exact below3 HT3.out.bw (Nat.le_refl _) _ _ _ _
end Go.Proofs.YtobmjnmcjddhcaaGreat
