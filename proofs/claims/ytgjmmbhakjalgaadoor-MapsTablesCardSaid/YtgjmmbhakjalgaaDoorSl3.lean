/-
  Sets of slots: the document's Has (out of r14's text).
-/
import Derived.Test.YtgjmmbhakjalgaaDoorSl0
namespace Go.Proofs.YtgjmmbhakjalgaaDoor
open Go.RowKit
set_option linter.unusedSimpArgs false
set_option linter.unusedVariables false
set_option maxRecDepth 100000 in
theorem is_out (n : Int) (h : ¬ (0 ≤ n ∧ n < 256)) (w : World) : Calls Tryd.prog 29 #[.int .i64 n] w fun e w' => e = .returned (.bool false) ∧ w = w' := by
  by_cases h0 : 0 ≤ n
  · have h1 : ¬ n < 256 := by omega
    go_enter Tryd.func29, Tryd.ntmps29
    go_wp2
    go_ret
    exact ⟨rfl, rfl⟩
  · go_enter Tryd.func29, Tryd.ntmps29
    go_wp2
    go_ret
    exact ⟨rfl, rfl⟩
theorem set_new (w : World) (s : W4) (q : Nat) (hq : q < 4) : (w.alloc (.cells #[.int .u64 (s.a0 : Int), .int .u64 (s.a1 : Int), .int .u64 (s.a2 : Int), .int .u64 (s.a3 : Int)] 27)).cell? ⟨w.heap.size, q, none⟩ = some (.int .u64 (s.get q : Int)) := by
  rcases (show q = 0 ∨ q = 1 ∨ q = 2 ∨ q = 3 by omega) with rfl | rfl | rfl | rfl
  all_goals exact (new_cells (Below.refl _ _) _ _ rfl).1
theorem nat_wrap {r : Nat} (hr : r < 64) : IntKind.u64.wrap (2 ^ r) = 2 ^ r := by
  have h1 : 2 ^ r < 18446744073709551616 := pow_lt64 hr
  have h2 : ((2 ^ r : Nat) : Int) = 2 ^ r := by simp
  have h3 : (0 : Int) ≤ 2 ^ r := by rw [← h2]; exact Int.natCast_nonneg _
  have h4 : (2 : Int) ^ r < 18446744073709551616 := by rw [← h2]; exact Int.ofNat_lt.2 h1
  rw [IntKind.wrap_u64]
  exact Int.emod_eq_of_lt h3 h4
theorem bits_and_pow {a r : Nat} (ha : a < 18446744073709551616) (hr : r < 64) : bits .and .u64 (a : Int) (2 ^ r) = ((a &&& 2 ^ r : Nat) : Int) := by
  have := bits_and_u64_nat a (2 ^ r) ha (pow_lt64 hr)
  simpa using this
theorem bits_or_pow {a r : Nat} (ha : a < 18446744073709551616) (hr : r < 64) : bits .or .u64 (a : Int) (2 ^ r) = ((a ||| 2 ^ r : Nat) : Int) := by
  have := bits_or_u64_nat a (2 ^ r) ha (pow_lt64 hr)
  simpa using this
theorem shr_test (a r : Nat) : (((a : Int) / 2 ^ r).tmod 2 == 1) = a.testBit r := by
  have e : ((a : Int) / 2 ^ r) = ((a / 2 ^ r : Nat) : Int) := by simp
  have t := test_shr a r
  rw [e, Int.tmod_eq_emod_of_nonneg (Int.natCast_nonneg _)]
  cases h : a.testBit r with
  | true => rw [h] at t; simp at t; simp; omega
  | false => rw [h] at t; simp at t; simp; omega
set_option maxRecDepth 100000 in
set_option maxHeartbeats 1000000 in
theorem rhas_in (s : W4) (h : s.Ok) (m : Nat) (hm : m < 256) (w : World) : Calls Tryd.prog 25 #[aggW s, .int .i64 (m : Int)] w fun e w' => e = .returned (.bool (memM s (m : Int))) ∧ Below w.heap.size w w' := by
  obtain ⟨n, hn⟩ : ∃ n : Int, (m : Int) = n := ⟨_, rfl⟩
  obtain ⟨q, hqd⟩ : ∃ q, m / 64 = q := ⟨_, rfl⟩
  obtain ⟨r, hrd⟩ : ∃ r, m % 64 = r := ⟨_, rfl⟩
  have hq4 : q < 4 := by omega
  have hr : r < 64 := by omega
  have hq : n.tdiv 64 = (q : Int) := by rw [Int.tdiv_eq_ediv_of_nonneg (by omega)]; omega
  have hmd : n.tmod 64 = (r : Int) := by rw [Int.tmod_eq_emod_of_nonneg (by omega)]; omega
  have hw : IntKind.i64.wrap (r : Int) = r := by rw [IntKind.wrap_i64]; omega
  have hw1 : IntKind.i64.wrap (q : Int) = q := by rw [IntKind.wrap_i64]; omega
  have hcell := set_new w s q hq4
  have hn0 : 0 ≤ n := by omega
  have hn1 : n ≤ 255 := by omega
  have hlt := h.get q
  have hv : memM s (m : Int) = (s.get q).testBit r := by rw [memM_in hm, hqd, hrd]
  rw [hv, hn]
  generalize s.get q = a at *
  clear h hm hqd hrd hn hv
  go_enter Tryd.func25, Tryd.ntmps25
  go_wp2_with fail
  go_ret
  exact ⟨by rw [← shr_test a r]; rfl, bl_one _⟩
set_option maxRecDepth 100000 in
theorem rhas_any (s : W4) (h : s.Ok) (n : Int) (w : World) : Calls Tryd.prog 25 #[aggW s, .int .i64 n] w fun e w' => e = .returned (.bool (memM s n)) ∧ Below w.heap.size w w' := by
  by_cases hn : 0 ≤ n ∧ n < 256
  · obtain ⟨m, rfl⟩ : ∃ m : Nat, n = (m : Int) := ⟨n.toNat, by omega⟩
    exact rhas_in s h m (by omega) w
  · rw [memM_out hn]
    by_cases h0 : 0 ≤ n
    · have h1 : ¬ n ≤ 255 := by omega
      go_enter Tryd.func25, Tryd.ntmps25
      go_wp2_with fail
      go_ret
      exact ⟨rfl, bl_one _⟩
    · go_enter Tryd.func25, Tryd.ntmps25
      go_wp2_with fail
      go_ret
      exact ⟨rfl, bl_one _⟩
end Go.Proofs.YtgjmmbhakjalgaaDoor
