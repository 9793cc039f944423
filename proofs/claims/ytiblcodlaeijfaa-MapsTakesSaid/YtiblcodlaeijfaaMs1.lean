/-
  Sets of slots: a slot out of bounds; a set's cells; bits (chosen out of r14's text).
-/
import Derived.Test.YtiblcodlaeijfaaMs0
import Derived.Test.YtiblcodlaeijfaaMt9
namespace Go.Proofs.Ytiblcodlaeijfaa
open Go.RowKit
set_option linter.unusedSimpArgs false
set_option linter.unusedVariables false
set_option maxRecDepth 100000 in
theorem is_out (n : Int) (h : ¬ (0 ≤ n ∧ n < 256)) (w : World) : Calls Try.prog 31 #[.int .i64 n] w fun e w' => e = .returned (.bool false) ∧ w = w' := by
  by_cases h0 : 0 ≤ n
  · have h1 : ¬ n < 256 := by omega
    go_enter Try.func31, Try.ntmps31
    go_wp2
    go_ret
    exact ⟨rfl, rfl⟩
  · go_enter Try.func31, Try.ntmps31
    go_wp2
    go_ret
    exact ⟨rfl, rfl⟩
theorem set_new (w : World) (s : W4) (q : Nat) (hq : q < 4) : (w.alloc (.cells #[.int .u64 (s.a0 : Int), .int .u64 (s.a1 : Int), .int .u64 (s.a2 : Int), .int .u64 (s.a3 : Int)] 41)).cell? ⟨w.heap.size, q, none⟩ = some (.int .u64 (s.get q : Int)) := by
  rcases (show q = 0 ∨ q = 1 ∨ q = 2 ∨ q = 3 by omega) with rfl | rfl | rfl | rfl
  all_goals exact (new_cells (Below.refl _ _) _ _ rfl).1
theorem nat_wrap {r : Nat} (hr : r < 64) : IntKind.u64.wrap (2 ^ r) = 2 ^ r := by
  have h1 : 2 ^ r < 18446744073709551616 := pow_lt64 hr
  have h2 : ((2 ^ r : Nat) : Int) = 2 ^ r := by simp
  have h3 : (0 : Int) ≤ 2 ^ r := by rw [← h2]; exact Int.natCast_nonneg _
  have h4 : (2 : Int) ^ r < 18446744073709551616 := by rw [← h2]; exact Int.ofNat_lt.2 h1
  rw [IntKind.wrap_u64]
  exact Int.emod_eq_of_lt h3 h4
theorem bits_and_pow {a r : Nat} (ha : a < 18446744073709551616) (hr : r < 64) : bits .and .u64 (a : Int) (2 ^ r) = ((a &&& 2 ^ r : Nat) : Int) := by
  have := bits_and_u64_nat a (2 ^ r) ha (pow_lt64 hr)
  simpa using this
theorem bits_or_pow {a r : Nat} (ha : a < 18446744073709551616) (hr : r < 64) : bits .or .u64 (a : Int) (2 ^ r) = ((a ||| 2 ^ r : Nat) : Int) := by
  have := bits_or_u64_nat a (2 ^ r) ha (pow_lt64 hr)
  simpa using this
def IsW (s : W4) (w : World) (e : Ending) (w' : World) : Prop := e = .returned (aggW s) ∧ Below w.heap.size w w'
set_option maxRecDepth 100000 in
theorem with_out (s : W4) (n : Int) (h : ¬ (0 ≤ n ∧ n < 256)) (w : World) : Calls Try.prog 22 #[aggW s, .int .i64 n] w (IsW s w) := by
  have hi := is_out n h
  go_enter Try.func22, Try.ntmps22
  go_wp2_with fail
  refine (hi _).mono ?_
  rintro e w1 ⟨rfl, rfl⟩
  go_wp2_with fail
  exact bodyPost_ret (v := aggW s) (by simp [results, Try.results22, go_sem]) rfl ⟨rfl, by repeat (first | exact Below.refl _ _ | (refine Below.setCell ?_ (by simp) _) | (refine Below.alloc ?_ (by simp) _))⟩
theorem with_any (s : W4) (h : s.Ok) (n : Int) (w : World) : Calls Try.prog 22 #[aggW s, .int .i64 n] w (IsW (withM s n) w) := by
  by_cases hn : 0 ≤ n ∧ n < 256
  · obtain ⟨m, rfl⟩ : ∃ m : Nat, n = (m : Int) := ⟨n.toNat, by omega⟩
    have hm : m < 256 := by omega
    rw [withM_in hm]
    have hr : m % 64 < 64 := Nat.mod_lt _ (by decide)
    rcases (show m / 64 = 0 ∨ m / 64 = 1 ∨ m / 64 = 2 ∨ m / 64 = 3 by omega) with hq | hq | hq | hq
    · have c := with_w0 s.a0 s.a1 s.a2 s.a3 (m % 64) hr w
      rw [bits_or_pow h.h0 hr, show 0 + m % 64 = m by omega] at c
      rw [hq]
      exact c
    · have c := with_w1 s.a0 s.a1 s.a2 s.a3 (m % 64) hr w
      rw [bits_or_pow h.h1 hr, show 64 + m % 64 = m by omega] at c
      rw [hq]
      exact c
    · have c := with_w2 s.a0 s.a1 s.a2 s.a3 (m % 64) hr w
      rw [bits_or_pow h.h2 hr, show 128 + m % 64 = m by omega] at c
      rw [hq]
      exact c
    · have c := with_w3 s.a0 s.a1 s.a2 s.a3 (m % 64) hr w
      rw [bits_or_pow h.h3 hr, show 192 + m % 64 = m by omega] at c
      rw [hq]
      exact c
  · rw [withM_out hn]
    exact with_out s n hn w
end Go.Proofs.Ytiblcodlaeijfaa
