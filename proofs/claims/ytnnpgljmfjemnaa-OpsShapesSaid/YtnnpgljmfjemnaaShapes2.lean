/-
  What an instruction takes and gives by the document; the two held against each other; the law of the shapes.
-/
import Derived.Test.YtnnpgljmfjemnaaShapes
namespace Go.Proofs.Ytnnpgljmfjemnaa
open Go.RowKit
set_option linter.unusedSimpArgs false
set_option linter.unusedVariables false

theorem of_int (m : Int) (h0 : 0 ≤ m) (h1 : m ≤ 100) (t : Int) (w : World) : Calls Try.prog 75 #[.int .i64 m, .int .i64 t] w (IsList (List.replicate m.toNat t) w) := by
  obtain ⟨n, rfl⟩ := Int.eq_ofNat_of_zero_le h0
  exact of_any n (by omega) t w
def IsTwo (xs ys : List Int) (w : World) (e : Ending) (w' : World) : Prop := ∃ A n c B m d, e = .returned (.tuple #[.slice A n c, .slice B m d]) ∧ SlI w' A n c xs ∧ SlI w' B m d ys ∧ Below w.heap.size w w'
theorem op_groups (op : Int) : (op < 0 ∨ 35 ≤ op) ∨ (op = 6 ∨ op = 7 ∨ op = 8 ∨ op = 9 ∨ op = 10 ∨ op = 11 ∨ op = 12 ∨ op = 13 ∨ op = 14 ∨ op = 15 ∨ op = 16 ∨ op = 17 ∨ op = 18 ∨ op = 19 ∨ op = 20) ∨ (op = 22 ∨ op = 26 ∨ op = 30) ∨ (op = 1 ∨ op = 27 ∨ op = 32) ∨ (op = 0 ∨ op = 2 ∨ op = 3 ∨ op = 4 ∨ op = 5 ∨ op = 21 ∨ op = 23 ∨ op = 24 ∨ op = 25 ∨ op = 28 ∨ op = 29 ∨ op = 31 ∨ op = 33 ∨ op = 34) := by omega
set_option maxRecDepth 100000 in
set_option maxHeartbeats 4000000 in
theorem effect_any (op : Int) (w : World) : Calls Try.prog 35 #[.int .i64 op] w (IsTwo (takesM op) (givesM op) w) := by
  rcases op_groups op with h | h | h | h | h
  · rw [show takesM op = [] from opTab_out h rfl, show givesM op = [] from opTab_out h rfl]
    rcases h with h | h
    all_goals
      go_enter Try.func35, Try.ntmps35
      go_wp2
      go_ret2
      exact ⟨_, _, _, _, _, _, rfl, SlR.nil_ _ _, SlR.nil_ _ _, Below.refl _ _⟩
  · rcases h with rfl | rfl | rfl | rfl | rfl | rfl | rfl | rfl | rfl | rfl | rfl | rfl | rfl | rfl | rfl
    all_goals
      go_enter Try.func35, Try.ntmps35
      go_wp2_with fail
      refine (of_int _ (by omega) (by omega) _ _).mono ?_
      rintro e w1 ⟨A1, n1, c1, rfl, hs1, hb1⟩
      go_wp2_with fail
      refine (of_int _ (by omega) (by omega) _ _).mono ?_
      rintro e w2 ⟨A2, n2, c2, rfl, hs2, hb2⟩
      go_wp2_with fail
      go_ret2
      exact ⟨_, _, _, _, _, _, rfl, hs1.keep hb2, hs2, hb1.trans (hb2.mono hb1.size)⟩
  · rcases h with rfl | rfl | rfl
    all_goals
      go_enter Try.func35, Try.ntmps35
      go_wp2_with fail
      refine (of_int _ (by omega) (by omega) _ _).mono ?_
      rintro e w1 ⟨A1, n1, c1, rfl, hs1, hb1⟩
      go_wp2_with fail
      go_ret2
      exact ⟨_, _, _, _, _, _, rfl, hs1, SlR.nil_ _ _, hb1⟩
  · rcases h with rfl | rfl | rfl
    all_goals
      go_enter Try.func35, Try.ntmps35
      go_wp2_with fail
      refine (of_int _ (by omega) (by omega) _ _).mono ?_
      rintro e w1 ⟨A1, n1, c1, rfl, hs1, hb1⟩
      go_wp2_with fail
      go_ret2
      exact ⟨_, _, _, _, _, _, rfl, SlR.nil_ _ _, hs1, hb1⟩
  · rcases h with rfl | rfl | rfl | rfl | rfl | rfl | rfl | rfl | rfl | rfl | rfl | rfl | rfl | rfl
    all_goals
      go_enter Try.func35, Try.ntmps35
      go_wp2
      go_ret2
      exact ⟨_, _, _, _, _, _, rfl, SlR.nil_ _ _, SlR.nil_ _ _, Below.refl _ _⟩


set_option maxRecDepth 100000 in
set_option maxHeartbeats 1000000 in
/-- Two slices that read as one list: the same. -/
theorem same_any (B1 B2 : Nat) (A1 A2 : Option Addr) (n1 n2 c1 c2 : Nat) (xs : List Int) (w : World) (h1 : SlR 1 8 (RI .i64) w B1 A1 n1 c1 xs) (h2 : SlR 1 8 (RI .i64) w B2 A2 n2 c2 xs) :
    Calls Try.prog 36 #[.slice A1 n1 c1, .slice A2 n2 c2] w fun e w' => e = .returned (.bool true) ∧ ∃ k, w' = w.drewN k := by
  have hn : n2 = n1 := by rw [← h1.1, ← h2.1]
  subst hn
  have hm : n2 ≤ 9223372036854775807 := by have := h1.2.1; have := h1.2.2.1; unfold maxLen at this; omega
  have H1 := Lib.hid h1
  have H2 := Lib.hid h2
  clear h1 h2
  go_enter Try.func36, Try.ntmps36
  go_wp2
  go_loopw [5] (fun i wr => ∃ k q : Nat, k ≤ n2 ∧ i = .int .i64 k ∧ wr = w.drewN q) (fun i _ => n2 - (intOf i).toNat)
  case atStart => exact ⟨0, 0, Nat.zero_le _, rfl, rfl⟩
  case round =>
    obtain ⟨k, q, hk, rfl, rfl⟩ := hrel
    by_cases hlt : k < n2
    · obtain ⟨b1, o1, x1, rfl, _, hx1, hc1⟩ := SlR.cell1 (f := fun x => Value.int .i64 x) H1.out hlt
      obtain ⟨b2, o2, x2, rfl, _, hx2, hc2⟩ := SlR.cell1 (f := fun x => Value.int .i64 x) H2.out hlt
      have hxx : x2 = x1 := by rw [hx1] at hx2; injection hx2 with h; exact h.symm
      subst hxx
      have hne : (x2 != x2) = false := by simp
      clear hx1 hx2
      go_wp2
      go_quiet (fail)
      go_wp2
      go_roundw
      case rel => exact ⟨k + 1, _, by omega, by go_num, rfl⟩
      case measure => simp [intOf]; omega
    · go_wp2
      go_ret
      exact ⟨rfl, q, rfl⟩
end Go.Proofs.Ytnnpgljmfjemnaa
