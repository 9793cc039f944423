/-
  Numbers of 64 bits: what each operation makes, the program's way and the document's.
-/
import Derived.Test.YtjalphlhooojoaaWholeP
import Derived.WalkSpells
import Derived.WalkLawsBesides
import Derived.Outline
import Derived.Lib.Hide
import Derived.BigQuiet
import Derived.Deep.QuietTactic
namespace Go.Proofs.Ytjalphlhooojoaa
open Go.RowKit
set_option linter.unusedSimpArgs false
set_option linter.unusedVariables false

def truthM (b : Bool) : Int := if b then 1 else 0
/-- What an operation makes of two numbers. -/
def twoM (op a b : Int) : Int × Bool :=
  if op = 6 then (wrap64 (a + b), true) else if op = 7 then (wrap64 (a - b), true) else if op = 8 then (wrap64 (a * b), true)
  else if op = 9 then (if b = 0 then (0, false) else if b = -1 then (wrap64 (-a), true) else (wrap64 (a.tdiv b), true))
  else if op = 10 then (if b = 0 then (0, false) else if b = -1 then (0, true) else (a.tmod b, true))
  else if op = 12 then (truthM (decide (a < b)), true) else if op = 13 then (truthM (a == b), true) else (0, false)
def twoV (op a b : Int) : Value := .tuple #[.int .i64 (twoM op a b).1, .bool (twoM op a b).2]
def Pure (v : Value) (w : World) (e : Ending) (w' : World) : Prop := e = .returned v ∧ ∃ n, w' = w.drewN n
def OtherTwo (op : Int) : Prop := (op == 6) = false ∧ (op == 7) = false ∧ (op == 8) = false ∧ (op == 9) = false ∧ (op == 10) = false ∧ (op == 12) = false ∧ (op == 13) = false
theorem op_two (op : Int) : op = 6 ∨ op = 7 ∨ op = 8 ∨ op = 9 ∨ op = 10 ∨ op = 12 ∨ op = 13 ∨ OtherTwo op := by
  unfold OtherTwo
  simp only [beq_eq_false_iff_ne]
  omega
theorem twoV_other {op : Int} (h : OtherTwo op) (a b : Int) : twoV op a b = .tuple #[.int .i64 0, .bool false] := by
  unfold OtherTwo at h
  simp only [beq_eq_false_iff_ne] at h
  obtain ⟨h1, h2, h3, h4, h5, h6, h7⟩ := h
  simp [twoV, twoM, h1, h2, h3, h4, h5, h6, h7]

set_option maxHeartbeats 400000 in
theorem quotient_any (a b : Int) (hb : b ≠ 0) (hb1 : b ≠ -1) (w : World) :
    Calls Try.prog 51 #[.int .i64 a, .int .i64 b] w (Pure (.tuple #[.int .i64 (wrap64 (a.tdiv b)), .int .i64 (a.tmod b)]) w) := by
  have h0 : (b == 0) = false := by rw [beq_eq_false_iff_ne]; exact hb
  have h1 : (b == -1) = false := by rw [beq_eq_false_iff_ne]; exact hb1
  go_enter Try.func51, Try.ntmps51
  go_wp2
  go_quiet (fail)
  go_wp2
  go_ret2
  exact ⟨rfl, _, rfl⟩

set_option maxRecDepth 100000 in
set_option maxHeartbeats 2000000 in
theorem whole_Two_any (op a b : Int) (w : World) :
    Calls Try.prog 45 #[.int .i64 op, .int .i64 a, .int .i64 b] w (Pure (twoV op a b) w) := by
  rcases op_two op with rfl | rfl | rfl | rfl | rfl | rfl | rfl | h
  · go_enter Try.func45, Try.ntmps45
    go_wp2
    go_ret2
    exact ⟨rfl, 0, rfl⟩
  · go_enter Try.func45, Try.ntmps45
    go_wp2
    go_ret2
    exact ⟨rfl, 0, rfl⟩
  · go_enter Try.func45, Try.ntmps45
    go_wp2
    go_ret2
    exact ⟨rfl, 0, rfl⟩
  · by_cases hb : b = 0
    · subst hb
      go_enter Try.func45, Try.ntmps45
      go_wp2
      go_ret2
      exact ⟨rfl, 0, rfl⟩
    · by_cases hb1 : b = -1
      · subst hb1
        go_enter Try.func45, Try.ntmps45
        go_wp2
        go_ret2
        exact ⟨rfl, 0, rfl⟩
      · have h0 : (b == 0) = false := by rw [beq_eq_false_iff_ne]; exact hb
        have hv : Hid (twoV 9 a b = .tuple #[.int .i64 (wrap64 (a.tdiv b)), .bool true]) := by
          show twoV 9 a b = _
          simp [twoV, twoM, hb, hb1]
        go_enter Try.func45, Try.ntmps45
        go_wp2_with (first | (go_at_call 51; refine (quotient_any _ _ hb hb1 _).mono ?_; rintro e w' ⟨rfl, n, rfl⟩) | go_in)
        go_ret2
        exact ⟨by rw [hv.out]; rfl, _, rfl⟩
  · by_cases hb : b = 0
    · subst hb
      go_enter Try.func45, Try.ntmps45
      go_wp2
      go_ret2
      exact ⟨rfl, 0, rfl⟩
    · by_cases hb1 : b = -1
      · subst hb1
        go_enter Try.func45, Try.ntmps45
        go_wp2
        go_ret2
        exact ⟨rfl, 0, rfl⟩
      · have h0 : (b == 0) = false := by rw [beq_eq_false_iff_ne]; exact hb
        have hv : Hid (twoV 10 a b = .tuple #[.int .i64 (a.tmod b), .bool true]) := by
          show twoV 10 a b = _
          simp [twoV, twoM, hb, hb1]
        go_enter Try.func45, Try.ntmps45
        go_wp2_with (first | (go_at_call 51; refine (quotient_any _ _ hb hb1 _).mono ?_; rintro e w' ⟨rfl, n, rfl⟩) | go_in)
        go_ret2
        exact ⟨by rw [hv.out]; rfl, _, rfl⟩
  · have hv : Hid (∀ t, decide (a < b) = t → twoV 12 a b = .tuple #[.int .i64 (truthM t), .bool true]) := by
      intro t ht; subst ht; rfl
    by_cases hab : a < b
    all_goals
      go_enter Try.func45, Try.ntmps45
      go_wp2
      go_ret2
      exact ⟨by first | (rw [hv.out true (by simpa using hab)]; rfl) | (rw [hv.out false (by simpa using hab)]; rfl), 0, rfl⟩
  · have hv : Hid (∀ t, (a == b) = t → twoV 13 a b = .tuple #[.int .i64 (truthM t), .bool true]) := by
      intro t ht; subst ht; rfl
    cases hab : (a == b)
    all_goals
      go_enter Try.func45, Try.ntmps45
      go_wp2
      go_ret2
      exact ⟨by rw [hv.out _ hab]; rfl, 0, rfl⟩
  · have hv : Hid (twoV op a b = .tuple #[.int .i64 0, .bool false]) := twoV_other h a b
    obtain ⟨h1, h2, h3, h4, h5, h6, h7⟩ := h
    go_enter Try.func45, Try.ntmps45
    go_wp2
    go_ret2
    exact ⟨by rw [hv.out]; rfl, 0, rfl⟩
end Go.Proofs.Ytjalphlhooojoaa
