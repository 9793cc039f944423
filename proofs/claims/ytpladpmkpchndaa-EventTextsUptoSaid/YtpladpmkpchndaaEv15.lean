/-
  Whether a run has few things.
-/
import Derived.Test.YtpladpmkpchndaaEv10
namespace Go.Proofs.Ytpladpmkpchndaa
open Go.RowKit
set_option linter.unusedSimpArgs false
set_option linter.unusedVariables false

def smallB (n0 n1 n2 : Nat) : Bool := decide (n0 ≤ 60) && (decide (n2 ≤ 30) && decide (n1 ≤ 30))
set_option maxRecDepth 100000 in
theorem small_any (A0 : Option Addr) (n0 c0 : Nat) (fin : Int) (A1 : Option Addr) (n1 c1 : Nat) (A2 : Option Addr) (n2 c2 : Nat) (st : Int) (w : World) :
    Calls Try.prog 63 #[runV A0 n0 c0 fin A1 n1 c1 A2 n2 c2 st] w fun e w' => e = .returned (.bool (smallB n0 n1 n2)) ∧ Below w.heap.size w w' := by
  have HB := Lib.hid ((Below.refl w.heap.size w).alloc (Nat.le_refl _) (.cells #[.slice A0 n0 c0, .int .i64 fin, .slice A1 n1 c1, .slice A2 n2 c2, .int .i64 st] 103))
  unfold smallB
  by_cases h0 : n0 ≤ 60
  · by_cases h2 : n2 ≤ 30
    · by_cases h1 : n1 ≤ 30
      · have q0 : (n0 : Int) ≤ 60 := by omega
        have q1 : (n1 : Int) ≤ 30 := by omega
        have q2 : (n2 : Int) ≤ 30 := by omega
        rw [decide_eq_true h0, decide_eq_true h1, decide_eq_true h2]
        clear h0 h1 h2
        go_enter Try.func63, Try.ntmps63
        go_wp2_with fail
        go_ret
        exact ⟨rfl, HB.out⟩
      · have q0 : (n0 : Int) ≤ 60 := by omega
        have q1 : ¬ (n1 : Int) ≤ 30 := by omega
        have q2 : (n2 : Int) ≤ 30 := by omega
        rw [decide_eq_true h0, decide_eq_false h1, decide_eq_true h2]
        clear h0 h1 h2
        go_enter Try.func63, Try.ntmps63
        go_wp2_with fail
        go_ret
        exact ⟨rfl, HB.out⟩
    · have q0 : (n0 : Int) ≤ 60 := by omega
      have q2 : ¬ (n2 : Int) ≤ 30 := by omega
      rw [decide_eq_true h0, decide_eq_false h2]
      clear h0 h2
      go_enter Try.func63, Try.ntmps63
      go_wp2_with fail
      go_ret
      exact ⟨rfl, HB.out⟩
  · have q0 : ¬ (n0 : Int) ≤ 60 := by omega
    rw [decide_eq_false h0]
    clear h0
    go_enter Try.func63, Try.ntmps63
    go_wp2_with fail
    go_ret
    exact ⟨rfl, HB.out⟩
end Go.Proofs.Ytpladpmkpchndaa
