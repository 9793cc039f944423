/-
  Events: whether two are the same, by the program and by the document.
-/
import Derived.Test.YtpladpmkpchndaaEv0
namespace Go.Proofs.Ytpladpmkpchndaa
open Go.RowKit
set_option linter.unusedSimpArgs false
set_option linter.unusedVariables false

abbrev eventV (k n m : Int) (A : Option Addr) (s c : Nat) : Value := .agg #[.int .i64 k, .int .i64 n, .int .i64 m, .slice A s c]
def eqH (k1 n1 r1 k2 n2 r2 : Int) : Bool := (k1 == k2) && ((n1 == n2) && (r1 == r2))

set_option maxRecDepth 100000 in
set_option maxHeartbeats 2000000 in
theorem evSame_any (k1 n1 : Int) (r1 : Int) (k2 n2 : Int) (r2 : Int) (B : Nat) (A1 A2 : Option Addr) (m1 c1 m2 c2 : Nat) (l1 l2 : List DEntry) (w : World) (h1 : SlE w B A1 m1 c1 l1) (h2 : SlE w B A2 m2 c2 l2) (hB : B ≤ w.heap.size) :
    Calls Try.prog 59 #[eventV k1 n1 r1 A1 m1 c1, eventV k2 n2 r2 A2 m2 c2] w fun e w' => e = .returned (.bool (eqH k1 n1 r1 k2 n2 r2 && eqEs l1 l2)) ∧ Below w.heap.size w w' := by
  have ce : ∀ W : World, Below w.heap.size w W → Hid (Calls Try.prog 87 #[.slice A1 m1 c1, .slice A2 m2 c2] W fun e w' => e = .returned (.bool (eqEs l1 l2)) ∧ ∃ q, w' = W.drewN q) := fun W hW => equal_any B B A1 A2 m1 m2 c1 c2 l1 l2 W (sle_rc (h1.keep (hW.mono hB))) (sle_rc (h2.keep (hW.mono hB)))
  obtain ⟨b, hb⟩ : ∃ b, eqEs l1 l2 = b := ⟨_, rfl⟩
  rw [hb] at ce ⊢
  clear hb h1 h2 hB
  unfold eqH
  have hA : Below w.heap.size w ((w.alloc (.cells #[.int .i64 k1, .int .i64 n1, .int .i64 r1, .slice A1 m1 c1] 98)).alloc (.cells #[.int .i64 k2, .int .i64 n2, .int .i64 r2, .slice A2 m2 c2] 98)) := ((Below.refl _ _).alloc (Nat.le_refl _) _).alloc (by simp) _
  have ce := ce _ hA
  rcases Bool.eq_false_or_eq_true (k1 == k2) with f1 | f1
  · rcases Bool.eq_false_or_eq_true (n1 == n2) with f2 | f2
    · rcases Bool.eq_false_or_eq_true (r1 == r2) with f3 | f3
      · rw [f1, f2, f3]
        go_enter Try.func59, Try.ntmps59
        go_wp2_with fail
        refine Calls.mono ce.out ?_
        rintro e w1 ⟨rfl, q, rfl⟩
        go_wp2_with fail
        go_ret
        exact ⟨by simp, below_drewN' hA q⟩
      · rw [f1, f2, f3]
        clear ce
        go_enter Try.func59, Try.ntmps59
        go_wp2_with fail
        go_ret
        exact ⟨by simp, hA⟩
    · rw [f1, f2]
      clear ce
      go_enter Try.func59, Try.ntmps59
      go_wp2_with fail
      go_ret
      exact ⟨by simp, hA⟩
  · rw [f1]
    clear ce
    go_enter Try.func59, Try.ntmps59
    go_wp2_with fail
    go_ret
    exact ⟨by simp, hA⟩

set_option maxRecDepth 100000 in
set_option maxHeartbeats 2000000 in
theorem refEvSame_any (k1 n1 : Int) (r1 : Int) (k2 n2 : Int) (r2 : Int) (B : Nat) (A1 A2 : Option Addr) (m1 c1 m2 c2 : Nat) (l1 l2 : List DEntry) (w : World) (h1 : SlE w B A1 m1 c1 l1) (h2 : SlE w B A2 m2 c2 l2) (hB : B ≤ w.heap.size) :
    Calls Try.prog 60 #[eventV k1 n1 r1 A1 m1 c1, eventV k2 n2 r2 A2 m2 c2] w fun e w' => e = .returned (.bool (eqH k1 n1 r1 k2 n2 r2 && eqEs l1 l2)) ∧ Below w.heap.size w w' := by
  have ce : ∀ W : World, Below w.heap.size w W → Hid (Calls Try.prog 88 #[.slice A1 m1 c1, .slice A2 m2 c2] W fun e w' => e = .returned (.bool (eqEs l1 l2)) ∧ ∃ q, w' = W.drewN q) := fun W hW => entries_any B B A1 A2 m1 m2 c1 c2 l1 l2 W (sle_rc (h1.keep (hW.mono hB))) (sle_rc (h2.keep (hW.mono hB)))
  obtain ⟨b, hb⟩ : ∃ b, eqEs l1 l2 = b := ⟨_, rfl⟩
  rw [hb] at ce ⊢
  clear hb h1 h2 hB
  unfold eqH
  have hA : Below w.heap.size w ((w.alloc (.cells #[.int .i64 k1, .int .i64 n1, .int .i64 r1, .slice A1 m1 c1] 98)).alloc (.cells #[.int .i64 k2, .int .i64 n2, .int .i64 r2, .slice A2 m2 c2] 98)) := ((Below.refl _ _).alloc (Nat.le_refl _) _).alloc (by simp) _
  have ce := ce _ hA
  rcases Bool.eq_false_or_eq_true (k1 == k2) with f1 | f1
  · rcases Bool.eq_false_or_eq_true (n1 == n2) with f2 | f2
    · rcases Bool.eq_false_or_eq_true (r1 == r2) with f3 | f3
      · rw [f1, f2, f3]
        go_enter Try.func60, Try.ntmps60
        go_wp2_with fail
        refine Calls.mono ce.out ?_
        rintro e w1 ⟨rfl, q, rfl⟩
        go_wp2_with fail
        go_ret
        exact ⟨by simp, below_drewN' hA q⟩
      · rw [f1, f2, f3]
        clear ce
        go_enter Try.func60, Try.ntmps60
        go_wp2_with fail
        go_ret
        exact ⟨by simp, hA⟩
    · rw [f1, f2]
      clear ce
      go_enter Try.func60, Try.ntmps60
      go_wp2_with fail
      go_ret
      exact ⟨by simp, hA⟩
  · rw [f1]
    clear ce
    go_enter Try.func60, Try.ntmps60
    go_wp2_with fail
    go_ret
    exact ⟨by simp, hA⟩

abbrev blameV (k n : Int) (r : Bool) (A : Option Addr) (m c : Nat) : Value := .agg #[.int .i64 k, .int .i64 n, .bool r, .slice A m c]
def eqB (k1 n1 : Int) (r1 : Bool) (k2 n2 : Int) (r2 : Bool) : Bool := (k1 == k2) && ((n1 == n2) && (r1 == r2))

set_option maxRecDepth 100000 in
set_option maxHeartbeats 2000000 in
theorem panics_any (k1 n1 : Int) (r1 : Bool) (k2 n2 : Int) (r2 : Bool) (B : Nat) (A1 A2 : Option Addr) (m1 c1 m2 c2 : Nat) (l1 l2 : List DEntry) (w : World) (h1 : SlE w B A1 m1 c1 l1) (h2 : SlE w B A2 m2 c2 l2) (hB : B ≤ w.heap.size) :
    Calls Try.prog 99 #[blameV k1 n1 r1 A1 m1 c1, blameV k2 n2 r2 A2 m2 c2] w fun e w' => e = .returned (.bool (eqB k1 n1 r1 k2 n2 r2 && eqEs l1 l2)) ∧ Below w.heap.size w w' := by
  have ce : ∀ W : World, Below w.heap.size w W → Hid (Calls Try.prog 87 #[.slice A1 m1 c1, .slice A2 m2 c2] W fun e w' => e = .returned (.bool (eqEs l1 l2)) ∧ ∃ q, w' = W.drewN q) := fun W hW => equal_any B B A1 A2 m1 m2 c1 c2 l1 l2 W (sle_rc (h1.keep (hW.mono hB))) (sle_rc (h2.keep (hW.mono hB)))
  obtain ⟨b, hb⟩ : ∃ b, eqEs l1 l2 = b := ⟨_, rfl⟩
  rw [hb] at ce ⊢
  clear hb h1 h2 hB
  unfold eqB
  have hA : Below w.heap.size w ((w.alloc (.cells #[.int .i64 k1, .int .i64 n1, .bool r1, .slice A1 m1 c1] 142)).alloc (.cells #[.int .i64 k2, .int .i64 n2, .bool r2, .slice A2 m2 c2] 142)) := ((Below.refl _ _).alloc (Nat.le_refl _) _).alloc (by simp) _
  have ce := ce _ hA
  rcases Bool.eq_false_or_eq_true (k1 == k2) with f1 | f1
  · rcases Bool.eq_false_or_eq_true (n1 == n2) with f2 | f2
    · rcases Bool.eq_false_or_eq_true (r1 == r2) with f3 | f3
      · rw [f1, f2, f3]
        go_enter Try.func99, Try.ntmps99
        go_wp2_with fail
        refine Calls.mono ce.out ?_
        rintro e w1 ⟨rfl, q, rfl⟩
        go_wp2_with fail
        go_ret
        exact ⟨by simp, below_drewN' hA q⟩
      · rw [f1, f2, f3]
        clear ce
        go_enter Try.func99, Try.ntmps99
        go_wp2_with fail
        go_ret
        exact ⟨by simp, hA⟩
    · rw [f1, f2]
      clear ce
      go_enter Try.func99, Try.ntmps99
      go_wp2_with fail
      go_ret
      exact ⟨by simp, hA⟩
  · rw [f1]
    clear ce
    go_enter Try.func99, Try.ntmps99
    go_wp2_with fail
    go_ret
    exact ⟨by simp, hA⟩
end Go.Proofs.Ytpladpmkpchndaa
