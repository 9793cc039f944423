/-
  Programs: whether a function, and a program, is small.
-/
import Derived.Test.YthfdmpcnebjkjaaSp0
import Derived.BigQuiet
namespace Go.Proofs.Ythfdmpcnebjkjaa
open Go.RowKit
set_option linter.unusedSimpArgs false
set_option linter.unusedVariables false
def smallB (n0 n1 n2 n3 n4 n5 n6 n7 n8 : Nat) : Bool := decide (n4 ≤ 150) && (decide (n5 ≤ 150) && (decide (n6 ≤ 20) && (decide (n7 ≤ 150) && (decide (n8 ≤ 150) && decide (n1 + n2 + n3 + n0 ≤ 300)))))
def BoundL (n0 n1 n2 n3 n4 n5 n6 n7 n8 : Nat) : Prop := n0 ≤ 100000000000000 ∧ n1 ≤ 100000000000000 ∧ n2 ≤ 100000000000000 ∧ n3 ≤ 100000000000000
set_option maxRecDepth 100000 in
set_option maxHeartbeats 4000000 in
theorem small15_any (s : ByteArray) (b : Bool) (A0 : Option Addr) (n0 c0 : Nat) (A1 : Option Addr) (n1 c1 : Nat) (A2 : Option Addr) (n2 c2 : Nat) (A3 : Option Addr) (n3 c3 : Nat) (A4 : Option Addr) (n4 c4 : Nat) (A5 : Option Addr) (n5 c5 : Nat) (A6 : Option Addr) (n6 c6 : Nat) (A7 : Option Addr) (n7 c7 : Nat) (A8 : Option Addr) (n8 c8 : Nat) (w : World) (hB : BoundL n0 n1 n2 n3 n4 n5 n6 n7 n8) :
    Calls Try.prog 5 #[.agg #[.string s, .bool b, .slice A0 n0 c0, .slice A1 n1 c1, .slice A2 n2 c2, .slice A3 n3 c3, .slice A4 n4 c4, .slice A5 n5 c5, .slice A6 n6 c6, .slice A7 n7 c7, .slice A8 n8 c8]] w fun e w' => e = .returned (.bool (smallB n0 n1 n2 n3 n4 n5 n6 n7 n8)) ∧ Below w.heap.size w w' := by
  obtain ⟨hb0, hb1, hb2, hb3⟩ := hB
  have HB : Hid (Below w.heap.size w (w.alloc (.cells #[.string s, .bool b, .slice A0 n0 c0, .slice A1 n1 c1, .slice A2 n2 c2, .slice A3 n3 c3, .slice A4 n4 c4, .slice A5 n5 c5, .slice A6 n6 c6, .slice A7 n7 c7, .slice A8 n8 c8] 28))) := Lib.hid (bl_one _)
  by_cases hn4 : n4 ≤ 150
  rotate_left
  · have HR : Hid (smallB n0 n1 n2 n3 n4 n5 n6 n7 n8 = false) := Lib.hid (by simp [smallB, hn4])
    have tn4 : ¬ (n4 : Int) ≤ 150 := by omega
    have un4 : (150 : Int) < (n4 : Int) := by omega
    clear hn4 hb0 hb1 hb2 hb3
    go_enter Try.func5, Try.ntmps5
    go_wp2_with fail
    go_ret
    exact ⟨by rw [HR.out]; rfl, HB.out⟩
  by_cases hn5 : n5 ≤ 150
  rotate_left
  · have HR : Hid (smallB n0 n1 n2 n3 n4 n5 n6 n7 n8 = false) := Lib.hid (by simp [smallB, hn4, hn5])
    have tn4 : (n4 : Int) ≤ 150 := by omega
    have tn5 : ¬ (n5 : Int) ≤ 150 := by omega
    have un5 : (150 : Int) < (n5 : Int) := by omega
    clear hn4 hn5 hb0 hb1 hb2 hb3
    go_enter Try.func5, Try.ntmps5
    go_wp2_with fail
    go_ret
    exact ⟨by rw [HR.out]; rfl, HB.out⟩
  by_cases hn6 : n6 ≤ 20
  rotate_left
  · have HR : Hid (smallB n0 n1 n2 n3 n4 n5 n6 n7 n8 = false) := Lib.hid (by simp [smallB, hn4, hn5, hn6])
    have tn4 : (n4 : Int) ≤ 150 := by omega
    have tn5 : (n5 : Int) ≤ 150 := by omega
    have tn6 : ¬ (n6 : Int) ≤ 20 := by omega
    have un6 : (20 : Int) < (n6 : Int) := by omega
    clear hn4 hn5 hn6 hb0 hb1 hb2 hb3
    go_enter Try.func5, Try.ntmps5
    go_wp2_with fail
    go_ret
    exact ⟨by rw [HR.out]; rfl, HB.out⟩
  by_cases hn7 : n7 ≤ 150
  rotate_left
  · have HR : Hid (smallB n0 n1 n2 n3 n4 n5 n6 n7 n8 = false) := Lib.hid (by simp [smallB, hn4, hn5, hn6, hn7])
    have tn4 : (n4 : Int) ≤ 150 := by omega
    have tn5 : (n5 : Int) ≤ 150 := by omega
    have tn6 : (n6 : Int) ≤ 20 := by omega
    have tn7 : ¬ (n7 : Int) ≤ 150 := by omega
    have un7 : (150 : Int) < (n7 : Int) := by omega
    clear hn4 hn5 hn6 hn7 hb0 hb1 hb2 hb3
    go_enter Try.func5, Try.ntmps5
    go_wp2_with fail
    go_ret
    exact ⟨by rw [HR.out]; rfl, HB.out⟩
  by_cases hn8 : n8 ≤ 150
  rotate_left
  · have HR : Hid (smallB n0 n1 n2 n3 n4 n5 n6 n7 n8 = false) := Lib.hid (by simp [smallB, hn4, hn5, hn6, hn7, hn8])
    have tn4 : (n4 : Int) ≤ 150 := by omega
    have tn5 : (n5 : Int) ≤ 150 := by omega
    have tn6 : (n6 : Int) ≤ 20 := by omega
    have tn7 : (n7 : Int) ≤ 150 := by omega
    have tn8 : ¬ (n8 : Int) ≤ 150 := by omega
    have un8 : (150 : Int) < (n8 : Int) := by omega
    clear hn4 hn5 hn6 hn7 hn8 hb0 hb1 hb2 hb3
    go_enter Try.func5, Try.ntmps5
    go_wp2_with fail
    go_ret
    exact ⟨by rw [HR.out]; rfl, HB.out⟩
  by_cases hS : n1 + n2 + n3 + n0 ≤ 300
  · have HR : Hid (smallB n0 n1 n2 n3 n4 n5 n6 n7 n8 = true) := Lib.hid (by simp [smallB, hS, hn4, hn5, hn6, hn7, hn8])
    have tn4 : (n4 : Int) ≤ 150 := by omega
    have tn5 : (n5 : Int) ≤ 150 := by omega
    have tn6 : (n6 : Int) ≤ 20 := by omega
    have tn7 : (n7 : Int) ≤ 150 := by omega
    have tn8 : (n8 : Int) ≤ 150 := by omega
    have tS : (n1 : Int) + n2 + n3 + n0 ≤ 300 := by omega
    have v0 : (0 : Int) ≤ (n0 : Int) := by omega
    have x0 : (n0 : Int) ≤ 100000000000000 := by omega
    have v1 : (0 : Int) ≤ (n1 : Int) := by omega
    have x1 : (n1 : Int) ≤ 100000000000000 := by omega
    have v2 : (0 : Int) ≤ (n2 : Int) := by omega
    have x2 : (n2 : Int) ≤ 100000000000000 := by omega
    have v3 : (0 : Int) ≤ (n3 : Int) := by omega
    have x3 : (n3 : Int) ≤ 100000000000000 := by omega
    clear hn4 hn5 hn6 hn7 hn8 hS
    go_enter Try.func5, Try.ntmps5
    go_wp2_with fail
    go_ret
    exact ⟨by rw [HR.out]; rfl, HB.out⟩
  · have HR : Hid (smallB n0 n1 n2 n3 n4 n5 n6 n7 n8 = false) := Lib.hid (by simp [smallB, hS, hn4, hn5, hn6, hn7, hn8])
    have tn4 : (n4 : Int) ≤ 150 := by omega
    have tn5 : (n5 : Int) ≤ 150 := by omega
    have tn6 : (n6 : Int) ≤ 20 := by omega
    have tn7 : (n7 : Int) ≤ 150 := by omega
    have tn8 : (n8 : Int) ≤ 150 := by omega
    have tS : ¬ (n1 : Int) + n2 + n3 + n0 ≤ 300 := by omega
    have uS : 300 < (n1 : Int) + n2 + n3 + n0 := by omega
    have v0 : (0 : Int) ≤ (n0 : Int) := by omega
    have x0 : (n0 : Int) ≤ 100000000000000 := by omega
    have v1 : (0 : Int) ≤ (n1 : Int) := by omega
    have x1 : (n1 : Int) ≤ 100000000000000 := by omega
    have v2 : (0 : Int) ≤ (n2 : Int) := by omega
    have x2 : (n2 : Int) ≤ 100000000000000 := by omega
    have v3 : (0 : Int) ≤ (n3 : Int) := by omega
    have x3 : (n3 : Int) ≤ 100000000000000 := by omega
    clear hn4 hn5 hn6 hn7 hn8 hS
    go_enter Try.func5, Try.ntmps5
    go_wp2_with fail
    go_ret
    exact ⟨by rw [HR.out]; rfl, HB.out⟩
end Go.Proofs.Ythfdmpcnebjkjaa
