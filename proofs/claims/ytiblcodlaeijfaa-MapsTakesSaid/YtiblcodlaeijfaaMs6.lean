/-
  Tables of sets: a set, and how often it stands there: whether another one is the same.
-/
import Derived.Test.YtiblcodlaeijfaaMs5
namespace Go.Proofs.Ytiblcodlaeijfaa
open Go.RowKit
set_option linter.unusedSimpArgs false
set_option linter.unusedVariables false
abbrev cntW (s : W4) (m : Int) : Value := .agg #[.int .u64 (s.a0 : Int), .int .u64 (s.a1 : Int), .int .u64 (s.a2 : Int), .int .u64 (s.a3 : Int), .int .i64 m]
def eqW (s t : W4) : Bool := ((s.a0 : Int) == (t.a0 : Int)) && (((s.a1 : Int) == (t.a1 : Int)) && (((s.a2 : Int) == (t.a2 : Int)) && ((s.a3 : Int) == (t.a3 : Int))))
theorem eqW_iff (s t : W4) : eqW s t = true ↔ s = t := by
  unfold eqW
  constructor
  · intro h
    simp at h
    exact W4.ext4 (by omega) (by omega) (by omega) (by omega)
  · intro h
    subst h
    simp
set_option maxRecDepth 100000 in
set_option maxHeartbeats 1000000 in
theorem like_any (t : W4) (m : Int) (s : W4) (w : World) : Calls Try.prog 28 #[cntW t m, aggW s] w fun e w' => e = .returned (.bool (decide (0 < m) && eqW t s)) ∧ Below w.heap.size w w' := by
  have heq : ∀ W, (Op.equalIn 10000 41 (aggW t) (aggW s)).run Try.prog W = .ok (eqW t s) W := fun W => eq_arr 9998 t.a0 t.a1 t.a2 t.a3 s.a0 s.a1 s.a2 s.a3 W
  have hguard := eq_guard
  generalize eqW t s = v at *
  have hbb : Below w.heap.size w ((w.alloc (.cells #[.int .u64 (t.a0 : Int), .int .u64 (t.a1 : Int), .int .u64 (t.a2 : Int), .int .u64 (t.a3 : Int), .int .i64 m] 55)).alloc (.cells #[.int .u64 (s.a0 : Int), .int .u64 (s.a1 : Int), .int .u64 (s.a2 : Int), .int .u64 (s.a3 : Int)] 41)) := (bl_one _).alloc (by simp) _
  have HB := Lib.hid hbb
  clear hbb
  by_cases hm : 0 < m
  · go_enter Try.func28, Try.ntmps28
    go_wp2_with fail
    go_ret
    exact ⟨by simp [hm], HB.out⟩
  · have hD := Lib.hid (decide_eq_false hm)
    go_enter Try.func28, Try.ntmps28
    go_wp2_with fail
    go_ret
    exact ⟨by rw [hD.out]; rfl, HB.out⟩
end Go.Proofs.Ytiblcodlaeijfaa
