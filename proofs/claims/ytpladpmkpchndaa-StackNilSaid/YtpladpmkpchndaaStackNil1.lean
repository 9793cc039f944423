/-
  The flat stack: one that there is not: Grow, Pop, Row, Top.
-/
import Derived.Test.YtpladpmkpchndaaStackNil0
namespace Go.Proofs.Ytpladpmkpchndaa
open Go.RowKit
set_option linter.unusedSimpArgs false
set_option linter.unusedVariables false
attribute [local go_sem] run_store_cplx

theorem grow_nil (w : World) : Calls Try.prog 21 #[.pointer none, .slice none 0 0] w fun e w' => e = .returned (.int .i64 0) ∧ w = w' := by
  go_enter Try.func21, Try.ntmps21
  go_wp2
  go_ret
  exact ⟨rfl, rfl⟩
theorem row_nil (a b : Int) (ha : 0 ≤ a) (w : World) : Calls Try.prog 23 #[.pointer none, .int .i64 a, .int .i64 b] w fun e w' => e = .returned (.slice none 0 0) ∧ w = w' := by
  have c1 : ∀ w : World, Hid (Calls Try.prog 17 #[.pointer none] w fun e w' => e = .returned (.int .i64 0) ∧ w = w') := fun w => len_nil w
  have hm : max a 0 = a := by omega
  have hm' : ¬ a < 0 := by omega
  rcases (show b < 0 ∨ 0 ≤ b by omega) with hb | hb
  · have hb' : min b 0 = b := by omega
    have hge : b ≤ a := by omega
    go_enter Try.func23, Try.ntmps23
    go_wp2_with fail
    refine Calls.mono (c1 _).out ?_
    rintro e w' ⟨rfl, rfl⟩
    go_wp2_with fail
    go_ret
    exact ⟨rfl, rfl⟩
  · have hb' : min b 0 = 0 := by omega
    have hnb : ¬ b < 0 := by omega
    go_enter Try.func23, Try.ntmps23
    go_wp2_with fail
    refine Calls.mono (c1 _).out ?_
    rintro e w' ⟨rfl, rfl⟩
    have hcs : b = 0 ∨ 0 < b := by omega
    rcases hcs with rfl | hpos
    all_goals go_wp2_with fail
    all_goals (go_ret; exact ⟨rfl, rfl⟩)
theorem new_cells {w w1 : World} {cs : Array Value} {t : TypeId} (hb : Below (w.alloc (.cells cs t)).heap.size (w.alloc (.cells cs t)) w1) (i : Nat) (v : Value) (hv : cs[i]? = some v) : w1.cell? ⟨w.heap.size, i, none⟩ = some v ∧ w1.frozen? ⟨w.heap.size, i, none⟩ = false := by
  refine ⟨?_, ?_⟩
  · rw [hb.cell (by simp), cell_of_row _ w.heap.size i cs t (0, 0) (heap_alloc_new w _)]
    exact hv
  · rw [hb.frozen (by simp)]
    simp
theorem pop_nil (w : World) : Calls Try.prog 18 #[.pointer none] w fun e w' => e = .returned zV ∧ Below w.heap.size w w' := by
  have c1 : ∀ w : World, Hid (Calls Try.prog 17 #[.pointer none] w fun e w' => e = .returned (.int .i64 0) ∧ w = w') := fun w => len_nil w
  have c2 : ∀ w : World, Hid (Calls Try.prog 19 #[.pointer none, .int .i64 (-1)] w fun e w' => e = .returned zV ∧ Below w.heap.size w w') := fun w => get_nil (-1) w
  have c3 : ∀ w : World, Hid (Calls Try.prog 16 #[.pointer none, .int .i64 (-1)] w fun e w' => (∃ v, e = .returned v) ∧ w = w') := fun w => cut_nil (-1) w
  go_enter Try.func18, Try.ntmps18
  go_wp2_with fail
  refine Calls.mono (c1 _).out ?_
  rintro e w' ⟨rfl, rfl⟩
  go_wp2_with fail
  refine Calls.mono (c2 _).out ?_
  rintro e w2 ⟨rfl, hb⟩
  obtain ⟨q0, f0⟩ := new_cells hb 0 (.int .i64 0) rfl
  obtain ⟨q1, f1⟩ := new_cells hb 1 (.int .i64 0) rfl
  obtain ⟨q2, f2⟩ := new_cells hb 2 (.complex .f64 0 0) rfl
  have hlt : w.heap.size < w2.heap.size := by have := hb.size; simp at this; omega
  have hbw : Below w.heap.size w w2 := ((Below.refl _ _).alloc (Nat.le_refl _) _).trans (hb.mono (by simp))
  have hne : ¬ w2.heap.size = w.heap.size := by omega
  have hne' : ¬ w.heap.size = w2.heap.size := by omega
  clear hb
  go_wp2_with fail
  refine Calls.mono (c1 _).out ?_
  rintro e w9 ⟨rfl, rfl⟩
  go_wp2_with fail
  refine Calls.mono (c3 _).out ?_
  rintro e w3 ⟨⟨v, rfl⟩, rfl⟩
  go_wp2_with fail
  have e0 : ((((w2.setCell ⟨w.heap.size, 0, none⟩ (.int .i64 0)).setCell ⟨w.heap.size, 1, none⟩ (.int .i64 0)).setCell ⟨w.heap.size, 2, none⟩ (.complex .f64 0 0)).alloc (.cells #[.int .i64 0, .int .i64 0, .complex .f64 0 0] 27)).cell? ⟨w.heap.size, 0, none⟩ = some (.int .i64 0) := by
    rw [World.cell?_alloc_lt _ _ _ (by simpa using hlt)]
    simp [q0, q1, q2, go_sem]
  have e1 : ((((w2.setCell ⟨w.heap.size, 0, none⟩ (.int .i64 0)).setCell ⟨w.heap.size, 1, none⟩ (.int .i64 0)).setCell ⟨w.heap.size, 2, none⟩ (.complex .f64 0 0)).alloc (.cells #[.int .i64 0, .int .i64 0, .complex .f64 0 0] 27)).cell? ⟨w.heap.size, 1, none⟩ = some (.int .i64 0) := by
    rw [World.cell?_alloc_lt _ _ _ (by simpa using hlt)]
    simp [q0, q1, q2, go_sem]
  have e2 : ((((w2.setCell ⟨w.heap.size, 0, none⟩ (.int .i64 0)).setCell ⟨w.heap.size, 1, none⟩ (.int .i64 0)).setCell ⟨w.heap.size, 2, none⟩ (.complex .f64 0 0)).alloc (.cells #[.int .i64 0, .int .i64 0, .complex .f64 0 0] 27)).cell? ⟨w.heap.size, 2, none⟩ = some (.complex .f64 0 0) := by
    rw [World.cell?_alloc_lt _ _ _ (by simpa using hlt)]
    simp [q0, q1, q2, go_sem]
  exact bodyPost_ret (v := zV) (by simp [results, Try.results18, go_sem, e0, e1, e2]) rfl ⟨rfl, by repeat (first | exact hbw | (refine Below.setCell ?_ (by simp) _) | (refine Below.alloc ?_ (by simp; omega) _))⟩
theorem top_nil (n : Int) (w : World) : Calls Try.prog 22 #[.pointer none, .int .i64 n] w fun e w' => e = .returned (.slice none 0 0) ∧ w = w' := by
  have c1 : ∀ w : World, Hid (Calls Try.prog 17 #[.pointer none] w fun e w' => e = .returned (.int .i64 0) ∧ w = w') := fun w => len_nil w
  have c2 : ∀ w : World, Hid (Calls Try.prog 23 #[.pointer none, .int .i64 0, .int .i64 0] w fun e w' => e = .returned (.slice none 0 0) ∧ w = w') := fun w => row_nil 0 0 (by omega) w
  rcases (show n < 0 ∨ n = 0 ∨ 0 < n by omega) with hn | rfl | hn
  all_goals (go_enter Try.func22, Try.ntmps22)
  all_goals (go_wp2_with fail)
  all_goals (refine Calls.mono (c1 _).out ?_; rintro e w' ⟨rfl, rfl⟩)
  all_goals (go_wp2_with fail)
  all_goals (refine Calls.mono (c1 _).out ?_; rintro e w' ⟨rfl, rfl⟩)
  all_goals (go_wp2_with fail)
  all_goals (refine Calls.mono (c1 _).out ?_; rintro e w' ⟨rfl, rfl⟩)
  all_goals (go_wp2_with fail)
  all_goals (refine Calls.mono (c2 _).out ?_; rintro e w' ⟨rfl, rfl⟩)
  all_goals (go_wp2_with fail)
  all_goals (go_ret; exact ⟨rfl, rfl⟩)
end Go.Proofs.Ytpladpmkpchndaa
