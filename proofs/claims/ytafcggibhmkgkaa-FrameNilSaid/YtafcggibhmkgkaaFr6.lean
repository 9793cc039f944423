/-
  A frame: how high its stack is, a slot, the line, the value on top.
-/
import Derived.Test.YtafcggibhmkgkaaFr5
namespace Go.Proofs.Ytafcggibhmkgkaa
open Go.RowKit
set_option linter.unusedSimpArgs false
set_option linter.unusedVariables false
attribute [local go_sem] run_store_cplx
abbrev fpV (g : Nat) : Value := .pointer (some ⟨g, 0, none⟩)
set_option maxRecDepth 100000 in
theorem f_high (g c : Nat) (A : Option Addr) (w : World) (h : w.cell? ⟨g, 14, none⟩ = some (.slice A 1 c)) : Calls Try.prog 14 #[fpV g] w fun e w' => e = .returned (.int .i64 1) ∧ w = w' := by
  go_enter Try.func14, Try.ntmps14
  go_wp2_with fail
  go_ret
  exact ⟨rfl, rfl⟩
set_option maxRecDepth 100000 in
theorem f_has (g c : Nat) (A : Option Addr) (w : World) (h : w.cell? ⟨g, 13, none⟩ = some (.slice A 1 c)) : Calls Try.prog 27 #[fpV g, .int .i64 0] w fun e w' => e = .returned (.bool true) ∧ w = w' := by
  go_enter Try.func27, Try.ntmps27
  go_wp2_with fail
  go_ret
  exact ⟨rfl, rfl⟩
set_option maxRecDepth 100000 in
theorem f_slot (g r c : Nat) (k n : Int) (x y : Nat) (w : World) (h : w.cell? ⟨g, 13, none⟩ = some (.slice (some ⟨r, 0, none⟩) 1 c)) (h0 : w.cell? ⟨r, 0, none⟩ = some (.int .i64 k)) (h1 : w.cell? ⟨r, 1, none⟩ = some (.int .i64 n)) (h2 : w.cell? ⟨r, 2, none⟩ = some (.complex .f64 x y)) : Calls Try.prog 15 #[fpV g, .int .i64 0] w fun e w' => e = .returned (vV k n x y) ∧ Below w.heap.size w w' := by
  have p := (World.cell?_alloc_lt w (.cells #[.int .i64 0, .int .i64 0, .complex .f64 0 0] 27) ⟨g, 13, none⟩ (World.block_lt_of_cell? _ _ h)).trans h
  have p0 := (World.cell?_alloc_lt w (.cells #[.int .i64 0, .int .i64 0, .complex .f64 0 0] 27) ⟨r, 0, none⟩ (World.block_lt_of_cell? _ _ h0)).trans h0
  have p1 := (World.cell?_alloc_lt w (.cells #[.int .i64 0, .int .i64 0, .complex .f64 0 0] 27) ⟨r, 1, none⟩ (World.block_lt_of_cell? _ _ h1)).trans h1
  have p2 := (World.cell?_alloc_lt w (.cells #[.int .i64 0, .int .i64 0, .complex .f64 0 0] 27) ⟨r, 2, none⟩ (World.block_lt_of_cell? _ _ h2)).trans h2
  have ch := Lib.hid (f_has g c _ _ p)
  clear h h0 h1 h2
  go_enter Try.func15, Try.ntmps15
  go_wp2_with fail
  refine ch.out.mono ?_
  rintro e w' ⟨rfl, rfl⟩
  go_wp2_with fail
  exact bodyPost_ret (v := vV k n x y) (by simp [results, Try.results15, go_sem]) rfl ⟨rfl, by repeat (first | exact Below.refl _ _ | (refine Below.setCell ?_ (by simp) _) | (refine Below.alloc ?_ (by simp) _))⟩
set_option maxRecDepth 100000 in
theorem at_line (l : Nat) (w : World) (h : w.cell? ⟨l, 0, none⟩ = some (.int .i64 1)) : Calls Try.prog 35 #[.slice (some ⟨l, 0, none⟩) 1 1, .int .i64 0] w fun e w' => e = .returned (.int .i64 1) ∧ w = w' := by
  go_enter Try.func35, Try.ntmps35
  go_wp2_with fail
  go_ret
  exact ⟨rfl, rfl⟩
set_option maxRecDepth 100000 in
set_option maxHeartbeats 1000000 in
theorem f_line (g l : Nat) (w : World) (h : w.cell? ⟨g, 7, none⟩ = some (.slice (some ⟨l, 0, none⟩) 1 1)) (h1 : w.cell? ⟨g, 12, none⟩ = some (.int .i64 0)) (hl : w.cell? ⟨l, 0, none⟩ = some (.int .i64 1)) : Calls Try.prog 22 #[fpV g] w fun e w' => e = .returned (.int .i64 1) ∧ ∃ q, w' = w.drewN q := by
  have cl : Hid (∀ q, Calls Try.prog 35 #[.slice (some ⟨l, 0, none⟩) 1 1, .int .i64 0] (w.drewN q) fun e w' => e = .returned (.int .i64 1) ∧ w.drewN q = w') := Lib.hid fun q => at_line l _ hl
  have cl1 : Hid (Calls Try.prog 35 #[.slice (some ⟨l, 0, none⟩) 1 1, .int .i64 0] w.drew fun e w' => e = .returned (.int .i64 1) ∧ w.drew = w') := Lib.hid (at_line l _ hl)
  go_enter Try.func22, Try.ntmps22
  go_wp2_with fail
  go_region_with (first | (go_at_call 35; refine cl1.out.mono ?_; rintro e w9 ⟨rfl, rfl⟩))
  all_goals
    go_wp2_with fail
    go_ret
    exact ⟨rfl, 1, rfl⟩
set_option maxRecDepth 100000 in
set_option maxHeartbeats 1000000 in
theorem pile_take1 (g s c : Nat) (w : World) (h : w.cell? ⟨g, 14, none⟩ = some (.slice (some ⟨s, 0, none⟩) 1 c)) (hf : w.frozen? ⟨g, 14, none⟩ = false) (hc : 1 ≤ c) (hm : c ≤ 9223372036854775807) : Calls Try.prog 33 #[.pointer (some ⟨g, 14, none⟩), .int .i64 1] w fun e w' => e = .returned (.slice (some ⟨s, 0, none⟩) 1 c) ∧ ∃ q v, w' = (w.drewN q).setCell ⟨g, 14, none⟩ v := by
  have h1 : w.drew.cell? ⟨g, 14, none⟩ = some (.slice (some ⟨s, 0, none⟩) 1 c) := h
  have hf1 : w.drew.frozen? ⟨g, 14, none⟩ = false := hf
  have hc1 : (1 : Int) ≤ (c : Int) := by omega
  have hcne : ¬ c = 0 := by omega
  go_enter Try.func33, Try.ntmps33
  go_wp2_with fail
  go_region
  all_goals go_wp2_with fail
  all_goals go_ret
  all_goals exact ⟨rfl, 1, _, rfl⟩
end Go.Proofs.Ytafcggibhmkgkaa
