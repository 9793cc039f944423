/-
  The flat stack: Cut, Get, a zero of a type.
-/
import Derived.Test.YtpladpmkpchndaaStackNil5
namespace Go.Proofs.Ytpladpmkpchndaa
open Go.RowKit
set_option linter.unusedSimpArgs false
set_option linter.unusedVariables false
attribute [local go_sem] run_store_cplx

set_option maxRecDepth 100000 in
theorem cut_box (g r c : Nat) (w : World) (h : w.cell? ⟨g, 0, none⟩ = some (.slice (some ⟨r, 0, none⟩) 2 c)) (hf : w.frozen? ⟨g, 0, none⟩ = false) (hc : 2 ≤ c) (hm : c ≤ maxLen) :
    Calls Try.prog 16 #[.pointer (some ⟨g, 0, none⟩), .int .i64 1] w fun e w' => (∃ v, e = .returned v) ∧ w' = w.setCell ⟨g, 0, none⟩ (.slice (some ⟨r, 0, none⟩) 1 1) := by
  unfold maxLen at hm
  have c1 : Hid (Calls Try.prog 17 #[.pointer (some ⟨g, 0, none⟩)] w fun e w' => e = .returned (.int .i64 ((2 : Nat) : Int)) ∧ w = w') := len_box g _ 2 c w h (by omega)
  have hc1 : (1 : Int) ≤ (c : Int) := by omega
  have hcne : ¬ c = 0 := by omega
  go_enter Try.func16, Try.ntmps16
  go_wp2_with fail
  refine Calls.mono c1.out ?_
  rintro e w' ⟨rfl, rfl⟩
  go_wp2_with fail
  go_end0
  exact ⟨⟨_, rfl⟩, rfl⟩
set_option maxRecDepth 100000 in
theorem get_0 (g r c : Nat) (kd nn : Int) (x y : Nat) (w : World) (h : w.cell? ⟨g, 0, none⟩ = some (.slice (some ⟨r, 0, none⟩) 1 c)) (h0 : w.cell? ⟨r, 0, none⟩ = some (.int .i64 kd)) (h1 : w.cell? ⟨r, 1, none⟩ = some (.int .i64 nn)) (h2 : w.cell? ⟨r, 2, none⟩ = some (.complex .f64 x y)) :
    Calls Try.prog 19 #[.pointer (some ⟨g, 0, none⟩), .int .i64 0] w fun e w' => e = .returned (.agg #[.int .i64 kd, .int .i64 nn, .complex .f64 x y]) ∧ Below w.heap.size w w' := by
  have c1 : ∀ w' : World, Below w.heap.size w w' → Hid (Calls Try.prog 70 #[.pointer (some ⟨g, 0, none⟩), .int .i64 0] w' fun e w'' => e = .returned (.bool true) ∧ w' = w'') := fun w' hw => by
    have := has_box g _ 1 c 0 w' ((hw.cell (World.block_lt_of_cell? _ _ h)).trans h) (by omega)
    rw [decide_eq_true (by omega)] at this
    exact this
  have p := (World.cell?_alloc_lt w (.cells #[.int .i64 0, .int .i64 0, .complex .f64 0 0] 27) ⟨g, 0, none⟩ (World.block_lt_of_cell? _ _ h)).trans h
  have p0 := (World.cell?_alloc_lt w (.cells #[.int .i64 0, .int .i64 0, .complex .f64 0 0] 27) ⟨r, 0, none⟩ (World.block_lt_of_cell? _ _ h0)).trans h0
  have p1 := (World.cell?_alloc_lt w (.cells #[.int .i64 0, .int .i64 0, .complex .f64 0 0] 27) ⟨r, 1, none⟩ (World.block_lt_of_cell? _ _ h1)).trans h1
  have p2 := (World.cell?_alloc_lt w (.cells #[.int .i64 0, .int .i64 0, .complex .f64 0 0] 27) ⟨r, 2, none⟩ (World.block_lt_of_cell? _ _ h2)).trans h2
  clear h h0 h1 h2
  go_enter Try.func19, Try.ntmps19
  go_wp2_with fail
  refine Calls.mono (c1 _ ((Below.refl _ _).alloc (Nat.le_refl _) _)).out ?_
  rintro e w' ⟨rfl, rfl⟩
  go_wp2_with fail
  exact bodyPost_ret (v := .agg #[.int .i64 kd, .int .i64 nn, .complex .f64 x y]) (by simp [results, Try.results19, go_sem]) rfl ⟨rfl, by repeat (first | exact Below.refl _ _ | (refine Below.setCell ?_ (by simp) _) | (refine Below.alloc ?_ (by simp) _))⟩
set_option maxRecDepth 100000 in
theorem get_1 (g r c : Nat) (kd nn : Int) (x y : Nat) (w : World) (h : w.cell? ⟨g, 0, none⟩ = some (.slice (some ⟨r, 0, none⟩) 2 c)) (h0 : w.cell? ⟨r, 3, none⟩ = some (.int .i64 kd)) (h1 : w.cell? ⟨r, 4, none⟩ = some (.int .i64 nn)) (h2 : w.cell? ⟨r, 5, none⟩ = some (.complex .f64 x y)) :
    Calls Try.prog 19 #[.pointer (some ⟨g, 0, none⟩), .int .i64 1] w fun e w' => e = .returned (.agg #[.int .i64 kd, .int .i64 nn, .complex .f64 x y]) ∧ Below w.heap.size w w' := by
  have c1 : ∀ w' : World, Below w.heap.size w w' → Hid (Calls Try.prog 70 #[.pointer (some ⟨g, 0, none⟩), .int .i64 1] w' fun e w'' => e = .returned (.bool true) ∧ w' = w'') := fun w' hw => by
    have := has_box g _ 2 c 1 w' ((hw.cell (World.block_lt_of_cell? _ _ h)).trans h) (by omega)
    rw [decide_eq_true (by omega)] at this
    exact this
  have p := (World.cell?_alloc_lt w (.cells #[.int .i64 0, .int .i64 0, .complex .f64 0 0] 27) ⟨g, 0, none⟩ (World.block_lt_of_cell? _ _ h)).trans h
  have p0 := (World.cell?_alloc_lt w (.cells #[.int .i64 0, .int .i64 0, .complex .f64 0 0] 27) ⟨r, 3, none⟩ (World.block_lt_of_cell? _ _ h0)).trans h0
  have p1 := (World.cell?_alloc_lt w (.cells #[.int .i64 0, .int .i64 0, .complex .f64 0 0] 27) ⟨r, 4, none⟩ (World.block_lt_of_cell? _ _ h1)).trans h1
  have p2 := (World.cell?_alloc_lt w (.cells #[.int .i64 0, .int .i64 0, .complex .f64 0 0] 27) ⟨r, 5, none⟩ (World.block_lt_of_cell? _ _ h2)).trans h2
  clear h h0 h1 h2
  go_enter Try.func19, Try.ntmps19
  go_wp2_with fail
  refine Calls.mono (c1 _ ((Below.refl _ _).alloc (Nat.le_refl _) _)).out ?_
  rintro e w' ⟨rfl, rfl⟩
  go_wp2_with fail
  exact bodyPost_ret (v := .agg #[.int .i64 kd, .int .i64 nn, .complex .f64 x y]) (by simp [results, Try.results19, go_sem]) rfl ⟨rfl, by repeat (first | exact Below.refl _ _ | (refine Below.setCell ?_ (by simp) _) | (refine Below.alloc ?_ (by simp) _))⟩
abbrev cxZ : Value := .agg #[.int .i64 2, .int .i64 0, .complex .f64 0 0]
set_option maxRecDepth 100000 in
theorem of_cx (w : World) : Calls Try.prog 111 #[cxZ] w fun e w' => e = .returned (.iface 164 (.complex .f64 0 0)) ∧ Below w.heap.size w w' := by
  go_enter Try.func111, Try.ntmps111
  go_wp2_with fail
  go_ret
  exact ⟨rfl, (Below.refl _ _).alloc (Nat.le_refl _) _⟩
set_option maxRecDepth 100000 in
theorem point_cx (w : World) : Calls Try.prog 134 #[.complex .f64 0 0] w fun e w' => e = .returned cxZ ∧ Below w.heap.size w w' := by
  go_enter Try.func134, Try.ntmps134
  go_wp2_with fail
  exact bodyPost_ret (v := cxZ) (by simp [results, Try.results134, go_sem]) rfl ⟨rfl, by repeat (first | exact Below.refl _ _ | (refine Below.setCell ?_ (by simp) _) | (refine Below.alloc ?_ (by simp) _))⟩
set_option maxRecDepth 100000 in
theorem zero_cx (w : World) : Calls Try.prog 101 #[.int .i64 2] w fun e w' => e = .returned cxZ ∧ Below w.heap.size w w' := by
  have hm : ∀ w, (method 283 164 (.complex .f64 0 0) "inlay/cell.value").run Try.prog w = .ok (134, .complex .f64 0 0) w := fun _ => by kernel_rfl
  go_enter Try.func101, Try.ntmps101
  go_wp2_with fail
  refine (of_cx _).mono ?_
  rintro e w1 ⟨rfl, hb⟩
  have HB := Lib.hid hb
  clear hb
  go_wp2_with fail
  refine (point_cx _).mono ?_
  rintro e w2 ⟨rfl, hb2⟩
  have hb := bl_trans HB.out HB.out.size hb2
  obtain ⟨q0, f0⟩ := new_cells hb 0 (.int .i64 0) rfl
  obtain ⟨q1, f1⟩ := new_cells hb 1 (.int .i64 0) rfl
  obtain ⟨q2, f2⟩ := new_cells hb 2 (.complex .f64 0 0) rfl
  have hbw : Below w.heap.size w w2 := ((Below.refl _ _).alloc (Nat.le_refl _) _).trans (hb.mono (by simp))
  clear hb hb2 HB
  go_wp2_with fail
  exact bodyPost_ret (v := cxZ) (by simp [results, Try.results101, go_sem, q0, q1, q2]) rfl ⟨rfl, by repeat (first | exact hbw | (refine Below.setCell ?_ (by simp) _))⟩

def IsRow1 (w : World) (e : Ending) (w' : World) : Prop := ∃ r c, e = .returned (.slice (some ⟨r, 0, none⟩) 1 c) ∧ w'.ownsRow w.heap.size 27 3 (.slice (some ⟨r, 0, none⟩) 1 c) 1 [.int .i64 2, .int .i64 0, .complex .f64 0 0] ∧ Below w.heap.size w w'
theorem row1_fin {w w1 w3 : World} {v' : Value} (hb : Below w.heap.size w w1) (hown : w3.ownsRow w.heap.size 27 3 v' (0 + 1) ([] ++ [.int .i64 2, .int .i64 0, .complex .f64 0 0])) (hgrow : (w1.alloc (.cells #[.int .i64 2, .int .i64 0, .complex .f64 0 0] 27)).grownBy w3 (Value.slice none 0 0).ownBlock) :
    ∃ r c, v' = .slice (some ⟨r, 0, none⟩) 1 c ∧ w3.ownsRow w.heap.size 27 3 (.slice (some ⟨r, 0, none⟩) 1 c) 1 [.int .i64 2, .int .i64 0, .complex .f64 0 0] ∧ Below w.heap.size w w3 := by
  obtain ⟨A', c', hv, hA0, hA1⟩ := own_form hown
  subst hv
  obtain ⟨ad, rfl⟩ : ∃ ad, A' = some ad := by
    cases A' with
    | none => exact absurd (hA0 rfl) (by omega)
    | some ad => exact ⟨ad, rfl⟩
  obtain ⟨r, rfl, _, _⟩ := hA1 ad rfl
  exact ⟨r, c', rfl, hown, Below.grown (hb.alloc hb.size _) hgrow (by have := hb.size; simp; omega) (fun j hj => by cases hj)⟩
set_option maxRecDepth 100000 in
set_option maxHeartbeats 1000000 in
theorem row_cx (g : Nat) (w : World) (h : w.cell? ⟨g, 0, none⟩ = some (.int .i64 2)) : Calls Try.prog 71 #[.slice (some ⟨g, 0, none⟩) 1 1] w (IsRow1 w) := by
  obtain ⟨i0, hi, hz0, hz1, hz2⟩ := info_parts info_val
  go_enter Try.func71, Try.ntmps71
  go_wp2_with fail
  refine wp_loop_rounds 2 ?_
  rw [rounds_succ]
  go_wp2_with fail
  refine (zero_cx _).mono ?_
  rintro e w1 ⟨rfl, hb⟩
  have HB := Lib.hid hb
  clear hb
  have hown : Hid ((w1.alloc (.cells #[.int .i64 2, .int .i64 0, .complex .f64 0 0] 27)).ownsRow w.heap.size 27 3 (.slice none 0 0) 0 []) := Lib.hid (World.ownsRow_nil _ _ _ _)
  have hsrc : Hid (SrcCells (w1.alloc (.cells #[.int .i64 2, .int .i64 0, .complex .f64 0 0] 27)) (some ⟨w1.heap.size, 0, none⟩) 1 3 [.int .i64 2, .int .i64 0, .complex .f64 0 0]) :=
    Lib.hid (own_src (World.ownsRow_lit (base := w1.heap.size) (e := 27) (size := 3) w1 #[.int .i64 2, .int .i64 0, .complex .f64 0 0] 1 (Nat.le_refl _) (by unfold maxLen; omega) rfl))
  have hone : Hid (∀ u ∈ [Value.int .i64 2, .int .i64 0, .complex .f64 0 0], u.oneCell' = true) := Lib.hid (by
    intro u hu
    simp at hu
    rcases hu with rfl | rfl | rfl <;> rfl)
  have hzb : w.heap.size ≤ (w1.alloc (.cells #[.int .i64 2, .int .i64 0, .complex .f64 0 0] 27)).heap.size := by have := HB.out.size; simp; omega
  go_wp2_with (first
    | (at_builtin; go_must (refine wpList_append_src _ rfl _ _ 29 rfl w.heap.size 27 i0 (.agg #[.int .i64 0, .int .i64 0, .complex .f64 0 0]) 3 32 Try.underlying29 hi hz0 hz1 hz2 rfl (by decide) _ _ _ rfl hown.out (some ⟨w1.heap.size, 0, none⟩) 1 1 [.int .i64 2, .int .i64 0, .complex .f64 0 0] rfl hsrc.out hone.out (by unfold maxLen; omega) (by omega) hzb ?_)
       intro v' w3 hown' hgrow3 hat3
       obtain ⟨r, cc, rfl, o3, b3⟩ := row1_fin HB.out hown' hgrow3
       have O3 := Lib.hid o3
       have B3 := Lib.hid b3
       clear hown' hgrow3 hat3 o3 b3))
  rw [rounds_succ]
  go_wp2_with fail
  go_ret
  exact ⟨r, cc, rfl, O3.out, B3.out⟩
end Go.Proofs.Ytpladpmkpchndaa
