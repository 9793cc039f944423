/-
  Sets of slots: those of a row of one, and of a range, at the numbers of the chapter's example.
-/
import Derived.Test.YtgjmmbhakjalgaaDoorMp3m
namespace Go.Proofs.YtgjmmbhakjalgaaDoor
open Go.RowKit
set_option linter.unusedSimpArgs false
set_option linter.unusedVariables false

/-- Two variables of the call's own: the result (nothing) and the set so far. -/
structure Two (w W : World) (s : Int) : Prop where
  r0 : W.cell? ⟨w.heap.size, 0, none⟩ = some (.int .u64 0)
  r1 : W.cell? ⟨w.heap.size, 1, none⟩ = some (.int .u64 0)
  r2 : W.cell? ⟨w.heap.size, 2, none⟩ = some (.int .u64 0)
  r3 : W.cell? ⟨w.heap.size, 3, none⟩ = some (.int .u64 0)
  fr : ∀ j, W.frozen? ⟨w.heap.size, j, none⟩ = false
  s0 : W.cell? ⟨w.heap.size + 1, 0, none⟩ = some (.int .u64 s)
  s1 : W.cell? ⟨w.heap.size + 1, 1, none⟩ = some (.int .u64 0)
  s2 : W.cell? ⟨w.heap.size + 1, 2, none⟩ = some (.int .u64 0)
  s3 : W.cell? ⟨w.heap.size + 1, 3, none⟩ = some (.int .u64 0)
  fs : ∀ j, W.frozen? ⟨w.heap.size + 1, j, none⟩ = false
  bw : Below w.heap.size w W
  sz : w.heap.size + 1 < W.heap.size
theorem Two.start (w : World) : Two w ((w.alloc (.cells #[.int .u64 0, .int .u64 0, .int .u64 0, .int .u64 0] 27)).alloc (.cells #[.int .u64 0, .int .u64 0, .int .u64 0, .int .u64 0] 27)) 0 := by
  constructor
  case bw => exact ((Below.refl _ _).alloc (Nat.le_refl _) _).alloc (by simp) _
  all_goals simp [go_sem]
theorem Two.call {w W W' : World} {s : Int} (h : Two w W s) (hb : Below W.heap.size W W') : Two w W' s := by
  have hl0 : w.heap.size < W.heap.size := by have := h.sz; omega
  have hl1 := h.sz
  constructor
  case bw => exact h.bw.trans (hb.mono h.bw.size)
  case sz => exact Nat.lt_of_lt_of_le h.sz hb.size
  case fr => intro j; rw [hb.frozen (p := ⟨w.heap.size, j, none⟩) hl0]; exact h.fr j
  case fs => intro j; rw [hb.frozen (p := ⟨w.heap.size + 1, j, none⟩) hl1]; exact h.fs j
  case r0 => exact (hb.cell (p := ⟨w.heap.size, 0, none⟩) hl0).trans h.r0
  case r1 => exact (hb.cell (p := ⟨w.heap.size, 1, none⟩) hl0).trans h.r1
  case r2 => exact (hb.cell (p := ⟨w.heap.size, 2, none⟩) hl0).trans h.r2
  case r3 => exact (hb.cell (p := ⟨w.heap.size, 3, none⟩) hl0).trans h.r3
  case s0 => exact (hb.cell (p := ⟨w.heap.size + 1, 0, none⟩) hl1).trans h.s0
  case s1 => exact (hb.cell (p := ⟨w.heap.size + 1, 1, none⟩) hl1).trans h.s1
  case s2 => exact (hb.cell (p := ⟨w.heap.size + 1, 2, none⟩) hl1).trans h.s2
  case s3 => exact (hb.cell (p := ⟨w.heap.size + 1, 3, none⟩) hl1).trans h.s3
theorem Two.put {w W : World} {s : Int} (h : Two w W s) (t : Int) : Two w ((((W.setCell ⟨w.heap.size + 1, 0, none⟩ (.int .u64 t)).setCell ⟨w.heap.size + 1, 1, none⟩ (.int .u64 0)).setCell ⟨w.heap.size + 1, 2, none⟩ (.int .u64 0)).setCell ⟨w.heap.size + 1, 3, none⟩ (.int .u64 0)) t := by
  have n1 : ¬ w.heap.size + 1 = w.heap.size := by omega
  constructor
  case bw => exact below3m h.bw (by omega) _ _ _ _
  case sz => have := h.sz; simpa using this
  case fr => intro j; simpa [go_sem] using h.fr j
  case fs => intro j; simpa [go_sem] using h.fs j
  all_goals simp [go_sem, h.r0, h.r1, h.r2, h.r3, h.s0, h.s1, h.s2, h.s3, n1]
set_option maxRecDepth 100000 in
set_option maxHeartbeats 1000000 in
theorem of_three (g : Nat) (w : World) (h : w.cell? ⟨g, 0, none⟩ = some (.int .i64 3)) : Calls Tryd.prog 13 #[.slice (some ⟨g, 0, none⟩) 1 1] w (IsAgg 8 0 0 0 w) := by
  go_enter Tryd.func13, Tryd.ntmps13
  go_wp2_with fail
  obtain ⟨W0, hw⟩ : ∃ W, (w.alloc (.cells #[.int .u64 0, .int .u64 0, .int .u64 0, .int .u64 0] 27)).alloc (.cells #[.int .u64 0, .int .u64 0, .int .u64 0, .int .u64 0] 27) = W := ⟨_, rfl⟩
  have T : Hid (Two w W0 0) := Lib.hid (by rw [← hw]; exact Two.start w)
  have hg : W0.cell? ⟨g, 0, none⟩ = some (.int .i64 3) := (T.out.bw.cell (World.block_lt_of_cell? _ _ h)).trans h
  rw [hw]
  clear hw h
  refine wp_loop_rounds 2 ?_
  rw [rounds_succ]
  have r0 := T.out.r0
  have r1 := T.out.r1
  have r2 := T.out.r2
  have r3 := T.out.r3
  have fr := T.out.fr
  have s0 := T.out.s0
  have s1 := T.out.s1
  have s2 := T.out.s2
  have s3 := T.out.s3
  have fs := T.out.fs
  go_wp2_with fail
  refine (with_0_3 _).mono ?_
  rintro e v1 ⟨rfl, hb⟩
  have T' := Lib.hid (T.out.call hb)
  clear hb r0 r1 r2 r3 fr s0 s1 s2 s3 fs T
  have T := T'
  clear T'
  have r0 := T.out.r0
  have r1 := T.out.r1
  have r2 := T.out.r2
  have r3 := T.out.r3
  have fr := T.out.fr
  have s0 := T.out.s0
  have s1 := T.out.s1
  have s2 := T.out.s2
  have s3 := T.out.s3
  have fs := T.out.fs
  go_wp2_with fail
  obtain ⟨W1, hw⟩ : ∃ W, (((World.setCell v1 ⟨w.heap.size + 1, 0, none⟩ (.int .u64 8)).setCell ⟨w.heap.size + 1, 1, none⟩ (.int .u64 0)).setCell ⟨w.heap.size + 1, 2, none⟩ (.int .u64 0)).setCell ⟨w.heap.size + 1, 3, none⟩ (.int .u64 0) = W := ⟨_, rfl⟩
  have T' : Hid (Two w W1 8) := Lib.hid (by rw [← hw]; exact T.out.put 8)
  rw [hw]
  clear hw r0 r1 r2 r3 fr s0 s1 s2 s3 fs T
  have T := T'
  clear T'
  rw [rounds_succ]
  have r0 := T.out.r0
  have r1 := T.out.r1
  have r2 := T.out.r2
  have r3 := T.out.r3
  have fr := T.out.fr
  have s0 := T.out.s0
  have s1 := T.out.s1
  have s2 := T.out.s2
  have s3 := T.out.s3
  have fs := T.out.fs
  have hne : ¬ w.heap.size = w.heap.size + 1 := by omega
  have hne' : ¬ w.heap.size + 1 = w.heap.size := by omega
  go_wp2_with fail
  refine bodyPost_ret (v := aggU 8 0 0 0) (by simp [results, Tryd.results13, go_sem, r0, r1, r2, r3, fr, s0, s1, s2, s3, hne, hne']) rfl ⟨rfl, ?_⟩
  exact below3m T.out.bw (Nat.le_refl _) _ _ _ _
set_option maxRecDepth 100000 in
set_option maxHeartbeats 2000000 in
theorem range_3 (w : World) : Calls Tryd.prog 27 #[.int .i64 0, .int .i64 3] w (IsAgg 7 0 0 0 w) := by
  go_enter Tryd.func27, Tryd.ntmps27
  go_wp2_with fail
  obtain ⟨W0, hw⟩ : ∃ W, (w.alloc (.cells #[.int .u64 0, .int .u64 0, .int .u64 0, .int .u64 0] 27)).alloc (.cells #[.int .u64 0, .int .u64 0, .int .u64 0, .int .u64 0] 27) = W := ⟨_, rfl⟩
  have T : Hid (Two w W0 0) := Lib.hid (by rw [← hw]; exact Two.start w)
  rw [hw]
  clear hw
  refine wp_loop_rounds 4 ?_
  rw [rounds_succ]
  have r0 := T.out.r0
  have r1 := T.out.r1
  have r2 := T.out.r2
  have r3 := T.out.r3
  have fr := T.out.fr
  have s0 := T.out.s0
  have s1 := T.out.s1
  have s2 := T.out.s2
  have s3 := T.out.s3
  have fs := T.out.fs
  go_wp2_with fail
  refine (with_0_0 _).mono ?_
  rintro e v1 ⟨rfl, hb⟩
  have T' := Lib.hid (T.out.call hb)
  clear hb r0 r1 r2 r3 fr s0 s1 s2 s3 fs T
  have T := T'
  clear T'
  have r0 := T.out.r0
  have r1 := T.out.r1
  have r2 := T.out.r2
  have r3 := T.out.r3
  have fr := T.out.fr
  have s0 := T.out.s0
  have s1 := T.out.s1
  have s2 := T.out.s2
  have s3 := T.out.s3
  have fs := T.out.fs
  go_wp2_with fail
  obtain ⟨W1, hw⟩ : ∃ W, (((World.setCell v1 ⟨w.heap.size + 1, 0, none⟩ (.int .u64 1)).setCell ⟨w.heap.size + 1, 1, none⟩ (.int .u64 0)).setCell ⟨w.heap.size + 1, 2, none⟩ (.int .u64 0)).setCell ⟨w.heap.size + 1, 3, none⟩ (.int .u64 0) = W := ⟨_, rfl⟩
  have T' : Hid (Two w W1 1) := Lib.hid (by rw [← hw]; exact T.out.put 1)
  rw [hw]
  clear hw r0 r1 r2 r3 fr s0 s1 s2 s3 fs T
  have T := T'
  clear T'
  rw [rounds_succ]
  have r0 := T.out.r0
  have r1 := T.out.r1
  have r2 := T.out.r2
  have r3 := T.out.r3
  have fr := T.out.fr
  have s0 := T.out.s0
  have s1 := T.out.s1
  have s2 := T.out.s2
  have s3 := T.out.s3
  have fs := T.out.fs
  go_wp2_with fail
  refine (with_1_1 _).mono ?_
  rintro e v2 ⟨rfl, hb⟩
  have T' := Lib.hid (T.out.call hb)
  clear hb r0 r1 r2 r3 fr s0 s1 s2 s3 fs T
  have T := T'
  clear T'
  have r0 := T.out.r0
  have r1 := T.out.r1
  have r2 := T.out.r2
  have r3 := T.out.r3
  have fr := T.out.fr
  have s0 := T.out.s0
  have s1 := T.out.s1
  have s2 := T.out.s2
  have s3 := T.out.s3
  have fs := T.out.fs
  go_wp2_with fail
  obtain ⟨W2, hw⟩ : ∃ W, (((World.setCell v2 ⟨w.heap.size + 1, 0, none⟩ (.int .u64 3)).setCell ⟨w.heap.size + 1, 1, none⟩ (.int .u64 0)).setCell ⟨w.heap.size + 1, 2, none⟩ (.int .u64 0)).setCell ⟨w.heap.size + 1, 3, none⟩ (.int .u64 0) = W := ⟨_, rfl⟩
  have T' : Hid (Two w W2 3) := Lib.hid (by rw [← hw]; exact T.out.put 3)
  rw [hw]
  clear hw r0 r1 r2 r3 fr s0 s1 s2 s3 fs T
  have T := T'
  clear T'
  rw [rounds_succ]
  have r0 := T.out.r0
  have r1 := T.out.r1
  have r2 := T.out.r2
  have r3 := T.out.r3
  have fr := T.out.fr
  have s0 := T.out.s0
  have s1 := T.out.s1
  have s2 := T.out.s2
  have s3 := T.out.s3
  have fs := T.out.fs
  go_wp2_with fail
  refine (with_3_2 _).mono ?_
  rintro e v3 ⟨rfl, hb⟩
  have T' := Lib.hid (T.out.call hb)
  clear hb r0 r1 r2 r3 fr s0 s1 s2 s3 fs T
  have T := T'
  clear T'
  have r0 := T.out.r0
  have r1 := T.out.r1
  have r2 := T.out.r2
  have r3 := T.out.r3
  have fr := T.out.fr
  have s0 := T.out.s0
  have s1 := T.out.s1
  have s2 := T.out.s2
  have s3 := T.out.s3
  have fs := T.out.fs
  go_wp2_with fail
  obtain ⟨W3, hw⟩ : ∃ W, (((World.setCell v3 ⟨w.heap.size + 1, 0, none⟩ (.int .u64 7)).setCell ⟨w.heap.size + 1, 1, none⟩ (.int .u64 0)).setCell ⟨w.heap.size + 1, 2, none⟩ (.int .u64 0)).setCell ⟨w.heap.size + 1, 3, none⟩ (.int .u64 0) = W := ⟨_, rfl⟩
  have T' : Hid (Two w W3 7) := Lib.hid (by rw [← hw]; exact T.out.put 7)
  rw [hw]
  clear hw r0 r1 r2 r3 fr s0 s1 s2 s3 fs T
  have T := T'
  clear T'
  rw [rounds_succ]
  have r0 := T.out.r0
  have r1 := T.out.r1
  have r2 := T.out.r2
  have r3 := T.out.r3
  have fr := T.out.fr
  have s0 := T.out.s0
  have s1 := T.out.s1
  have s2 := T.out.s2
  have s3 := T.out.s3
  have fs := T.out.fs
  have hne : ¬ w.heap.size = w.heap.size + 1 := by omega
  have hne' : ¬ w.heap.size + 1 = w.heap.size := by omega
  go_wp2_with fail
  refine bodyPost_ret (v := aggU 7 0 0 0) (by simp [results, Tryd.results27, go_sem, r0, r1, r2, r3, fr, s0, s1, s2, s3, hne, hne']) rfl ⟨rfl, ?_⟩
  exact below3m T.out.bw (Nat.le_refl _) _ _ _ _
set_option maxRecDepth 100000 in
set_option maxHeartbeats 2000000 in
theorem range_4 (w : World) : Calls Tryd.prog 27 #[.int .i64 0, .int .i64 4] w (IsAgg 15 0 0 0 w) := by
  go_enter Tryd.func27, Tryd.ntmps27
  go_wp2_with fail
  obtain ⟨W0, hw⟩ : ∃ W, (w.alloc (.cells #[.int .u64 0, .int .u64 0, .int .u64 0, .int .u64 0] 27)).alloc (.cells #[.int .u64 0, .int .u64 0, .int .u64 0, .int .u64 0] 27) = W := ⟨_, rfl⟩
  have T : Hid (Two w W0 0) := Lib.hid (by rw [← hw]; exact Two.start w)
  rw [hw]
  clear hw
  refine wp_loop_rounds 5 ?_
  rw [rounds_succ]
  have r0 := T.out.r0
  have r1 := T.out.r1
  have r2 := T.out.r2
  have r3 := T.out.r3
  have fr := T.out.fr
  have s0 := T.out.s0
  have s1 := T.out.s1
  have s2 := T.out.s2
  have s3 := T.out.s3
  have fs := T.out.fs
  go_wp2_with fail
  refine (with_0_0 _).mono ?_
  rintro e v1 ⟨rfl, hb⟩
  have T' := Lib.hid (T.out.call hb)
  clear hb r0 r1 r2 r3 fr s0 s1 s2 s3 fs T
  have T := T'
  clear T'
  have r0 := T.out.r0
  have r1 := T.out.r1
  have r2 := T.out.r2
  have r3 := T.out.r3
  have fr := T.out.fr
  have s0 := T.out.s0
  have s1 := T.out.s1
  have s2 := T.out.s2
  have s3 := T.out.s3
  have fs := T.out.fs
  go_wp2_with fail
  obtain ⟨W1, hw⟩ : ∃ W, (((World.setCell v1 ⟨w.heap.size + 1, 0, none⟩ (.int .u64 1)).setCell ⟨w.heap.size + 1, 1, none⟩ (.int .u64 0)).setCell ⟨w.heap.size + 1, 2, none⟩ (.int .u64 0)).setCell ⟨w.heap.size + 1, 3, none⟩ (.int .u64 0) = W := ⟨_, rfl⟩
  have T' : Hid (Two w W1 1) := Lib.hid (by rw [← hw]; exact T.out.put 1)
  rw [hw]
  clear hw r0 r1 r2 r3 fr s0 s1 s2 s3 fs T
  have T := T'
  clear T'
  rw [rounds_succ]
  have r0 := T.out.r0
  have r1 := T.out.r1
  have r2 := T.out.r2
  have r3 := T.out.r3
  have fr := T.out.fr
  have s0 := T.out.s0
  have s1 := T.out.s1
  have s2 := T.out.s2
  have s3 := T.out.s3
  have fs := T.out.fs
  go_wp2_with fail
  refine (with_1_1 _).mono ?_
  rintro e v2 ⟨rfl, hb⟩
  have T' := Lib.hid (T.out.call hb)
  clear hb r0 r1 r2 r3 fr s0 s1 s2 s3 fs T
  have T := T'
  clear T'
  have r0 := T.out.r0
  have r1 := T.out.r1
  have r2 := T.out.r2
  have r3 := T.out.r3
  have fr := T.out.fr
  have s0 := T.out.s0
  have s1 := T.out.s1
  have s2 := T.out.s2
  have s3 := T.out.s3
  have fs := T.out.fs
  go_wp2_with fail
  obtain ⟨W2, hw⟩ : ∃ W, (((World.setCell v2 ⟨w.heap.size + 1, 0, none⟩ (.int .u64 3)).setCell ⟨w.heap.size + 1, 1, none⟩ (.int .u64 0)).setCell ⟨w.heap.size + 1, 2, none⟩ (.int .u64 0)).setCell ⟨w.heap.size + 1, 3, none⟩ (.int .u64 0) = W := ⟨_, rfl⟩
  have T' : Hid (Two w W2 3) := Lib.hid (by rw [← hw]; exact T.out.put 3)
  rw [hw]
  clear hw r0 r1 r2 r3 fr s0 s1 s2 s3 fs T
  have T := T'
  clear T'
  rw [rounds_succ]
  have r0 := T.out.r0
  have r1 := T.out.r1
  have r2 := T.out.r2
  have r3 := T.out.r3
  have fr := T.out.fr
  have s0 := T.out.s0
  have s1 := T.out.s1
  have s2 := T.out.s2
  have s3 := T.out.s3
  have fs := T.out.fs
  go_wp2_with fail
  refine (with_3_2 _).mono ?_
  rintro e v3 ⟨rfl, hb⟩
  have T' := Lib.hid (T.out.call hb)
  clear hb r0 r1 r2 r3 fr s0 s1 s2 s3 fs T
  have T := T'
  clear T'
  have r0 := T.out.r0
  have r1 := T.out.r1
  have r2 := T.out.r2
  have r3 := T.out.r3
  have fr := T.out.fr
  have s0 := T.out.s0
  have s1 := T.out.s1
  have s2 := T.out.s2
  have s3 := T.out.s3
  have fs := T.out.fs
  go_wp2_with fail
  obtain ⟨W3, hw⟩ : ∃ W, (((World.setCell v3 ⟨w.heap.size + 1, 0, none⟩ (.int .u64 7)).setCell ⟨w.heap.size + 1, 1, none⟩ (.int .u64 0)).setCell ⟨w.heap.size + 1, 2, none⟩ (.int .u64 0)).setCell ⟨w.heap.size + 1, 3, none⟩ (.int .u64 0) = W := ⟨_, rfl⟩
  have T' : Hid (Two w W3 7) := Lib.hid (by rw [← hw]; exact T.out.put 7)
  rw [hw]
  clear hw r0 r1 r2 r3 fr s0 s1 s2 s3 fs T
  have T := T'
  clear T'
  rw [rounds_succ]
  have r0 := T.out.r0
  have r1 := T.out.r1
  have r2 := T.out.r2
  have r3 := T.out.r3
  have fr := T.out.fr
  have s0 := T.out.s0
  have s1 := T.out.s1
  have s2 := T.out.s2
  have s3 := T.out.s3
  have fs := T.out.fs
  go_wp2_with fail
  refine (with_7_3 _).mono ?_
  rintro e v4 ⟨rfl, hb⟩
  have T' := Lib.hid (T.out.call hb)
  clear hb r0 r1 r2 r3 fr s0 s1 s2 s3 fs T
  have T := T'
  clear T'
  have r0 := T.out.r0
  have r1 := T.out.r1
  have r2 := T.out.r2
  have r3 := T.out.r3
  have fr := T.out.fr
  have s0 := T.out.s0
  have s1 := T.out.s1
  have s2 := T.out.s2
  have s3 := T.out.s3
  have fs := T.out.fs
  go_wp2_with fail
  obtain ⟨W4, hw⟩ : ∃ W, (((World.setCell v4 ⟨w.heap.size + 1, 0, none⟩ (.int .u64 15)).setCell ⟨w.heap.size + 1, 1, none⟩ (.int .u64 0)).setCell ⟨w.heap.size + 1, 2, none⟩ (.int .u64 0)).setCell ⟨w.heap.size + 1, 3, none⟩ (.int .u64 0) = W := ⟨_, rfl⟩
  have T' : Hid (Two w W4 15) := Lib.hid (by rw [← hw]; exact T.out.put 15)
  rw [hw]
  clear hw r0 r1 r2 r3 fr s0 s1 s2 s3 fs T
  have T := T'
  clear T'
  rw [rounds_succ]
  have r0 := T.out.r0
  have r1 := T.out.r1
  have r2 := T.out.r2
  have r3 := T.out.r3
  have fr := T.out.fr
  have s0 := T.out.s0
  have s1 := T.out.s1
  have s2 := T.out.s2
  have s3 := T.out.s3
  have fs := T.out.fs
  have hne : ¬ w.heap.size = w.heap.size + 1 := by omega
  have hne' : ¬ w.heap.size + 1 = w.heap.size := by omega
  go_wp2_with fail
  refine bodyPost_ret (v := aggU 15 0 0 0) (by simp [results, Tryd.results27, go_sem, r0, r1, r2, r3, fr, s0, s1, s2, s3, hne, hne']) rfl ⟨rfl, ?_⟩
  exact below3m T.out.bw (Nat.le_refl _) _ _ _ _
end Go.Proofs.YtgjmmbhakjalgaaDoor
