/-
  A frame: a new one.
-/
import Derived.Test.YtafcggibhmkgkaaFr2
import Derived.Deep.DeepCutAuto
import Derived.Deep.LoopGhost
namespace Go.Proofs.Ytafcggibhmkgkaa
open Go.RowKit
set_option linter.unusedSimpArgs false
set_option linter.unusedVariables false
attribute [local go_sem] run_store_cplx
set_option maxRecDepth 100000 in
theorem row0 (A : Option Addr) (c : Nat) (w : World) : Calls Try.prog 30 #[.slice A 0 c] w fun e w' => e = .returned (.slice none 0 0) ∧ w = w' := by
  go_enter Try.func30, Try.ntmps30
  go_wp2_with fail
  refine wp_loop_rounds 1 ?_
  rw [rounds_succ]
  go_wp2_with fail
  go_ret
  exact ⟨rfl, rfl⟩
abbrev progV (b : Nat) : Value := .agg #[.slice (some ⟨b, 0, none⟩) 1 1]
set_option maxRecDepth 100000 in
theorem new_out (b : Nat) (f : Int) (w : World) (hf : ¬ f = 0) : Calls Try.prog 10 #[progV b, .int .i64 f, .slice none 0 0, npV] w fun e w' => e = .returned npV ∧ Below w.heap.size w w' := by
  by_cases h0 : f < 0
  · go_enter Try.func10, Try.ntmps10
    go_wp2_with fail
    go_ret
    exact ⟨rfl, (Below.refl _ _).alloc (Nat.le_refl _) _⟩
  · have h1 : (1 : Int) ≤ f := by omega
    go_enter Try.func10, Try.ntmps10
    go_wp2_with fail
    go_ret
    exact ⟨rfl, (Below.refl _ _).alloc (Nat.le_refl _) _⟩
theorem run_copy_val (w : World) (r rc ac ty : Nat) (a : Addr) (cs : List Value) (hn : cs.length = 3) (hsrc : ∀ j v, cs[j]? = some v → w.cell? (a.add j) = some v) (hc : ∀ j, j < cs.length → (w.cell? ⟨r, 0 + j, none⟩).isSome = true) (hf : ∀ j, j < cs.length → w.frozen? ⟨r, 0 + j, none⟩ = false) (h1 : ∀ v ∈ cs, v.oneCell' = true) :
    (Builtin.copy_ #[31, 31] ty #[.slice (some ⟨r, 0, none⟩) 1 rc, .slice (some a) 1 ac]).run Try.prog w = .ok (.int .i64 1) (w.setCells r 0 cs) := by
  obtain ⟨i0, hi, hz0, hz1, hz2⟩ := info_parts info_val
  have hl := run_loadCells_list (P := Try.prog) w a cs hsrc
  have hst := run_storeCells_cells (P := Try.prog) r 0 cs 0 w (by simpa using hc) (by simpa using hf) h1
  rw [hn] at hl
  simp [Builtin.copy_, run_underlying Try.underlying31, Builtin.lenOf, Builtin.firstCells, sizeOf, typeInfo, hi, hz1, hl, hst, goInt]
structure FrameW (w : World) (g : Nat) (A : Option Addr) (n c k l : Nat) (r : Option Addr) (rc : Nat) : Prop where
  c0 : w.cell? ⟨g, 0, none⟩ = some (.string ⟨#[102]⟩)
  c3 : w.cell? ⟨g, 3, none⟩ = some (.slice A n c)
  c4 : w.cell? ⟨g, 4, none⟩ = some (.slice none 0 0)
  c7 : w.cell? ⟨g, 7, none⟩ = some (.slice (some ⟨l, 0, none⟩) 1 1)
  c11 : w.cell? ⟨g, 11, none⟩ = some (.int .i64 0)
  c12 : w.cell? ⟨g, 12, none⟩ = some (.int .i64 0)
  c13 : w.cell? ⟨g, 13, none⟩ = some (.slice r n rc)
  c14 : w.cell? ⟨g, 14, none⟩ = some (.slice none 0 0)
  f13 : w.frozen? ⟨g, 13, none⟩ = false
  f14 : w.frozen? ⟨g, 14, none⟩ = false
  l0 : w.cell? ⟨l, 0, none⟩ = some (.int .i64 1)
set_option maxRecDepth 100000 in
set_option maxHeartbeats 1000000 in
theorem new_zero (b k l : Nat) (w : World) (h : PlainW w b none 0 0 k l) : Calls Try.prog 10 #[progV b, .int .i64 0, .slice none 0 0, npV] w fun e w' => (∃ g, e = .returned (.pointer (some ⟨g, 0, none⟩))) ∧ Below w.heap.size w w' := by
  obtain ⟨w1, hw1⟩ : ∃ w1, w.alloc (.cells #[.slice (some ⟨b, 0, none⟩) 1 1] 37) = w1 := ⟨_, rfl⟩
  have b1 : Below w.heap.size w w1 := by rw [← hw1]; exact (Below.refl _ _).alloc (Nat.le_refl _) _
  have hb : b < w.heap.size := World.block_lt_of_cell? _ _ h.c0
  have q0 : w1.cell? ⟨b, 0, none⟩ = _ := (b1.cell hb).trans h.c0
  have q1 : w1.cell? ⟨b, 1, none⟩ = _ := (b1.cell hb).trans h.c1
  have q2 : w1.cell? ⟨b, 2, none⟩ = _ := (b1.cell hb).trans h.c2
  have q3 : w1.cell? ⟨b, 3, none⟩ = _ := (b1.cell hb).trans h.c3
  have q4 : w1.cell? ⟨b, 4, none⟩ = _ := (b1.cell hb).trans h.c4
  have q5 : w1.cell? ⟨b, 5, none⟩ = _ := (b1.cell hb).trans h.c5
  have q6 : w1.cell? ⟨b, 6, none⟩ = _ := (b1.cell hb).trans h.c6
  have q7 : w1.cell? ⟨b, 7, none⟩ = _ := (b1.cell hb).trans h.c7
  have q8 : w1.cell? ⟨b, 8, none⟩ = _ := (b1.cell hb).trans h.c8
  have q9 : w1.cell? ⟨b, 9, none⟩ = _ := (b1.cell hb).trans h.c9
  have q10 : w1.cell? ⟨b, 10, none⟩ = _ := (b1.cell hb).trans h.c10
  have p0 : w1.cell? ⟨w.heap.size, 0, none⟩ = some (.slice (some ⟨b, 0, none⟩) 1 1) := by rw [← hw1]; exact (new_cells (Below.refl _ _) 0 _ rfl).1
  have c1 : Hid (∀ w : World, Calls Try.prog 31 #[funV none 0 0 k l] w (IsTRow 0 [] w)) := Lib.hid fun w => slots_any none 0 0 0 k l [] w ⟨rfl, Nat.le_refl _, by decide, by decide, fun h => absurd h (by omega)⟩ (Nat.zero_le _) (by omega)
  subst hw1
  clear h b1 hb
  go_enter Try.func10, Try.ntmps10
  go_wp2_with fail
  refine (c1.out _).mono ?_
  rintro e w2 ⟨A2, c2, rfl, _, hb⟩
  have N := fun i v h => new_cells (w := w.alloc (.cells #[.slice (some ⟨b, 0, none⟩) 1 1] 37)) hb i v h
  have hsz : (w.alloc (.cells #[.slice (some ⟨b, 0, none⟩) 1 1] 37)).heap.size = w.heap.size + 1 := by simp
  rw [hsz] at N
  have g3 := (N 3 _ rfl).1
  have g13 := (N 13 _ rfl).1
  have f13 := (N 13 _ rfl).2
  have HB2 : Hid (Below w.heap.size w w2) := Lib.hid (bl_trans (((Below.refl _ _).alloc (Nat.le_refl _) _).alloc (by simp) _) (by simp; omega) hb)
  clear hb N hsz
  go_wp2_with fail
  refine (row0 _ _ _).mono ?_
  rintro e w3 ⟨rfl, rfl⟩
  have hcp : ∀ w, (Builtin.copy_ #[31, 31] 3 #[.slice none 0 0, .slice none 0 0]).run Try.prog w = .ok (.int .i64 0) w := fun w => by kernel_rfl
  go_wp2_with fail
  go_region
  all_goals go_wp2_with fail
  all_goals go_ret
  all_goals exact ⟨⟨_, rfl⟩, by repeat (first | exact HB2.out | (refine Below.setCell ?_ (by simp) _) | (refine Below.drewN ?_ _) | (refine Below.drew ?_))⟩
end Go.Proofs.Ytafcggibhmkgkaa
