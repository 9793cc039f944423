/-
  A frame: the plain program; a result of a frame that there is not.
-/
import Derived.Test.YtafcggibhmkgkaaFr0
namespace Go.Proofs.Ytafcggibhmkgkaa
open Go.RowKit
set_option linter.unusedSimpArgs false
set_option linter.unusedVariables false
attribute [local go_sem] run_store_cplx
/-- The function of the plain program, at block b. -/
structure PlainW (w : World) (b : Nat) (A : Option Addr) (n c : Nat) (k l : Nat) : Prop where
  c0 : w.cell? ⟨b, 0, none⟩ = some (.string ⟨#[102]⟩)
  c1 : w.cell? ⟨b, 1, none⟩ = some (.bool false)
  c2 : w.cell? ⟨b, 2, none⟩ = some (.slice none 0 0)
  c3 : w.cell? ⟨b, 3, none⟩ = some (.slice A n c)
  c4 : w.cell? ⟨b, 4, none⟩ = some (.slice none 0 0)
  c5 : w.cell? ⟨b, 5, none⟩ = some (.slice none 0 0)
  c6 : w.cell? ⟨b, 6, none⟩ = some (.slice (some ⟨k, 0, none⟩) 1 1)
  c7 : w.cell? ⟨b, 7, none⟩ = some (.slice (some ⟨l, 0, none⟩) 1 1)
  c8 : w.cell? ⟨b, 8, none⟩ = some (.slice none 0 0)
  c9 : w.cell? ⟨b, 9, none⟩ = some (.slice none 0 0)
  c10 : w.cell? ⟨b, 10, none⟩ = some (.slice none 0 0)
  l0 : w.cell? ⟨l, 0, none⟩ = some (.int .i64 1)
set_option maxRecDepth 100000 in
set_option maxHeartbeats 1000000 in
theorem plain_any (w : World) : Calls Try.prog 11 #[] w fun e w' => ∃ b k l, e = .returned (.agg #[.slice (some ⟨b, 0, none⟩) 1 1]) ∧ PlainW w' b none 0 0 k l ∧ w'.frozen? ⟨b, 3, none⟩ = false ∧ w.heap.size ≤ b ∧ w.heap.size ≤ l ∧ b ≠ l ∧ Below w.heap.size w w' := by
  go_enter Try.func11, Try.ntmps11
  go_wp2_with fail
  refine bodyPost_ret (v := .agg #[.slice (some ⟨w.heap.size + 1 + 1 + 1, 0, none⟩) 1 1]) (by simp [results, Try.results11, go_sem]) rfl ?_
  obtain ⟨w1, hw1⟩ : ∃ w1, w.alloc (.cells #[.slice (some ⟨w.heap.size + 1 + 1 + 1, 0, none⟩) 1 1] 37) = w1 := ⟨_, rfl⟩
  have s1 : w1.heap.size = w.heap.size + 1 := by rw [← hw1]; simp
  rw [hw1]
  obtain ⟨w2, hw2⟩ : ∃ w2, w1.alloc (.cells #[.int .i64 25, .int .i64 0] 73) = w2 := ⟨_, rfl⟩
  have s2 : w2.heap.size = w.heap.size + 1 + 1 := by rw [← hw2]; simp [s1]
  rw [hw2]
  have b2 : Below w.heap.size w w2 := by rw [← hw2, ← hw1]; exact ((Below.refl _ _).alloc (Nat.le_refl _) _).alloc (by simp) _
  obtain ⟨w3, hw3⟩ : ∃ w3, w2.alloc (.cells #[.int .i64 1] 3) = w3 := ⟨_, rfl⟩
  have s3 : w3.heap.size = w.heap.size + 1 + 1 + 1 := by rw [← hw3]; simp [s2]
  have b3 : Below w.heap.size w w3 := by rw [← hw3]; exact b2.alloc (by omega) _
  rw [hw3]
  have l0 : w3.cell? ⟨w.heap.size + 1 + 1, 0, none⟩ = some (.int .i64 1) := by rw [← hw3, ← s2]; exact (new_cells (Below.refl _ _) 0 _ rfl).1
  have N := fun i v h => new_cells (w := w3) (cs := #[.string ⟨#[102]⟩, .bool false, .slice none 0 0, .slice none 0 0, .slice none 0 0, .slice none 0 0, .slice (some ⟨w.heap.size + 1, 0, none⟩) 1 1, .slice (some ⟨w.heap.size + 1 + 1, 0, none⟩) 1 1, .slice none 0 0, .slice none 0 0, .slice none 0 0]) (t := 53) (Below.refl _ _) i v h
  rw [s3] at N
  exact ⟨w.heap.size + 1 + 1 + 1, w.heap.size + 1, w.heap.size + 1 + 1, rfl, ⟨(N 0 _ rfl).1, (N 1 _ rfl).1, (N 2 _ rfl).1, (N 3 _ rfl).1, (N 4 _ rfl).1, (N 5 _ rfl).1, (N 6 _ rfl).1, (N 7 _ rfl).1, (N 8 _ rfl).1, (N 9 _ rfl).1, (N 10 _ rfl).1, (World.cell?_alloc_lt _ _ _ (World.block_lt_of_cell? _ _ l0)).trans l0⟩, (N 3 _ rfl).2, by omega, by omega, by omega, b3.alloc (by omega) _⟩
set_option maxRecDepth 100000 in
theorem n_setresult (n : Int) (w : World) : Calls Try.prog 8 #[npV, .int .i64 n, zV] w fun e w' => (∃ v, e = .returned v) ∧ Below w.heap.size w w' := by
  go_enter Try.func8, Try.ntmps8
  go_wp2_with fail
  go_region_with (first
    | (go_at_call 28; refine (n_result _ _).mono ?_; rintro e w1 ⟨rfl, rfl⟩)
    | (go_at_call 7; refine (n_setslot _ _).mono ?_; rintro e w2 ⟨⟨v, rfl⟩, hb⟩))
  all_goals
    have hb9 : Below w.heap.size w w2 := bl_trans (((Below.refl w.heap.size w).alloc (Nat.le_refl _) _).drew) (by show w.heap.size ≤ (w.alloc _).heap.size; simp) hb
    go_wp2_with fail
    go_end0
    exact ⟨⟨_, rfl⟩, hb9⟩
end Go.Proofs.Ytafcggibhmkgkaa
