/-
  Order: the chapter's example; the walk of OrderSorted.
-/
import Derived.Test.YtnfoahcdmaphnaaOs6
namespace Go.Proofs.Ytnfoahcdmaphnaa
open Go.RowKit
set_option linter.unusedSimpArgs false
set_option linter.unusedVariables false
theorem lit_sites (w : World) (a b : DSite) : SlS (w.alloc (.cells #[.int .i64 a.fn, .int .i64 a.pc, .int .i64 b.fn, .int .i64 b.pc] 46)) (w.alloc (.cells #[.int .i64 a.fn, .int .i64 a.pc, .int .i64 b.fn, .int .i64 b.pc] 46)).heap.size (some ⟨w.heap.size, 0, none⟩) 2 2 [a, b] := by
  have h := World.ownsRow_lit (base := w.heap.size) (e := 46) (size := 2) w #[.int .i64 a.fn, .int .i64 a.pc, .int .i64 b.fn, .int .i64 b.pc] 2 (Nat.le_refl _) (by unfold maxLen; omega) rfl
  exact SlR.of_ownN (sz := 2) (bytes := 16) (f := cellsS) (xs := [a, b]) (fun _ => rfl) (by omega) h (by unfold reachBytes; omega)
theorem srt_two (a b : DSite) : Srt [a, b] 2 ↔ cmpS a b < 0 := by
  constructor
  · intro h
    exact h 0 a b (by omega) rfl rfl
  · intro h i x y hi hx hy
    have : i = 0 := by omega
    subst this
    simp at hx hy
    rw [← hx, ← hy]
    exact h
theorem sorted_two (w : World) (a b : DSite) (r : Bool) (hr : r = decide (cmpS a b < 0)) : Calls Try.prog 14 #[.slice (some ⟨w.heap.size, 0, none⟩) 2 2] (w.alloc (.cells #[.int .i64 a.fn, .int .i64 a.pc, .int .i64 b.fn, .int .i64 b.pc] 46)) fun e w' => e = .returned (.bool r) ∧ Below w.heap.size w w' := by
  refine (sorted_any _ 2 2 [a, b] _ (lit_sites w a b) (by omega)).mono ?_
  rintro e w' ⟨r', rfl, h1, hb⟩
  rw [srt_two] at h1
  refine ⟨?_, (bl_one _).trans (hb.mono (by simp))⟩
  have : r' = r := by
    rw [hr]
    cases r' with
    | true => rw [decide_eq_true (h1.1 rfl)]
    | false => rw [decide_eq_false (fun h => by have := h1.2 h; cases this)]
  rw [this]
end Go.Proofs.Ytnfoahcdmaphnaa
