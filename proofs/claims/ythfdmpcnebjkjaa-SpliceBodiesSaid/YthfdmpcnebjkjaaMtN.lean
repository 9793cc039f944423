/-
  A new block's cells (out of r13's texts).
-/
import Derived.Test.YthfdmpcnebjkjaaGen
import Derived.Test.YthfdmpcnebjkjaaHeld
import Derived.Test.YthfdmpcnebjkjaaKp
namespace Go.Proofs.Ythfdmpcnebjkjaa
open Go.RowKit
set_option linter.unusedSimpArgs false
set_option linter.unusedVariables false
theorem new_cells {w w1 : World} {cs : Array Value} {t : TypeId} (hb : Below (w.alloc (.cells cs t)).heap.size (w.alloc (.cells cs t)) w1) (i : Nat) (v : Value) (hv : cs[i]? = some v) : w1.cell? ⟨w.heap.size, i, none⟩ = some v ∧ w1.frozen? ⟨w.heap.size, i, none⟩ = false := by
  refine ⟨?_, ?_⟩
  · rw [hb.cell (by simp), cell_of_row _ w.heap.size i cs t (0, 0) (heap_alloc_new w _)]
    exact hv
  · rw [hb.frozen (by simp)]
    simp
end Go.Proofs.Ythfdmpcnebjkjaa
