/-
  Pieces of bodies: what is wanted of the general texts.
-/
import Derived.Test.YthfdmpcnebjkjaaSpT
import Derived.Test.YthfdmpcnebjkjaaCel
import Derived.Test.YthfdmpcnebjkjaaMtN
import Derived.Test.YthfdmpcnebjkjaaApp
import Derived.Test.YthfdmpcnebjkjaaKp
import Derived.Test.YthfdmpcnebjkjaaHeld
import Derived.BigRegion
import Derived.BigQuiet
import Derived.Deep.Cut
import Derived.Deep.RegionWith
import Derived.OrdersHeld
import Derived.Deep.Onto
namespace Go.Proofs.Ythfdmpcnebjkjaa
open Go.RowKit
set_option linter.unusedSimpArgs false
set_option linter.unusedVariables false
theorem sli_of {w : World} {B : Nat} {A : Option Addr} {n c : Nat} {xs : List Int} (h : SlR 1 8 (RInt .i64) w B A n c xs) : SlI w B A n c xs := h.imp fun cs x _ hr => hr.1
theorem below_set {B : Nat} {a w : World} {b o : Nat} (h : Below B a w) (hb : B ≤ b) (v : Value) : Below B a (w.setCell ⟨b, o, none⟩ v) := h.setCell (p := ⟨b, o, none⟩) hb v
theorem SlI.on {w w' : World} {A : Option Addr} {n c : Nat} {xs : List Int} (h : SlI w w.heap.size A n c xs) (hb : Below w.heap.size w w') : SlI w' w'.heap.size A n c xs := SlR.more (f := fun x => [Value.int .i64 x]) (h.keep hb (Nat.le_refl _)) hb.size
theorem bel_alloc (w : World) (o : Obj) : Below w.heap.size w (w.alloc o) := (Below.refl _ _).alloc (Nat.le_refl _) _
end Go.Proofs.Ythfdmpcnebjkjaa
