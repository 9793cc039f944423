/-
  No cell of these rows narrows 'for every input' (looked for: loops, veiled, ifaces, maps, wideKeys, modest, calm, conditions, laid).
  DERIVED. THE GIVEN ROWS OF THIS SEAT. 7 by the template 'for every input the law returns true; each argument reads behind the call as it read before'; 0 by the template 'total and deterministic' (their statements: YtddkkakmlmadgaaTotals.lean).
  GIVEN WITH THE SEED: the statements are not yours to turn. If you find one false, say at which input.
  Laid BY PROGRAM, IN A SANDBOX (cutbox-rows.mjs): the forced cells as the released guide's own fill.sh prints them over the translation f1e46b769ea68412… (all of the seat's roots in one cut). By AI agents, Wed Nov 11 2026. No macro, syntax, notation, axiom, sorry.
-/
import Derived.Test.YtddkkakmlmadgaaChecked
import GoSem.Claim
import GoSem.ClaimJoined
import GoSem.ClaimMapViews
import Derived.JoinedTies
import Derived.KernelRfl
namespace Go.Proofs.Ytddkkakmlmadgaa
/- THE CELL 'sum', in the pinned program and in every row, IS THE sha256 OF THE DUMP (.gsa) THAT YtddkkakmlmadgaaProg.lean LOADS. Nothing in Lean hashes anything: it is a label: what it is worth is what the hold of that sum in a sandbox is worth. -/
noncomputable def Try.pinned : Pinned := { name := "ytddkkakmlmadgaa", sum := "f1e46b769ea684122bfa49afe875dd0236b77ebdad41c9be9d39b66bdce3b166", checked := Try.checked }
namespace Rows
def none {H : Type} : Left H := { results := [], args := [] }

/-- 'inlaylaw06.WholeOnes': WHATEVER THE INPUT: true; the input reads as it did. -/
def wholeOnesSpec : ChangeSpec := { name := "wholeOnes", fn := fun _ => fun
  | [d1, d2] => { results := [.lit (.bool true)], args := [d1, d2] }
  | _ => none }
def wholeOnesRow : OpenClaim := { program := "ytddkkakmlmadgaa", sum := "f1e46b769ea684122bfa49afe875dd0236b77ebdad41c9be9d39b66bdce3b166", func := "inlay/inlaylaw06.WholeOnes", spec := "wholeOnes", apart := false }
def WholeOnesSaid : Prop := wholeOnesRow.holds Try.pinned (OpenSpec.ofChange wholeOnesSpec)

/-- ITS FALSE NEIGHBOUR: 'it returns false'. Refute it at one input. -/
def wholeOnesWrong : ChangeSpec := { name := "wholeOnes", fn := fun _ => fun
  | [d1, d2] => { results := [.lit (.bool false)], args := [d1, d2] }
  | _ => none }
def WholeOnesWrongFalsely : Prop := wholeOnesRow.holds Try.pinned (OpenSpec.ofChange wholeOnesWrong)

/-- 'inlaylaw06.WholeDivides': WHATEVER THE INPUT: true; the input reads as it did. -/
def wholeDividesSpec : ChangeSpec := { name := "wholeDivides", fn := fun _ => fun
  | [d1, d2] => { results := [.lit (.bool true)], args := [d1, d2] }
  | _ => none }
def wholeDividesRow : OpenClaim := { program := "ytddkkakmlmadgaa", sum := "f1e46b769ea684122bfa49afe875dd0236b77ebdad41c9be9d39b66bdce3b166", func := "inlay/inlaylaw06.WholeDivides", spec := "wholeDivides", apart := false }
def WholeDividesSaid : Prop := wholeDividesRow.holds Try.pinned (OpenSpec.ofChange wholeDividesSpec)

/-- ITS FALSE NEIGHBOUR: 'it returns false'. Refute it at one input. -/
def wholeDividesWrong : ChangeSpec := { name := "wholeDivides", fn := fun _ => fun
  | [d1, d2] => { results := [.lit (.bool false)], args := [d1, d2] }
  | _ => none }
def WholeDividesWrongFalsely : Prop := wholeDividesRow.holds Try.pinned (OpenSpec.ofChange wholeDividesWrong)

/-- 'inlaylaw06.WholeTwos': WHATEVER THE INPUT: true; the input reads as it did. -/
def wholeTwosSpec : ChangeSpec := { name := "wholeTwos", fn := fun _ => fun
  | [d1, d2, d3] => { results := [.lit (.bool true)], args := [d1, d2, d3] }
  | _ => none }
def wholeTwosRow : OpenClaim := { program := "ytddkkakmlmadgaa", sum := "f1e46b769ea684122bfa49afe875dd0236b77ebdad41c9be9d39b66bdce3b166", func := "inlay/inlaylaw06.WholeTwos", spec := "wholeTwos", apart := false }
def WholeTwosSaid : Prop := wholeTwosRow.holds Try.pinned (OpenSpec.ofChange wholeTwosSpec)

/-- ITS FALSE NEIGHBOUR: 'it returns false'. Refute it at one input. -/
def wholeTwosWrong : ChangeSpec := { name := "wholeTwos", fn := fun _ => fun
  | [d1, d2, d3] => { results := [.lit (.bool false)], args := [d1, d2, d3] }
  | _ => none }
def WholeTwosWrongFalsely : Prop := wholeTwosRow.holds Try.pinned (OpenSpec.ofChange wholeTwosWrong)

/-- 'inlaylaw14.MapsInside': WHATEVER THE INPUT: true; the input reads as it did. -/
def mapsInsideSpec : ChangeSpec := { name := "mapsInside", fn := fun _ => fun
  | [d1, d2] => { results := [.lit (.bool true)], args := [d1, d2] }
  | _ => none }
def mapsInsideRow : OpenClaim := { program := "ytddkkakmlmadgaa", sum := "f1e46b769ea684122bfa49afe875dd0236b77ebdad41c9be9d39b66bdce3b166", func := "inlay/inlaylaw14.MapsInside", spec := "mapsInside", unfollowed := true, recurses := true, apart := false }
def MapsInsideSaid : Prop := mapsInsideRow.holds Try.pinned (OpenSpec.ofChange mapsInsideSpec)

/-- ITS FALSE NEIGHBOUR: 'it returns false'. Refute it at one input. -/
def mapsInsideWrong : ChangeSpec := { name := "mapsInside", fn := fun _ => fun
  | [d1, d2] => { results := [.lit (.bool false)], args := [d1, d2] }
  | _ => none }
def MapsInsideWrongFalsely : Prop := mapsInsideRow.holds Try.pinned (OpenSpec.ofChange mapsInsideWrong)

/-- 'inlaylaw14.MapsTakes': WHATEVER THE INPUT: true; the input reads as it did. -/
def mapsTakesSpec : ChangeSpec := { name := "mapsTakes", fn := fun _ => fun
  | [d1, d2, d3] => { results := [.lit (.bool true)], args := [d1, d2, d3] }
  | _ => none }
def mapsTakesRow : OpenClaim := { program := "ytddkkakmlmadgaa", sum := "f1e46b769ea684122bfa49afe875dd0236b77ebdad41c9be9d39b66bdce3b166", func := "inlay/inlaylaw14.MapsTakes", spec := "mapsTakes", unfollowed := true, recurses := true, apart := false }
def MapsTakesSaid : Prop := mapsTakesRow.holds Try.pinned (OpenSpec.ofChange mapsTakesSpec)

/-- ITS FALSE NEIGHBOUR: 'it returns false'. Refute it at one input. -/
def mapsTakesWrong : ChangeSpec := { name := "mapsTakes", fn := fun _ => fun
  | [d1, d2, d3] => { results := [.lit (.bool false)], args := [d1, d2, d3] }
  | _ => none }
def MapsTakesWrongFalsely : Prop := mapsTakesRow.holds Try.pinned (OpenSpec.ofChange mapsTakesWrong)

/-- 'inlaylaw32.DefersPlays': WHATEVER THE INPUT: true; the input reads as it did. -/
def defersPlaysSpec : ChangeSpec := { name := "defersPlays", fn := fun _ => fun
  | [d] => { results := [.lit (.bool true)], args := [d] }
  | _ => none }
def defersPlaysRow : OpenClaim := { program := "ytddkkakmlmadgaa", sum := "f1e46b769ea684122bfa49afe875dd0236b77ebdad41c9be9d39b66bdce3b166", func := "inlay/inlaylaw32.DefersPlays", spec := "defersPlays", apart := false }
def DefersPlaysSaid : Prop := defersPlaysRow.holds Try.pinned (OpenSpec.ofChange defersPlaysSpec)

/-- ITS FALSE NEIGHBOUR: 'it returns false'. Refute it at one input. -/
def defersPlaysWrong : ChangeSpec := { name := "defersPlays", fn := fun _ => fun
  | [d] => { results := [.lit (.bool false)], args := [d] }
  | _ => none }
def DefersPlaysWrongFalsely : Prop := defersPlaysRow.holds Try.pinned (OpenSpec.ofChange defersPlaysWrong)

/-- 'inlaylaw32.DefersNil': WHATEVER THE INPUT: true; the input reads as it did. -/
def defersNilSpec : ChangeSpec := { name := "defersNil", fn := fun _ => fun
  | [d] => { results := [.lit (.bool true)], args := [d] }
  | _ => none }
def defersNilRow : OpenClaim := { program := "ytddkkakmlmadgaa", sum := "f1e46b769ea684122bfa49afe875dd0236b77ebdad41c9be9d39b66bdce3b166", func := "inlay/inlaylaw32.DefersNil", spec := "defersNil", apart := false }
def DefersNilSaid : Prop := defersNilRow.holds Try.pinned (OpenSpec.ofChange defersNilSpec)

/-- ITS FALSE NEIGHBOUR: 'it returns false'. Refute it at one input. -/
def defersNilWrong : ChangeSpec := { name := "defersNil", fn := fun _ => fun
  | [d] => { results := [.lit (.bool false)], args := [d] }
  | _ => none }
def DefersNilWrongFalsely : Prop := defersNilRow.holds Try.pinned (OpenSpec.ofChange defersNilWrong)

/- THE SECOND FORM. 'bulk': how many values and letters a reading holds, each counted each time it is reached (what is shared counts as often as it is met; a slice's spare places count too). A statement '..UptoSaid' is the law's where the arguments, and the package variables that the reading takes, are together of bulk at most 1048576: NARROWER than '..Said'. Prove '..Said' where nothing that the law and all that it calls make is longer than what came in: it says more and counts as full. Else prove '..UptoSaid'. A law counts once. -/
mutual
def uptoBulk {H : Type} : DataW H → Nat
  | .lit (.string bytes) => bytes.length + 1
  | .lit _ => 1
  | .nil => 1
  | .ptr d => uptoBulk d + 1
  | .slice elems spare => uptoBulkAll elems + uptoBulkAll spare + 1
  | .agg parts => uptoBulkAll parts + 1
  | .iface _ d => uptoBulk d + 1
  | .map entries => uptoBulkEntries entries + 1
  | .held _ => 1
def uptoBulkAll {H : Type} : List (DataW H) → Nat
  | [] => 0
  | d :: r => uptoBulk d + uptoBulkAll r
def uptoBulkEntries {H : Type} : List (Lit × DataW H) → Nat
  | [] => 0
  | x :: r => uptoBulkEntry x + uptoBulkEntries r
def uptoBulkEntry {H : Type} : Lit × DataW H → Nat
  | (.string bytes, d) => bytes.length + uptoBulk d + 1
  | (_, d) => uptoBulk d + 1
 end
def uptoSmall : (H : Type) → List (DataW H) → Bool := fun _ ds => decide (uptoBulkAll ds ≤ 1048576)
def OpenSpec.upto (s : _root_.Go.ChangeSpec) : _root_.Go.OpenSpec := { _root_.Go.OpenSpec.ofChange s with cond := some uptoSmall }

/-- 'inlaylaw06.WholeOnes', WHERE WHAT IT READS IS OF BULK AT MOST 1048576: true; the input reads as it did. -/
def wholeOnesUptoRow : OpenClaim := { program := "ytddkkakmlmadgaa", sum := "f1e46b769ea684122bfa49afe875dd0236b77ebdad41c9be9d39b66bdce3b166", func := "inlay/inlaylaw06.WholeOnes", spec := "wholeOnes", apart := false, narrowed := true }
def WholeOnesUptoSaid : Prop := wholeOnesUptoRow.holds Try.pinned (OpenSpec.upto wholeOnesSpec)

/-- 'inlaylaw06.WholeDivides', WHERE WHAT IT READS IS OF BULK AT MOST 1048576: true; the input reads as it did. -/
def wholeDividesUptoRow : OpenClaim := { program := "ytddkkakmlmadgaa", sum := "f1e46b769ea684122bfa49afe875dd0236b77ebdad41c9be9d39b66bdce3b166", func := "inlay/inlaylaw06.WholeDivides", spec := "wholeDivides", apart := false, narrowed := true }
def WholeDividesUptoSaid : Prop := wholeDividesUptoRow.holds Try.pinned (OpenSpec.upto wholeDividesSpec)

/-- 'inlaylaw06.WholeTwos', WHERE WHAT IT READS IS OF BULK AT MOST 1048576: true; the input reads as it did. -/
def wholeTwosUptoRow : OpenClaim := { program := "ytddkkakmlmadgaa", sum := "f1e46b769ea684122bfa49afe875dd0236b77ebdad41c9be9d39b66bdce3b166", func := "inlay/inlaylaw06.WholeTwos", spec := "wholeTwos", apart := false, narrowed := true }
def WholeTwosUptoSaid : Prop := wholeTwosUptoRow.holds Try.pinned (OpenSpec.upto wholeTwosSpec)

/-- 'inlaylaw14.MapsInside', WHERE WHAT IT READS IS OF BULK AT MOST 1048576: true; the input reads as it did. -/
def mapsInsideUptoRow : OpenClaim := { program := "ytddkkakmlmadgaa", sum := "f1e46b769ea684122bfa49afe875dd0236b77ebdad41c9be9d39b66bdce3b166", func := "inlay/inlaylaw14.MapsInside", spec := "mapsInside", unfollowed := true, recurses := true, apart := false, narrowed := true }
def MapsInsideUptoSaid : Prop := mapsInsideUptoRow.holds Try.pinned (OpenSpec.upto mapsInsideSpec)

/-- 'inlaylaw14.MapsTakes', WHERE WHAT IT READS IS OF BULK AT MOST 1048576: true; the input reads as it did. -/
def mapsTakesUptoRow : OpenClaim := { program := "ytddkkakmlmadgaa", sum := "f1e46b769ea684122bfa49afe875dd0236b77ebdad41c9be9d39b66bdce3b166", func := "inlay/inlaylaw14.MapsTakes", spec := "mapsTakes", unfollowed := true, recurses := true, apart := false, narrowed := true }
def MapsTakesUptoSaid : Prop := mapsTakesUptoRow.holds Try.pinned (OpenSpec.upto mapsTakesSpec)

/-- 'inlaylaw32.DefersPlays', WHERE WHAT IT READS IS OF BULK AT MOST 1048576: true; the input reads as it did. -/
def defersPlaysUptoRow : OpenClaim := { program := "ytddkkakmlmadgaa", sum := "f1e46b769ea684122bfa49afe875dd0236b77ebdad41c9be9d39b66bdce3b166", func := "inlay/inlaylaw32.DefersPlays", spec := "defersPlays", apart := false, narrowed := true }
def DefersPlaysUptoSaid : Prop := defersPlaysUptoRow.holds Try.pinned (OpenSpec.upto defersPlaysSpec)

/-- 'inlaylaw32.DefersNil', WHERE WHAT IT READS IS OF BULK AT MOST 1048576: true; the input reads as it did. -/
def defersNilUptoRow : OpenClaim := { program := "ytddkkakmlmadgaa", sum := "f1e46b769ea684122bfa49afe875dd0236b77ebdad41c9be9d39b66bdce3b166", func := "inlay/inlaylaw32.DefersNil", spec := "defersNil", apart := false, narrowed := true }
def DefersNilUptoSaid : Prop := defersNilUptoRow.holds Try.pinned (OpenSpec.upto defersNilSpec)

end Rows
end Go.Proofs.Ytddkkakmlmadgaa
