/-
  No cell of these rows narrows 'for every input' (looked for: loops, veiled, ifaces, maps, wideKeys, modest, calm, conditions, laid).
  DERIVED. THE GIVEN ROWS OF THIS SEAT. 12 by the template 'for every input the law returns true; each argument reads behind the call as it read before'; 0 by the template 'total and deterministic' (their statements: YtnnpgljmfjemnaaTotals.lean).
  GIVEN WITH THE SEED: the statements are not yours to turn. If you find one false, say at which input.
  Laid BY PROGRAM, IN A SANDBOX (cutbox-rows.mjs): the forced cells as the released guide's own fill.sh prints them over the translation a04a5ed8687d6b41… (all of the seat's roots in one cut). By AI agents, Wed Nov 11 2026. No macro, syntax, notation, axiom, sorry.
-/
import Derived.Test.YtnnpgljmfjemnaaChecked
import GoSem.Claim
import GoSem.ClaimJoined
import GoSem.ClaimMapViews
import Derived.JoinedTies
import Derived.KernelRfl
namespace Go.Proofs.Ytnnpgljmfjemnaa
/- THE CELL 'sum', in the pinned program and in every row, IS THE sha256 OF THE DUMP (.gsa) THAT YtnnpgljmfjemnaaProg.lean LOADS. Nothing in Lean hashes anything: it is a label: what it is worth is what the hold of that sum in a sandbox is worth. -/
noncomputable def Try.pinned : Pinned := { name := "ytnnpgljmfjemnaa", sum := "a04a5ed8687d6b411e881dfebd9e63dbc7552e8458328da32ab4e15bdd74c556", checked := Try.checked }
namespace Rows
def none {H : Type} : Left H := { results := [], args := [] }

/-- 'inlaylaw33.UnwindNext': WHATEVER THE INPUT: true; the input reads as it did. -/
def unwindNextSpec : ChangeSpec := { name := "unwindNext", fn := fun _ => fun
  | [d1, d2, d3] => { results := [.lit (.bool true)], args := [d1, d2, d3] }
  | _ => none }
def unwindNextRow : OpenClaim := { program := "ytnnpgljmfjemnaa", sum := "a04a5ed8687d6b411e881dfebd9e63dbc7552e8458328da32ab4e15bdd74c556", func := "inlay/inlaylaw33.UnwindNext", spec := "unwindNext", apart := false }
def UnwindNextSaid : Prop := unwindNextRow.holds Try.pinned (OpenSpec.ofChange unwindNextSpec)

/-- ITS FALSE NEIGHBOUR: 'it returns false'. Refute it at one input. -/
def unwindNextWrong : ChangeSpec := { name := "unwindNext", fn := fun _ => fun
  | [d1, d2, d3] => { results := [.lit (.bool false)], args := [d1, d2, d3] }
  | _ => none }
def UnwindNextWrongFalsely : Prop := unwindNextRow.holds Try.pinned (OpenSpec.ofChange unwindNextWrong)

/-- 'inlaylaw33.UnwindMerges': WHATEVER THE INPUT: true; the input reads as it did. -/
def unwindMergesSpec : ChangeSpec := { name := "unwindMerges", fn := fun _ => fun
  | [d1, d2] => { results := [.lit (.bool true)], args := [d1, d2] }
  | _ => none }
def unwindMergesRow : OpenClaim := { program := "ytnnpgljmfjemnaa", sum := "a04a5ed8687d6b411e881dfebd9e63dbc7552e8458328da32ab4e15bdd74c556", func := "inlay/inlaylaw33.UnwindMerges", spec := "unwindMerges", apart := false }
def UnwindMergesSaid : Prop := unwindMergesRow.holds Try.pinned (OpenSpec.ofChange unwindMergesSpec)

/-- ITS FALSE NEIGHBOUR: 'it returns false'. Refute it at one input. -/
def unwindMergesWrong : ChangeSpec := { name := "unwindMerges", fn := fun _ => fun
  | [d1, d2] => { results := [.lit (.bool false)], args := [d1, d2] }
  | _ => none }
def UnwindMergesWrongFalsely : Prop := unwindMergesRow.holds Try.pinned (OpenSpec.ofChange unwindMergesWrong)

/-- 'inlaylaw26.BlameChains': WHATEVER THE INPUT: true; the input reads as it did. -/
def blameChainsSpec : ChangeSpec := { name := "blameChains", fn := fun _ => fun
  | [d1, d2] => { results := [.lit (.bool true)], args := [d1, d2] }
  | _ => none }
def blameChainsRow : OpenClaim := { program := "ytnnpgljmfjemnaa", sum := "a04a5ed8687d6b411e881dfebd9e63dbc7552e8458328da32ab4e15bdd74c556", func := "inlay/inlaylaw26.BlameChains", spec := "blameChains", apart := false }
def BlameChainsSaid : Prop := blameChainsRow.holds Try.pinned (OpenSpec.ofChange blameChainsSpec)

/-- ITS FALSE NEIGHBOUR: 'it returns false'. Refute it at one input. -/
def blameChainsWrong : ChangeSpec := { name := "blameChains", fn := fun _ => fun
  | [d1, d2] => { results := [.lit (.bool false)], args := [d1, d2] }
  | _ => none }
def BlameChainsWrongFalsely : Prop := blameChainsRow.holds Try.pinned (OpenSpec.ofChange blameChainsWrong)

/-- 'inlaylaw26.BlameSame': WHATEVER THE INPUT: true; the input reads as it did. -/
def blameSameSpec : ChangeSpec := { name := "blameSame", fn := fun _ => fun
  | [d1, d2] => { results := [.lit (.bool true)], args := [d1, d2] }
  | _ => none }
def blameSameRow : OpenClaim := { program := "ytnnpgljmfjemnaa", sum := "a04a5ed8687d6b411e881dfebd9e63dbc7552e8458328da32ab4e15bdd74c556", func := "inlay/inlaylaw26.BlameSame", spec := "blameSame", apart := false }
def BlameSameSaid : Prop := blameSameRow.holds Try.pinned (OpenSpec.ofChange blameSameSpec)

/-- ITS FALSE NEIGHBOUR: 'it returns false'. Refute it at one input. -/
def blameSameWrong : ChangeSpec := { name := "blameSame", fn := fun _ => fun
  | [d1, d2] => { results := [.lit (.bool false)], args := [d1, d2] }
  | _ => none }
def BlameSameWrongFalsely : Prop := blameSameRow.holds Try.pinned (OpenSpec.ofChange blameSameWrong)

/-- 'inlaylaw09.OpsNames': WHATEVER THE INPUT: true; the input reads as it did. -/
def opsNamesSpec : ChangeSpec := { name := "opsNames", fn := fun _ => fun
  | [d1, d2] => { results := [.lit (.bool true)], args := [d1, d2] }
  | _ => none }
def opsNamesRow : OpenClaim := { program := "ytnnpgljmfjemnaa", sum := "a04a5ed8687d6b411e881dfebd9e63dbc7552e8458328da32ab4e15bdd74c556", func := "inlay/inlaylaw09.OpsNames", spec := "opsNames", apart := false }
def OpsNamesSaid : Prop := opsNamesRow.holds Try.pinned (OpenSpec.ofChange opsNamesSpec)

/-- ITS FALSE NEIGHBOUR: 'it returns false'. Refute it at one input. -/
def opsNamesWrong : ChangeSpec := { name := "opsNames", fn := fun _ => fun
  | [d1, d2] => { results := [.lit (.bool false)], args := [d1, d2] }
  | _ => none }
def OpsNamesWrongFalsely : Prop := opsNamesRow.holds Try.pinned (OpenSpec.ofChange opsNamesWrong)

/-- 'inlaylaw09.OpsShapes': WHATEVER THE INPUT: true; the input reads as it did. -/
def opsShapesSpec : ChangeSpec := { name := "opsShapes", fn := fun _ => fun
  | [d] => { results := [.lit (.bool true)], args := [d] }
  | _ => none }
def opsShapesRow : OpenClaim := { program := "ytnnpgljmfjemnaa", sum := "a04a5ed8687d6b411e881dfebd9e63dbc7552e8458328da32ab4e15bdd74c556", func := "inlay/inlaylaw09.OpsShapes", spec := "opsShapes", apart := false }
def OpsShapesSaid : Prop := opsShapesRow.holds Try.pinned (OpenSpec.ofChange opsShapesSpec)

/-- ITS FALSE NEIGHBOUR: 'it returns false'. Refute it at one input. -/
def opsShapesWrong : ChangeSpec := { name := "opsShapes", fn := fun _ => fun
  | [d] => { results := [.lit (.bool false)], args := [d] }
  | _ => none }
def OpsShapesWrongFalsely : Prop := opsShapesRow.holds Try.pinned (OpenSpec.ofChange opsShapesWrong)

/-- 'inlaylaw07.PlaneChain': WHATEVER THE INPUT: true; the input reads as it did. -/
def planeChainSpec : ChangeSpec := { name := "planeChain", fn := fun _ => fun
  | [d] => { results := [.lit (.bool true)], args := [d] }
  | _ => none }
def planeChainRow : OpenClaim := { program := "ytnnpgljmfjemnaa", sum := "a04a5ed8687d6b411e881dfebd9e63dbc7552e8458328da32ab4e15bdd74c556", func := "inlay/inlaylaw07.PlaneChain", spec := "planeChain", apart := false }
def PlaneChainSaid : Prop := planeChainRow.holds Try.pinned (OpenSpec.ofChange planeChainSpec)

/-- ITS FALSE NEIGHBOUR: 'it returns false'. Refute it at one input. -/
def planeChainWrong : ChangeSpec := { name := "planeChain", fn := fun _ => fun
  | [d] => { results := [.lit (.bool false)], args := [d] }
  | _ => none }
def PlaneChainWrongFalsely : Prop := planeChainRow.holds Try.pinned (OpenSpec.ofChange planeChainWrong)

/-- 'inlaylaw07.PlaneJust': WHATEVER THE INPUT: true; the input reads as it did. -/
def planeJustSpec : ChangeSpec := { name := "planeJust", fn := fun _ => fun
  | [d1, d2] => { results := [.lit (.bool true)], args := [d1, d2] }
  | _ => none }
def planeJustRow : OpenClaim := { program := "ytnnpgljmfjemnaa", sum := "a04a5ed8687d6b411e881dfebd9e63dbc7552e8458328da32ab4e15bdd74c556", func := "inlay/inlaylaw07.PlaneJust", spec := "planeJust", apart := false }
def PlaneJustSaid : Prop := planeJustRow.holds Try.pinned (OpenSpec.ofChange planeJustSpec)

/-- ITS FALSE NEIGHBOUR: 'it returns false'. Refute it at one input. -/
def planeJustWrong : ChangeSpec := { name := "planeJust", fn := fun _ => fun
  | [d1, d2] => { results := [.lit (.bool false)], args := [d1, d2] }
  | _ => none }
def PlaneJustWrongFalsely : Prop := planeJustRow.holds Try.pinned (OpenSpec.ofChange planeJustWrong)

/-- 'inlaylaw01.UvarGets': WHATEVER THE INPUT: true; the input reads as it did. -/
def uvarGetsSpec : ChangeSpec := { name := "uvarGets", fn := fun _ => fun
  | [d] => { results := [.lit (.bool true)], args := [d] }
  | _ => none }
def uvarGetsRow : OpenClaim := { program := "ytnnpgljmfjemnaa", sum := "a04a5ed8687d6b411e881dfebd9e63dbc7552e8458328da32ab4e15bdd74c556", func := "inlay/inlaylaw01.UvarGets", spec := "uvarGets", apart := false }
def UvarGetsSaid : Prop := uvarGetsRow.holds Try.pinned (OpenSpec.ofChange uvarGetsSpec)

/-- ITS FALSE NEIGHBOUR: 'it returns false'. Refute it at one input. -/
def uvarGetsWrong : ChangeSpec := { name := "uvarGets", fn := fun _ => fun
  | [d] => { results := [.lit (.bool false)], args := [d] }
  | _ => none }
def UvarGetsWrongFalsely : Prop := uvarGetsRow.holds Try.pinned (OpenSpec.ofChange uvarGetsWrong)

/-- 'inlaylaw01.UvarBack': WHATEVER THE INPUT: true; the input reads as it did. -/
def uvarBackSpec : ChangeSpec := { name := "uvarBack", fn := fun _ => fun
  | [d1, d2] => { results := [.lit (.bool true)], args := [d1, d2] }
  | _ => none }
def uvarBackRow : OpenClaim := { program := "ytnnpgljmfjemnaa", sum := "a04a5ed8687d6b411e881dfebd9e63dbc7552e8458328da32ab4e15bdd74c556", func := "inlay/inlaylaw01.UvarBack", spec := "uvarBack", apart := false }
def UvarBackSaid : Prop := uvarBackRow.holds Try.pinned (OpenSpec.ofChange uvarBackSpec)

/-- ITS FALSE NEIGHBOUR: 'it returns false'. Refute it at one input. -/
def uvarBackWrong : ChangeSpec := { name := "uvarBack", fn := fun _ => fun
  | [d1, d2] => { results := [.lit (.bool false)], args := [d1, d2] }
  | _ => none }
def UvarBackWrongFalsely : Prop := uvarBackRow.holds Try.pinned (OpenSpec.ofChange uvarBackWrong)

/-- 'inlaylaw01.UvarJust': WHATEVER THE INPUT: true; the input reads as it did. -/
def uvarJustSpec : ChangeSpec := { name := "uvarJust", fn := fun _ => fun
  | [d] => { results := [.lit (.bool true)], args := [d] }
  | _ => none }
def uvarJustRow : OpenClaim := { program := "ytnnpgljmfjemnaa", sum := "a04a5ed8687d6b411e881dfebd9e63dbc7552e8458328da32ab4e15bdd74c556", func := "inlay/inlaylaw01.UvarJust", spec := "uvarJust", apart := false }
def UvarJustSaid : Prop := uvarJustRow.holds Try.pinned (OpenSpec.ofChange uvarJustSpec)

/-- ITS FALSE NEIGHBOUR: 'it returns false'. Refute it at one input. -/
def uvarJustWrong : ChangeSpec := { name := "uvarJust", fn := fun _ => fun
  | [d] => { results := [.lit (.bool false)], args := [d] }
  | _ => none }
def UvarJustWrongFalsely : Prop := uvarJustRow.holds Try.pinned (OpenSpec.ofChange uvarJustWrong)

/-- 'inlaylaw01.UvarPuts': WHATEVER THE INPUT: true; the input reads as it did. -/
def uvarPutsSpec : ChangeSpec := { name := "uvarPuts", fn := fun _ => fun
  | [d1, d2] => { results := [.lit (.bool true)], args := [d1, d2] }
  | _ => none }
def uvarPutsRow : OpenClaim := { program := "ytnnpgljmfjemnaa", sum := "a04a5ed8687d6b411e881dfebd9e63dbc7552e8458328da32ab4e15bdd74c556", func := "inlay/inlaylaw01.UvarPuts", spec := "uvarPuts", recurses := true, apart := false }
def UvarPutsSaid : Prop := uvarPutsRow.holds Try.pinned (OpenSpec.ofChange uvarPutsSpec)

/-- ITS FALSE NEIGHBOUR: 'it returns false'. Refute it at one input. -/
def uvarPutsWrong : ChangeSpec := { name := "uvarPuts", fn := fun _ => fun
  | [d1, d2] => { results := [.lit (.bool false)], args := [d1, d2] }
  | _ => none }
def UvarPutsWrongFalsely : Prop := uvarPutsRow.holds Try.pinned (OpenSpec.ofChange uvarPutsWrong)

/- THE SECOND FORM. 'bulk': how many values and letters a reading holds, each counted each time it is reached (what is shared counts as often as it is met; a slice's spare places count too). A statement '..UptoSaid' is the law's where the arguments, and the package variables that the reading takes, are together of bulk at most 1048576: NARROWER than '..Said'. Prove '..Said' where nothing that the law and all that it calls make is longer than what came in: it says more and counts as full. Else prove '..UptoSaid'. A law counts once. -/
mutual
def uptoBulk {H : Type} : DataW H → Nat
  | .lit (.string bytes) => bytes.length + 1
  | .lit _ => 1
  | .nil => 1
  | .ptr d => uptoBulk d + 1
  | .slice elems spare => uptoBulkAll elems + uptoBulkAll spare + 1
  | .agg parts => uptoBulkAll parts + 1
  | .iface _ d => uptoBulk d + 1
  | .map entries => uptoBulkEntries entries + 1
  | .held _ => 1
def uptoBulkAll {H : Type} : List (DataW H) → Nat
  | [] => 0
  | d :: r => uptoBulk d + uptoBulkAll r
def uptoBulkEntries {H : Type} : List (Lit × DataW H) → Nat
  | [] => 0
  | x :: r => uptoBulkEntry x + uptoBulkEntries r
def uptoBulkEntry {H : Type} : Lit × DataW H → Nat
  | (.string bytes, d) => bytes.length + uptoBulk d + 1
  | (_, d) => uptoBulk d + 1
 end
def uptoSmall : (H : Type) → List (DataW H) → Bool := fun _ ds => decide (uptoBulkAll ds ≤ 1048576)
def OpenSpec.upto (s : _root_.Go.ChangeSpec) : _root_.Go.OpenSpec := { _root_.Go.OpenSpec.ofChange s with cond := some uptoSmall }

/-- 'inlaylaw33.UnwindNext', WHERE WHAT IT READS IS OF BULK AT MOST 1048576: true; the input reads as it did. -/
def unwindNextUptoRow : OpenClaim := { program := "ytnnpgljmfjemnaa", sum := "a04a5ed8687d6b411e881dfebd9e63dbc7552e8458328da32ab4e15bdd74c556", func := "inlay/inlaylaw33.UnwindNext", spec := "unwindNext", apart := false, narrowed := true }
def UnwindNextUptoSaid : Prop := unwindNextUptoRow.holds Try.pinned (OpenSpec.upto unwindNextSpec)

/-- 'inlaylaw33.UnwindMerges', WHERE WHAT IT READS IS OF BULK AT MOST 1048576: true; the input reads as it did. -/
def unwindMergesUptoRow : OpenClaim := { program := "ytnnpgljmfjemnaa", sum := "a04a5ed8687d6b411e881dfebd9e63dbc7552e8458328da32ab4e15bdd74c556", func := "inlay/inlaylaw33.UnwindMerges", spec := "unwindMerges", apart := false, narrowed := true }
def UnwindMergesUptoSaid : Prop := unwindMergesUptoRow.holds Try.pinned (OpenSpec.upto unwindMergesSpec)

/-- 'inlaylaw26.BlameChains', WHERE WHAT IT READS IS OF BULK AT MOST 1048576: true; the input reads as it did. -/
def blameChainsUptoRow : OpenClaim := { program := "ytnnpgljmfjemnaa", sum := "a04a5ed8687d6b411e881dfebd9e63dbc7552e8458328da32ab4e15bdd74c556", func := "inlay/inlaylaw26.BlameChains", spec := "blameChains", apart := false, narrowed := true }
def BlameChainsUptoSaid : Prop := blameChainsUptoRow.holds Try.pinned (OpenSpec.upto blameChainsSpec)

/-- 'inlaylaw26.BlameSame', WHERE WHAT IT READS IS OF BULK AT MOST 1048576: true; the input reads as it did. -/
def blameSameUptoRow : OpenClaim := { program := "ytnnpgljmfjemnaa", sum := "a04a5ed8687d6b411e881dfebd9e63dbc7552e8458328da32ab4e15bdd74c556", func := "inlay/inlaylaw26.BlameSame", spec := "blameSame", apart := false, narrowed := true }
def BlameSameUptoSaid : Prop := blameSameUptoRow.holds Try.pinned (OpenSpec.upto blameSameSpec)

/-- 'inlaylaw09.OpsNames', WHERE WHAT IT READS IS OF BULK AT MOST 1048576: true; the input reads as it did. -/
def opsNamesUptoRow : OpenClaim := { program := "ytnnpgljmfjemnaa", sum := "a04a5ed8687d6b411e881dfebd9e63dbc7552e8458328da32ab4e15bdd74c556", func := "inlay/inlaylaw09.OpsNames", spec := "opsNames", apart := false, narrowed := true }
def OpsNamesUptoSaid : Prop := opsNamesUptoRow.holds Try.pinned (OpenSpec.upto opsNamesSpec)

/-- 'inlaylaw09.OpsShapes', WHERE WHAT IT READS IS OF BULK AT MOST 1048576: true; the input reads as it did. -/
def opsShapesUptoRow : OpenClaim := { program := "ytnnpgljmfjemnaa", sum := "a04a5ed8687d6b411e881dfebd9e63dbc7552e8458328da32ab4e15bdd74c556", func := "inlay/inlaylaw09.OpsShapes", spec := "opsShapes", apart := false, narrowed := true }
def OpsShapesUptoSaid : Prop := opsShapesUptoRow.holds Try.pinned (OpenSpec.upto opsShapesSpec)

/-- 'inlaylaw07.PlaneChain', WHERE WHAT IT READS IS OF BULK AT MOST 1048576: true; the input reads as it did. -/
def planeChainUptoRow : OpenClaim := { program := "ytnnpgljmfjemnaa", sum := "a04a5ed8687d6b411e881dfebd9e63dbc7552e8458328da32ab4e15bdd74c556", func := "inlay/inlaylaw07.PlaneChain", spec := "planeChain", apart := false, narrowed := true }
def PlaneChainUptoSaid : Prop := planeChainUptoRow.holds Try.pinned (OpenSpec.upto planeChainSpec)

/-- 'inlaylaw07.PlaneJust', WHERE WHAT IT READS IS OF BULK AT MOST 1048576: true; the input reads as it did. -/
def planeJustUptoRow : OpenClaim := { program := "ytnnpgljmfjemnaa", sum := "a04a5ed8687d6b411e881dfebd9e63dbc7552e8458328da32ab4e15bdd74c556", func := "inlay/inlaylaw07.PlaneJust", spec := "planeJust", apart := false, narrowed := true }
def PlaneJustUptoSaid : Prop := planeJustUptoRow.holds Try.pinned (OpenSpec.upto planeJustSpec)

/-- 'inlaylaw01.UvarGets', WHERE WHAT IT READS IS OF BULK AT MOST 1048576: true; the input reads as it did. -/
def uvarGetsUptoRow : OpenClaim := { program := "ytnnpgljmfjemnaa", sum := "a04a5ed8687d6b411e881dfebd9e63dbc7552e8458328da32ab4e15bdd74c556", func := "inlay/inlaylaw01.UvarGets", spec := "uvarGets", apart := false, narrowed := true }
def UvarGetsUptoSaid : Prop := uvarGetsUptoRow.holds Try.pinned (OpenSpec.upto uvarGetsSpec)

/-- 'inlaylaw01.UvarBack', WHERE WHAT IT READS IS OF BULK AT MOST 1048576: true; the input reads as it did. -/
def uvarBackUptoRow : OpenClaim := { program := "ytnnpgljmfjemnaa", sum := "a04a5ed8687d6b411e881dfebd9e63dbc7552e8458328da32ab4e15bdd74c556", func := "inlay/inlaylaw01.UvarBack", spec := "uvarBack", apart := false, narrowed := true }
def UvarBackUptoSaid : Prop := uvarBackUptoRow.holds Try.pinned (OpenSpec.upto uvarBackSpec)

/-- 'inlaylaw01.UvarJust', WHERE WHAT IT READS IS OF BULK AT MOST 1048576: true; the input reads as it did. -/
def uvarJustUptoRow : OpenClaim := { program := "ytnnpgljmfjemnaa", sum := "a04a5ed8687d6b411e881dfebd9e63dbc7552e8458328da32ab4e15bdd74c556", func := "inlay/inlaylaw01.UvarJust", spec := "uvarJust", apart := false, narrowed := true }
def UvarJustUptoSaid : Prop := uvarJustUptoRow.holds Try.pinned (OpenSpec.upto uvarJustSpec)

/-- 'inlaylaw01.UvarPuts', WHERE WHAT IT READS IS OF BULK AT MOST 1048576: true; the input reads as it did. -/
def uvarPutsUptoRow : OpenClaim := { program := "ytnnpgljmfjemnaa", sum := "a04a5ed8687d6b411e881dfebd9e63dbc7552e8458328da32ab4e15bdd74c556", func := "inlay/inlaylaw01.UvarPuts", spec := "uvarPuts", recurses := true, apart := false, narrowed := true }
def UvarPutsUptoSaid : Prop := uvarPutsUptoRow.holds Try.pinned (OpenSpec.upto uvarPutsSpec)

end Rows
end Go.Proofs.Ytnnpgljmfjemnaa
