/-
  No cell of these rows narrows 'for every input' (looked for: loops, veiled, ifaces, maps, wideKeys, modest, calm, conditions, laid).
  DERIVED. THE GIVEN ROWS OF THIS SEAT. 2 by the template 'for every input the law returns true; each argument reads behind the call as it read before'; 0 by the template 'total and deterministic' (their statements: YthfdmpcnebjkjaaTotals.lean).
  GIVEN WITH THE SEED: the statements are not yours to turn. If you find one false, say at which input.
  Laid BY PROGRAM, IN A SANDBOX (cutbox-rows.mjs): the forced cells as the released guide's own fill.sh prints them over the translation 80c951ce340413b3… (all of the seat's roots in one cut). By AI agents, Wed Nov 11 2026. No macro, syntax, notation, axiom, sorry.
-/
import Derived.Test.YthfdmpcnebjkjaaChecked
import GoSem.Claim
import GoSem.ClaimJoined
import GoSem.ClaimMapViews
import Derived.JoinedTies
import Derived.KernelRfl
namespace Go.Proofs.Ythfdmpcnebjkjaa
/- THE CELL 'sum', in the pinned program and in every row, IS THE sha256 OF THE DUMP (.gsa) THAT YthfdmpcnebjkjaaProg.lean LOADS. Nothing in Lean hashes anything: it is a label: what it is worth is what the hold of that sum in a sandbox is worth. -/
noncomputable def Try.pinned : Pinned := { name := "ythfdmpcnebjkjaa", sum := "80c951ce340413b3528ca8c77efadc8bd50a497af703464c9424c4b28b844891", checked := Try.checked }
namespace Rows
def none {H : Type} : Left H := { results := [], args := [] }

/-- 'inlaylaw45.SpliceBodies': WHATEVER THE INPUT: true; the input reads as it did. -/
def spliceBodiesSpec : ChangeSpec := { name := "spliceBodies", fn := fun _ => fun
  | [d1, d2, d3] => { results := [.lit (.bool true)], args := [d1, d2, d3] }
  | _ => none }
def spliceBodiesRow : OpenClaim := { program := "ythfdmpcnebjkjaa", sum := "80c951ce340413b3528ca8c77efadc8bd50a497af703464c9424c4b28b844891", func := "inlay/inlaylaw45.SpliceBodies", spec := "spliceBodies", unfollowed := true, recurses := true, apart := false }
def SpliceBodiesSaid : Prop := spliceBodiesRow.holds Try.pinned (OpenSpec.ofChange spliceBodiesSpec)

/-- ITS FALSE NEIGHBOUR: 'it returns false'. Refute it at one input. -/
def spliceBodiesWrong : ChangeSpec := { name := "spliceBodies", fn := fun _ => fun
  | [d1, d2, d3] => { results := [.lit (.bool false)], args := [d1, d2, d3] }
  | _ => none }
def SpliceBodiesWrongFalsely : Prop := spliceBodiesRow.holds Try.pinned (OpenSpec.ofChange spliceBodiesWrong)

/-- 'inlaylaw45.SpliceLong': WHATEVER THE INPUT: true; the input reads as it did. -/
def spliceLongSpec : ChangeSpec := { name := "spliceLong", fn := fun _ => fun
  | [d1, d2] => { results := [.lit (.bool true)], args := [d1, d2] }
  | _ => none }
def spliceLongRow : OpenClaim := { program := "ythfdmpcnebjkjaa", sum := "80c951ce340413b3528ca8c77efadc8bd50a497af703464c9424c4b28b844891", func := "inlay/inlaylaw45.SpliceLong", spec := "spliceLong", unfollowed := true, recurses := true, apart := false }
def SpliceLongSaid : Prop := spliceLongRow.holds Try.pinned (OpenSpec.ofChange spliceLongSpec)

/-- ITS FALSE NEIGHBOUR: 'it returns false'. Refute it at one input. -/
def spliceLongWrong : ChangeSpec := { name := "spliceLong", fn := fun _ => fun
  | [d1, d2] => { results := [.lit (.bool false)], args := [d1, d2] }
  | _ => none }
def SpliceLongWrongFalsely : Prop := spliceLongRow.holds Try.pinned (OpenSpec.ofChange spliceLongWrong)

/- THE SECOND FORM. 'bulk': how many values and letters a reading holds, each counted each time it is reached (what is shared counts as often as it is met; a slice's spare places count too). A statement '..UptoSaid' is the law's where the arguments, and the package variables that the reading takes, are together of bulk at most 1048576: NARROWER than '..Said'. Prove '..Said' where nothing that the law and all that it calls make is longer than what came in: it says more and counts as full. Else prove '..UptoSaid'. A law counts once. -/
mutual
def uptoBulk {H : Type} : DataW H → Nat
  | .lit (.string bytes) => bytes.length + 1
  | .lit _ => 1
  | .nil => 1
  | .ptr d => uptoBulk d + 1
  | .slice elems spare => uptoBulkAll elems + uptoBulkAll spare + 1
  | .agg parts => uptoBulkAll parts + 1
  | .iface _ d => uptoBulk d + 1
  | .map entries => uptoBulkEntries entries + 1
  | .held _ => 1
def uptoBulkAll {H : Type} : List (DataW H) → Nat
  | [] => 0
  | d :: r => uptoBulk d + uptoBulkAll r
def uptoBulkEntries {H : Type} : List (Lit × DataW H) → Nat
  | [] => 0
  | x :: r => uptoBulkEntry x + uptoBulkEntries r
def uptoBulkEntry {H : Type} : Lit × DataW H → Nat
  | (.string bytes, d) => bytes.length + uptoBulk d + 1
  | (_, d) => uptoBulk d + 1
 end
def uptoSmall : (H : Type) → List (DataW H) → Bool := fun _ ds => decide (uptoBulkAll ds ≤ 1048576)
def OpenSpec.upto (s : _root_.Go.ChangeSpec) : _root_.Go.OpenSpec := { _root_.Go.OpenSpec.ofChange s with cond := some uptoSmall }

/-- 'inlaylaw45.SpliceBodies', WHERE WHAT IT READS IS OF BULK AT MOST 1048576: true; the input reads as it did. -/
def spliceBodiesUptoRow : OpenClaim := { program := "ythfdmpcnebjkjaa", sum := "80c951ce340413b3528ca8c77efadc8bd50a497af703464c9424c4b28b844891", func := "inlay/inlaylaw45.SpliceBodies", spec := "spliceBodies", unfollowed := true, recurses := true, apart := false, narrowed := true }
def SpliceBodiesUptoSaid : Prop := spliceBodiesUptoRow.holds Try.pinned (OpenSpec.upto spliceBodiesSpec)

/-- 'inlaylaw45.SpliceLong', WHERE WHAT IT READS IS OF BULK AT MOST 1048576: true; the input reads as it did. -/
def spliceLongUptoRow : OpenClaim := { program := "ythfdmpcnebjkjaa", sum := "80c951ce340413b3528ca8c77efadc8bd50a497af703464c9424c4b28b844891", func := "inlay/inlaylaw45.SpliceLong", spec := "spliceLong", unfollowed := true, recurses := true, apart := false, narrowed := true }
def SpliceLongUptoSaid : Prop := spliceLongUptoRow.holds Try.pinned (OpenSpec.upto spliceLongSpec)

end Rows
end Go.Proofs.Ythfdmpcnebjkjaa
