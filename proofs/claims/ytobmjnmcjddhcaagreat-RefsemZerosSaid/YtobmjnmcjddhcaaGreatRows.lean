/-
  No cell of these rows narrows 'for every input' (looked for: loops, veiled, ifaces, maps, wideKeys, modest, calm, conditions, laid).
  DERIVED. THE GIVEN ROWS OF THIS SEAT. 5 by the template 'for every input the law returns true; each argument reads behind the call as it read before'; 0 by the template 'total and deterministic' (their statements: YtobmjnmcjddhcaaGreatTotals.lean).
  GIVEN WITH THE SEED: the statements are not yours to turn. If you find one false, say at which input.
  Laid BY PROGRAM, IN A SANDBOX (cutbox-rows.mjs): the forced cells as the released guide's own fill.sh prints them over the translation 5365ba58cefd5996… (all of the seat's roots in one cut). By AI agents, Wed Nov 11 2026. No macro, syntax, notation, axiom, sorry.
-/
import Derived.Test.YtobmjnmcjddhcaaGreatChecked
import GoSem.Claim
import GoSem.ClaimJoined
import GoSem.ClaimMapViews
import Derived.JoinedTies
import Derived.KernelRfl
namespace Go.Proofs.YtobmjnmcjddhcaaGreat
/- THE CELL 'sum', in the pinned program and in every row, IS THE sha256 OF THE DUMP (.gsa) THAT YtobmjnmcjddhcaaGreatProg.lean LOADS. Nothing in Lean hashes anything: it is a label: what it is worth is what the hold of that sum in a sandbox is worth. -/
noncomputable def Tryz.pinned : Pinned := { name := "ytobmjnmcjddhcaagreat", sum := "5365ba58cefd5996dd0d395568d6eb48e25681ff0d490e244d77609f1eb941d7", checked := Tryz.checked }
namespace Rows
def none {H : Type} : Left H := { results := [], args := [] }

/-- 'inlaylaw28.FramePlays': WHATEVER THE INPUT: true; the input reads as it did. -/
def framePlaysSpec : ChangeSpec := { name := "framePlays", fn := fun _ => fun
  | [d1, d2] => { results := [.lit (.bool true)], args := [d1, d2] }
  | _ => none }
def framePlaysRow : OpenClaim := { program := "ytobmjnmcjddhcaagreat", sum := "5365ba58cefd5996dd0d395568d6eb48e25681ff0d490e244d77609f1eb941d7", func := "inlay/inlaylaw28.FramePlays", spec := "framePlays", unfollowed := true, recurses := true, apart := false }
def FramePlaysSaid : Prop := framePlaysRow.holds Tryz.pinned (OpenSpec.ofChange framePlaysSpec)

/-- ITS FALSE NEIGHBOUR: 'it returns false'. Refute it at one input. -/
def framePlaysWrong : ChangeSpec := { name := "framePlays", fn := fun _ => fun
  | [d1, d2] => { results := [.lit (.bool false)], args := [d1, d2] }
  | _ => none }
def FramePlaysWrongFalsely : Prop := framePlaysRow.holds Tryz.pinned (OpenSpec.ofChange framePlaysWrong)

/-- 'inlaylaw29.RefsemRuns': WHATEVER THE INPUT: true; the input reads as it did. -/
def refsemRunsSpec : ChangeSpec := { name := "refsemRuns", fn := fun _ => fun
  | [d1, d2, d3] => { results := [.lit (.bool true)], args := [d1, d2, d3] }
  | _ => none }
def refsemRunsRow : OpenClaim := { program := "ytobmjnmcjddhcaagreat", sum := "5365ba58cefd5996dd0d395568d6eb48e25681ff0d490e244d77609f1eb941d7", func := "inlay/inlaylaw29.RefsemRuns", spec := "refsemRuns", unfollowed := true, recurses := true, apart := false }
def RefsemRunsSaid : Prop := refsemRunsRow.holds Tryz.pinned (OpenSpec.ofChange refsemRunsSpec)

/-- ITS FALSE NEIGHBOUR: 'it returns false'. Refute it at one input. -/
def refsemRunsWrong : ChangeSpec := { name := "refsemRuns", fn := fun _ => fun
  | [d1, d2, d3] => { results := [.lit (.bool false)], args := [d1, d2, d3] }
  | _ => none }
def RefsemRunsWrongFalsely : Prop := refsemRunsRow.holds Tryz.pinned (OpenSpec.ofChange refsemRunsWrong)

/-- 'inlaylaw29.RefsemMore': WHATEVER THE INPUT: true; the input reads as it did. -/
def refsemMoreSpec : ChangeSpec := { name := "refsemMore", fn := fun _ => fun
  | [d1, d2, d3] => { results := [.lit (.bool true)], args := [d1, d2, d3] }
  | _ => none }
def refsemMoreRow : OpenClaim := { program := "ytobmjnmcjddhcaagreat", sum := "5365ba58cefd5996dd0d395568d6eb48e25681ff0d490e244d77609f1eb941d7", func := "inlay/inlaylaw29.RefsemMore", spec := "refsemMore", unfollowed := true, recurses := true, apart := false }
def RefsemMoreSaid : Prop := refsemMoreRow.holds Tryz.pinned (OpenSpec.ofChange refsemMoreSpec)

/-- ITS FALSE NEIGHBOUR: 'it returns false'. Refute it at one input. -/
def refsemMoreWrong : ChangeSpec := { name := "refsemMore", fn := fun _ => fun
  | [d1, d2, d3] => { results := [.lit (.bool false)], args := [d1, d2, d3] }
  | _ => none }
def RefsemMoreWrongFalsely : Prop := refsemMoreRow.holds Tryz.pinned (OpenSpec.ofChange refsemMoreWrong)

/-- 'inlaylaw29.RefsemNeeds': WHATEVER THE INPUT: true; the input reads as it did. -/
def refsemNeedsSpec : ChangeSpec := { name := "refsemNeeds", fn := fun _ => fun
  | [d1, d2, d3] => { results := [.lit (.bool true)], args := [d1, d2, d3] }
  | _ => none }
def refsemNeedsRow : OpenClaim := { program := "ytobmjnmcjddhcaagreat", sum := "5365ba58cefd5996dd0d395568d6eb48e25681ff0d490e244d77609f1eb941d7", func := "inlay/inlaylaw29.RefsemNeeds", spec := "refsemNeeds", unfollowed := true, recurses := true, apart := false }
def RefsemNeedsSaid : Prop := refsemNeedsRow.holds Tryz.pinned (OpenSpec.ofChange refsemNeedsSpec)

/-- ITS FALSE NEIGHBOUR: 'it returns false'. Refute it at one input. -/
def refsemNeedsWrong : ChangeSpec := { name := "refsemNeeds", fn := fun _ => fun
  | [d1, d2, d3] => { results := [.lit (.bool false)], args := [d1, d2, d3] }
  | _ => none }
def RefsemNeedsWrongFalsely : Prop := refsemNeedsRow.holds Tryz.pinned (OpenSpec.ofChange refsemNeedsWrong)

/-- 'inlaylaw29.RefsemZeros': WHATEVER THE INPUT: true; the input reads as it did. -/
def refsemZerosSpec : ChangeSpec := { name := "refsemZeros", fn := fun _ => fun
  | [d1, d2, d3] => { results := [.lit (.bool true)], args := [d1, d2, d3] }
  | _ => none }
def refsemZerosRow : OpenClaim := { program := "ytobmjnmcjddhcaagreat", sum := "5365ba58cefd5996dd0d395568d6eb48e25681ff0d490e244d77609f1eb941d7", func := "inlay/inlaylaw29.RefsemZeros", spec := "refsemZeros", unfollowed := true, recurses := true, apart := false }
def RefsemZerosSaid : Prop := refsemZerosRow.holds Tryz.pinned (OpenSpec.ofChange refsemZerosSpec)

/-- ITS FALSE NEIGHBOUR: 'it returns false'. Refute it at one input. -/
def refsemZerosWrong : ChangeSpec := { name := "refsemZeros", fn := fun _ => fun
  | [d1, d2, d3] => { results := [.lit (.bool false)], args := [d1, d2, d3] }
  | _ => none }
def RefsemZerosWrongFalsely : Prop := refsemZerosRow.holds Tryz.pinned (OpenSpec.ofChange refsemZerosWrong)

/- THE SECOND FORM. 'bulk': how many values and letters a reading holds, each counted each time it is reached (what is shared counts as often as it is met; a slice's spare places count too). A statement '..UptoSaid' is the law's where the arguments, and the package variables that the reading takes, are together of bulk at most 1048576: NARROWER than '..Said'. Prove '..Said' where nothing that the law and all that it calls make is longer than what came in: it says more and counts as full. Else prove '..UptoSaid'. A law counts once. -/
mutual
def uptoBulk {H : Type} : DataW H → Nat
  | .lit (.string bytes) => bytes.length + 1
  | .lit _ => 1
  | .nil => 1
  | .ptr d => uptoBulk d + 1
  | .slice elems spare => uptoBulkAll elems + uptoBulkAll spare + 1
  | .agg parts => uptoBulkAll parts + 1
  | .iface _ d => uptoBulk d + 1
  | .map entries => uptoBulkEntries entries + 1
  | .held _ => 1
def uptoBulkAll {H : Type} : List (DataW H) → Nat
  | [] => 0
  | d :: r => uptoBulk d + uptoBulkAll r
def uptoBulkEntries {H : Type} : List (Lit × DataW H) → Nat
  | [] => 0
  | x :: r => uptoBulkEntry x + uptoBulkEntries r
def uptoBulkEntry {H : Type} : Lit × DataW H → Nat
  | (.string bytes, d) => bytes.length + uptoBulk d + 1
  | (_, d) => uptoBulk d + 1
 end
def uptoSmall : (H : Type) → List (DataW H) → Bool := fun _ ds => decide (uptoBulkAll ds ≤ 1048576)
def OpenSpec.upto (s : _root_.Go.ChangeSpec) : _root_.Go.OpenSpec := { _root_.Go.OpenSpec.ofChange s with cond := some uptoSmall }

/-- 'inlaylaw28.FramePlays', WHERE WHAT IT READS IS OF BULK AT MOST 1048576: true; the input reads as it did. -/
def framePlaysUptoRow : OpenClaim := { program := "ytobmjnmcjddhcaagreat", sum := "5365ba58cefd5996dd0d395568d6eb48e25681ff0d490e244d77609f1eb941d7", func := "inlay/inlaylaw28.FramePlays", spec := "framePlays", unfollowed := true, recurses := true, apart := false, narrowed := true }
def FramePlaysUptoSaid : Prop := framePlaysUptoRow.holds Tryz.pinned (OpenSpec.upto framePlaysSpec)

/-- 'inlaylaw29.RefsemRuns', WHERE WHAT IT READS IS OF BULK AT MOST 1048576: true; the input reads as it did. -/
def refsemRunsUptoRow : OpenClaim := { program := "ytobmjnmcjddhcaagreat", sum := "5365ba58cefd5996dd0d395568d6eb48e25681ff0d490e244d77609f1eb941d7", func := "inlay/inlaylaw29.RefsemRuns", spec := "refsemRuns", unfollowed := true, recurses := true, apart := false, narrowed := true }
def RefsemRunsUptoSaid : Prop := refsemRunsUptoRow.holds Tryz.pinned (OpenSpec.upto refsemRunsSpec)

/-- 'inlaylaw29.RefsemMore', WHERE WHAT IT READS IS OF BULK AT MOST 1048576: true; the input reads as it did. -/
def refsemMoreUptoRow : OpenClaim := { program := "ytobmjnmcjddhcaagreat", sum := "5365ba58cefd5996dd0d395568d6eb48e25681ff0d490e244d77609f1eb941d7", func := "inlay/inlaylaw29.RefsemMore", spec := "refsemMore", unfollowed := true, recurses := true, apart := false, narrowed := true }
def RefsemMoreUptoSaid : Prop := refsemMoreUptoRow.holds Tryz.pinned (OpenSpec.upto refsemMoreSpec)

/-- 'inlaylaw29.RefsemNeeds', WHERE WHAT IT READS IS OF BULK AT MOST 1048576: true; the input reads as it did. -/
def refsemNeedsUptoRow : OpenClaim := { program := "ytobmjnmcjddhcaagreat", sum := "5365ba58cefd5996dd0d395568d6eb48e25681ff0d490e244d77609f1eb941d7", func := "inlay/inlaylaw29.RefsemNeeds", spec := "refsemNeeds", unfollowed := true, recurses := true, apart := false, narrowed := true }
def RefsemNeedsUptoSaid : Prop := refsemNeedsUptoRow.holds Tryz.pinned (OpenSpec.upto refsemNeedsSpec)

/-- 'inlaylaw29.RefsemZeros', WHERE WHAT IT READS IS OF BULK AT MOST 1048576: true; the input reads as it did. -/
def refsemZerosUptoRow : OpenClaim := { program := "ytobmjnmcjddhcaagreat", sum := "5365ba58cefd5996dd0d395568d6eb48e25681ff0d490e244d77609f1eb941d7", func := "inlay/inlaylaw29.RefsemZeros", spec := "refsemZeros", unfollowed := true, recurses := true, apart := false, narrowed := true }
def RefsemZerosUptoSaid : Prop := refsemZerosUptoRow.holds Tryz.pinned (OpenSpec.upto refsemZerosSpec)

end Rows
end Go.Proofs.YtobmjnmcjddhcaaGreat
