/-
  No cell of these rows narrows 'for every input' (looked for: loops, veiled, ifaces, maps, wideKeys, modest, calm, conditions, laid).
  DERIVED. THE GIVEN ROWS OF THIS SEAT. 12 by the template 'for every input the law returns true; each argument reads behind the call as it read before'; 0 by the template 'total and deterministic' (their statements: YtpladpmkpchndaaTotals.lean).
  GIVEN WITH THE SEED: the statements are not yours to turn. If you find one false, say at which input.
  Laid BY PROGRAM, IN A SANDBOX (cutbox-rows.mjs): the forced cells as the released guide's own fill.sh prints them over the translation 569bc818a4808bb1… (all of the seat's roots in one cut). By AI agents, Wed Nov 11 2026. No macro, syntax, notation, axiom, sorry.
-/
import Derived.Test.YtpladpmkpchndaaChecked
import GoSem.Claim
import GoSem.ClaimJoined
import GoSem.ClaimMapViews
import Derived.JoinedTies
import Derived.KernelRfl
namespace Go.Proofs.Ytpladpmkpchndaa
/- THE CELL 'sum', in the pinned program and in every row, IS THE sha256 OF THE DUMP (.gsa) THAT YtpladpmkpchndaaProg.lean LOADS. Nothing in Lean hashes anything: it is a label: what it is worth is what the hold of that sum in a sandbox is worth. -/
noncomputable def Try.pinned : Pinned := { name := "ytpladpmkpchndaa", sum := "569bc818a4808bb14271fc0a7d5c7218ea01f8f14dbca21aeb444bb7b4f9e75a", checked := Try.checked }
namespace Rows
def none {H : Type} : Left H := { results := [], args := [] }

/-- 'inlaylaw30.StackNil': WHATEVER THE INPUT: true; the input reads as it did. -/
def stackNilSpec : ChangeSpec := { name := "stackNil", fn := fun _ => fun
  | [d] => { results := [.lit (.bool true)], args := [d] }
  | _ => none }
def stackNilRow : OpenClaim := { program := "ytpladpmkpchndaa", sum := "569bc818a4808bb14271fc0a7d5c7218ea01f8f14dbca21aeb444bb7b4f9e75a", func := "inlay/inlaylaw30.StackNil", spec := "stackNil", unfollowed := true, recurses := true, apart := false }
def StackNilSaid : Prop := stackNilRow.holds Try.pinned (OpenSpec.ofChange stackNilSpec)

/-- ITS FALSE NEIGHBOUR: 'it returns false'. Refute it at one input. -/
def stackNilWrong : ChangeSpec := { name := "stackNil", fn := fun _ => fun
  | [d] => { results := [.lit (.bool false)], args := [d] }
  | _ => none }
def StackNilWrongFalsely : Prop := stackNilRow.holds Try.pinned (OpenSpec.ofChange stackNilWrong)

/-- 'inlaylaw30.StackPlays': WHATEVER THE INPUT: true; the input reads as it did. -/
def stackPlaysSpec : ChangeSpec := { name := "stackPlays", fn := fun _ => fun
  | [d] => { results := [.lit (.bool true)], args := [d] }
  | _ => none }
def stackPlaysRow : OpenClaim := { program := "ytpladpmkpchndaa", sum := "569bc818a4808bb14271fc0a7d5c7218ea01f8f14dbca21aeb444bb7b4f9e75a", func := "inlay/inlaylaw30.StackPlays", spec := "stackPlays", unfollowed := true, recurses := true, apart := false }
def StackPlaysSaid : Prop := stackPlaysRow.holds Try.pinned (OpenSpec.ofChange stackPlaysSpec)

/-- ITS FALSE NEIGHBOUR: 'it returns false'. Refute it at one input. -/
def stackPlaysWrong : ChangeSpec := { name := "stackPlays", fn := fun _ => fun
  | [d] => { results := [.lit (.bool false)], args := [d] }
  | _ => none }
def StackPlaysWrongFalsely : Prop := stackPlaysRow.holds Try.pinned (OpenSpec.ofChange stackPlaysWrong)

/-- 'inlaylaw44.RenumPlaces': WHATEVER THE INPUT: true; the input reads as it did. -/
def renumPlacesSpec : ChangeSpec := { name := "renumPlaces", fn := fun _ => fun
  | [d1, d2, d3] => { results := [.lit (.bool true)], args := [d1, d2, d3] }
  | _ => none }
def renumPlacesRow : OpenClaim := { program := "ytpladpmkpchndaa", sum := "569bc818a4808bb14271fc0a7d5c7218ea01f8f14dbca21aeb444bb7b4f9e75a", func := "inlay/inlaylaw44.RenumPlaces", spec := "renumPlaces", apart := false }
def RenumPlacesSaid : Prop := renumPlacesRow.holds Try.pinned (OpenSpec.ofChange renumPlacesSpec)

/-- ITS FALSE NEIGHBOUR: 'it returns false'. Refute it at one input. -/
def renumPlacesWrong : ChangeSpec := { name := "renumPlaces", fn := fun _ => fun
  | [d1, d2, d3] => { results := [.lit (.bool false)], args := [d1, d2, d3] }
  | _ => none }
def RenumPlacesWrongFalsely : Prop := renumPlacesRow.holds Try.pinned (OpenSpec.ofChange renumPlacesWrong)

/-- 'inlaylaw44.RenumTree': WHATEVER THE INPUT: true; the input reads as it did. -/
def renumTreeSpec : ChangeSpec := { name := "renumTree", fn := fun _ => fun
  | [d1, d2] => { results := [.lit (.bool true)], args := [d1, d2] }
  | _ => none }
def renumTreeRow : OpenClaim := { program := "ytpladpmkpchndaa", sum := "569bc818a4808bb14271fc0a7d5c7218ea01f8f14dbca21aeb444bb7b4f9e75a", func := "inlay/inlaylaw44.RenumTree", spec := "renumTree", apart := false }
def RenumTreeSaid : Prop := renumTreeRow.holds Try.pinned (OpenSpec.ofChange renumTreeSpec)

/-- ITS FALSE NEIGHBOUR: 'it returns false'. Refute it at one input. -/
def renumTreeWrong : ChangeSpec := { name := "renumTree", fn := fun _ => fun
  | [d1, d2] => { results := [.lit (.bool false)], args := [d1, d2] }
  | _ => none }
def RenumTreeWrongFalsely : Prop := renumTreeRow.holds Try.pinned (OpenSpec.ofChange renumTreeWrong)

/-- 'inlaylaw44.RenumCode': WHATEVER THE INPUT: true; the input reads as it did. -/
def renumCodeSpec : ChangeSpec := { name := "renumCode", fn := fun _ => fun
  | [d1, d2, d3] => { results := [.lit (.bool true)], args := [d1, d2, d3] }
  | _ => none }
def renumCodeRow : OpenClaim := { program := "ytpladpmkpchndaa", sum := "569bc818a4808bb14271fc0a7d5c7218ea01f8f14dbca21aeb444bb7b4f9e75a", func := "inlay/inlaylaw44.RenumCode", spec := "renumCode", unfollowed := true, recurses := true, apart := false }
def RenumCodeSaid : Prop := renumCodeRow.holds Try.pinned (OpenSpec.ofChange renumCodeSpec)

/-- ITS FALSE NEIGHBOUR: 'it returns false'. Refute it at one input. -/
def renumCodeWrong : ChangeSpec := { name := "renumCode", fn := fun _ => fun
  | [d1, d2, d3] => { results := [.lit (.bool false)], args := [d1, d2, d3] }
  | _ => none }
def RenumCodeWrongFalsely : Prop := renumCodeRow.holds Try.pinned (OpenSpec.ofChange renumCodeWrong)

/-- 'inlaylaw32.DefersPlays': WHATEVER THE INPUT: true; the input reads as it did. -/
def defersPlaysSpec : ChangeSpec := { name := "defersPlays", fn := fun _ => fun
  | [d] => { results := [.lit (.bool true)], args := [d] }
  | _ => none }
def defersPlaysRow : OpenClaim := { program := "ytpladpmkpchndaa", sum := "569bc818a4808bb14271fc0a7d5c7218ea01f8f14dbca21aeb444bb7b4f9e75a", func := "inlay/inlaylaw32.DefersPlays", spec := "defersPlays", apart := false }
def DefersPlaysSaid : Prop := defersPlaysRow.holds Try.pinned (OpenSpec.ofChange defersPlaysSpec)

/-- ITS FALSE NEIGHBOUR: 'it returns false'. Refute it at one input. -/
def defersPlaysWrong : ChangeSpec := { name := "defersPlays", fn := fun _ => fun
  | [d] => { results := [.lit (.bool false)], args := [d] }
  | _ => none }
def DefersPlaysWrongFalsely : Prop := defersPlaysRow.holds Try.pinned (OpenSpec.ofChange defersPlaysWrong)

/-- 'inlaylaw32.DefersNil': WHATEVER THE INPUT: true; the input reads as it did. -/
def defersNilSpec : ChangeSpec := { name := "defersNil", fn := fun _ => fun
  | [d] => { results := [.lit (.bool true)], args := [d] }
  | _ => none }
def defersNilRow : OpenClaim := { program := "ytpladpmkpchndaa", sum := "569bc818a4808bb14271fc0a7d5c7218ea01f8f14dbca21aeb444bb7b4f9e75a", func := "inlay/inlaylaw32.DefersNil", spec := "defersNil", apart := false }
def DefersNilSaid : Prop := defersNilRow.holds Try.pinned (OpenSpec.ofChange defersNilSpec)

/-- ITS FALSE NEIGHBOUR: 'it returns false'. Refute it at one input. -/
def defersNilWrong : ChangeSpec := { name := "defersNil", fn := fun _ => fun
  | [d] => { results := [.lit (.bool false)], args := [d] }
  | _ => none }
def DefersNilWrongFalsely : Prop := defersNilRow.holds Try.pinned (OpenSpec.ofChange defersNilWrong)

/-- 'inlaylaw07.PlaneChain': WHATEVER THE INPUT: true; the input reads as it did. -/
def planeChainSpec : ChangeSpec := { name := "planeChain", fn := fun _ => fun
  | [d] => { results := [.lit (.bool true)], args := [d] }
  | _ => none }
def planeChainRow : OpenClaim := { program := "ytpladpmkpchndaa", sum := "569bc818a4808bb14271fc0a7d5c7218ea01f8f14dbca21aeb444bb7b4f9e75a", func := "inlay/inlaylaw07.PlaneChain", spec := "planeChain", apart := false }
def PlaneChainSaid : Prop := planeChainRow.holds Try.pinned (OpenSpec.ofChange planeChainSpec)

/-- ITS FALSE NEIGHBOUR: 'it returns false'. Refute it at one input. -/
def planeChainWrong : ChangeSpec := { name := "planeChain", fn := fun _ => fun
  | [d] => { results := [.lit (.bool false)], args := [d] }
  | _ => none }
def PlaneChainWrongFalsely : Prop := planeChainRow.holds Try.pinned (OpenSpec.ofChange planeChainWrong)

/-- 'inlaylaw07.PlaneJust': WHATEVER THE INPUT: true; the input reads as it did. -/
def planeJustSpec : ChangeSpec := { name := "planeJust", fn := fun _ => fun
  | [d1, d2] => { results := [.lit (.bool true)], args := [d1, d2] }
  | _ => none }
def planeJustRow : OpenClaim := { program := "ytpladpmkpchndaa", sum := "569bc818a4808bb14271fc0a7d5c7218ea01f8f14dbca21aeb444bb7b4f9e75a", func := "inlay/inlaylaw07.PlaneJust", spec := "planeJust", apart := false }
def PlaneJustSaid : Prop := planeJustRow.holds Try.pinned (OpenSpec.ofChange planeJustSpec)

/-- ITS FALSE NEIGHBOUR: 'it returns false'. Refute it at one input. -/
def planeJustWrong : ChangeSpec := { name := "planeJust", fn := fun _ => fun
  | [d1, d2] => { results := [.lit (.bool false)], args := [d1, d2] }
  | _ => none }
def PlaneJustWrongFalsely : Prop := planeJustRow.holds Try.pinned (OpenSpec.ofChange planeJustWrong)

/-- 'inlaylaw25.EventBegins': WHATEVER THE INPUT: true; the input reads as it did. -/
def eventBeginsSpec : ChangeSpec := { name := "eventBegins", fn := fun _ => fun
  | [d1, d2, d3] => { results := [.lit (.bool true)], args := [d1, d2, d3] }
  | _ => none }
def eventBeginsRow : OpenClaim := { program := "ytpladpmkpchndaa", sum := "569bc818a4808bb14271fc0a7d5c7218ea01f8f14dbca21aeb444bb7b4f9e75a", func := "inlay/inlaylaw25.EventBegins", spec := "eventBegins", inPlace := ["internal/abi.NoEscape"], unfollowed := true, recurses := true, apart := false }
def EventBeginsSaid : Prop := eventBeginsRow.holds Try.pinned (OpenSpec.ofChange eventBeginsSpec)

/-- ITS FALSE NEIGHBOUR: 'it returns false'. Refute it at one input. -/
def eventBeginsWrong : ChangeSpec := { name := "eventBegins", fn := fun _ => fun
  | [d1, d2, d3] => { results := [.lit (.bool false)], args := [d1, d2, d3] }
  | _ => none }
def EventBeginsWrongFalsely : Prop := eventBeginsRow.holds Try.pinned (OpenSpec.ofChange eventBeginsWrong)

/-- 'inlaylaw25.EventTexts': WHATEVER THE INPUT: true; the input reads as it did. -/
def eventTextsSpec : ChangeSpec := { name := "eventTexts", fn := fun _ => fun
  | [d1, d2] => { results := [.lit (.bool true)], args := [d1, d2] }
  | _ => none }
def eventTextsRow : OpenClaim := { program := "ytpladpmkpchndaa", sum := "569bc818a4808bb14271fc0a7d5c7218ea01f8f14dbca21aeb444bb7b4f9e75a", func := "inlay/inlaylaw25.EventTexts", spec := "eventTexts", inPlace := ["internal/abi.NoEscape"], unfollowed := true, recurses := true, apart := false }
def EventTextsSaid : Prop := eventTextsRow.holds Try.pinned (OpenSpec.ofChange eventTextsSpec)

/-- ITS FALSE NEIGHBOUR: 'it returns false'. Refute it at one input. -/
def eventTextsWrong : ChangeSpec := { name := "eventTexts", fn := fun _ => fun
  | [d1, d2] => { results := [.lit (.bool false)], args := [d1, d2] }
  | _ => none }
def EventTextsWrongFalsely : Prop := eventTextsRow.holds Try.pinned (OpenSpec.ofChange eventTextsWrong)

/-- 'inlaylaw25.EventRuns': WHATEVER THE INPUT: true; the input reads as it did. -/
def eventRunsSpec : ChangeSpec := { name := "eventRuns", fn := fun _ => fun
  | [d1, d2, d3] => { results := [.lit (.bool true)], args := [d1, d2, d3] }
  | _ => none }
def eventRunsRow : OpenClaim := { program := "ytpladpmkpchndaa", sum := "569bc818a4808bb14271fc0a7d5c7218ea01f8f14dbca21aeb444bb7b4f9e75a", func := "inlay/inlaylaw25.EventRuns", spec := "eventRuns", inPlace := ["internal/abi.NoEscape"], unfollowed := true, recurses := true, apart := false }
def EventRunsSaid : Prop := eventRunsRow.holds Try.pinned (OpenSpec.ofChange eventRunsSpec)

/-- ITS FALSE NEIGHBOUR: 'it returns false'. Refute it at one input. -/
def eventRunsWrong : ChangeSpec := { name := "eventRuns", fn := fun _ => fun
  | [d1, d2, d3] => { results := [.lit (.bool false)], args := [d1, d2, d3] }
  | _ => none }
def EventRunsWrongFalsely : Prop := eventRunsRow.holds Try.pinned (OpenSpec.ofChange eventRunsWrong)

/- THE SECOND FORM. 'bulk': how many values and letters a reading holds, each counted each time it is reached (what is shared counts as often as it is met; a slice's spare places count too). A statement '..UptoSaid' is the law's where the arguments, and the package variables that the reading takes, are together of bulk at most 1048576: NARROWER than '..Said'. Prove '..Said' where nothing that the law and all that it calls make is longer than what came in: it says more and counts as full. Else prove '..UptoSaid'. A law counts once. -/
mutual
def uptoBulk {H : Type} : DataW H → Nat
  | .lit (.string bytes) => bytes.length + 1
  | .lit _ => 1
  | .nil => 1
  | .ptr d => uptoBulk d + 1
  | .slice elems spare => uptoBulkAll elems + uptoBulkAll spare + 1
  | .agg parts => uptoBulkAll parts + 1
  | .iface _ d => uptoBulk d + 1
  | .map entries => uptoBulkEntries entries + 1
  | .held _ => 1
def uptoBulkAll {H : Type} : List (DataW H) → Nat
  | [] => 0
  | d :: r => uptoBulk d + uptoBulkAll r
def uptoBulkEntries {H : Type} : List (Lit × DataW H) → Nat
  | [] => 0
  | x :: r => uptoBulkEntry x + uptoBulkEntries r
def uptoBulkEntry {H : Type} : Lit × DataW H → Nat
  | (.string bytes, d) => bytes.length + uptoBulk d + 1
  | (_, d) => uptoBulk d + 1
 end
def uptoSmall : (H : Type) → List (DataW H) → Bool := fun _ ds => decide (uptoBulkAll ds ≤ 1048576)
def OpenSpec.upto (s : _root_.Go.ChangeSpec) : _root_.Go.OpenSpec := { _root_.Go.OpenSpec.ofChange s with cond := some uptoSmall }

/-- 'inlaylaw30.StackNil', WHERE WHAT IT READS IS OF BULK AT MOST 1048576: true; the input reads as it did. -/
def stackNilUptoRow : OpenClaim := { program := "ytpladpmkpchndaa", sum := "569bc818a4808bb14271fc0a7d5c7218ea01f8f14dbca21aeb444bb7b4f9e75a", func := "inlay/inlaylaw30.StackNil", spec := "stackNil", unfollowed := true, recurses := true, apart := false, narrowed := true }
def StackNilUptoSaid : Prop := stackNilUptoRow.holds Try.pinned (OpenSpec.upto stackNilSpec)

/-- 'inlaylaw30.StackPlays', WHERE WHAT IT READS IS OF BULK AT MOST 1048576: true; the input reads as it did. -/
def stackPlaysUptoRow : OpenClaim := { program := "ytpladpmkpchndaa", sum := "569bc818a4808bb14271fc0a7d5c7218ea01f8f14dbca21aeb444bb7b4f9e75a", func := "inlay/inlaylaw30.StackPlays", spec := "stackPlays", unfollowed := true, recurses := true, apart := false, narrowed := true }
def StackPlaysUptoSaid : Prop := stackPlaysUptoRow.holds Try.pinned (OpenSpec.upto stackPlaysSpec)

/-- 'inlaylaw44.RenumPlaces', WHERE WHAT IT READS IS OF BULK AT MOST 1048576: true; the input reads as it did. -/
def renumPlacesUptoRow : OpenClaim := { program := "ytpladpmkpchndaa", sum := "569bc818a4808bb14271fc0a7d5c7218ea01f8f14dbca21aeb444bb7b4f9e75a", func := "inlay/inlaylaw44.RenumPlaces", spec := "renumPlaces", apart := false, narrowed := true }
def RenumPlacesUptoSaid : Prop := renumPlacesUptoRow.holds Try.pinned (OpenSpec.upto renumPlacesSpec)

/-- 'inlaylaw44.RenumTree', WHERE WHAT IT READS IS OF BULK AT MOST 1048576: true; the input reads as it did. -/
def renumTreeUptoRow : OpenClaim := { program := "ytpladpmkpchndaa", sum := "569bc818a4808bb14271fc0a7d5c7218ea01f8f14dbca21aeb444bb7b4f9e75a", func := "inlay/inlaylaw44.RenumTree", spec := "renumTree", apart := false, narrowed := true }
def RenumTreeUptoSaid : Prop := renumTreeUptoRow.holds Try.pinned (OpenSpec.upto renumTreeSpec)

/-- 'inlaylaw44.RenumCode', WHERE WHAT IT READS IS OF BULK AT MOST 1048576: true; the input reads as it did. -/
def renumCodeUptoRow : OpenClaim := { program := "ytpladpmkpchndaa", sum := "569bc818a4808bb14271fc0a7d5c7218ea01f8f14dbca21aeb444bb7b4f9e75a", func := "inlay/inlaylaw44.RenumCode", spec := "renumCode", unfollowed := true, recurses := true, apart := false, narrowed := true }
def RenumCodeUptoSaid : Prop := renumCodeUptoRow.holds Try.pinned (OpenSpec.upto renumCodeSpec)

/-- 'inlaylaw32.DefersPlays', WHERE WHAT IT READS IS OF BULK AT MOST 1048576: true; the input reads as it did. -/
def defersPlaysUptoRow : OpenClaim := { program := "ytpladpmkpchndaa", sum := "569bc818a4808bb14271fc0a7d5c7218ea01f8f14dbca21aeb444bb7b4f9e75a", func := "inlay/inlaylaw32.DefersPlays", spec := "defersPlays", apart := false, narrowed := true }
def DefersPlaysUptoSaid : Prop := defersPlaysUptoRow.holds Try.pinned (OpenSpec.upto defersPlaysSpec)

/-- 'inlaylaw32.DefersNil', WHERE WHAT IT READS IS OF BULK AT MOST 1048576: true; the input reads as it did. -/
def defersNilUptoRow : OpenClaim := { program := "ytpladpmkpchndaa", sum := "569bc818a4808bb14271fc0a7d5c7218ea01f8f14dbca21aeb444bb7b4f9e75a", func := "inlay/inlaylaw32.DefersNil", spec := "defersNil", apart := false, narrowed := true }
def DefersNilUptoSaid : Prop := defersNilUptoRow.holds Try.pinned (OpenSpec.upto defersNilSpec)

/-- 'inlaylaw07.PlaneChain', WHERE WHAT IT READS IS OF BULK AT MOST 1048576: true; the input reads as it did. -/
def planeChainUptoRow : OpenClaim := { program := "ytpladpmkpchndaa", sum := "569bc818a4808bb14271fc0a7d5c7218ea01f8f14dbca21aeb444bb7b4f9e75a", func := "inlay/inlaylaw07.PlaneChain", spec := "planeChain", apart := false, narrowed := true }
def PlaneChainUptoSaid : Prop := planeChainUptoRow.holds Try.pinned (OpenSpec.upto planeChainSpec)

/-- 'inlaylaw07.PlaneJust', WHERE WHAT IT READS IS OF BULK AT MOST 1048576: true; the input reads as it did. -/
def planeJustUptoRow : OpenClaim := { program := "ytpladpmkpchndaa", sum := "569bc818a4808bb14271fc0a7d5c7218ea01f8f14dbca21aeb444bb7b4f9e75a", func := "inlay/inlaylaw07.PlaneJust", spec := "planeJust", apart := false, narrowed := true }
def PlaneJustUptoSaid : Prop := planeJustUptoRow.holds Try.pinned (OpenSpec.upto planeJustSpec)

/-- 'inlaylaw25.EventBegins', WHERE WHAT IT READS IS OF BULK AT MOST 1048576: true; the input reads as it did. -/
def eventBeginsUptoRow : OpenClaim := { program := "ytpladpmkpchndaa", sum := "569bc818a4808bb14271fc0a7d5c7218ea01f8f14dbca21aeb444bb7b4f9e75a", func := "inlay/inlaylaw25.EventBegins", spec := "eventBegins", inPlace := ["internal/abi.NoEscape"], unfollowed := true, recurses := true, apart := false, narrowed := true }
def EventBeginsUptoSaid : Prop := eventBeginsUptoRow.holds Try.pinned (OpenSpec.upto eventBeginsSpec)

/-- 'inlaylaw25.EventTexts', WHERE WHAT IT READS IS OF BULK AT MOST 1048576: true; the input reads as it did. -/
def eventTextsUptoRow : OpenClaim := { program := "ytpladpmkpchndaa", sum := "569bc818a4808bb14271fc0a7d5c7218ea01f8f14dbca21aeb444bb7b4f9e75a", func := "inlay/inlaylaw25.EventTexts", spec := "eventTexts", inPlace := ["internal/abi.NoEscape"], unfollowed := true, recurses := true, apart := false, narrowed := true }
def EventTextsUptoSaid : Prop := eventTextsUptoRow.holds Try.pinned (OpenSpec.upto eventTextsSpec)

/-- 'inlaylaw25.EventRuns', WHERE WHAT IT READS IS OF BULK AT MOST 1048576: true; the input reads as it did. -/
def eventRunsUptoRow : OpenClaim := { program := "ytpladpmkpchndaa", sum := "569bc818a4808bb14271fc0a7d5c7218ea01f8f14dbca21aeb444bb7b4f9e75a", func := "inlay/inlaylaw25.EventRuns", spec := "eventRuns", inPlace := ["internal/abi.NoEscape"], unfollowed := true, recurses := true, apart := false, narrowed := true }
def EventRunsUptoSaid : Prop := eventRunsUptoRow.holds Try.pinned (OpenSpec.upto eventRunsSpec)

end Rows
end Go.Proofs.Ytpladpmkpchndaa
