/-
  DERIVED. GIVEN WITH THE SEED: THE CARDS: each row of YtaffndecknhhnaaDoorRows.lean that lists a variable, with what it lists TIED to the program's text (the seventh form; the later family's looks); each row that meets fmt, with fmt's text TOLD by the authors' own Lean function (tested against real Go, not proved from fmt's source: count such statements apart). THE CARD IS WHAT COUNTS. Prove the row's statement (the work); the ties are given (YtaffndecknhhnaaDoorTie.lean); close each card by the builder's one call (the guide's Derived/Test/ToyasCard.lean, 'card_holds'). Laid BY PROGRAM, IN A SANDBOX (cutbox-door.mjs). By AI agents, Wed Nov 11 2026. No macro, syntax, notation, axiom, sorry.
-/
import Derived.Test.YtaffndecknhhnaaDoorRows
import GoSem.ClaimSeven
namespace Go.Proofs.YtaffndecknhhnaaDoor
namespace Rows

/-- THE TIED CARD OF 'inlaylaw03.SlotsHas'. -/
def slotsHasCard : Claim7 := { stood := { row := slotsHasRow, standIns := [], harness := (true, "87faba1c35e496fe57251b7a19b3161a1a959889d3886511a46faf57fcf11e40"), looks := false }, kinds := [], alts := [], laidByText := true, laidKinds := [.data], laidTests := true, laidLooks := .later }
def SlotsHasCardSaid : Prop := Claim7.holds Tryd.pinned (.plain (OpenSpec.ofChange slotsHasSpec)) slotsHasCard

/-- THE TIED CARD OF 'inlaylaw03.SlotsSets'. -/
def slotsSetsCard : Claim7 := { stood := { row := slotsSetsRow, standIns := [], harness := (true, "87faba1c35e496fe57251b7a19b3161a1a959889d3886511a46faf57fcf11e40"), looks := false }, kinds := [], alts := [], laidByText := true, laidKinds := [.data], laidTests := true, laidLooks := .later }
def SlotsSetsCardSaid : Prop := Claim7.holds Tryd.pinned (.plain (OpenSpec.ofChange slotsSetsSpec)) slotsSetsCard

/-- THE TIED CARD OF 'inlaylaw03.SlotsRanges'. -/
def slotsRangesCard : Claim7 := { stood := { row := slotsRangesRow, standIns := [], harness := (true, "87faba1c35e496fe57251b7a19b3161a1a959889d3886511a46faf57fcf11e40"), looks := false }, kinds := [], alts := [], laidByText := true, laidKinds := [.data], laidTests := true, laidLooks := .later }
def SlotsRangesCardSaid : Prop := Claim7.holds Tryd.pinned (.plain (OpenSpec.ofChange slotsRangesSpec)) slotsRangesCard

/-- THE TIED CARD OF 'inlaylaw03.SlotsMoves'. -/
def slotsMovesCard : Claim7 := { stood := { row := slotsMovesRow, standIns := [], harness := (true, "87faba1c35e496fe57251b7a19b3161a1a959889d3886511a46faf57fcf11e40"), looks := false }, kinds := [], alts := [], laidByText := true, laidKinds := [.data], laidTests := true, laidLooks := .later }
def SlotsMovesCardSaid : Prop := Claim7.holds Tryd.pinned (.plain (OpenSpec.ofChange slotsMovesSpec)) slotsMovesCard

/-- THE SECOND FORM's CARD OF 'inlaylaw03.SlotsHas'. -/
def slotsHasUptoCard : Claim7 := { stood := { row := slotsHasUptoRow, standIns := [], harness := (true, "87faba1c35e496fe57251b7a19b3161a1a959889d3886511a46faf57fcf11e40"), looks := false }, kinds := [], alts := [], laidByText := true, laidKinds := [.data], laidTests := true, laidLooks := .later }
def SlotsHasUptoCardSaid : Prop := Claim7.holds Tryd.pinned (.plain (OpenSpec.upto slotsHasSpec)) slotsHasUptoCard

/-- THE SECOND FORM's CARD OF 'inlaylaw03.SlotsSets'. -/
def slotsSetsUptoCard : Claim7 := { stood := { row := slotsSetsUptoRow, standIns := [], harness := (true, "87faba1c35e496fe57251b7a19b3161a1a959889d3886511a46faf57fcf11e40"), looks := false }, kinds := [], alts := [], laidByText := true, laidKinds := [.data], laidTests := true, laidLooks := .later }
def SlotsSetsUptoCardSaid : Prop := Claim7.holds Tryd.pinned (.plain (OpenSpec.upto slotsSetsSpec)) slotsSetsUptoCard

/-- THE SECOND FORM's CARD OF 'inlaylaw03.SlotsRanges'. -/
def slotsRangesUptoCard : Claim7 := { stood := { row := slotsRangesUptoRow, standIns := [], harness := (true, "87faba1c35e496fe57251b7a19b3161a1a959889d3886511a46faf57fcf11e40"), looks := false }, kinds := [], alts := [], laidByText := true, laidKinds := [.data], laidTests := true, laidLooks := .later }
def SlotsRangesUptoCardSaid : Prop := Claim7.holds Tryd.pinned (.plain (OpenSpec.upto slotsRangesSpec)) slotsRangesUptoCard

/-- THE SECOND FORM's CARD OF 'inlaylaw03.SlotsMoves'. -/
def slotsMovesUptoCard : Claim7 := { stood := { row := slotsMovesUptoRow, standIns := [], harness := (true, "87faba1c35e496fe57251b7a19b3161a1a959889d3886511a46faf57fcf11e40"), looks := false }, kinds := [], alts := [], laidByText := true, laidKinds := [.data], laidTests := true, laidLooks := .later }
def SlotsMovesUptoCardSaid : Prop := Claim7.holds Tryd.pinned (.plain (OpenSpec.upto slotsMovesSpec)) slotsMovesUptoCard
end Rows
end Go.Proofs.YtaffndecknhhnaaDoor
