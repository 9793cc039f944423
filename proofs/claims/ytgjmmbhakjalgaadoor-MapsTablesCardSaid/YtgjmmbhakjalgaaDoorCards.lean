/-
  DERIVED. GIVEN WITH THE SEED: THE CARDS: each row of YtgjmmbhakjalgaaDoorRows.lean that lists a variable, with what it lists TIED to the program's text (the seventh form; the later family's looks); each row that meets fmt, with fmt's text TOLD by the authors' own Lean function (tested against real Go, not proved from fmt's source: count such statements apart). THE CARD IS WHAT COUNTS. Prove the row's statement (the work); the ties are given (YtgjmmbhakjalgaaDoorTie.lean); close each card by the builder's one call (the guide's Derived/Test/ToyasCard.lean, 'card_holds'). Laid BY PROGRAM, IN A SANDBOX (cutbox-door.mjs). By AI agents, Wed Nov 11 2026. No macro, syntax, notation, axiom, sorry.
-/
import Derived.Test.YtgjmmbhakjalgaaDoorRows
import GoSem.ClaimSeven
namespace Go.Proofs.YtgjmmbhakjalgaaDoor
namespace Rows

/-- THE TIED CARD OF 'inlaylaw14.MapsTables'. -/
def mapsTablesCard : Claim7 := { stood := { row := mapsTablesRow, standIns := [], harness := (true, "db2d71ce7b54e3f2e1307df51f4db95b0f84d32113169ae3f2262ce1ad62ef6d"), looks := false }, kinds := [], alts := [], laidByText := true, laidKinds := [.data], laidTests := true, laidLooks := .later }
def MapsTablesCardSaid : Prop := Claim7.holds Tryd.pinned (.plain (OpenSpec.ofChange mapsTablesSpec)) mapsTablesCard

/-- THE SECOND FORM's CARD OF 'inlaylaw14.MapsTables'. -/
def mapsTablesUptoCard : Claim7 := { stood := { row := mapsTablesUptoRow, standIns := [], harness := (true, "db2d71ce7b54e3f2e1307df51f4db95b0f84d32113169ae3f2262ce1ad62ef6d"), looks := false }, kinds := [], alts := [], laidByText := true, laidKinds := [.data], laidTests := true, laidLooks := .later }
def MapsTablesUptoCardSaid : Prop := Claim7.holds Tryd.pinned (.plain (OpenSpec.upto mapsTablesSpec)) mapsTablesUptoCard
end Rows
end Go.Proofs.YtgjmmbhakjalgaaDoor
