/-
  DERIVED. GIVEN WITH THE SEED: THE CARDS: each row of YtkeajfgcjmhmiaaGreatDoorRows.lean that lists a variable, with what it lists TIED to the program's text (the seventh form; the later family's looks); each row that meets fmt, with fmt's text TOLD by the authors' own Lean function (tested against real Go, not proved from fmt's source: count such statements apart). THE CARD IS WHAT COUNTS. Prove the row's statement (the work); the ties are given (YtkeajfgcjmhmiaaGreatDoorTie.lean); close each card by the builder's one call (the guide's Derived/Test/ToyasCard.lean, 'card_holds'). Laid BY PROGRAM, IN A SANDBOX (cutbox-door.mjs). By AI agents, Wed Nov 11 2026. No macro, syntax, notation, axiom, sorry.
-/
import Derived.Test.YtkeajfgcjmhmiaaGreatDoorRows
import GoSem.ClaimSeven
namespace Go.Proofs.YtkeajfgcjmhmiaaGreatDoor
namespace Rows

/-- THE TIED CARD OF 'laws.FnMaps'. -/
def fnMapsCard : Claim7 := { stood := { row := fnMapsRow, standIns := [], harness := (true, "a25af370edb1e39b53963fd18341ba5028f29ea9c3d41f51d11609fc7e0b35de"), looks := true }, kinds := [], alts := [], laidByText := true, laidKinds := [.data, .data, .data, .sentinel, .sentinel], laidTests := true, laidLooks := .later }
def FnMapsCardSaid : Prop := Claim7.holds Tryz.pinned (.plain (OpenSpec.ofChange fnMapsSpec)) fnMapsCard

/-- THE SECOND FORM's CARD OF 'laws.FnMaps'. -/
def fnMapsUptoCard : Claim7 := { stood := { row := fnMapsUptoRow, standIns := [], harness := (true, "a25af370edb1e39b53963fd18341ba5028f29ea9c3d41f51d11609fc7e0b35de"), looks := true }, kinds := [], alts := [], laidByText := true, laidKinds := [.data, .data, .data, .sentinel, .sentinel], laidTests := true, laidLooks := .later }
def FnMapsUptoCardSaid : Prop := Claim7.holds Tryz.pinned (.plain (OpenSpec.upto fnMapsSpec)) fnMapsUptoCard
end Rows
end Go.Proofs.YtkeajfgcjmhmiaaGreatDoor
