/-
  DERIVED. GIVEN WITH THE SEED: THE CARDS: each row of YtenpakddifebbaaGreatDoorRows.lean that lists a variable, with what it lists TIED to the program's text (the seventh form; the later family's looks); each row that meets fmt, with fmt's text TOLD by the authors' own Lean function (tested against real Go, not proved from fmt's source: count such statements apart). THE CARD IS WHAT COUNTS. Prove the row's statement (the work); the ties are given (YtenpakddifebbaaGreatDoorTie.lean); close each card by the builder's one call (the guide's Derived/Test/ToyasCard.lean, 'card_holds'). Laid BY PROGRAM, IN A SANDBOX (cutbox-door.mjs). By AI agents, Wed Nov 11 2026. No macro, syntax, notation, axiom, sorry.
-/
import Derived.Test.YtenpakddifebbaaGreatDoorRows
import GoSem.ClaimSeven
namespace Go.Proofs.YtenpakddifebbaaGreatDoor
namespace Rows

/-- THE TIED CARD OF 'custodylaw02.CodesKnown'. -/
def codesKnownCard : Claim7 := { stood := { row := codesKnownRow, standIns := [], harness := (true, "bc654e606db04d3d9ffff8a0613daa38fd068678a83a63ca0e413c67edc2ae93"), looks := true }, kinds := [], alts := [], laidByText := true, laidKinds := [.data, .data, .data, .handle], laidTests := true, laidLooks := .later }
def CodesKnownCardSaid : Prop := Claim7.holds Tryz.pinned (.plain (OpenSpec.ofChange codesKnownSpec)) codesKnownCard

/-- THE SECOND FORM's CARD OF 'custodylaw02.CodesKnown'. -/
def codesKnownUptoCard : Claim7 := { stood := { row := codesKnownUptoRow, standIns := [], harness := (true, "bc654e606db04d3d9ffff8a0613daa38fd068678a83a63ca0e413c67edc2ae93"), looks := true }, kinds := [], alts := [], laidByText := true, laidKinds := [.data, .data, .data, .handle], laidTests := true, laidLooks := .later }
def CodesKnownUptoCardSaid : Prop := Claim7.holds Tryz.pinned (.plain (OpenSpec.upto codesKnownSpec)) codesKnownUptoCard
end Rows
end Go.Proofs.YtenpakddifebbaaGreatDoor
