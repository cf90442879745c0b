/-
  DERIVED. GIVEN WITH THE SEED: THE CARDS: each row of YtmepjcnpbjdlkaaDoorRows.lean that lists a variable, with what it lists TIED to the program's text (the seventh form; the later family's looks); each row that meets fmt, with fmt's text TOLD by the authors' own Lean function (tested against real Go, not proved from fmt's source: count such statements apart). THE CARD IS WHAT COUNTS. Prove the row's statement (the work); the ties are given (YtmepjcnpbjdlkaaDoorTie.lean); close each card by the builder's one call (the guide's Derived/Test/ToyasCard.lean, 'card_holds'). Laid BY PROGRAM, IN A SANDBOX (cutbox-door.mjs). By AI agents, Wed Nov 11 2026. No macro, syntax, notation, axiom, sorry.
-/
import Derived.Test.YtmepjcnpbjdlkaaDoorRows
import GoSem.ClaimSeven
namespace Go.Proofs.YtmepjcnpbjdlkaaDoor
namespace Rows

/-- THE TIED CARD OF 'custodylaw04.PriceCheck'. -/
def priceCheckCard : Claim7 := { stood := { row := priceCheckRow, standIns := [], harness := (true, "f131b7ab4f613a25eed314a9fe31f888ccf38fdc98a980d96b26e45b81557d1d"), looks := true }, kinds := [], alts := [], laidByText := true, laidKinds := [.data, .data, .data, .handle], laidTests := true, laidLooks := .later }
def PriceCheckCardSaid : Prop := Claim7.holds Tryd.pinned (.plain (OpenSpec.ofChange priceCheckSpec)) priceCheckCard

/-- THE SECOND FORM's CARD OF 'custodylaw04.PriceCheck'. -/
def priceCheckUptoCard : Claim7 := { stood := { row := priceCheckUptoRow, standIns := [], harness := (true, "f131b7ab4f613a25eed314a9fe31f888ccf38fdc98a980d96b26e45b81557d1d"), looks := true }, kinds := [], alts := [], laidByText := true, laidKinds := [.data, .data, .data, .handle], laidTests := true, laidLooks := .later }
def PriceCheckUptoCardSaid : Prop := Claim7.holds Tryd.pinned (.plain (OpenSpec.upto priceCheckSpec)) priceCheckUptoCard
end Rows
end Go.Proofs.YtmepjcnpbjdlkaaDoor
