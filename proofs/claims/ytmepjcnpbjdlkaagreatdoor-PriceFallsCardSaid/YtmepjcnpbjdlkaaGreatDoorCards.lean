/-
  DERIVED. GIVEN WITH THE SEED: THE CARDS: each row of YtmepjcnpbjdlkaaGreatDoorRows.lean that lists a variable, with what it lists TIED to the program's text (the seventh form; the later family's looks); each row that meets fmt, with fmt's text TOLD by the authors' own Lean function (tested against real Go, not proved from fmt's source: count such statements apart). THE CARD IS WHAT COUNTS. Prove the row's statement (the work); the ties are given (YtmepjcnpbjdlkaaGreatDoorTie.lean); close each card by the builder's one call (the guide's Derived/Test/ToyasCard.lean, 'card_holds'). Laid BY PROGRAM, IN A SANDBOX (cutbox-door.mjs). By AI agents, Wed Nov 11 2026. No macro, syntax, notation, axiom, sorry.
-/
import Derived.Test.YtmepjcnpbjdlkaaGreatDoorRows
import GoSem.ClaimSeven
namespace Go.Proofs.YtmepjcnpbjdlkaaGreatDoor
namespace Rows

/-- THE TIED CARD OF 'custodylaw04.PriceCoupons'. -/
def priceCouponsCard : Claim7 := { stood := { row := priceCouponsRow, standIns := [], harness := (true, "6041e28f1f6839ef35eea3c4d264f7218f13695187defbe694c5d3434b291d6f"), looks := true }, kinds := [], alts := [], laidByText := true, laidKinds := [.data, .data, .data, .handle], laidTests := true, laidLooks := .later }
def PriceCouponsCardSaid : Prop := Claim7.holds Tryz.pinned (.plain (OpenSpec.ofChange priceCouponsSpec)) priceCouponsCard

/-- THE TIED CARD OF 'custodylaw04.PriceRates'. -/
def priceRatesCard : Claim7 := { stood := { row := priceRatesRow, standIns := [], harness := (true, "6041e28f1f6839ef35eea3c4d264f7218f13695187defbe694c5d3434b291d6f"), looks := true }, kinds := [], alts := [], laidByText := true, laidKinds := [.data, .data, .data, .handle], laidTests := true, laidLooks := .later }
def PriceRatesCardSaid : Prop := Claim7.holds Tryz.pinned (.plain (OpenSpec.ofChange priceRatesSpec)) priceRatesCard

/-- THE TIED CARD OF 'custodylaw04.PriceGrows'. -/
def priceGrowsCard : Claim7 := { stood := { row := priceGrowsRow, standIns := [], harness := (true, "6041e28f1f6839ef35eea3c4d264f7218f13695187defbe694c5d3434b291d6f"), looks := true }, kinds := [], alts := [], laidByText := true, laidKinds := [.data, .data, .data], laidTests := true, laidLooks := .later }
def PriceGrowsCardSaid : Prop := Claim7.holds Tryz.pinned (.plain (OpenSpec.ofChange priceGrowsSpec)) priceGrowsCard

/-- THE TIED CARD OF 'custodylaw04.PriceAccrued'. -/
def priceAccruedCard : Claim7 := { stood := { row := priceAccruedRow, standIns := [], harness := (true, "6041e28f1f6839ef35eea3c4d264f7218f13695187defbe694c5d3434b291d6f"), looks := true }, kinds := [], alts := [], laidByText := true, laidKinds := [.data, .data, .data, .handle], laidTests := true, laidLooks := .later }
def PriceAccruedCardSaid : Prop := Claim7.holds Tryz.pinned (.plain (OpenSpec.ofChange priceAccruedSpec)) priceAccruedCard

/-- THE TIED CARD OF 'custodylaw04.PriceParts'. -/
def pricePartsCard : Claim7 := { stood := { row := pricePartsRow, standIns := [], harness := (true, "6041e28f1f6839ef35eea3c4d264f7218f13695187defbe694c5d3434b291d6f"), looks := true }, kinds := [], alts := [], laidByText := true, laidKinds := [.data, .data, .data, .handle], laidTests := true, laidLooks := .later }
def PricePartsCardSaid : Prop := Claim7.holds Tryz.pinned (.plain (OpenSpec.ofChange pricePartsSpec)) pricePartsCard

/-- THE TIED CARD OF 'custodylaw04.PriceClean'. -/
def priceCleanCard : Claim7 := { stood := { row := priceCleanRow, standIns := [], harness := (true, "6041e28f1f6839ef35eea3c4d264f7218f13695187defbe694c5d3434b291d6f"), looks := true }, kinds := [], alts := [], laidByText := true, laidKinds := [.data, .data, .data, .handle], laidTests := true, laidLooks := .later }
def PriceCleanCardSaid : Prop := Claim7.holds Tryz.pinned (.plain (OpenSpec.ofChange priceCleanSpec)) priceCleanCard

/-- THE TIED CARD OF 'custodylaw04.PriceFalls'. -/
def priceFallsCard : Claim7 := { stood := { row := priceFallsRow, standIns := [], harness := (true, "6041e28f1f6839ef35eea3c4d264f7218f13695187defbe694c5d3434b291d6f"), looks := true }, kinds := [], alts := [], laidByText := true, laidKinds := [.data, .data, .data, .handle], laidTests := true, laidLooks := .later }
def PriceFallsCardSaid : Prop := Claim7.holds Tryz.pinned (.plain (OpenSpec.ofChange priceFallsSpec)) priceFallsCard

/-- THE TIED CARD OF 'custodylaw04.PriceKnown'. -/
def priceKnownCard : Claim7 := { stood := { row := priceKnownRow, standIns := [], harness := (true, "6041e28f1f6839ef35eea3c4d264f7218f13695187defbe694c5d3434b291d6f"), looks := true }, kinds := [], alts := [], laidByText := true, laidKinds := [.data, .data, .data, .handle], laidTests := true, laidLooks := .later }
def PriceKnownCardSaid : Prop := Claim7.holds Tryz.pinned (.plain (OpenSpec.ofChange priceKnownSpec)) priceKnownCard

/-- THE SECOND FORM's CARD OF 'custodylaw04.PriceCoupons'. -/
def priceCouponsUptoCard : Claim7 := { stood := { row := priceCouponsUptoRow, standIns := [], harness := (true, "6041e28f1f6839ef35eea3c4d264f7218f13695187defbe694c5d3434b291d6f"), looks := true }, kinds := [], alts := [], laidByText := true, laidKinds := [.data, .data, .data, .handle], laidTests := true, laidLooks := .later }
def PriceCouponsUptoCardSaid : Prop := Claim7.holds Tryz.pinned (.plain (OpenSpec.upto priceCouponsSpec)) priceCouponsUptoCard

/-- THE SECOND FORM's CARD OF 'custodylaw04.PriceRates'. -/
def priceRatesUptoCard : Claim7 := { stood := { row := priceRatesUptoRow, standIns := [], harness := (true, "6041e28f1f6839ef35eea3c4d264f7218f13695187defbe694c5d3434b291d6f"), looks := true }, kinds := [], alts := [], laidByText := true, laidKinds := [.data, .data, .data, .handle], laidTests := true, laidLooks := .later }
def PriceRatesUptoCardSaid : Prop := Claim7.holds Tryz.pinned (.plain (OpenSpec.upto priceRatesSpec)) priceRatesUptoCard

/-- THE SECOND FORM's CARD OF 'custodylaw04.PriceGrows'. -/
def priceGrowsUptoCard : Claim7 := { stood := { row := priceGrowsUptoRow, standIns := [], harness := (true, "6041e28f1f6839ef35eea3c4d264f7218f13695187defbe694c5d3434b291d6f"), looks := true }, kinds := [], alts := [], laidByText := true, laidKinds := [.data, .data, .data], laidTests := true, laidLooks := .later }
def PriceGrowsUptoCardSaid : Prop := Claim7.holds Tryz.pinned (.plain (OpenSpec.upto priceGrowsSpec)) priceGrowsUptoCard

/-- THE SECOND FORM's CARD OF 'custodylaw04.PriceAccrued'. -/
def priceAccruedUptoCard : Claim7 := { stood := { row := priceAccruedUptoRow, standIns := [], harness := (true, "6041e28f1f6839ef35eea3c4d264f7218f13695187defbe694c5d3434b291d6f"), looks := true }, kinds := [], alts := [], laidByText := true, laidKinds := [.data, .data, .data, .handle], laidTests := true, laidLooks := .later }
def PriceAccruedUptoCardSaid : Prop := Claim7.holds Tryz.pinned (.plain (OpenSpec.upto priceAccruedSpec)) priceAccruedUptoCard

/-- THE SECOND FORM's CARD OF 'custodylaw04.PriceParts'. -/
def pricePartsUptoCard : Claim7 := { stood := { row := pricePartsUptoRow, standIns := [], harness := (true, "6041e28f1f6839ef35eea3c4d264f7218f13695187defbe694c5d3434b291d6f"), looks := true }, kinds := [], alts := [], laidByText := true, laidKinds := [.data, .data, .data, .handle], laidTests := true, laidLooks := .later }
def PricePartsUptoCardSaid : Prop := Claim7.holds Tryz.pinned (.plain (OpenSpec.upto pricePartsSpec)) pricePartsUptoCard

/-- THE SECOND FORM's CARD OF 'custodylaw04.PriceClean'. -/
def priceCleanUptoCard : Claim7 := { stood := { row := priceCleanUptoRow, standIns := [], harness := (true, "6041e28f1f6839ef35eea3c4d264f7218f13695187defbe694c5d3434b291d6f"), looks := true }, kinds := [], alts := [], laidByText := true, laidKinds := [.data, .data, .data, .handle], laidTests := true, laidLooks := .later }
def PriceCleanUptoCardSaid : Prop := Claim7.holds Tryz.pinned (.plain (OpenSpec.upto priceCleanSpec)) priceCleanUptoCard

/-- THE SECOND FORM's CARD OF 'custodylaw04.PriceFalls'. -/
def priceFallsUptoCard : Claim7 := { stood := { row := priceFallsUptoRow, standIns := [], harness := (true, "6041e28f1f6839ef35eea3c4d264f7218f13695187defbe694c5d3434b291d6f"), looks := true }, kinds := [], alts := [], laidByText := true, laidKinds := [.data, .data, .data, .handle], laidTests := true, laidLooks := .later }
def PriceFallsUptoCardSaid : Prop := Claim7.holds Tryz.pinned (.plain (OpenSpec.upto priceFallsSpec)) priceFallsUptoCard

/-- THE SECOND FORM's CARD OF 'custodylaw04.PriceKnown'. -/
def priceKnownUptoCard : Claim7 := { stood := { row := priceKnownUptoRow, standIns := [], harness := (true, "6041e28f1f6839ef35eea3c4d264f7218f13695187defbe694c5d3434b291d6f"), looks := true }, kinds := [], alts := [], laidByText := true, laidKinds := [.data, .data, .data, .handle], laidTests := true, laidLooks := .later }
def PriceKnownUptoCardSaid : Prop := Claim7.holds Tryz.pinned (.plain (OpenSpec.upto priceKnownSpec)) priceKnownUptoCard
end Rows
end Go.Proofs.YtmepjcnpbjdlkaaGreatDoor
