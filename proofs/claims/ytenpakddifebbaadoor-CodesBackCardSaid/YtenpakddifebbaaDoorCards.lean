/-
  DERIVED. GIVEN WITH THE SEED: THE CARDS: each row of YtenpakddifebbaaDoorRows.lean that lists a variable, with what it lists TIED to the program's text (the seventh form; the later family's looks); each row that meets fmt, with fmt's text TOLD by the authors' own Lean function (tested against real Go, not proved from fmt's source: count such statements apart). THE CARD IS WHAT COUNTS. Prove the row's statement (the work); the ties are given (YtenpakddifebbaaDoorTie.lean); close each card by the builder's one call (the guide's Derived/Test/ToyasCard.lean, 'card_holds'). Laid BY PROGRAM, IN A SANDBOX (cutbox-door.mjs). By AI agents, Wed Nov 11 2026. No macro, syntax, notation, axiom, sorry.
-/
import Derived.Test.YtenpakddifebbaaDoorRows
import GoSem.ClaimSeven
namespace Go.Proofs.YtenpakddifebbaaDoor
namespace Rows

/-- THE TIED CARD OF 'custodylaw02.CodesIsin'. -/
def codesIsinCard : Claim7 := { stood := { row := codesIsinRow, standIns := [], harness := (true, "1ef9fd18b92e23c8b6bc67678cc2888ee42caf42928d13efea3e526dee0a5df7"), looks := true }, kinds := [], alts := [], laidByText := true, laidKinds := [.data, .data, .data, .handle], laidTests := true, laidLooks := .later }
def CodesIsinCardSaid : Prop := Claim7.holds Tryd.pinned (.plain (OpenSpec.ofChange codesIsinSpec)) codesIsinCard

/-- THE TIED CARD OF 'custodylaw02.CodesLuhn'. -/
def codesLuhnCard : Claim7 := { stood := { row := codesLuhnRow, standIns := [], harness := (true, "1ef9fd18b92e23c8b6bc67678cc2888ee42caf42928d13efea3e526dee0a5df7"), looks := true }, kinds := [], alts := [], laidByText := true, laidKinds := [.data, .data, .data, .handle], laidTests := true, laidLooks := .later }
def CodesLuhnCardSaid : Prop := Claim7.holds Tryd.pinned (.plain (OpenSpec.ofChange codesLuhnSpec)) codesLuhnCard

/-- THE TIED CARD OF 'custodylaw02.CodesLei'. -/
def codesLeiCard : Claim7 := { stood := { row := codesLeiRow, standIns := [], harness := (true, "1ef9fd18b92e23c8b6bc67678cc2888ee42caf42928d13efea3e526dee0a5df7"), looks := true }, kinds := [], alts := [], laidByText := true, laidKinds := [.data, .data, .data, .handle], laidTests := true, laidLooks := .later }
def CodesLeiCardSaid : Prop := Claim7.holds Tryd.pinned (.plain (OpenSpec.ofChange codesLeiSpec)) codesLeiCard

/-- THE TIED CARD OF 'custodylaw02.CodesForms'. -/
def codesFormsCard : Claim7 := { stood := { row := codesFormsRow, standIns := [], harness := (true, "1ef9fd18b92e23c8b6bc67678cc2888ee42caf42928d13efea3e526dee0a5df7"), looks := true }, kinds := [], alts := [], laidByText := true, laidKinds := [.data, .data, .data, .handle], laidTests := true, laidLooks := .later }
def CodesFormsCardSaid : Prop := Claim7.holds Tryd.pinned (.plain (OpenSpec.ofChange codesFormsSpec)) codesFormsCard

/-- THE TIED CARD OF 'custodylaw02.CodesMod97'. -/
def codesMod97Card : Claim7 := { stood := { row := codesMod97Row, standIns := [], harness := (true, "1ef9fd18b92e23c8b6bc67678cc2888ee42caf42928d13efea3e526dee0a5df7"), looks := true }, kinds := [], alts := [], laidByText := true, laidKinds := [.data, .data, .data, .handle], laidTests := true, laidLooks := .later }
def CodesMod97CardSaid : Prop := Claim7.holds Tryd.pinned (.plain (OpenSpec.ofChange codesMod97Spec)) codesMod97Card

/-- THE TIED CARD OF 'custodylaw02.CodesBack'. -/
def codesBackCard : Claim7 := { stood := { row := codesBackRow, standIns := [], harness := (true, "1ef9fd18b92e23c8b6bc67678cc2888ee42caf42928d13efea3e526dee0a5df7"), looks := true }, kinds := [], alts := [], laidByText := true, laidKinds := [.data, .data, .data, .handle], laidTests := true, laidLooks := .later }
def CodesBackCardSaid : Prop := Claim7.holds Tryd.pinned (.plain (OpenSpec.ofChange codesBackSpec)) codesBackCard

/-- THE SECOND FORM's CARD OF 'custodylaw02.CodesIsin'. -/
def codesIsinUptoCard : Claim7 := { stood := { row := codesIsinUptoRow, standIns := [], harness := (true, "1ef9fd18b92e23c8b6bc67678cc2888ee42caf42928d13efea3e526dee0a5df7"), looks := true }, kinds := [], alts := [], laidByText := true, laidKinds := [.data, .data, .data, .handle], laidTests := true, laidLooks := .later }
def CodesIsinUptoCardSaid : Prop := Claim7.holds Tryd.pinned (.plain (OpenSpec.upto codesIsinSpec)) codesIsinUptoCard

/-- THE SECOND FORM's CARD OF 'custodylaw02.CodesLuhn'. -/
def codesLuhnUptoCard : Claim7 := { stood := { row := codesLuhnUptoRow, standIns := [], harness := (true, "1ef9fd18b92e23c8b6bc67678cc2888ee42caf42928d13efea3e526dee0a5df7"), looks := true }, kinds := [], alts := [], laidByText := true, laidKinds := [.data, .data, .data, .handle], laidTests := true, laidLooks := .later }
def CodesLuhnUptoCardSaid : Prop := Claim7.holds Tryd.pinned (.plain (OpenSpec.upto codesLuhnSpec)) codesLuhnUptoCard

/-- THE SECOND FORM's CARD OF 'custodylaw02.CodesLei'. -/
def codesLeiUptoCard : Claim7 := { stood := { row := codesLeiUptoRow, standIns := [], harness := (true, "1ef9fd18b92e23c8b6bc67678cc2888ee42caf42928d13efea3e526dee0a5df7"), looks := true }, kinds := [], alts := [], laidByText := true, laidKinds := [.data, .data, .data, .handle], laidTests := true, laidLooks := .later }
def CodesLeiUptoCardSaid : Prop := Claim7.holds Tryd.pinned (.plain (OpenSpec.upto codesLeiSpec)) codesLeiUptoCard

/-- THE SECOND FORM's CARD OF 'custodylaw02.CodesForms'. -/
def codesFormsUptoCard : Claim7 := { stood := { row := codesFormsUptoRow, standIns := [], harness := (true, "1ef9fd18b92e23c8b6bc67678cc2888ee42caf42928d13efea3e526dee0a5df7"), looks := true }, kinds := [], alts := [], laidByText := true, laidKinds := [.data, .data, .data, .handle], laidTests := true, laidLooks := .later }
def CodesFormsUptoCardSaid : Prop := Claim7.holds Tryd.pinned (.plain (OpenSpec.upto codesFormsSpec)) codesFormsUptoCard

/-- THE SECOND FORM's CARD OF 'custodylaw02.CodesMod97'. -/
def codesMod97UptoCard : Claim7 := { stood := { row := codesMod97UptoRow, standIns := [], harness := (true, "1ef9fd18b92e23c8b6bc67678cc2888ee42caf42928d13efea3e526dee0a5df7"), looks := true }, kinds := [], alts := [], laidByText := true, laidKinds := [.data, .data, .data, .handle], laidTests := true, laidLooks := .later }
def CodesMod97UptoCardSaid : Prop := Claim7.holds Tryd.pinned (.plain (OpenSpec.upto codesMod97Spec)) codesMod97UptoCard

/-- THE SECOND FORM's CARD OF 'custodylaw02.CodesBack'. -/
def codesBackUptoCard : Claim7 := { stood := { row := codesBackUptoRow, standIns := [], harness := (true, "1ef9fd18b92e23c8b6bc67678cc2888ee42caf42928d13efea3e526dee0a5df7"), looks := true }, kinds := [], alts := [], laidByText := true, laidKinds := [.data, .data, .data, .handle], laidTests := true, laidLooks := .later }
def CodesBackUptoCardSaid : Prop := Claim7.holds Tryd.pinned (.plain (OpenSpec.upto codesBackSpec)) codesBackUptoCard
end Rows
end Go.Proofs.YtenpakddifebbaaDoor
