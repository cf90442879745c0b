/-
  DERIVED. GIVEN WITH THE SEED: THE CARDS: each row of YtkhhkbigpaoinaaDoorRows.lean that lists a variable, with what it lists TIED to the program's text (the seventh form; the later family's looks); each row that meets fmt, with fmt's text TOLD by the authors' own Lean function (tested against real Go, not proved from fmt's source: count such statements apart). THE CARD IS WHAT COUNTS. Prove the row's statement (the work); the ties are given (YtkhhkbigpaoinaaDoorTie.lean); close each card by the builder's one call (the guide's Derived/Test/ToyasCard.lean, 'card_holds'). Laid BY PROGRAM, IN A SANDBOX (cutbox-door.mjs). By AI agents, Wed Nov 11 2026. No macro, syntax, notation, axiom, sorry.
-/
import Derived.Test.YtkhhkbigpaoinaaDoorRows
import GoSem.ClaimSeven
namespace Go.Proofs.YtkhhkbigpaoinaaDoor
namespace Rows

/-- THE TIED CARD OF 'custodylaw30.DayAdmits'. -/
def dayAdmitsCard : Claim7 := { stood := { row := dayAdmitsRow, standIns := [], harness := (true, "ef88f190de0094291f5a1d7208f49d54411fb8c312a55ebaf17ed5d2a0184e39"), looks := true }, kinds := [], alts := [], laidByText := true, laidKinds := [.handle], laidTests := true, laidLooks := .later }
def DayAdmitsCardSaid : Prop := Claim7.holds Tryd.pinned (.plain (OpenSpec.ofChange dayAdmitsSpec)) dayAdmitsCard

/-- THE TIED CARD OF 'custodylaw30.DayNets'. -/
def dayNetsCard : Claim7 := { stood := { row := dayNetsRow, standIns := [], harness := (true, "ef88f190de0094291f5a1d7208f49d54411fb8c312a55ebaf17ed5d2a0184e39"), looks := true }, kinds := [], alts := [], laidByText := true, laidKinds := [.handle], laidTests := true, laidLooks := .later }
def DayNetsCardSaid : Prop := Claim7.holds Tryd.pinned (.plain (OpenSpec.ofChange dayNetsSpec)) dayNetsCard

/-- THE SECOND FORM's CARD OF 'custodylaw30.DayAdmits'. -/
def dayAdmitsUptoCard : Claim7 := { stood := { row := dayAdmitsUptoRow, standIns := [], harness := (true, "ef88f190de0094291f5a1d7208f49d54411fb8c312a55ebaf17ed5d2a0184e39"), looks := true }, kinds := [], alts := [], laidByText := true, laidKinds := [.handle], laidTests := true, laidLooks := .later }
def DayAdmitsUptoCardSaid : Prop := Claim7.holds Tryd.pinned (.plain (OpenSpec.upto dayAdmitsSpec)) dayAdmitsUptoCard

/-- THE SECOND FORM's CARD OF 'custodylaw30.DayNets'. -/
def dayNetsUptoCard : Claim7 := { stood := { row := dayNetsUptoRow, standIns := [], harness := (true, "ef88f190de0094291f5a1d7208f49d54411fb8c312a55ebaf17ed5d2a0184e39"), looks := true }, kinds := [], alts := [], laidByText := true, laidKinds := [.handle], laidTests := true, laidLooks := .later }
def DayNetsUptoCardSaid : Prop := Claim7.holds Tryd.pinned (.plain (OpenSpec.upto dayNetsSpec)) dayNetsUptoCard
end Rows
end Go.Proofs.YtkhhkbigpaoinaaDoor
