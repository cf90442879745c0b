/- texts of this claim, laid together: DgR, DgS, DgT. -/
import Derived.Test.YtmepjcnpbjdlkaaGreatDoorQcDig
import Derived.Test.YtmepjcnpbjdlkaaGreatDoorQcPPriceCleanx5
import Derived.Laws.BitsLemmas
/- what the document's functions over lists of digits (as they are printed) come to, in numbers: plain. -/
namespace Go.Proofs.YtmepjcnpbjdlkaaGreatDoor
set_option linter.unusedVariables false
set_option linter.unusedSimpArgs false
open Go.RowKit Go.Proofs.YtmepjcnpbjdlkaaGreatDoorW.PrintWords Go.Proofs.YtmepjcnpbjdlkaaGreatDoorW.PrintLast Go.Proofs.YtmepjcnpbjdlkaaGreatDoorW.PrintMore
namespace DG
open PPriceClean
/-- digits as Go's whole numbers -/
def I (ds : List Nat) : List Int := ds.map fun d : Nat => (d : Int)
theorem rd_I (ds : List Nat) (n : Nat) : rd (I ds) (n : Int) = ((ds.getD n 0 : Nat) : Int) := by
  unfold rd I
  rw [List.getD_eq_getElem?_getD, List.getD_eq_getElem?_getD, List.getElem?_map, Int.toNat_natCast]
  cases ds[n]? <;> rfl
end DG
end Go.Proofs.YtmepjcnpbjdlkaaGreatDoor
/- differences, doubles, bits of the document's lists of digits: plain. -/
namespace Go.Proofs.YtmepjcnpbjdlkaaGreatDoor
set_option linter.unusedVariables false
set_option linter.unusedSimpArgs false
open Go.RowKit Go.Proofs.YtmepjcnpbjdlkaaGreatDoorW.PrintWords Go.Proofs.YtmepjcnpbjdlkaaGreatDoorW.PrintLast Go.Proofs.YtmepjcnpbjdlkaaGreatDoorW.PrintMore
namespace DG
open PPriceClean
end DG
end Go.Proofs.YtmepjcnpbjdlkaaGreatDoor
/- quotients of lists of digits, rounded: plain. -/
namespace Go.Proofs.YtmepjcnpbjdlkaaGreatDoor
set_option linter.unusedVariables false
set_option linter.unusedSimpArgs false
open Go.RowKit Go.Proofs.YtmepjcnpbjdlkaaGreatDoorW.PrintWords Go.Proofs.YtmepjcnpbjdlkaaGreatDoorW.PrintLast Go.Proofs.YtmepjcnpbjdlkaaGreatDoorW.PrintMore
namespace DG
open PPriceClean
end DG
end Go.Proofs.YtmepjcnpbjdlkaaGreatDoor
