/- texts of this claim, laid together: DgR, DgS, DgT. -/
import Derived.Test.YtmepjcnpbjdlkaaGreatDoorQeDig
import Derived.Test.YtmepjcnpbjdlkaaGreatDoorQePPriceCleanx5
import Derived.Laws.BitsLemmas
/- what the document's functions over lists of digits (as they are printed) come to, in numbers: plain. -/
namespace Go.Proofs.YtmepjcnpbjdlkaaGreatDoor
set_option linter.unusedVariables false
set_option linter.unusedSimpArgs false
open Go.RowKit Go.Proofs.YtmepjcnpbjdlkaaGreatDoorW.PrintWords Go.Proofs.YtmepjcnpbjdlkaaGreatDoorW.PrintLast Go.Proofs.YtmepjcnpbjdlkaaGreatDoorW.PrintMore
namespace DG
open PPriceClean
end DG
end Go.Proofs.YtmepjcnpbjdlkaaGreatDoor
/- differences, doubles, bits of the document's lists of digits: plain. -/
namespace Go.Proofs.YtmepjcnpbjdlkaaGreatDoor
set_option linter.unusedVariables false
set_option linter.unusedSimpArgs false
open Go.RowKit Go.Proofs.YtmepjcnpbjdlkaaGreatDoorW.PrintWords Go.Proofs.YtmepjcnpbjdlkaaGreatDoorW.PrintLast Go.Proofs.YtmepjcnpbjdlkaaGreatDoorW.PrintMore
namespace DG
open PPriceClean
end DG
end Go.Proofs.YtmepjcnpbjdlkaaGreatDoor
/- quotients of lists of digits, rounded: plain. -/
namespace Go.Proofs.YtmepjcnpbjdlkaaGreatDoor
set_option linter.unusedVariables false
set_option linter.unusedSimpArgs false
open Go.RowKit Go.Proofs.YtmepjcnpbjdlkaaGreatDoorW.PrintWords Go.Proofs.YtmepjcnpbjdlkaaGreatDoorW.PrintLast Go.Proofs.YtmepjcnpbjdlkaaGreatDoorW.PrintMore
namespace DG
open PPriceClean
end DG
end Go.Proofs.YtmepjcnpbjdlkaaGreatDoor
