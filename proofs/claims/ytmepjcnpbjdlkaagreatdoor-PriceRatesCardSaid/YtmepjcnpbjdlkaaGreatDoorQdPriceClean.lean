/- texts of this claim, laid together: PriceClean. -/
import Derived.Test.YtmepjcnpbjdlkaaGreatDoorQdClA
/- the law PriceClean by contract. -/
namespace Go.Proofs.YtmepjcnpbjdlkaaGreatDoor
set_option linter.unusedVariables false
set_option linter.unusedSimpArgs false
open Go.RowKit
attribute [local irreducible] Go.wpStill

end Go.Proofs.YtmepjcnpbjdlkaaGreatDoor
