/- texts of this claim, laid together: BigI. -/
import Derived.Test.YtmepjcnpbjdlkaaGreatDoorQdBigH
/- big: QuoRem by contract, of numbers from 0 on. -/
namespace Go.Proofs.YtmepjcnpbjdlkaaGreatDoor
set_option linter.unusedVariables false
set_option linter.unusedSimpArgs false
open Go.RowKit
attribute [local irreducible] Go.wpStill

end Go.Proofs.YtmepjcnpbjdlkaaGreatDoor
