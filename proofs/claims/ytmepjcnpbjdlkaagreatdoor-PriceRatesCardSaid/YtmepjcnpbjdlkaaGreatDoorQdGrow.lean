/- texts of this claim, laid together: Grow, GrowA. -/
import Derived.Test.YtmepjcnpbjdlkaaGreatDoorQdWorksP
/- interest grows between coupon days: the plain law. -/
namespace Go.Proofs.YtmepjcnpbjdlkaaGreatDoor
set_option linter.unusedVariables false
set_option linter.unusedSimpArgs false
open Go.RowKit
attribute [local irreducible] Go.wpStill

end Go.Proofs.YtmepjcnpbjdlkaaGreatDoor
/- operations as they are carried out: index, sums. -/
namespace Go.Proofs.YtmepjcnpbjdlkaaGreatDoor
set_option linter.unusedVariables false
set_option linter.unusedSimpArgs false
open Go.RowKit
attribute [local irreducible] Go.wpStill
end Go.Proofs.YtmepjcnpbjdlkaaGreatDoor
