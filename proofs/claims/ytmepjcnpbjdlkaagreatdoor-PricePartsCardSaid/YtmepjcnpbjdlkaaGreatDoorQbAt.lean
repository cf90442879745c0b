/- texts of this claim, laid together: At. -/
import Derived.Test.YtmepjcnpbjdlkaaGreatDoorQbPlain
import Derived.Deep.RegionHeld3
/- custodykit's Place and At: by contract. -/
namespace Go.Proofs.YtmepjcnpbjdlkaaGreatDoor
set_option linter.unusedVariables false
set_option linter.unusedSimpArgs false
open Go.RowKit Go.Extern.Stop Go.Stop Go.Extern

end Go.Proofs.YtmepjcnpbjdlkaaGreatDoor
