/- texts of this claim, laid together: BigJ, BigK. -/
import Derived.Test.YtmepjcnpbjdlkaaGreatDoorQdBigI
import Derived.Test.YtmepjcnpbjdlkaaGreatDoorQdPriceA
import Derived.Deep.DeepCutAuto
import Derived.Deep.CutBlock
/- price.rounded by contract. -/
namespace Go.Proofs.YtmepjcnpbjdlkaaGreatDoor
set_option linter.unusedVariables false
set_option linter.unusedSimpArgs false
open Go.RowKit
attribute [local irreducible] Go.wpStill

end Go.Proofs.YtmepjcnpbjdlkaaGreatDoor
/- price.product by contract. -/
namespace Go.Proofs.YtmepjcnpbjdlkaaGreatDoor
set_option linter.unusedVariables false
set_option linter.unusedSimpArgs false
open Go.RowKit
attribute [local irreducible] Go.wpStill

theorem len_pow {x k : Nat} (h : x < 2 ^ (32 * k)) : (DG.dig x).length ≤ k := (DG.len_le_iff x k).2 (by rw [DG.pow_b]; exact h)
end Go.Proofs.YtmepjcnpbjdlkaaGreatDoor
