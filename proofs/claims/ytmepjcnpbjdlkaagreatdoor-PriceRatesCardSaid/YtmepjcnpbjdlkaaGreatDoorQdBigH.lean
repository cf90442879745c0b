/- texts of this claim, laid together: BigH. -/
import Derived.Test.YtmepjcnpbjdlkaaGreatDoorQdBigG
/- big: divide by contract. -/
namespace Go.Proofs.YtmepjcnpbjdlkaaGreatDoor
set_option linter.unusedVariables false
set_option linter.unusedSimpArgs false
open Go.RowKit
attribute [local irreducible] Go.wpStill

namespace DG
theorem pow_b (j : Nat) : b ^ j = 2 ^ (32 * j) := by rw [Nat.pow_mul]; rfl
end DG
end Go.Proofs.YtmepjcnpbjdlkaaGreatDoor
