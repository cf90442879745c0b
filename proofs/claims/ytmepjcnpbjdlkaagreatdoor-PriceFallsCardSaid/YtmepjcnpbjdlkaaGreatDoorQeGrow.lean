/- texts of this claim, laid together: Grow. -/
import Derived.Test.YtmepjcnpbjdlkaaGreatDoorQeWorksP
/- interest grows between coupon days: the plain law. -/
namespace Go.Proofs.YtmepjcnpbjdlkaaGreatDoor
set_option linter.unusedVariables false
set_option linter.unusedSimpArgs false
open Go.RowKit
attribute [local irreducible] Go.wpStill

theorem frac_self {f basis A B : Int} (h : FracIs f f basis A B) (h3 : basis ≤ 3) : A = 0 ∧ 0 < B := by
  rcases h with ⟨h1, h2, h3⟩ | ⟨h1, h2, h3⟩ | ⟨h1, h2, y, m, d, y', m', d', h3, h4, h5⟩
  · omega
  · omega
  · obtain ⟨rfl, rfl, rfl⟩ := h3.unique h4
    have : dayTo basis d d = mnI d 30 := by
      unfold dayTo mnI
      split
      · rfl
      · split <;> omega
    omega
end Go.Proofs.YtmepjcnpbjdlkaaGreatDoor
