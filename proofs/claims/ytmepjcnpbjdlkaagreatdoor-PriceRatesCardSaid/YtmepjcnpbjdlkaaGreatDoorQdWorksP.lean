/- texts of this claim, laid together: WorksP, Parts. -/
import Derived.Test.YtmepjcnpbjdlkaaGreatDoorQdClA
/- the chapter's bond and bill; that they work. -/
namespace Go.Proofs.YtmepjcnpbjdlkaaGreatDoor
set_option linter.unusedVariables false
set_option linter.unusedSimpArgs false
open Go.RowKit
attribute [local irreducible] Go.wpStill

end Go.Proofs.YtmepjcnpbjdlkaaGreatDoor
/- two parts and the whole: the plain law; near. -/
namespace Go.Proofs.YtmepjcnpbjdlkaaGreatDoor
set_option linter.unusedVariables false
set_option linter.unusedSimpArgs false
open Go.RowKit
attribute [local irreducible] Go.wpStill

theorem div_parts (x y D : Nat) (hD : 0 < D) : (x + y) / D = x / D + y / D ∨ (x + y) / D = x / D + y / D + 1 := by
  have h1 := Nat.div_add_mod x D
  have h2 := Nat.div_add_mod y D
  have h3 := Nat.mod_lt x hD
  have h4 := Nat.mod_lt y hD
  have e : (x + y) / D = x / D + y / D + (x % D + y % D) / D := by
    rw [show x + y = (x % D + y % D) + D * (x / D + y / D) by rw [Nat.mul_add]; omega, Nat.add_mul_div_left _ _ hD]
    omega
  rw [e]
  by_cases h : x % D + y % D < D
  · left; rw [Nat.div_eq_of_lt h]; omega
  · right
    have : (x % D + y % D) / D = 1 := by
      rw [Nat.div_eq_iff hD]
      omega
    omega
end Go.Proofs.YtmepjcnpbjdlkaaGreatDoor
