/- texts of this claim, laid together: BigA, BigB, BigC, BigD, BigE. -/
import Derived.Test.YtmepjcnpbjdlkaaGreatDoorQdDig
import Derived.Test.YtmepjcnpbjdlkaaGreatDoorQdBase
import Derived.Laws.MakeOwn
/- big: words of 32 bits in memory; at, Add32, Sub32, small by contract. -/
namespace Go.Proofs.YtmepjcnpbjdlkaaGreatDoor
set_option linter.unusedVariables false
set_option linter.unusedSimpArgs false
open Go.RowKit
attribute [local irreducible] Go.wpStill

/-- a word -/
def wd (d : Nat) : Value := .int .u32 (d : Int)
end Go.Proofs.YtmepjcnpbjdlkaaGreatDoor
/- big: order, plus, minus of words by contract. -/
namespace Go.Proofs.YtmepjcnpbjdlkaaGreatDoor
set_option linter.unusedVariables false
set_option linter.unusedSimpArgs false
open Go.RowKit
attribute [local irreducible] Go.wpStill

/-- the greater of two -/
def mxI (a b : Int) : Int := if a < b then b else a
theorem max2_mx (k k' : IntKind) (x y : Int) : Builtin.max2 (.int k x) (.int k' y) = pure (.int k (mxI x y)) := by simp only [Builtin.max2, gt_iff_lt, mxI]
theorem max_mx (ats : Array TypeId) (ty : TypeId) (a b : Value) : Builtin.max_ ats ty #[a, b] = (Builtin.max2 a b >>= fun s => pure s) := by simp only [Builtin.max_, List.foldlM_cons, List.foldlM_nil]
attribute [local go_sem] max2_mx max_mx
end Go.Proofs.YtmepjcnpbjdlkaaGreatDoor
/- big: a whole number in memory; to, NewInt by contract. -/
namespace Go.Proofs.YtmepjcnpbjdlkaaGreatDoor
set_option linter.unusedVariables false
set_option linter.unusedSimpArgs false
open Go.RowKit
attribute [local irreducible] Go.wpStill

end Go.Proofs.YtmepjcnpbjdlkaaGreatDoor
/- big: NewInt, Sign, Bit, IsInt64, Int64 by contract, of numbers from 0 on. -/
namespace Go.Proofs.YtmepjcnpbjdlkaaGreatDoor
set_option linter.unusedVariables false
set_option linter.unusedSimpArgs false
open Go.RowKit
attribute [local irreducible] Go.wpStill

end Go.Proofs.YtmepjcnpbjdlkaaGreatDoor
/- big: Lsh by one by contract. -/
namespace Go.Proofs.YtmepjcnpbjdlkaaGreatDoor
set_option linter.unusedVariables false
set_option linter.unusedSimpArgs false
open Go.RowKit
attribute [local irreducible] Go.wpStill

end Go.Proofs.YtmepjcnpbjdlkaaGreatDoor
