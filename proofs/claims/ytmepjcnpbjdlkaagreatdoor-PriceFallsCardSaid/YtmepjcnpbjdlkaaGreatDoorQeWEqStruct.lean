/- texts of this claim, laid together: WEqStruct, PPriceCleanx0. -/
import Derived.Test.YtmepjcnpbjdlkaaGreatDoorQeWLast
import Derived.Test.YtmepjcnpbjdlkaaGreatDoorQeWWords
import Derived.Test.YtmepjcnpbjdlkaaGreatDoorQeWTab
import Derived.Laws.StructEq
import Derived.Test.YtmepjcnpbjdlkaaGreatDoorProg
import Derived.Below
import Derived.Deep.Draws
import Derived.Deep.AppendLies
import Derived.Maps.AppendAt
import Derived.OwnWalk
import Derived.Laws.BytesArg
import Derived.Laws.MakeOwn
import Derived.Laws.OwnMore
import Derived.Deep.OwnRows
import Derived.Tactics
import Derived.Lib.ConvBytes
import Derived.Laws.Slices
import Derived.WalkKit
import Derived.KernelRfl
import Derived.RowKit3
import Derived.Deep.LoopGhost
import Derived.Deep.QuietTactic
import Derived.BigQuiet
import Derived.WideLaws
import Derived.Deep.DeepCutAuto
import Derived.Deep.CutBlock
import Derived.Deep.RegionHeld3
import Derived.Laws.Rows
import Derived.Lib.AppendStr
import Derived.ArgAppend
import Derived.Laws.IdiomCopy
import Derived.OrdersHeld
import Derived.Laws.BitsLemmas
import Derived.RowKit
/-! ### 53. '==' of structs as_ one Bool -/
namespace Go.Proofs.YtmepjcnpbjdlkaaGreatDoorW.PrintWords
open Go.RowKit
section
variable {P : Program} {d : Nat} {xs ys : Array Value} {f : Field} {fs : List Field} {a b : Value} {r s : Bool} {w : World}
end
end Go.Proofs.YtmepjcnpbjdlkaaGreatDoorW.PrintWords
namespace Go.Proofs.YtmepjcnpbjdlkaaGreatDoor.PPriceClean
open Go.RowKit Go.Proofs.YtmepjcnpbjdlkaaGreatDoorW.PrintWords Go.Proofs.YtmepjcnpbjdlkaaGreatDoorW.PrintLast Go.Proofs.YtmepjcnpbjdlkaaGreatDoorW.PrintMore
attribute [local go_sem] max2_int min2_int max_two min_two max_three min_three max_four min_four   -- for this text's walks alone
set_option linter.unusedVariables false
set_option linter.unusedSimpArgs false



def errW : Option Int → Value
  | none => .nilIface
  | some c => .iface 76 (.int .i64 c)
theorem errW_none : errW none = .nilIface := rfl
theorem errW_some (c : Int) : errW (some c) = .iface 76 (.int .i64 c) := rfl

theorem info38 : (Tryz.prog.info? 38).map (fun i => (i.zero, i.size, i.bytes)) = some (some (.int .u64 0), 1, 8) := by kernel_rfl
-- the values' own types

end Go.Proofs.YtmepjcnpbjdlkaaGreatDoor.PPriceClean
