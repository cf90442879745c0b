/- what the listed package variable of the library gives: the handle of the type error; a world that holds it. -/
import Derived.Test.YtkhhkbigpaoinaaDoorPlain
import Derived.Test.YtkhhkbigpaoinaaDoorRows
import Derived.LaidHandle
import Derived.LaidLaws
import Derived.Deep.DeepHandedRow
namespace Go.Proofs.YtkhhkbigpaoinaaDoor
set_option linter.unusedVariables false
set_option linter.unusedSimpArgs false
open Go.RowKit


def laidAll : List (String × DataW Unit) := [("errors.errorType", Rows.laid_errors_errorType)]
theorem laidParts {W : World} (h : laidMetH Tryd.prog laidAll W) : handlesMet Tryd.prog [("errors.errorType", Rows.laid_errors_errorType)] W := h.2

theorem etGlob : Tryd.prog.globalNamed "errors.errorType" = some 0 := by kernel_rfl
theorem rtType : (Tryd.prog.cutTypes.find? (·.1 == "internal/reflectlite.rtype")).map (·.2) = some 114 := by kernel_rfl
theorem errRow : ((List.range Tryd.prog.types.size).filter fun t => Tryd.prog.rowNamed t [101, 114, 114, 111, 114]) = [28] := by kernel_rfl
theorem etype_of_laid {W : World} (h : laidMetH Tryd.prog laidAll W) : EType W := by
  obtain ⟨name, u, ty, e1, e2, e3, e4, e5⟩ := laidParts h _ (List.mem_singleton.2 rfl)
  have en : name = [101, 114, 114, 111, 114] := (Option.some.inj e1).symm
  subst en
  obtain rfl := Option.some.inj (rtType.symm.trans e2)
  have hm : ty ∈ (List.range Tryd.prog.types.size).filter fun t => Tryd.prog.rowNamed t [101, 114, 114, 111, 114] := List.mem_filter.2 ⟨List.mem_range.2 e3, e4⟩
  rw [errRow] at hm
  obtain rfl := List.mem_singleton.1 hm
  have hh : typeHandle Tryd.prog 28 = .pointer (some ⟨1, 28, none⟩) := by kernel_rfl
  rw [hh] at e5
  unfold EType
  simpa using World.var?_cell etGlob e5 0

/-- a world that holds it -/
noncomputable def laidWorld (os : Os) : World :=
  let w0 := World.holding Tryd.prog os ⟨#[], #[], []⟩
  { w0 with heap := w0.heap.modify 0 fun
      | .cells _ t frozen => .cells #[.iface 114 (.agg #[.pointer (some ⟨1, 28, none⟩)])] t frozen
      | o => o }
set_option maxRecDepth 100000 in
theorem laidWorld_met (os : Os) (args : Array Value) : laidMetH Tryd.prog laidAll ((laidWorld os).forCall (fun _ _ => 0) ⟨#[], args, []⟩).memory :=
  laidMetH_of_parts (laidMet_of_run' 8 (by kernel_rfl) (by kernel_rfl)) (by kernel_rfl)
end Go.Proofs.YtkhhkbigpaoinaaDoor
