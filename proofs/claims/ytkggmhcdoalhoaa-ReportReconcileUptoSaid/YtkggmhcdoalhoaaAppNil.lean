/- append of nothing. -/
import Derived.Test.YtkggmhcdoalhoaaRowE
namespace Go.Proofs.Ytkggmhcdoalhoaa
set_option linter.unusedVariables false
set_option linter.unusedSimpArgs false
open Go.RowKit
section
variable {α : Type} {E : Enc α} {P : Program} {T S : TypeId} {bytes : Nat}
theorem append_none (t : ElT P E T S bytes) {w : World} {B : Nat} {v : Value} {xs : List α} (a : RowE E T w B v xs) (ao : Option Addr) (cap : Nat) : (Builtin.append_ #[S, S] S #[v, .slice ao 0 cap]).run P w = .ok v w := by
  obtain ⟨hu, i, z, hi, hz, hz2, hs, hb⟩ := t
  have hsz : (Go.sizeOf T).run P w = .ok E.k w := by simp [Go.sizeOf, typeInfo, hi, hs]
  rcases a with ⟨rfl, rfl⟩ | ⟨g, c, cur, rfl, hg, hh, h1, h2, h3, h4⟩
  · cases ao <;> simp [Builtin.append_, run_underlying hu, hsz, Builtin.firstCells, Builtin.lenOf, Result.andThen, loadCells, loadCellsFrom]
  · cases ao <;> simp [Builtin.append_, run_underlying hu, hsz, Builtin.firstCells, Builtin.lenOf, Result.andThen, h1, storeCells, loadCells, loadCellsFrom]
end
end Go.Proofs.Ytkggmhcdoalhoaa
