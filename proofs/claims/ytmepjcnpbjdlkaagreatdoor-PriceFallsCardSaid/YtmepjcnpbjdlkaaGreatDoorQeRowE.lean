/- texts of this claim, laid together: RowE. -/
import Derived.Test.YtmepjcnpbjdlkaaGreatDoorQeBase
import Derived.ArgAppend
import Derived.Laws.AppendOwn
/- lists of elements of k cells each, in memory: read, made, appended to. Generic over the elements. -/
namespace Go.Proofs.YtmepjcnpbjdlkaaGreatDoor
set_option linter.unusedVariables false
set_option linter.unusedSimpArgs false
open Go.RowKit

/-- how an element lies in memory -/
structure Enc (α : Type) where
  enc : α → List Value
  k : Nat
  pos : 0 < k
  len : ∀ x, (enc x).length = k
  one : ∀ x u, u ∈ enc x → u.oneCell' = true

section
variable {α : Type} {E : Enc α}
theorem addr_add (g o j : Nat) : (⟨g, o, none⟩ : Addr).add j = ⟨g, o + j, none⟩ := by unfold Addr.add; split <;> simp_all

variable {T : TypeId}
variable {P : Program} {S : TypeId} {bytes : Nat}
/-! ### '==' of structs of whole numbers -/
end
end Go.Proofs.YtmepjcnpbjdlkaaGreatDoor
