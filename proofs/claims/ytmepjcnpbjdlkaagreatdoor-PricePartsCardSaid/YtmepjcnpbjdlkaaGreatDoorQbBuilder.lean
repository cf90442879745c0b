/- texts of this claim, laid together: Builder, Text. -/
import Derived.Test.YtmepjcnpbjdlkaaGreatDoorQbBase
import Derived.Test.YtmepjcnpbjdlkaaGreatDoorQbShelf
import Derived.Lib.Builder
import Derived.Shelf.Strings.Builder1
/- A strings.Builder of the call's own: WriteByte and String by contract. -/
namespace Go.Proofs.YtmepjcnpbjdlkaaGreatDoor
set_option linter.unusedVariables false
set_option linter.unusedSimpArgs false
open Go.RowKit Go.Shelf

end Go.Proofs.YtmepjcnpbjdlkaaGreatDoor
/- isin, lei (the first bytes of a text as an array), Text of either, Head: by contract. -/
namespace Go.Proofs.YtmepjcnpbjdlkaaGreatDoor
set_option linter.unusedVariables false
set_option linter.unusedSimpArgs false
open Go.RowKit Go.Shelf

/-- bytes as cells -/
def bytesV (l : List UInt8) : Array Value := (l.map fun c => Value.int .u8 (c.toNat : Nat)).toArray
theorem bytesV_size (l) : (bytesV l).size = l.length := by simp [bytesV]
theorem bytesV_one (l) : (bytesV l).all (·.oneCell') = true := by
  rw [Array.all_eq_true_iff_forall_mem]
  intro v hv
  simp [bytesV] at hv
  obtain ⟨c, _, rfl⟩ := hv
  rfl
end Go.Proofs.YtmepjcnpbjdlkaaGreatDoor
