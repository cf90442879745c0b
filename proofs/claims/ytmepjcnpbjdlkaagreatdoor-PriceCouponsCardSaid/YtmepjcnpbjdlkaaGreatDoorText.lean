/- isin, lei (the first bytes of a text as an array), Text of either, Head: by contract. -/
import Derived.Test.YtmepjcnpbjdlkaaGreatDoorBuilder
import Derived.Test.YtmepjcnpbjdlkaaGreatDoorShelf
namespace Go.Proofs.YtmepjcnpbjdlkaaGreatDoor
set_option linter.unusedVariables false
set_option linter.unusedSimpArgs false
open Go.RowKit Go.Shelf

/-- bytes as cells -/
def bytesV (l : List UInt8) : Array Value := (l.map fun c => Value.int .u8 (c.toNat : Nat)).toArray
/-- the first n bytes, then zeros -/
def fixed (n : Nat) (l : List UInt8) : List UInt8 := (List.range n).map fun i => l.getD i 0
theorem fixed_length (n l) : (fixed n l).length = n := by simp [fixed]
theorem arrV_fixed (n l) : arrV n l n = bytesV (fixed n l) := by
  unfold arrV bytesV fixed
  rw [List.map_map]
  congr 1
  apply List.map_congr_left
  intro i hi
  have := List.mem_range.1 hi
  simp [this]
theorem bytesV_size (l) : (bytesV l).size = l.length := by simp [bytesV]
theorem bytesV_get (l : List UInt8) (k : Nat) (h : k < l.length) : (bytesV l)[k]? = some (.int .u8 (l[k].toNat : Nat)) := by
  simp [bytesV, h]
theorem bytesV_one (l) : (bytesV l).all (·.oneCell') = true := by
  rw [Array.all_eq_true_iff_forall_mem]
  intro v hv
  simp [bytesV] at hv
  obtain ⟨c, _, rfl⟩ := hv
  rfl
theorem byteCells_snoc (l : List UInt8) (c : UInt8) : Lib.byteCells l ++ [.int .u8 (c.toNat : Nat)] = Lib.byteCells (l ++ [c]) := by
  simp [Lib.byteCells]
end Go.Proofs.YtmepjcnpbjdlkaaGreatDoor
