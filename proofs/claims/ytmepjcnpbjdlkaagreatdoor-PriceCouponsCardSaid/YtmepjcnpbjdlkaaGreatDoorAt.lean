/- custodykit's Place and At: by contract. -/
import Derived.Test.YtmepjcnpbjdlkaaGreatDoorPlain
import Derived.Deep.RegionHeld3
namespace Go.Proofs.YtmepjcnpbjdlkaaGreatDoor
set_option linter.unusedVariables false
set_option linter.unusedSimpArgs false
open Go.RowKit Go.Extern.Stop Go.Stop Go.Extern

theorem place_step {w w2 w3 : World} {x y z : Value} (h : w2.cell? ⟨w.heap.size, 0, none⟩ = some x ∧ w2.cell? ⟨w.heap.size, 1, none⟩ = some y ∧ w2.cell? ⟨w.heap.size, 2, none⟩ = some z ∧ w.heap.size < w2.heap.size ∧ Below w.heap.size w w2)
    (hb : Below w2.heap.size w2 w3) : w3.cell? ⟨w.heap.size, 0, none⟩ = some x ∧ w3.cell? ⟨w.heap.size, 1, none⟩ = some y ∧ w3.cell? ⟨w.heap.size, 2, none⟩ = some z ∧ w.heap.size < w3.heap.size ∧ Below w.heap.size w w3 := by
  obtain ⟨h0, h1, h2, h3, h4⟩ := h
  refine ⟨?_, ?_, ?_, Nat.lt_of_lt_of_le h3 hb.size, h4.trans (hb.mono (Nat.le_of_lt h3))⟩
  · rw [hb.cell (p := ⟨w.heap.size, 0, none⟩) h3]; exact h0
  · rw [hb.cell (p := ⟨w.heap.size, 1, none⟩) h3]; exact h1
  · rw [hb.cell (p := ⟨w.heap.size, 2, none⟩) h3]; exact h2
end Go.Proofs.YtmepjcnpbjdlkaaGreatDoor
