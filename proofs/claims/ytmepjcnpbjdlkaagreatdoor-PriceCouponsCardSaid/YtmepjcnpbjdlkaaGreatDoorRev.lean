/- slices.Reverse at a row of ints of one's own. -/
import Derived.Test.YtmepjcnpbjdlkaaGreatDoorCoupA
import Derived.Sort.OwnSortedInts
namespace Go.Proofs.YtmepjcnpbjdlkaaGreatDoor
set_option linter.unusedVariables false
set_option linter.unusedSimpArgs false
open Go.RowKit Go.Sort

theorem flatE_int (xs : List Int) : flatE intE xs = xs.map (Value.int .i64) := by
  induction xs with
  | nil => rfl
  | cons x xs ih => rw [flatE_cons, ih]; rfl
theorem reverse_row {w : World} {B : Nat} {v : Value} {xs : List Int} (a : RowE intE 3 w B v xs) (hl : xs.length ≤ 9223372036854775807) :
    Calls Tryz.prog 42 #[v] w fun e w' => e = .returned (.tuple #[]) ∧ RowE intE 3 w' B v xs.reverse ∧ w.grownBy w' v.ownBlock := by
  have a0 := a
  rcases a with ⟨rfl, rfl⟩ | ⟨g, cap, cur, rfl, hg, hh, h1, h2, h3, h4⟩
  · refine (Tryz.slices_Reverse_int_empty none 0 w).mono ?_
    rintro e w' ⟨rfl, rfl⟩
    exact ⟨rfl, .nil _ _, rfl, rfl, rfl, Nat.le_refl _, fun k hk hne => rfl⟩
  · have hsz : xs.length ≤ cur.size := by simp at h3; omega
    refine (Tryz.slices_Reverse_int g 0 cap xs w (fun j hj => ⟨?_, frozen_of_row hh _⟩) hl).mono ?_
    · have hj' : j < xs.length := by simpa using hj
      rw [Nat.zero_add]
      refine a0.cells j _ ?_
      rw [flatE_int]
      simp [hj']
    · rintro e w' ⟨rfl, n, rfl⟩
      refine ⟨rfl, .inr ⟨g, cap, putCells (Value.int .i64) 0 xs.reverse.toArray cur, by simp, hg, ?_, by simpa using h1, h2, by simpa [putCells] using h3, ?_⟩, rfl, rfl, rfl, by simp [putRow, mapBlock, Sort.ahead], fun k hk hne => ?_⟩
      · simp [putRow, mapBlock, Sort.ahead, Array.getElem?_modify, hh, onCells]
      · rw [flatE_int]
        have := take_putCellsI cur xs.reverse (by simpa using hsz)
        simpa using this
      · have : g ≠ k := fun e => hne (by rw [e]; rfl)
        simp [putRow, mapBlock, Sort.ahead, Array.getElem?_modify, this]
end Go.Proofs.YtmepjcnpbjdlkaaGreatDoor
