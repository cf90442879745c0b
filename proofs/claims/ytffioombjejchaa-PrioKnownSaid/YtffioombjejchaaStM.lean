/- prio: Remove of a heap of nothing; the closures; works. -/
import Derived.Test.YtffioombjejchaaPrioM
import Derived.Test.YtffioombjejchaaStK
namespace Go.Proofs.Ytffioombjejchaa.St
set_option linter.unusedVariables false
set_option linter.unusedSimpArgs false
open Go.RowKit

set_option maxRecDepth 100000 in
set_option maxHeartbeats 2000000 in
theorem remove_none (h c : Nat) (fall : Bool) (isv : Value) (came : Int) (r : Option Nat) (w : World) (hA : HeapAt w h c fall [] came r) :
    Calls Try.prog 35 #[.pointer (some ⟨h, 0, none⟩), isv] w fun e w' => e = .returned (.tuple #[.string ByteArray.empty, .bool false]) ∧ Below w.heap.size w w' := by
  obtain ⟨sl, hr, hL, hH⟩ := hA
  have c1 : w.cell? ⟨h, 1, none⟩ = some sl := by rw [cell_of_row _ _ _ _ _ _ hL.2.1]; rfl
  have hhl := hL.hlt
  have hl0 : ((([] : List (Str × Int)).length : Nat)) = 0 := rfl
  clear hH
  rcases hL.len_val with ⟨_, rfl⟩ | ⟨g, cap, rfl⟩
  all_goals
    go_enter Try.func35, Try.ntmps35
    go_wp2_with fail
    refine wp_loop_rounds 1 ?_
    rw [rounds_succ]
    go_wp2_with fail
    go_ret2
    exact ⟨rfl, Below.refl _ _⟩
end Go.Proofs.Ytffioombjejchaa.St
