/- texts of this claim, laid together: Cur. -/
import Derived.Test.YtmepjcnpbjdlkaaGreatDoorQbPlain
import Derived.Test.YtmepjcnpbjdlkaaGreatDoorQbRefCodes
/- codes.Currency and the document's: by contract. -/
namespace Go.Proofs.YtmepjcnpbjdlkaaGreatDoor
set_option linter.unusedVariables false
set_option linter.unusedSimpArgs false
open Go.RowKit

theorem setCell_row {w : World} {g : Nat} {cs : Array Value} {t : TypeId} {fr : Nat × Nat} (h : w.heap[g]? = some (.cells cs t fr)) (k : Nat) (v : Value) : (w.setCell ⟨g, k, none⟩ v).heap[g]? = some (.cells (cs.setIfInBounds k v) t fr) := by
  have hlt := lt_of_block h
  have hv : w.heap[g] = .cells cs t fr := (Array.getElem?_eq_some_iff.1 h).2
  unfold World.setCell
  rw [Array.getElem?_eq_getElem (by simpa using hlt)]
  simp [Array.getElem_modify, hv]
def formCur : List UInt8 := [67, 67, 67]
theorem currency_any (s : ByteArray) (w : World) (hs : s.size ≤ 140737488351232) (hok : Ok w) :
    Calls Tryz.prog 112 #[.string s] w (RetErr (hasR s.data.toList formCur) w) := by
  have h := fun w => has_form s formCur w (by omega) (by decide) (by decide)
  generalize hasR s.data.toList formCur = r at h ⊢
  go_enter Tryz.func112, Tryz.ntmps112
  go_wp2_with fail
  refine (h _ hok).mono ?_
  rintro e w1 ⟨v, rfl, hE, hB⟩
  go_wp2_with fail
  go_ret
  exact ⟨v, rfl, hE, hB⟩
theorem currencyRef_any (s : ByteArray) (w : World) (hs : s.size ≤ 140737488351232) :
    Calls Tryz.prog 85 #[.string s] w fun e w' => e = .returned (.tuple #[.int .i64 (hasR s.data.toList formCur).1, .int .i64 (atOf (hasR s.data.toList formCur).2)]) ∧ Below w.heap.size w w' := by
  have h := fun w => hasRef_form s formCur w hs (by decide) (by decide)
  generalize hasR s.data.toList formCur = r at h ⊢
  go_enter Tryz.func85, Tryz.ntmps85
  go_wp2_with fail
  refine (h _).mono ?_
  rintro e w1 ⟨rfl, hB⟩
  go_wp2_with fail
  go_ret2
  exact ⟨rfl, hB⟩

end Go.Proofs.YtmepjcnpbjdlkaaGreatDoor
