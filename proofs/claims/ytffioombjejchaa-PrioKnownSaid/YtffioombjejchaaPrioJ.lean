/- prio: New by contract; what is asked of a pair. -/
import Derived.Test.YtffioombjejchaaPrioI
namespace Go.Proofs.Ytffioombjejchaa
set_option linter.unusedVariables false
set_option linter.unusedSimpArgs false
open Go.RowKit

/-- the functions that are handed to New -/
def LessV (w : World) (v : Value) (fall : Bool) : Prop :=
  (v = .func (.func 9) #[] #[] ∧ fall = false) ∨ (v = .func (.func 10) #[] #[] ∧ fall = true) ∨
  ∃ c2, v = .func (.func 49) #[] #[.pointer (some ⟨c2, 0, none⟩)] ∧ w.heap[c2]? = some (.cells #[.bool fall] 4 (0, 0))
def NewPost (w : World) (fall : Bool) (e : Ending) (w' : World) : Prop :=
  e = .returned (.pointer (some ⟨w.heap.size + 1, 0, none⟩)) ∧ HeapAt w' (w.heap.size + 1) w.heap.size fall [] 0 none ∧ Below w.heap.size w w' ∧ w'.heap.size = w.heap.size + 2
theorem new_any (v : Value) (fall : Bool) (w : World) (hv : LessV w v fall) :
    Calls Try.prog 8 #[v] w (NewPost w fall) := by
  have key : ∀ v', (w.alloc (.cells #[v'] 26)).heap[w.heap.size]? = some (.cells #[v'] 26 (0, 0)) := fun v' => heap_alloc_new w _
  have fin : ∀ v', LessV w v' fall → HeapAt ((w.alloc (.cells #[v'] 26)).alloc (.cells #[.func (.func 40) #[] #[.pointer (some ⟨w.heap.size, 0, none⟩)], .slice none 0 0, .int .i64 0] 72)) (w.heap.size + 1) w.heap.size fall [] 0 none := fun v' hv' => by
    have e0 := heap_alloc2_old w (.cells #[v'] 26) (.cells #[.func (.func 40) #[] #[.pointer (some ⟨w.heap.size, 0, none⟩)], .slice none 0 0, .int .i64 0] 72)
    have e1 := heap_alloc2_new w (.cells #[v'] 26) (.cells #[.func (.func 40) #[] #[.pointer (some ⟨w.heap.size, 0, none⟩)], .slice none 0 0, .int .i64 0] 72)
    refine ⟨.slice none 0 0, rfl, ⟨⟨by omega, ?_⟩, e1, rfl, .inl ⟨rfl, rfl⟩⟩, fun j h0 hj => by simp at hj⟩
    rcases hv' with ⟨rfl, h2⟩ | ⟨rfl, h2⟩ | ⟨c2, rfl, h2⟩
    · exact .inl ⟨e0, h2⟩
    · exact .inr (.inl ⟨e0, h2⟩)
    · have hl := lt_of_block h2
      refine .inr (.inr ⟨c2, by omega, e0, ?_⟩)
      rw [heap_alloc_old _ _ (by simp; omega), heap_alloc_old _ _ hl]
      exact h2
  have FIN := Lib.hid (fin v hv)
  clear fin key
  have hone : v.oneCell' = true := by rcases hv with ⟨rfl, _⟩ | ⟨rfl, _⟩ | ⟨c2, rfl, _⟩ <;> rfl
  rcases hv with ⟨rfl, h2⟩ | ⟨rfl, h2⟩ | ⟨c2, rfl, h2⟩
  all_goals
    have H2 := Lib.hid h2
    clear h2 hone
    have hmf : ∀ (fn : Fn) (first cap : Array Value) (w : World), (Instr.makeFunc fn first cap).run Try.prog w = .ok (.func fn first cap) w := fun _ _ _ _ => rfl
    go_enter Try.func8, Try.ntmps8
    go_wp2_with fail
    go_ret
    exact ⟨rfl, FIN.out, ((Below.refl _ _).alloc (Nat.le_refl _) _).alloc (by simp) _, by simp⟩
end Go.Proofs.Ytffioombjejchaa
