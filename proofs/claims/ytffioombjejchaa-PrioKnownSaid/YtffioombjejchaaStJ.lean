/- prio: New by contract; what is asked of a pair. -/
import Derived.Test.YtffioombjejchaaPrioJ
import Derived.Test.YtffioombjejchaaStI
namespace Go.Proofs.Ytffioombjejchaa.St
set_option linter.unusedVariables false
set_option linter.unusedSimpArgs false
open Go.RowKit

/-- the functions that are handed to New -/
def LessV (v : Value) : Prop := v = .func (.func 28) #[] #[]
def NewPost (w : World) (fall : Bool) (e : Ending) (w' : World) : Prop :=
  e = .returned (.pointer (some ⟨w.heap.size + 1, 0, none⟩)) ∧ HeapAt w' (w.heap.size + 1) w.heap.size fall [] 0 none ∧ Below w.heap.size w w' ∧ w'.heap.size = w.heap.size + 2
theorem new_any (v : Value) (fall : Bool) (w : World) (hv : LessV v) :
    Calls Try.prog 27 #[v] w (NewPost w fall) := by
  have fin : HeapAt ((w.alloc (.cells #[.func (.func 28) #[] #[]] 53)).alloc (.cells #[.func (.func 46) #[] #[.pointer (some ⟨w.heap.size, 0, none⟩)], .slice none 0 0, .int .i64 0] 82)) (w.heap.size + 1) w.heap.size fall [] 0 none :=
    ⟨.slice none 0 0, rfl, ⟨⟨by omega, heap_alloc2_old w (.cells #[.func (.func 28) #[] #[]] 53) (.cells #[.func (.func 46) #[] #[.pointer (some ⟨w.heap.size, 0, none⟩)], .slice none 0 0, .int .i64 0] 82)⟩, heap_alloc2_new w (.cells #[.func (.func 28) #[] #[]] 53) (.cells #[.func (.func 46) #[] #[.pointer (some ⟨w.heap.size, 0, none⟩)], .slice none 0 0, .int .i64 0] 82), rfl, .inl ⟨rfl, rfl⟩⟩, fun j h0 hj => by simp at hj⟩
  have FIN := Lib.hid fin
  clear fin
  obtain rfl := hv
  have hmf : ∀ (fn : Fn) (first cap : Array Value) (w : World), (Instr.makeFunc fn first cap).run Try.prog w = .ok (.func fn first cap) w := fun _ _ _ _ => rfl
  go_enter Try.func27, Try.ntmps27
  go_wp2_with fail
  go_ret
  exact ⟨rfl, FIN.out, ((Below.refl _ _).alloc (Nat.le_refl _) _).alloc (by simp) _, by simp⟩
end Go.Proofs.Ytffioombjejchaa.St
