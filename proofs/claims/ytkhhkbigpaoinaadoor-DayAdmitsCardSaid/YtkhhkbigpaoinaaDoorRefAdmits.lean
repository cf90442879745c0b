/- the document's Admits by contract. -/
import Derived.Test.YtkhhkbigpaoinaaDoorAdmits
namespace Go.Proofs.YtkhhkbigpaoinaaDoor
set_option linter.unusedVariables false
set_option linter.unusedSimpArgs false
open Go.RowKit
attribute [local irreducible] Go.wpStill marksE

def RetI (n : Int) (w : World) (e : Ending) (w' : World) : Prop := e = .returned (.int .i64 n) ∧ Below w.heap.size w w'
set_option maxHeartbeats 40000000 in
theorem refAdmits_any (p : Int) (o : OpV) (l q : Value) (paid : Bool) (w : World) :
    Calls Tryd.prog 8 #[.int .i64 p, opVal o l q, .bool paid] w (RetI (admitsN p o.code paid) w) := by
  obtain ⟨c, o2, o3, o4, o5, o6⟩ := o
  unfold opVal
  simp only
  by_cases hp : p < 0 ∨ 6 < p
  · have hn : admitsN p c paid = 1 := by unfold admitsN; rw [if_pos hp]
    rw [hn]
    clear hn
    rcases hp with hp | hp
    · have hd : decide (p < 0) = true := decide_eq_true hp
      clear hp
      go_enter Tryd.func8, Tryd.ntmps8
      go_wp2_with fail
      go_ret
      exact ⟨rfl, (Below.refl _ _).alloc (Nat.le_refl _) _⟩
    · have hd0 : decide (p < 0) = false := decide_eq_false (by omega)
      have hd : decide (6 < p) = true := decide_eq_true hp
      clear hp
      go_enter Tryd.func8, Tryd.ntmps8
      go_wp2_with fail
      go_ret
      exact ⟨rfl, (Below.refl _ _).alloc (Nat.le_refl _) _⟩
  · have hd0 : decide (p < 0) = false := decide_eq_false (by omega)
    have hd6 : decide (6 < p) = false := decide_eq_false (by omega)
    by_cases hc : c < 1 ∨ 8 < c
    · have hn : admitsN p c paid = 13 := by unfold admitsN; rw [if_neg hp, if_pos hc]
      rw [hn]
      clear hn hp
      rcases hc with hc | hc
      · have hd : decide (c < 1) = true := decide_eq_true hc
        clear hc
        go_enter Tryd.func8, Tryd.ntmps8
        go_wp2_with fail
        go_ret
        exact ⟨rfl, (Below.refl _ _).alloc (Nat.le_refl _) _⟩
      · have hd1 : decide (c < 1) = false := decide_eq_false (by omega)
        have hd8 : decide (8 < c) = true := decide_eq_true hc
        clear hc
        go_enter Tryd.func8, Tryd.ntmps8
        go_wp2_with fail
        go_ret
        exact ⟨rfl, (Below.refl _ _).alloc (Nat.le_refl _) _⟩
    · have hp' := seven (p := p) (by omega) (by omega)
      have hc' := eight (c := c) (by omega) (by omega)
      clear hp hc hd0 hd6
      obtain hp | hp | hp | hp | hp | hp | hp := hp' <;> subst hp
      all_goals (obtain hc | hc | hc | hc | hc | hc | hc | hc := hc' <;> subst hc)
      all_goals (cases paid)
      all_goals
        go_enter Tryd.func8, Tryd.ntmps8
        go_wp2_with fail
        go_ret
        exact ⟨rfl, (Below.refl _ _).alloc (Nat.le_refl _) _⟩
end Go.Proofs.YtkhhkbigpaoinaaDoor
