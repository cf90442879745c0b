/- day.Admits and the document's: by contract. -/
import Derived.Test.YtkhhkbigpaoinaaDoorOps
import Derived.Test.YtkhhkbigpaoinaaDoorPlain
namespace Go.Proofs.YtkhhkbigpaoinaaDoor
set_option linter.unusedVariables false
set_option linter.unusedSimpArgs false
open Go.RowKit
attribute [local irreducible] Go.wpStill marksE

def mayB (p c : Int) (paid : Bool) : Bool :=
  if p = 1 then c != 1 && c != 2 else if p = 2 ∨ p = 3 then true else if p = 4 then c != 5 || !paid else if p = 5 then c == 2 || c == 6 else false
def admitsN (p c : Int) (paid : Bool) : Int :=
  if p < 0 ∨ 6 < p then 1 else if c < 1 ∨ 8 < c then 13 else if c = 7 ∨ c = 8 ∨ mayB p c paid = true then 0 else 22
theorem seven {p : Int} (h0 : 0 ≤ p) (h6 : p ≤ 6) : p = 0 ∨ p = 1 ∨ p = 2 ∨ p = 3 ∨ p = 4 ∨ p = 5 ∨ p = 6 := by omega
theorem eight {c : Int} (h0 : 1 ≤ c) (h6 : c ≤ 8) : c = 1 ∨ c = 2 ∨ c = 3 ∨ c = 4 ∨ c = 5 ∨ c = 6 ∨ c = 7 ∨ c = 8 := by omega
set_option maxHeartbeats 4000000 in
theorem may_any (p c : Int) (paid : Bool) (w : World) (hp0 : 0 ≤ p) (hp6 : p ≤ 6) (hc0 : 1 ≤ c) (hc8 : c ≤ 8) :
    Calls Tryd.prog 16 #[.int .i64 p, .int .i64 c, .bool paid] w fun e w' => e = .returned (.bool (mayB p c paid)) ∧ w = w' := by
  obtain hp | hp | hp | hp | hp | hp | hp := seven hp0 hp6 <;> subst hp <;> clear hp0 hp6
  all_goals (obtain hc | hc | hc | hc | hc | hc | hc | hc := eight hc0 hc8 <;> subst hc <;> clear hc0 hc8)
  all_goals (cases paid)
  all_goals
    go_enter Tryd.func16, Tryd.ntmps16
    go_wp2_with fail
    go_ret
    exact ⟨rfl, rfl⟩
def AdmitsP (w : World) (n : Int) (e : Ending) (w' : World) : Prop := ∃ v, e = .returned v ∧ ErrP v n none ∧ Below w.heap.size w w'
theorem admits_ok {p c : Int} {paid : Bool} (h1 : 0 ≤ p) (h2 : p ≤ 6) (h3 : 1 ≤ c) (h4 : c ≤ 8) : admitsN p c paid = if c = 7 ∨ c = 8 ∨ mayB p c paid = true then 0 else 22 := by
  unfold admitsN
  rw [if_neg (by omega), if_neg (by omega)]
set_option maxHeartbeats 4000000 in
theorem admits_any (p : Int) (o : OpV) (l q : Value) (paid : Bool) (w : World) :
    Calls Tryd.prog 6 #[.int .i64 p, opVal o l q, .bool paid] w (AdmitsP w (admitsN p o.code paid)) := by
  obtain ⟨c, o2, o3, o4, o5, o6⟩ := o
  unfold opVal
  simp only
  by_cases hp : p < 0 ∨ 6 < p
  · have hn : admitsN p c paid = 1 := by unfold admitsN; rw [if_pos hp]
    rw [hn]
    clear hn
    rcases hp with hp | hp
    · have hd : decide (p < 0) = true := decide_eq_true hp
      clear hp
      go_enter Tryd.func6, Tryd.ntmps6
      go_wp2_with fail
      go_ret
      exact ⟨_, rfl, errP_errno (by decide) (by decide), (Below.refl _ _).alloc (Nat.le_refl _) _⟩
    · have hd0 : decide (p < 0) = false := decide_eq_false (by omega)
      have hd : decide (6 < p) = true := decide_eq_true hp
      clear hp
      go_enter Tryd.func6, Tryd.ntmps6
      go_wp2_with fail
      go_ret
      exact ⟨_, rfl, errP_errno (by decide) (by decide), (Below.refl _ _).alloc (Nat.le_refl _) _⟩
  · have hd0 : decide (p < 0) = false := decide_eq_false (by omega)
    have hd6 : decide (6 < p) = false := decide_eq_false (by omega)
    by_cases hc : c < 1 ∨ 8 < c
    · have hn : admitsN p c paid = 13 := by unfold admitsN; rw [if_neg hp, if_pos hc]
      rw [hn]
      clear hn hp
      rcases hc with hc | hc
      · have hd : decide (c < 1) = true := decide_eq_true hc
        clear hc
        go_enter Tryd.func6, Tryd.ntmps6
        go_wp2_with fail
        go_ret
        exact ⟨_, rfl, .plain (errIs_Ref _ _ 13 rfl (by decide) (by decide)) (noPlace_Ref _ _), (Below.refl _ _).alloc (Nat.le_refl _) _⟩
      · have hd1 : decide (c < 1) = false := decide_eq_false (by omega)
        have hd8 : decide (8 < c) = true := decide_eq_true hc
        clear hc
        go_enter Tryd.func6, Tryd.ntmps6
        go_wp2_with fail
        go_ret
        exact ⟨_, rfl, .plain (errIs_Ref _ _ 13 rfl (by decide) (by decide)) (noPlace_Ref _ _), (Below.refl _ _).alloc (Nat.le_refl _) _⟩
    · have hd1 : decide (c < 1) = false := decide_eq_false (by omega)
      have hd8 : decide (8 < c) = false := decide_eq_false (by omega)
      have hn := admits_ok (paid := paid) (p := p) (c := c) (by omega) (by omega) (by omega) (by omega)
      rw [hn]
      have hm := fun w => may_any p c paid w (by omega) (by omega) (by omega) (by omega)
      have HM := Lib.hid hm
      clear hn hp hc hm
      by_cases h7 : c = 7
      · rw [if_pos (.inl h7)]
        subst h7
        clear HM hd1 hd8
        go_enter Tryd.func6, Tryd.ntmps6
        go_wp2_with fail
        go_ret
        exact ⟨_, rfl, .nil, (Below.refl _ _).alloc (Nat.le_refl _) _⟩
      by_cases h8 : c = 8
      · rw [if_pos (.inr (.inl h8))]
        subst h8
        clear HM hd1 hd8 h7
        go_enter Tryd.func6, Tryd.ntmps6
        go_wp2_with fail
        go_ret
        exact ⟨_, rfl, .nil, (Below.refl _ _).alloc (Nat.le_refl _) _⟩
      have e7 : (c == 7) = false := by simpa using h7
      have e8 : (c == 8) = false := by simpa using h8
      cases hmb : mayB p c paid
      · rw [if_neg (by simp [h7, h8])]
        have HB := Lib.hid hmb
        clear h7 h8 hmb
        go_enter Tryd.func6, Tryd.ntmps6
        go_wp2_with (refine (HM.out _).mono ?_; rintro e w1 ⟨rfl, rfl⟩; rw [HB.out])
        go_ret
        exact ⟨_, rfl, .plain (errIs_Ref _ _ 22 rfl (by decide) (by decide)) (noPlace_Ref _ _), (Below.refl _ _).alloc (Nat.le_refl _) _⟩
      · rw [if_pos (.inr (.inr rfl))]
        have HB := Lib.hid hmb
        clear h7 h8 hmb
        go_enter Tryd.func6, Tryd.ntmps6
        go_wp2_with (refine (HM.out _).mono ?_; rintro e w1 ⟨rfl, rfl⟩; rw [HB.out])
        go_ret
        exact ⟨_, rfl, .nil, (Below.refl _ _).alloc (Nat.le_refl _) _⟩
end Go.Proofs.YtkhhkbigpaoinaaDoor
