/- texts of this claim, laid together: CalK, CoupA. -/
import Derived.Test.YtmepjcnpbjdlkaaGreatDoorQePriceA
import Derived.Test.YtmepjcnpbjdlkaaGreatDoorQePriceC
import Derived.Test.YtmepjcnpbjdlkaaGreatDoorQeCalM
/- the document's months back of a date, and the date of a day: by contract. -/
namespace Go.Proofs.YtmepjcnpbjdlkaaGreatDoor
set_option linter.unusedVariables false
set_option linter.unusedSimpArgs false
open Go.RowKit
attribute [local irreducible] Go.wpStill

/-- the two rows of Of: the result's, and the date under way -/
structure Two (w wr : World) (g2 g4 : Nat) (c q : Int) : Prop where
  r2 : wr.heap[g2]? = some (.cells #[.int .i64 0, .int .i64 0, .int .i64 0] 72 (0, 0))
  r4 : wr.heap[g4]? = some (.cells #[.int .i64 c, .int .i64 q, .int .i64 0] 72 (0, 0))
  bl : Below w.heap.size w wr
theorem Two.drew {w wr : World} {g2 g4 : Nat} {c q : Int} (h : Two w wr g2 g4 c q) : Two w wr.drew g2 g4 c q := ⟨h.r2, h.r4, h.bl.drew⟩
theorem Two.year {w wr : World} {g2 g4 : Nat} {c q : Int} (h : Two w wr g2 g4 c q) (hne : g2 ≠ g4) (hg : w.heap.size ≤ g4) (c' : Int) : Two w (wr.setCell ⟨g4, 0, none⟩ (.int .i64 c')) g2 g4 c' q :=
  ⟨(heap_setCell_other _ _ _ _ hne).trans h.r2, setCell_row h.r4 0 _, below_setCell_ge (p := ⟨g4, 0, none⟩) h.bl hg _⟩
theorem Two.month {w wr : World} {g2 g4 : Nat} {c q : Int} (h : Two w wr g2 g4 c q) (hne : g2 ≠ g4) (hg : w.heap.size ≤ g4) (q' : Int) : Two w (wr.setCell ⟨g4, 1, none⟩ (.int .i64 q')) g2 g4 c q' :=
  ⟨(heap_setCell_other _ _ _ _ hne).trans h.r2, setCell_row h.r4 1 _, below_setCell_ge (p := ⟨g4, 1, none⟩) h.bl hg _⟩
theorem frozen_of_row {w : World} {g : Nat} {cs : Array Value} {t : TypeId} (h : w.heap[g]? = some (.cells cs t (0, 0))) : ∀ o, w.frozen? ⟨g, o, none⟩ = false := fun o => by simp [World.frozen?, h]
end Go.Proofs.YtmepjcnpbjdlkaaGreatDoor
/- the coupons of a security, plainly. -/
namespace Go.Proofs.YtmepjcnpbjdlkaaGreatDoor
set_option linter.unusedVariables false
set_option linter.unusedSimpArgs false
open Go.RowKit
attribute [local irreducible] Go.wpStill

theorem per_facts {p : Int} (h : perB p = true) : 1 ≤ p ∧ p ≤ 12 ∧ 1 ≤ 12 / p ∧ 12 / p ≤ 12 ∧ p * (12 / p) = 12 := by
  unfold perB at h
  simp at h
  rcases h with ((rfl | rfl) | rfl) | rfl <;> decide
theorem bond_facts {s : SecV} (h : checkN s = 0) (hk : s.kind = 2) : perB s.per = true ∧ dayB s.start = true ∧ dayB s.finish = true ∧ s.start < s.finish := by
  unfold checkN at h
  split at h
  · omega
  split at h
  · omega
  split at h
  · omega
  unfold kindN at h
  rw [if_pos hk] at h
  unfold bondN at h
  split at h
  · omega
  split at h
  · omega
  next h2 =>
    unfold termN at h
    split at h
    · split at h
      · next h3 =>
        refine ⟨?_, h3.1, h3.2.1, h3.2.2⟩
        cases hp : perB s.per
        · exact absurd (.inr (.inr hp)) h2
        · rfl
      · omega
    · omega
theorem step_quo (k per : Int) (h0 : 0 ≤ k) (h1 : k ≤ 1000000) (hp : perB per = true) : IntKind.i64.wrap ((-k * 12).tdiv per) = -((12 / per) * k) := by
  unfold perB at hp
  simp at hp
  have e : ∀ p q : Int, 0 < p → p * q = 12 → (-k * 12).tdiv p = -(q * k) := fun p q hp0 hpq => by
    rw [show -k * 12 = p * (-(q * k)) by rw [← hpq, Int.mul_neg, Int.neg_mul, Int.mul_comm k, Int.mul_assoc]]
    exact Int.mul_tdiv_cancel_left _ (by omega)
  rcases hp with ((rfl | rfl) | rfl) | rfl
  · rw [e 1 12 (by decide) (by decide), IntWalk.i64_in _ (by omega)]; rfl
  · rw [e 2 6 (by decide) (by decide), IntWalk.i64_in _ (by omega)]; rfl
  · rw [e 4 3 (by decide) (by decide), IntWalk.i64_in _ (by omega)]; rfl
  · rw [e 12 1 (by decide) (by decide), IntWalk.i64_in _ (by omega)]; rfl
end Go.Proofs.YtmepjcnpbjdlkaaGreatDoor
