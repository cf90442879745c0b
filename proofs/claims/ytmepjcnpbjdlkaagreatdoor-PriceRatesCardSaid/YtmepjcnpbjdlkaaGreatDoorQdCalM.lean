/- texts of this claim, laid together: CalM, CalR. -/
import Derived.Test.YtmepjcnpbjdlkaaGreatDoorQdBuilder
import Derived.Test.YtmepjcnpbjdlkaaGreatDoorQdCalA
import Derived.Test.YtmepjcnpbjdlkaaGreatDoorQdCoup
/- calendar.number, calendar.Months: by contract. -/
namespace Go.Proofs.YtmepjcnpbjdlkaaGreatDoor
set_option linter.unusedVariables false
set_option linter.unusedSimpArgs false
open Go.RowKit
attribute [local irreducible] Go.wpStill

end Go.Proofs.YtmepjcnpbjdlkaaGreatDoor
/- the document's own calendar: Leap, MonthDays, yearDays: by contract. -/
namespace Go.Proofs.YtmepjcnpbjdlkaaGreatDoor
set_option linter.unusedVariables false
set_option linter.unusedSimpArgs false
open Go.RowKit
attribute [local irreducible] Go.wpStill

def RetI0 (n : Int) (w : World) (e : Ending) (w' : World) : Prop := e = .returned (.int .i64 n) ∧ w = w'
theorem refLeap_any (y : Int) (w : World) (h0 : 0 ≤ y) : Calls Tryz.prog 129 #[.int .i64 y] w (RetB0 (Cal.lpB y) w) := by
  cases h4 : (y % 4 == 0)
  · have hb : Cal.lpB y = false := by unfold Cal.lpB; simp at h4; simp [h4]
    rw [hb]
    clear hb
    go_enter Tryz.func129, Tryz.ntmps129
    go_wp2_with fail
    go_ret
    exact ⟨rfl, rfl⟩
  · cases h100 : (y % 100 != 0)
    · cases h400 : (y % 400 == 0)
      · have hb : Cal.lpB y = false := by unfold Cal.lpB; simp at h4 h100 h400; simp [h100, h400]
        rw [hb]
        clear hb
        go_enter Tryz.func129, Tryz.ntmps129
        go_wp2_with fail
        go_ret
        exact ⟨rfl, rfl⟩
      · have hb : Cal.lpB y = true := by unfold Cal.lpB; simp at h4 h100 h400; simp [h4, h400]
        rw [hb]
        clear hb
        go_enter Tryz.func129, Tryz.ntmps129
        go_wp2_with fail
        go_ret
        exact ⟨rfl, rfl⟩
    · have hb : Cal.lpB y = true := by unfold Cal.lpB; simp at h4 h100; simp [h4, h100]
      rw [hb]
      clear hb
      go_enter Tryz.func129, Tryz.ntmps129
      go_wp2_with fail
      go_ret
      exact ⟨rfl, rfl⟩
theorem refYearDays_any (y : Int) (w : World) (h0 : 0 ≤ y) : Calls Tryz.prog 90 #[.int .i64 y] w (RetI0 (365 + Cal.lpN y) w) := by
  have hL := Lib.hid (fun w => refLeap_any y w h0)
  clear h0
  unfold Cal.lpN
  cases hb : Cal.lpB y <;> (have HB := Lib.hid hb; clear hb)
  all_goals
    go_enter Tryz.func90, Tryz.ntmps90
    go_wp2_with (refine (hL.out _).mono ?_; rintro e w1 ⟨rfl, rfl⟩; rw [HB.out])
    go_ret
    exact ⟨rfl, rfl⟩
set_option maxHeartbeats 2000000 in
theorem refMonthDays_any (y m : Int) (w : World) (hy : 0 ≤ y) (h0 : 1 ≤ m) (h1 : m ≤ 12) : Calls Tryz.prog 91 #[.int .i64 y, .int .i64 m] w (RetI0 (Cal.mlen y m) w) := by
  have hL := Lib.hid (fun w => refLeap_any y w hy)
  clear hy
  obtain h | h | h | h | h | h | h | h | h | h | h | h := Cal.twelve h0 h1 <;> subst h <;> clear h0 h1
  case inr.inl =>
    have e2 : Cal.mlen y 2 = 28 + Cal.lpN y := by simp [Cal.mlen, Cal.aheadM]
    rw [e2]
    clear e2
    unfold Cal.lpN
    cases hb : Cal.lpB y <;> (have HB := Lib.hid hb; clear hb)
    all_goals
      go_enter Tryz.func91, Tryz.ntmps91
      go_wp2_with (refine (hL.out _).mono ?_; rintro e w1 ⟨rfl, rfl⟩; rw [HB.out])
      go_ret
      exact ⟨rfl, rfl⟩
  all_goals
    go_enter Tryz.func91, Tryz.ntmps91
    go_wp2_with fail
    go_ret
    exact ⟨by simp [Cal.mlen, Cal.aheadM], rfl⟩

theorem cells_of_row3 {w : World} {g : Nat} {x y z : Value} {t : TypeId} (h : w.heap[g]? = some (.cells #[x, y, z] t (0, 0))) : w.cell? ⟨g, 0, none⟩ = some x ∧ w.cell? ⟨g, 1, none⟩ = some y ∧ w.cell? ⟨g, 2, none⟩ = some z := by
  refine ⟨?_, ?_, ?_⟩ <;> (simp only [World.cell?, h]; rfl)
end Go.Proofs.YtmepjcnpbjdlkaaGreatDoor
