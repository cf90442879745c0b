/- texts of this claim, laid together: CalA. -/
import Derived.Test.YtmepjcnpbjdlkaaGreatDoorQbBase
import Derived.Test.YtmepjcnpbjdlkaaGreatDoorQbCal
import Derived.Test.YtmepjcnpbjdlkaaGreatDoorQbPlain
/- calendar's ahead, leap, length, isDay, date, Of: by contract. -/
namespace Go.Proofs.YtmepjcnpbjdlkaaGreatDoor
set_option linter.unusedVariables false
set_option linter.unusedSimpArgs false
open Go.RowKit
attribute [local irreducible] Go.wpStill

def RetI (n : Int) (w : World) (e : Ending) (w' : World) : Prop := e = .returned (.int .i64 n) ∧ Below w.heap.size w w'
def RetB0 (b : Bool) (w : World) (e : Ending) (w' : World) : Prop := e = .returned (.bool b) ∧ w = w'
theorem thirteen {m : Int} (h0 : 1 ≤ m) (h1 : m ≤ 13) : m = 1 ∨ m = 2 ∨ m = 3 ∨ m = 4 ∨ m = 5 ∨ m = 6 ∨ m = 7 ∨ m = 8 ∨ m = 9 ∨ m = 10 ∨ m = 11 ∨ m = 12 ∨ m = 13 := by omega
set_option maxHeartbeats 2000000 in
theorem ahead_any (m : Int) (w : World) (h0 : 1 ≤ m) (h1 : m ≤ 13) : Calls Tryz.prog 124 #[.int .i64 m] w (RetI (Cal.aheadM m) w) := by
  obtain h | h | h | h | h | h | h | h | h | h | h | h | h := thirteen h0 h1 <;> subst h <;> clear h0 h1
  all_goals
    go_enter Tryz.func124, Tryz.ntmps124
    go_wp2_with fail
    go_ret
    exact ⟨rfl, (Below.refl _ _).alloc (Nat.le_refl _) _⟩
theorem leap_any (y : Int) (w : World) (h0 : 0 ≤ y) : Calls Tryz.prog 125 #[.int .i64 y] w (RetB0 (Cal.lpB y) w) := by
  cases h4 : (y % 4 == 0)
  · have hb : Cal.lpB y = false := by unfold Cal.lpB; simp at h4; simp [h4]
    rw [hb]
    clear hb
    go_enter Tryz.func125, Tryz.ntmps125
    go_wp2_with fail
    go_ret
    exact ⟨rfl, rfl⟩
  · cases h100 : (y % 100 != 0)
    · cases h400 : (y % 400 == 0)
      · have hb : Cal.lpB y = false := by unfold Cal.lpB; simp at h4 h100 h400; simp [h100, h400]
        rw [hb]
        clear hb
        go_enter Tryz.func125, Tryz.ntmps125
        go_wp2_with fail
        go_ret
        exact ⟨rfl, rfl⟩
      · have hb : Cal.lpB y = true := by unfold Cal.lpB; simp at h4 h100 h400; simp [h4, h400]
        rw [hb]
        clear hb
        go_enter Tryz.func125, Tryz.ntmps125
        go_wp2_with fail
        go_ret
        exact ⟨rfl, rfl⟩
    · have hb : Cal.lpB y = true := by unfold Cal.lpB; simp at h4 h100; simp [h4, h100]
      rw [hb]
      clear hb
      go_enter Tryz.func125, Tryz.ntmps125
      go_wp2_with fail
      go_ret
      exact ⟨rfl, rfl⟩
set_option maxHeartbeats 1000000 in
theorem length_any (y m : Int) (w : World) (hy : 0 ≤ y) (h0 : 1 ≤ m) (h1 : m ≤ 12) : Calls Tryz.prog 70 #[.int .i64 y, .int .i64 m] w (RetI (Cal.mlen y m) w) := by
  have hb1 := Cal.aheadM_bd (m + 1)
  have hb2 := Cal.aheadM_bd m
  have hA1 := fun w => ahead_any (m + 1) w (by omega) (by omega)
  have hA2 := fun w => ahead_any m w h0 (by omega)
  have hL := fun w => leap_any y w hy
  have hml : Cal.mlen y m = Cal.aheadM (m + 1) - Cal.aheadM m + (if m = 2 then Cal.lpN y else 0) := rfl
  rw [hml]
  generalize Cal.aheadM (m + 1) = a1 at *
  generalize Cal.aheadM m = a2 at *
  have HA1 := Lib.hid hA1
  have HA2 := Lib.hid hA2
  have HL := Lib.hid hL
  unfold Cal.lpN
  clear hA1 hA2 hL hml
  by_cases h2 : m = 2
  · rw [if_pos h2]
    have hm2 : (m == 2) = true := by simpa using h2
    clear h2
    cases hlp : Cal.lpB y
    · have HP := Lib.hid hlp
      clear hlp
      go_enter Tryz.func70, Tryz.ntmps70
      go_wp2_with fail
      refine (HA1.out _).mono ?_
      rintro e w1 ⟨rfl, hB1⟩
      go_wp2_with fail
      refine (HA2.out _).mono ?_
      rintro e w2 ⟨rfl, hB2⟩
      go_wp2_with fail
      refine (HL.out _).mono ?_
      rintro e w3 ⟨rfl, rfl⟩
      rw [HP.out]
      go_wp2_with fail
      go_ret
      exact ⟨by simp, hB1.trans (hB2.mono hB1.size)⟩
    · have HP := Lib.hid hlp
      clear hlp
      go_enter Tryz.func70, Tryz.ntmps70
      go_wp2_with fail
      refine (HA1.out _).mono ?_
      rintro e w1 ⟨rfl, hB1⟩
      go_wp2_with fail
      refine (HA2.out _).mono ?_
      rintro e w2 ⟨rfl, hB2⟩
      go_wp2_with fail
      refine (HL.out _).mono ?_
      rintro e w3 ⟨rfl, rfl⟩
      rw [HP.out]
      go_wp2_with fail
      go_ret
      exact ⟨by simp, hB1.trans (hB2.mono hB1.size)⟩
  · rw [if_neg h2]
    have hm2 : (m == 2) = false := by simpa using h2
    clear h2
    go_enter Tryz.func70, Tryz.ntmps70
    go_wp2_with fail
    refine (HA1.out _).mono ?_
    rintro e w1 ⟨rfl, hB1⟩
    go_wp2_with fail
    refine (HA2.out _).mono ?_
    rintro e w2 ⟨rfl, hB2⟩
    go_wp2_with fail
    go_ret
    exact ⟨by simp, hB1.trans (hB2.mono hB1.size)⟩
def dayB (n : Int) : Bool := decide (1 ≤ n) && decide (n ≤ 3652059)
theorem isDay_any (n : Int) (w : World) : Calls Tryz.prog 67 #[.int .i64 n] w (RetB0 (dayB n) w) := by
  unfold dayB
  cases h1 : decide (1 ≤ n) <;> cases h2 : decide (n ≤ 3652059)
  all_goals
    go_enter Tryz.func67, Tryz.ntmps67
    go_wp2_with fail
    go_ret
    exact ⟨rfl, rfl⟩
end Go.Proofs.YtmepjcnpbjdlkaaGreatDoor
