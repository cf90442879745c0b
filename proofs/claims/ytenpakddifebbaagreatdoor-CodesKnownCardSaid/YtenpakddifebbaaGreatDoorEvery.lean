/- custodylaw02.every, times: by contract. -/
import Derived.Test.YtenpakddifebbaaGreatDoorCodesFormsLaw
import Derived.Test.YtenpakddifebbaaGreatDoorCodesLeiLaw
import Derived.Test.YtenpakddifebbaaGreatDoorCodesTextLaw
namespace Go.Proofs.YtenpakddifebbaaGreatDoor
set_option linter.unusedVariables false
set_option linter.unusedSimpArgs false
open Go.RowKit

theorem every_any (s : ByteArray) (w : World) (hs : s.size ≤ 140737488351232) (hok : Ok w) :
    Calls Tryz.prog 21 #[.string s] w fun e w' => e = .returned (.bool true) ∧ Below w.heap.size w w' := by
  have HOK := Lib.hid hok
  clear hok
  go_enter Tryz.func21, Tryz.ntmps21
  go_wp2_with fail
  refine (codesIsin_law s _ hs HOK.out).mono ?_
  rintro e w1 ⟨rfl, hb1⟩
  go_wp2_with fail
  refine (codesLei_law s _ hs (Ok.below HOK.out hb1)).mono ?_
  rintro e w2 ⟨rfl, hb2⟩
  have hbw2 := hb1.trans (hb2.mono hb1.size)
  go_wp2_with fail
  refine (codesForms_law s _ hs (Ok.below HOK.out hbw2)).mono ?_
  rintro e w3 ⟨rfl, hb3⟩
  have hbw3 := hbw2.trans (hb3.mono hbw2.size)
  go_wp2_with fail
  refine (codesText_law s _ hs).mono ?_
  rintro e w4 ⟨rfl, hb4⟩
  have hbw4 := hbw3.trans (hb4.mono hbw3.size)
  go_wp2_with fail
  go_ret
  exact ⟨rfl, hbw4⟩
def RetT (w : World) (e : Ending) (w' : World) : Prop := ∃ t : ByteArray, t.size ≤ 40 ∧ e = .returned (.string t) ∧ w = w'
theorem times_any (s : ByteArray) (n : Nat) (w : World) (hs : s.size ≤ 1) (hn : n ≤ 40) :
    Calls Tryz.prog 22 #[.string s, .int .i64 n] w (RetT w) := by
  go_enter Tryz.func22, Tryz.ntmps22
  go_wp2_with fail
  go_loop [5, 6] (fun tv i => ∃ k : Nat, ∃ t : ByteArray, k ≤ n ∧ t.size ≤ k ∧ i = .int .i64 k ∧ tv = .string t) (fun _ i => n - (intOf i).toNat)
  case atStart => exact ⟨0, ⟨#[]⟩, by omega, Nat.le_refl 0, rfl, rfl⟩
  case round =>
    obtain ⟨k, t, hk, ht, rfl, rfl⟩ := hrel
    by_cases hlt : k < n
    · have hsz : (t ++ s).size ≤ k + 1 := by rw [ByteArray.size_append]; omega
      go_wp2_with fail
      go_round
      case rel => exact ⟨k + 1, _, by omega, hsz, by go_num, rfl⟩
      case measure => simp [intOf]; omega
    · go_wp2_with fail
      go_ret
      exact ⟨t, by omega, rfl, rfl⟩
end Go.Proofs.YtenpakddifebbaaGreatDoor
