/- texts of this claim, laid together: ClA, ClB, ClC, ClD. -/
import Derived.Test.YtmepjcnpbjdlkaaGreatDoorQdRefA
/- what a quantity costs: powers of ten, sums; the papers without their prices: by contract. -/
namespace Go.Proofs.YtmepjcnpbjdlkaaGreatDoor
set_option linter.unusedVariables false
set_option linter.unusedSimpArgs false
open Go.RowKit
attribute [local irreducible] Go.wpStill

theorem ten_facts : ∀ n : Nat, n ≤ 18 → 10 ^ n ≤ 1000000000000000000 := fun n h => Nat.le_trans (Nat.pow_le_pow_right (by decide) h) (by decide)
set_option maxHeartbeats 2000000 in
theorem ten_any (n : Nat) (w : World) (hn : n ≤ 18) : Calls Tryz.prog 62 #[.int .i64 (n : Int)] w fun e w' => e = .returned (.int .i64 ((10 ^ n : Nat) : Int)) ∧ w' = w := by
  have HT := Lib.hid ten_facts
  go_enter Tryz.func62, Tryz.ntmps62
  go_wp2_with fail
  go_loopw [3, 5] (fun t k wr => ∃ i : Nat, k = .int .i64 i ∧ i ≤ n ∧ t = .int .i64 ((10 ^ i : Nat) : Int) ∧ wr = w) (fun _ k _ => n - (intOf k).toNat)
  case atStart => exact ⟨0, rfl, Nat.zero_le _, rfl, rfl⟩
  case round =>
    obtain ⟨i, rfl, hi, rfl, rfl⟩ := hrel
    by_cases hlt : i < n
    · have hdl : decide (i < n) = true := decide_eq_true hlt
      have h1 := HT.out (i + 1) (by omega)
      have h2 : 10 ^ (i + 1) = 10 ^ i * 10 := Nat.pow_succ ..
      rw [h2] at h1
      generalize 10 ^ i = p at *
      have HQ := Lib.hid h2
      have hp : p ≤ 100000000000000000 := by omega
      clear h2 h1
      go_wp2_with fail
      refine ⟨⟨i + 1, by go_num, by omega, ?_, trivial⟩, by simp [intOf]; omega⟩
      rw [HQ.out, Int.natCast_mul]
      rfl
    · have hdl : decide (i < n) = false := decide_eq_false hlt
      have hin : i = n := by omega
      subst hin
      go_wp2_with fail
      go_ret
      exact ⟨rfl, rfl⟩
set_option maxHeartbeats 2000000 in
theorem refTen_any (n : Nat) (w : World) (hn : n ≤ 18) : Calls Tryz.prog 52 #[.int .i64 (n : Int)] w fun e w' => e = .returned (.int .i64 ((10 ^ n : Nat) : Int)) ∧ w' = w := by
  have HT := Lib.hid ten_facts
  go_enter Tryz.func52, Tryz.ntmps52
  go_wp2_with fail
  go_loopw [3, 4] (fun t k wr => ∃ i : Nat, k = .int .i64 i ∧ i ≤ n ∧ t = .int .i64 ((10 ^ i : Nat) : Int) ∧ wr = w) (fun _ k _ => n - (intOf k).toNat)
  case atStart => exact ⟨0, rfl, Nat.zero_le _, rfl, rfl⟩
  case round =>
    obtain ⟨i, rfl, hi, rfl, rfl⟩ := hrel
    by_cases hlt : i < n
    · have hdl : decide (i < n) = true := decide_eq_true hlt
      have h1 := HT.out (i + 1) (by omega)
      have h2 : 10 ^ (i + 1) = 10 ^ i * 10 := Nat.pow_succ ..
      rw [h2] at h1
      generalize 10 ^ i = p at *
      have HQ := Lib.hid h2
      have hp : p ≤ 100000000000000000 := by omega
      clear h2 h1
      go_wp2_with fail
      refine ⟨⟨i + 1, by go_num, by omega, ?_, trivial⟩, by simp [intOf]; omega⟩
      rw [HQ.out, Int.natCast_mul]
      rfl
    · have hdl : decide (i < n) = false := decide_eq_false hlt
      have hin : i = n := by omega
      subst hin
      go_wp2_with fail
      go_ret
      exact ⟨rfl, rfl⟩
end Go.Proofs.YtmepjcnpbjdlkaaGreatDoor
/- price.Clean by contract. -/
namespace Go.Proofs.YtmepjcnpbjdlkaaGreatDoor
set_option linter.unusedVariables false
set_option linter.unusedSimpArgs false
open Go.RowKit
attribute [local irreducible] Go.wpStill

end Go.Proofs.YtmepjcnpbjdlkaaGreatDoor
/- the document's Clean by contract. -/
namespace Go.Proofs.YtmepjcnpbjdlkaaGreatDoor
set_option linter.unusedVariables false
set_option linter.unusedSimpArgs false
open Go.RowKit
attribute [local irreducible] Go.wpStill

end Go.Proofs.YtmepjcnpbjdlkaaGreatDoor
/- clean and accrued together. -/
namespace Go.Proofs.YtmepjcnpbjdlkaaGreatDoor
set_option linter.unusedVariables false
set_option linter.unusedSimpArgs false
open Go.RowKit
attribute [local irreducible] Go.wpStill

end Go.Proofs.YtmepjcnpbjdlkaaGreatDoor
