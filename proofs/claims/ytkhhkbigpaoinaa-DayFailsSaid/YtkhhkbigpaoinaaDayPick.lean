/- Pick; phases rise over the day, plain. -/
import Derived.Test.YtkhhkbigpaoinaaDayWorksA
namespace Go.Proofs.Ytkhhkbigpaoinaa
set_option linter.unusedVariables false
set_option linter.unusedSimpArgs false
open Go.RowKit
attribute [local irreducible] Go.wpStill

theorem pick_any (k n : Int) (w : World) (hk0 : -9223372036854775808 ≤ k) (hk1 : k ≤ 9223372036854775807) (hn : 1 ≤ n) (hn1 : n ≤ 1099511627776) :
    Calls Try.prog 10 #[.int .i64 k, .int .i64 n] w fun e w' => (∃ i : Int, 0 ≤ i ∧ i < n ∧ e = .returned (.int .i64 i)) ∧ w' = w := by
  have h1 := Int.tmod_lt_of_pos k (by omega : 0 < n)
  have h2 : -n < k.tmod n := by
    have := Int.tmod_lt_of_pos (-k) (by omega : 0 < n)
    rw [Int.neg_tmod] at this
    omega
  by_cases h : k.tmod n < 0
  · go_enter Try.func10, Try.ntmps10
    go_wp2
    go_ret
    exact ⟨⟨k.tmod n + n, by omega, by omega, rfl⟩, rfl⟩
  · go_enter Try.func10, Try.ntmps10
    go_wp2
    go_ret
    exact ⟨⟨k.tmod n, by omega, by omega, rfl⟩, rfl⟩
/-- the hours rise -/
theorem hours_rise {hs : List Int} (h : hoursOk hs = true) : ∀ i j : Nat, i < j → j < 6 → hourAt hs i < hourAt hs j := by
  have hall : ∀ i, i < 6 → hourOk hs i = true := fun i hi => List.all_eq_true.1 h i (List.mem_range.2 hi)
  intro i j hij hj
  induction j with
  | zero => omega
  | succ j ih =>
    have h1 := hall (j + 1) hj
    simp [hourOk] at h1
    by_cases e : i = j
    · subst e; omega
    · have := ih (by omega) (by omega); omega
theorem hours_day {hs : List Int} (h : hoursOk hs = true) (i : Nat) (hi : i < 6) : 0 ≤ hourAt hs i ∧ hourAt hs i < 1440 := by
  have h1 := List.all_eq_true.1 h i (List.mem_range.2 hi)
  simp [hourOk] at h1
  omega
/-- the first i hours: those that are not behind m -/
theorem phaseN_at {hs : List Int} (h : hoursOk hs = true) (m : Int) (k : Nat) (hk : k ≤ 6) (h1 : ∀ i, i < k → hourAt hs i ≤ m) (h2 : ∀ i, k ≤ i → i < 6 → m < hourAt hs i) : ∀ n : Nat, n ≤ 6 → phaseN hs m n = (min n k : Nat) := by
  intro n
  induction n with
  | zero => intro _; simp [phaseN]
  | succ n ih =>
    intro hn
    unfold phaseN
    rw [ih (by omega)]
    by_cases c : n < k
    · rw [if_pos (h1 n c)]; omega
    · rw [if_neg (by have := h2 n (by omega) (by omega); omega)]; omega
theorem phaseN_mono (hs : List Int) {a b : Int} (h : a ≤ b) : ∀ n : Nat, phaseN hs a n ≤ phaseN hs b n
  | 0 => by simp [phaseN]
  | n + 1 => by
    have := phaseN_mono hs h n
    unfold phaseN
    split <;> split <;> omega
/-- at its hour the phase begins -/
theorem phase_hour {hs : List Int} (h : hoursOk hs = true) (k : Nat) (hk : k < 6) : phaseM hs (hourAt hs k) = (k : Int) + 1 := by
  have hd := hours_day h k hk
  unfold phaseM
  rw [if_neg (by omega), phaseN_at h _ (k + 1) (by omega) (fun i hi => by
    by_cases e : i = k
    · subst e; omega
    · have := hours_rise h i k (by omega) hk; omega) (fun i hi hi2 => hours_rise h k i (by omega) hi2) 6 (by omega)]
  omega
/-- a minute ahead of it the one ahead is on -/
theorem phase_ahead {hs : List Int} (h : hoursOk hs = true) (k : Nat) (hk : k < 6) (h0 : 0 < hourAt hs k) : phaseM hs (hourAt hs k - 1) = (k : Int) := by
  have hd := hours_day h k hk
  unfold phaseM
  rw [if_neg (by omega), phaseN_at h _ k (by omega) (fun i hi => by have := hours_rise h i k hi hk; omega) (fun i hi hi2 => by
    by_cases e : i = k
    · subst e; omega
    · have := hours_rise h k i (by omega) hi2; omega) 6 (by omega)]
  omega
theorem phase_rise (hs : List Int) {a b : Int} (h0 : 0 ≤ a) (hab : a ≤ b) (hb : b < 1440) : phaseM hs a ≤ phaseM hs b ∧ 0 ≤ phaseM hs a ∧ phaseM hs b ≤ 6 := by
  unfold phaseM
  rw [if_neg (by omega), if_neg (by omega)]
  have h1 := phaseN_le hs a 6
  have h2 := phaseN_le hs b 6
  exact ⟨phaseN_mono hs hab 6, h1.1, by omega⟩
end Go.Proofs.Ytkhhkbigpaoinaa
