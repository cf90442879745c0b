/- texts of this claim, laid together: Coup. -/
import Derived.Test.YtmepjcnpbjdlkaaGreatDoorQeCal
/- months added to a date, the days of coupons: plainly. -/
namespace Go.Proofs.YtmepjcnpbjdlkaaGreatDoor
namespace Cal
/-- how many months from the year 0 on -/
def mon (y m : Int) : Int := 12 * y + m - 1
/-- the day in month M that stands for day d -/
def onM (M d : Int) : Int := numOf (M / 12) (M % 12 + 1) (min d (mlen (M / 12) (M % 12 + 1)))
theorem onM_is {M d : Int} (h0 : 12 ≤ M) (h1 : M < 120000) (hd : 1 ≤ d) : Is (onM M d) (M / 12) (M % 12 + 1) (min d (mlen (M / 12) (M % 12 + 1))) := by
  have hb := mlen_bd (M / 12) (M % 12 + 1) (by omega) (by omega)
  refine ⟨by omega, by omega, by omega, by omega, by omega, by omega, rfl⟩
theorem numOf_lt {y m d y' m' d' n n' : Int} (h : Is n y m d) (k : Is n' y' m' d') (hl : mon y m < mon y' m') : n < n' := by
  have hb := h.bd
  have kb := k.bd
  obtain ⟨h1, h2, h3, h4, h5, h6, rfl⟩ := h
  obtain ⟨k1, k2, k3, k4, k5, k6, rfl⟩ := k
  unfold mon at hl
  by_cases hy : y < y'
  · have := ys_succ y h1
    have := ys_mono (a := y + 1) (b := y') (by omega) (by omega)
    omega
  · obtain rfl : y = y' := by omega
    have s := cum_succ y m h3 h4
    have := cum_le y (a := m + 1) (b := m') (by omega) (by omega) (by omega)
    unfold numOf
    omega
/-- the day of the j-th coupon from the end, stepping st months; 0: there is none -/
def cd (E d st : Int) (j : Nat) : Int := if E - st * j < 12 then 0 else onM (E - st * j) d
theorem cd_zero_of {E d st : Int} {j : Nat} (h : E - st * j < 12) : cd E d st j = 0 := by unfold cd; rw [if_pos h]
theorem cd_of {E d st : Int} {j : Nat} (h : 12 ≤ E - st * j) : cd E d st j = onM (E - st * j) d := by unfold cd; rw [if_neg (by omega)]
theorem cd_bound {E d st start : Int} {j : Nat} (hs : 1 ≤ start) (hst : 1 ≤ st) (h : start < cd E d st j) : 12 ≤ E - st * j ∧ (j : Int) ≤ E := by
  have h12 : 12 ≤ E - st * j := by
    by_cases c : E - st * j < 12
    · rw [cd_zero_of c] at h; omega
    · omega
  refine ⟨h12, ?_⟩
  have : (j : Int) ≤ st * j := by
    have := Int.mul_le_mul_of_nonneg_right hst (show (0 : Int) ≤ j by omega)
    omega
  omega
/-- every day has its date -/
theorem is_next {n y m d : Int} (h : Is n y m d) (hn : n < 3652059) : ∃ y' m' d', Is (n + 1) y' m' d' := by
  obtain ⟨h1, h2, h3, h4, h5, h6, h7⟩ := h
  by_cases hd : d + 1 ≤ mlen y m
  · exact ⟨y, m, d + 1, h1, h2, h3, h4, by omega, hd, by unfold numOf at *; omega⟩
  · by_cases hm : m < 12
    · have hc := cum_succ y m h3 h4
      have hb := mlen_bd y (m + 1) (by omega) (by omega)
      exact ⟨y, m + 1, 1, h1, h2, by omega, by omega, by omega, by omega, by unfold numOf at *; omega⟩
    · obtain rfl : m = 12 := by omega
      have hc := cum_succ y 12 h3 h4
      have he : cum y (12 + 1) = 365 + lpN y := cum_end y
      have hs := ys_succ y h1
      have ho := cum_one (y + 1)
      have hb := mlen_bd (y + 1) 1 (by omega) (by omega)
      by_cases hy : y < 9999
      · exact ⟨y + 1, 1, 1, by omega, by omega, by omega, by omega, by omega, by omega, by unfold numOf at *; omega⟩
      · obtain rfl : y = 9999 := by omega
        have h10 : ys (9999 + 1) = 3652059 := ys_last
        unfold numOf at h7
        omega
theorem is_ex_nat (k : Nat) (h : k < 3652059) : ∃ y m d, Is ((k : Int) + 1) y m d := by
  induction k with
  | zero => exact ⟨1, 1, 1, by omega, by omega, by omega, by omega, by omega, by decide, by decide⟩
  | succ k ih =>
    obtain ⟨y, m, d, hI⟩ := ih (by omega)
    have := is_next hI (by omega)
    rwa [Int.natCast_succ] 
theorem is_ex {n : Int} (h0 : 1 ≤ n) (h1 : n ≤ 3652059) : ∃ y m d, Is n y m d := by
  have := is_ex_nat (n - 1).toNat (by omega)
  rwa [show (((n - 1).toNat : Nat) : Int) + 1 = n by omega] at this
end Cal
end Go.Proofs.YtmepjcnpbjdlkaaGreatDoor
