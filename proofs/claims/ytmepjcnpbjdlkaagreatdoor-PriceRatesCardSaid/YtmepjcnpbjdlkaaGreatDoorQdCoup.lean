/- texts of this claim, laid together: Coup. -/
import Derived.Test.YtmepjcnpbjdlkaaGreatDoorQdCal
/- months added to a date, the days of coupons: plainly. -/
namespace Go.Proofs.YtmepjcnpbjdlkaaGreatDoor
namespace Cal
/-- how many months from the year 0 on -/
def mon (y m : Int) : Int := 12 * y + m - 1
theorem numOf_lt {y m d y' m' d' n n' : Int} (h : Is n y m d) (k : Is n' y' m' d') (hl : mon y m < mon y' m') : n < n' := by
  have hb := h.bd
  have kb := k.bd
  obtain ⟨h1, h2, h3, h4, h5, h6, rfl⟩ := h
  obtain ⟨k1, k2, k3, k4, k5, k6, rfl⟩ := k
  unfold mon at hl
  by_cases hy : y < y'
  · have := ys_succ y h1
    have := ys_mono (a := y + 1) (b := y') (by omega) (by omega)
    omega
  · obtain rfl : y = y' := by omega
    have s := cum_succ y m h3 h4
    have := cum_le y (a := m + 1) (b := m') (by omega) (by omega) (by omega)
    unfold numOf
    omega
end Cal
end Go.Proofs.YtmepjcnpbjdlkaaGreatDoor
