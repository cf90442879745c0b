/- texts of this claim, laid together: Cal. -/
/- the Gregorian calendar, plainly: leap years, months, the number of a date. -/
namespace Go.Proofs.YtmepjcnpbjdlkaaGreatDoor
namespace Cal

def lpB (y : Int) : Bool := decide (y % 4 = 0) && (decide (y % 100 ≠ 0) || decide (y % 400 = 0))
def lpN (y : Int) : Int := if lpB y = true then 1 else 0
def aheadM (m : Int) : Int :=
  if m = 1 then 0 else if m = 2 then 31 else if m = 3 then 59 else if m = 4 then 90 else if m = 5 then 120 else if m = 6 then 151 else if m = 7 then 181 else if m = 8 then 212 else if m = 9 then 243 else if m = 10 then 273 else if m = 11 then 304 else if m = 12 then 334 else 365
def mlen (y m : Int) : Int := aheadM (m + 1) - aheadM m + (if m = 2 then lpN y else 0)
def cum (y m : Int) : Int := aheadM m + (if 2 < m then lpN y else 0)
def ys (y : Int) : Int := 365 * (y - 1) + (y - 1) / 4 - (y - 1) / 100 + (y - 1) / 400
def numOf (y m d : Int) : Int := ys y + cum y m + d
theorem lpN_01 (y : Int) : 0 ≤ lpN y ∧ lpN y ≤ 1 := by unfold lpN; split <;> omega
theorem twelve {m : Int} (h0 : 1 ≤ m) (h1 : m ≤ 12) : m = 1 ∨ m = 2 ∨ m = 3 ∨ m = 4 ∨ m = 5 ∨ m = 6 ∨ m = 7 ∨ m = 8 ∨ m = 9 ∨ m = 10 ∨ m = 11 ∨ m = 12 := by omega
theorem cum_succ (y m : Int) (h0 : 1 ≤ m) (h1 : m ≤ 12) : cum y (m + 1) = cum y m + mlen y m := by
  obtain h | h | h | h | h | h | h | h | h | h | h | h := twelve h0 h1 <;> subst h <;> simp [cum, mlen, aheadM] <;> omega
theorem cum_one (y : Int) : cum y 1 = 0 := by simp [cum, aheadM]
theorem cum_end (y : Int) : cum y 13 = 365 + lpN y := by simp [cum, aheadM]
theorem mlen_bd (y m : Int) (h0 : 1 ≤ m) (h1 : m ≤ 12) : 28 ≤ mlen y m ∧ mlen y m ≤ 31 := by
  have := lpN_01 y
  obtain h | h | h | h | h | h | h | h | h | h | h | h := twelve h0 h1 <;> subst h <;> simp [mlen, aheadM] <;> omega
theorem cum_bd (y m : Int) (h0 : 1 ≤ m) (h1 : m ≤ 12) : 0 ≤ cum y m ∧ cum y m ≤ 335 := by
  have := lpN_01 y
  obtain h | h | h | h | h | h | h | h | h | h | h | h := twelve h0 h1 <;> subst h <;> simp [cum, aheadM] <;> omega
theorem aheadM_bd (m : Int) : 0 ≤ aheadM m ∧ aheadM m ≤ 365 := by
  unfold aheadM
  (repeat' split) <;> omega
theorem ys_succ (y : Int) (h : 1 ≤ y) : ys (y + 1) = ys y + 365 + lpN y := by
  unfold ys lpN lpB
  by_cases h4 : y % 4 = 0
  · by_cases h100 : y % 100 = 0
    · by_cases h400 : y % 400 = 0
      · simp [h4, h100, h400]; omega
      · simp [h4, h100, h400]; omega
    · simp [h4, h100]; omega
  · simp [h4]; omega
theorem ys_mono {a b : Int} (h : a ≤ b) (h1 : 1 ≤ a) : ys a ≤ ys b := by unfold ys; omega
/-- the date of a day -/
def Is (n y m d : Int) : Prop := 1 ≤ y ∧ y ≤ 9999 ∧ 1 ≤ m ∧ m ≤ 12 ∧ 1 ≤ d ∧ d ≤ mlen y m ∧ n = numOf y m d
theorem cum_le (y : Int) {a b : Int} (h : a ≤ b) (h0 : 1 ≤ a) (h1 : b ≤ 12) : cum y a ≤ cum y b := by
  have hl := lpN_01 y
  obtain ha | ha | ha | ha | ha | ha | ha | ha | ha | ha | ha | ha := twelve h0 (by omega) <;> subst ha <;>
  (obtain hb | hb | hb | hb | hb | hb | hb | hb | hb | hb | hb | hb := twelve (m := b) (by omega) h1 <;> subst hb <;> first | omega | (simp [cum, aheadM] <;> omega))
theorem Is.bd {n y m d : Int} (h : Is n y m d) : ys y < n ∧ n ≤ ys y + 365 + lpN y := by
  obtain ⟨h1, h2, h3, h4, h5, h6, rfl⟩ := h
  have := cum_succ y m h3 h4
  have hb := cum_bd y m h3 h4
  unfold numOf
  have : cum y (m + 1) ≤ 365 + lpN y := by
    by_cases e : m = 12
    · subst e; exact Int.le_of_eq (cum_end y)
    · have := cum_le y (a := m + 1) (b := 12) (by omega) (by omega) (by omega)
      have h12 : cum y 12 ≤ 365 + lpN y := by simp [cum, aheadM] <;> omega
      omega
  omega
theorem Is.unique {n y m d y' m' d' : Int} (h : Is n y m d) (k : Is n y' m' d') : y = y' ∧ m = m' ∧ d = d' := by
  have b1 := h.bd
  have b2 := k.bd
  obtain ⟨h1, h2, h3, h4, h5, h6, h7⟩ := h
  obtain ⟨k1, k2, k3, k4, k5, k6, k7⟩ := k
  have hy : y = y' := by
    have l1 := ys_succ y h1
    have l2 := ys_succ y' k1
    by_cases c : y < y'
    · have := ys_mono (a := y + 1) (b := y') (by omega) (by omega)
      omega
    · by_cases c' : y' < y
      · have := ys_mono (a := y' + 1) (b := y) (by omega) (by omega)
        omega
      · omega
  subst hy
  have hm : m = m' := by
    have s1 := cum_succ y m h3 h4
    have s2 := cum_succ y m' k3 k4
    unfold numOf at h7 k7
    by_cases c : m < m'
    · have := cum_le y (a := m + 1) (b := m') (by omega) (by omega) (by omega)
      omega
    · by_cases c' : m' < m
      · have := cum_le y (a := m' + 1) (b := m) (by omega) (by omega) (by omega)
        omega
      · omega
  subst hm
  unfold numOf at h7 k7
  omega
theorem ys_last : ys 10000 = 3652059 := by decide
theorem Is.range {n y m d : Int} (h : Is n y m d) : 1 ≤ n ∧ n ≤ 3652059 := by
  have b := h.bd
  have h1 := h.1
  have h2 := h.2.1
  have s := ys_succ y h1
  have := ys_mono (a := y + 1) (b := 10000) (by omega) (by omega)
  rw [ys_last] at this
  have y0 : 0 ≤ ys y := by unfold ys; omega
  omega

/-! ### the steps of date -/
structure Steps (n q r c r2 f r3 o r4 y : Int) : Prop where
  hq : q = (n - 1) / 146097
  hr : r = (n - 1) % 146097
  hc : c = min (r / 36524) 3
  hr2 : r2 = r - c * 36524
  hf : f = r2 / 1461
  hr3 : r3 = r2 - f * 1461
  ho : o = min (r3 / 365) 3
  hr4 : r4 = r3 - o * 365
  hy : y = 400 * q + 1 + (100 * c + 4 * f + o)
theorem lp_end {q c f y : Int} (hy : y = 400 * q + 100 * c + 4 * f + 4) (f0 : 0 ≤ f) (f1 : f ≤ 24) (h : f = 24 → c = 3) : lpN y = 1 := by
  have m4 : y % 4 = 0 := by omega
  by_cases f24 : f = 24
  · have c3 := h f24
    subst f24 c3
    have : y % 400 = 0 := by omega
    simp [lpN, lpB, m4, this]
  · have : y % 100 ≠ 0 := by omega
    simp [lpN, lpB, m4, this]
theorem y_of {y q c f o : Int} (h : y - 1 = 400 * q + 100 * c + 4 * f + o) (ho : o = 3) : y = 400 * q + 100 * c + 4 * f + 4 := by omega
set_option maxHeartbeats 4000000 in
theorem steps_right {n q r c r2 f r3 o r4 y : Int} (h : Steps n q r c r2 f r3 o r4 y) (h0 : 1 ≤ n) (h1 : n ≤ 3652059) : 1 ≤ y ∧ y ≤ 9999 ∧ 0 ≤ r4 ∧ r4 < 365 + lpN y ∧ n = ys y + r4 + 1 := by
  obtain ⟨hq, hr, hc, hr2, hf, hr3, ho, hr4, hy⟩ := h
  have q0 : 0 ≤ q ∧ q ≤ 24 := by omega
  have r0 : 0 ≤ r ∧ r ≤ 146096 := by omega
  have c0 : 0 ≤ c ∧ c ≤ 3 := by omega
  have r20 : 0 ≤ r2 ∧ r2 ≤ 36524 ∧ (c < 3 → r2 < 36524) := by omega
  have f0 : 0 ≤ f ∧ f ≤ 24 := by omega
  have r30 : 0 ≤ r3 ∧ r3 ≤ 1460 ∧ (f = 24 → c < 3 → r3 < 1460) := by omega
  have o0 : 0 ≤ o ∧ o ≤ 3 := by omega
  have r40 : 0 ≤ r4 ∧ r4 ≤ 365 ∧ (o < 3 → r4 < 365) ∧ (r4 = 365 → o = 3 ∧ r3 = 1460) := by omega
  have hy1 : y - 1 = 400 * q + 100 * c + 4 * f + o := by omega
  have d4 : (y - 1) / 4 = 100 * q + 25 * c + f := by omega
  have d100 : (y - 1) / 100 = 4 * q + c := by omega
  have d400 : (y - 1) / 400 = q := by omega
  have hn : n - 1 = 146097 * q + r := by omega
  have hys : ys y = 146097 * q + 36524 * c + 1461 * f + 365 * o := by unfold ys; rw [d4, d100, d400]; omega
  refine ⟨by omega, ?_, r40.1, ?_, by omega⟩
  · omega
  · have := lpN_01 y
    by_cases e : r4 = 365
    · have e1 := r40.2.2.2 e
      have hl : lpN y = 1 := lp_end (y_of hy1 e1.1) f0.1 f0.2 (fun e24 => Int.le_antisymm c0.2 (Int.not_lt.1 fun hc => (Int.ne_of_lt (r30.2.2 e24 hc)) e1.2))
      omega
    · omega
end Cal
end Go.Proofs.YtmepjcnpbjdlkaaGreatDoor
