/- texts of this claim, laid together: Fl, FlB, FlC, FlI. -/
import Derived.RowKit
import Derived.Laws.FloatArith
/- numbers with a point, of 64 bits, in units of 2^-1074: the place of the last bit that is kept, half to even, the rung of the nearest: plain. -/
namespace Go.Proofs.YtmepjcnpbjdlkaaGreatDoor
set_option linter.unusedVariables false
namespace FL

/-- the whole number nearest to n over d; of two, the even one -/
def rne (n d : Nat) : Nat := n / d + if d < 2 * (n % d) ∨ (d = 2 * (n % d) ∧ n / d % 2 = 1) then 1 else 0
theorem rne_mul (c n d : Nat) (hc : 0 < c) : rne (c * n) (c * d) = rne n d := by
  unfold rne
  rw [Nat.mul_div_mul_left n d hc, Nat.mul_mod_mul_left]
  have h1 : (c * d < 2 * (c * (n % d))) ↔ (d < 2 * (n % d)) := by
    rw [show 2 * (c * (n % d)) = c * (2 * (n % d)) by rw [Nat.mul_left_comm]]
    exact Nat.mul_lt_mul_left hc
  have h2 : (c * d = 2 * (c * (n % d))) ↔ (d = 2 * (n % d)) := by
    rw [show 2 * (c * (n % d)) = c * (2 * (n % d)) by rw [Nat.mul_left_comm]]
    exact Nat.mul_right_inj (Nat.pos_iff_ne_zero.1 hc)
  simp only [h1, h2]
theorem rne_ge (n d : Nat) : n / d ≤ rne n d := Nat.le_add_right ..
theorem rne_le (n d : Nat) : rne n d ≤ n / d + 1 := by unfold rne; split <;> omega
theorem rne_exact (k d : Nat) (hd : 0 < d) : rne (k * d) d = k := by
  unfold rne
  rw [Nat.mul_div_cancel k hd, Nat.mul_mod_left]
  rw [if_neg (by omega)]; rfl
theorem rne_mono_same {n n' : Nat} (d : Nat) (hd : 0 < d) (h : n ≤ n') : rne n d ≤ rne n' d := by
  have hq : n / d ≤ n' / d := Nat.div_le_div_right h
  by_cases he : n / d = n' / d
  · have hr : n % d ≤ n' % d := by
      have h1 := Nat.div_add_mod n d
      have h2 := Nat.div_add_mod n' d
      rw [he] at h1
      omega
    unfold rne
    rw [he]
    split
    · rw [if_pos (by omega)]; exact Nat.le_refl _
    · exact Nat.add_le_add_left (Nat.zero_le _) _
  · exact Nat.le_trans (rne_le n d) (Nat.le_trans (by omega) (rne_ge n' d))
theorem rne_mono {n d n' d' : Nat} (hd : 0 < d) (hd' : 0 < d') (h : n * d' ≤ n' * d) : rne n d ≤ rne n' d' := by
  rw [← rne_mul d' n d hd', ← rne_mul d n' d' hd, Nat.mul_comm d' d]
  exact rne_mono_same _ (Nat.mul_pos hd hd') (by rw [Nat.mul_comm d' n, Nat.mul_comm d n']; exact h)
theorem rne_le_of {n d k : Nat} (hd : 0 < d) (h : n ≤ k * d) : rne n d ≤ k := by
  have := rne_mono_same d hd h
  rwa [rne_exact k d hd] at this
theorem rne_ge_of {n d k : Nat} (hd : 0 < d) (h : k * d ≤ n) : k ≤ rne n d := by
  have := rne_mono_same d hd h
  rwa [rne_exact k d hd] at this

/-- the place of the last bit that is kept -/
def pl (n d : Nat) : Nat := (n / d).log2 - 52
theorem pl_hi (n d : Nat) : n / d < 2 ^ (53 + pl n d) := by
  by_cases h : n / d = 0
  · rw [h]; exact Nat.two_pow_pos _
  · exact (Nat.log2_lt h).1 (by unfold pl; omega)
theorem pl_lo (n d : Nat) (h : pl n d ≠ 0) : 2 ^ (52 + pl n d) ≤ n / d := by
  have hz : n / d ≠ 0 := fun e => h (by unfold pl; rw [e]; decide)
  exact (Nat.le_log2 hz).1 (by unfold pl at *; omega)
theorem pl_unique {n d k : Nat} (h1 : n / d < 2 ^ (53 + k)) (h2 : k ≠ 0 → 2 ^ (52 + k) ≤ n / d) : pl n d = k := by
  have h3 := pl_hi n d
  have h4 := pl_lo n d
  rcases Nat.lt_trichotomy (pl n d) k with h | h | h
  · have := h2 (by omega)
    have h5 : 2 ^ (53 + pl n d) ≤ 2 ^ (52 + k) := Nat.pow_le_pow_right (by decide) (by omega)
    omega
  · exact h
  · have := h4 (by omega)
    have h5 : 2 ^ (53 + k) ≤ 2 ^ (52 + pl n d) := Nat.pow_le_pow_right (by decide) (by omega)
    omega
theorem pl_mono {v d v' d' : Nat} (h : v / d ≤ v' / d') : pl v d ≤ pl v' d' := by
  have h3 := pl_hi v' d'
  have h4 := pl_lo v d
  rcases Nat.lt_or_ge (pl v' d') (pl v d) with c | c
  · have := h4 (by omega)
    have h5 : 2 ^ (53 + pl v' d') ≤ 2 ^ (52 + pl v d) := Nat.pow_le_pow_right (by decide) (by omega)
    omega
  · exact c
theorem div_le_div_cross {n d n' d' : Nat} (hd : 0 < d) (hd' : 0 < d') (h : n * d' ≤ n' * d) : n / d ≤ n' / d' := by
  rw [Nat.le_div_iff_mul_le hd']
  have h1 : n / d * d' * d ≤ n' * d := Nat.le_trans (by
    rw [Nat.mul_right_comm]; exact Nat.mul_le_mul_right _ (Nat.div_mul_le_self n d)) h
  exact Nat.le_of_mul_le_mul_right h1 hd

/-- the rung of the nearest number -/
def rung (n d : Nat) : Nat := pl n d * 2 ^ 52 + rne n (d * 2 ^ pl n d)
theorem rung_mul (c n d : Nat) (hc : 0 < c) : rung (c * n) (c * d) = rung n d := by
  have hp : pl (c * n) (c * d) = pl n d := by unfold pl; rw [Nat.mul_div_mul_left n d hc]
  unfold rung
  rw [hp, Nat.mul_assoc, rne_mul c n _ hc]
theorem rung_hi (n d : Nat) (hd : 0 < d) : rne n (d * 2 ^ pl n d) ≤ 2 ^ 53 := by
  refine rne_le_of (Nat.mul_pos hd (Nat.two_pow_pos _)) ?_
  have h := pl_hi n d
  rw [Nat.div_lt_iff_lt_mul hd] at h
  rw [show 2 ^ 53 * (d * 2 ^ pl n d) = 2 ^ (53 + pl n d) * d by rw [Nat.pow_add, Nat.mul_assoc, Nat.mul_comm d]]
  exact Nat.le_of_lt h
theorem rung_lo (n d : Nat) (hd : 0 < d) (hk : pl n d ≠ 0) : 2 ^ 52 ≤ rne n (d * 2 ^ pl n d) := by
  refine rne_ge_of (Nat.mul_pos hd (Nat.two_pow_pos _)) ?_
  have h := pl_lo n d hk
  rw [Nat.le_div_iff_mul_le hd] at h
  rw [show 2 ^ 52 * (d * 2 ^ pl n d) = 2 ^ (52 + pl n d) * d by rw [Nat.pow_add, Nat.mul_assoc, Nat.mul_comm d]]
  exact h
theorem rung_mono {n d n' d' : Nat} (hd : 0 < d) (hd' : 0 < d') (h : n * d' ≤ n' * d) : rung n d ≤ rung n' d' := by
  have hp := pl_mono (div_le_div_cross hd hd' h)
  rcases Nat.lt_or_ge (pl n d) (pl n' d') with c | c
  · have h1 := rung_hi n d hd
    have h2 := rung_lo n' d' hd' (by omega)
    unfold rung
    have h3 : (pl n d + 1) * 2 ^ 52 ≤ pl n' d' * 2 ^ 52 := Nat.mul_le_mul_right _ c
    have e53 : (2 : Nat) ^ 53 = 2 ^ 52 + 2 ^ 52 := by decide
    rw [Nat.add_mul, Nat.one_mul] at h3
    rw [e53] at h1
    generalize (2 : Nat) ^ 52 = q at *
    omega
  · have he : pl n d = pl n' d' := by omega
    unfold rung
    rw [he]
    refine Nat.add_le_add_left (rne_mono (Nat.mul_pos hd (Nat.two_pow_pos _)) (Nat.mul_pos hd' (Nat.two_pow_pos _)) ?_) _
    rw [← Nat.mul_assoc, ← Nat.mul_assoc]
    exact Nat.mul_le_mul_right _ h
theorem rung_eq {n d n' d' : Nat} (hd : 0 < d) (hd' : 0 < d') (h : n * d' = n' * d) : rung n d = rung n' d' :=
  Nat.le_antisymm (rung_mono hd hd' (Nat.le_of_eq h)) (rung_mono hd' hd (Nat.le_of_eq h.symm))
theorem rung_zero (d : Nat) (hd : 0 < d) : rung 0 d = 0 := by
  have hp : pl 0 d = 0 := by unfold pl; rw [Nat.zero_div]; decide
  unfold rung
  rw [hp]
  have := rne_exact 0 (d * 2 ^ 0) (by simpa using hd)
  rw [Nat.zero_mul] at this
  rw [this]

/-- what a rung is worth, in units -/
def units (r : Nat) : Nat := if r < 2 ^ 52 then r else (2 ^ 52 + r % 2 ^ 52) * 2 ^ (r / 2 ^ 52 - 1)
theorem rung_units (r : Nat) : rung (units r) 1 = r := by
  unfold units
  split
  · rename_i h
    have hp : pl r 1 = 0 := by
      refine pl_unique ?_ (fun h => absurd rfl h)
      rw [Nat.div_one]
      exact Nat.lt_of_lt_of_le h (by decide)
    unfold rung
    rw [hp]
    rw [Nat.zero_mul, Nat.zero_add, Nat.pow_zero, Nat.mul_one]
    have := rne_exact r 1 (by decide)
    rwa [Nat.mul_one] at this
  · rename_i h
    have hm : r % 2 ^ 52 < 2 ^ 52 := Nat.mod_lt _ (Nat.two_pow_pos _)
    have hd1 : 1 ≤ r / 2 ^ 52 := by rw [Nat.le_div_iff_mul_le (Nat.two_pow_pos _)]; omega
    generalize hq : r / 2 ^ 52 - 1 = k
    have hk : r / 2 ^ 52 = k + 1 := by omega
    have hdm := Nat.div_add_mod r (2 ^ 52)
    have hp : pl ((2 ^ 52 + r % 2 ^ 52) * 2 ^ k) 1 = k := by
      refine pl_unique ?_ (fun _ => ?_)
      · rw [Nat.div_one, Nat.pow_add]
        refine Nat.mul_lt_mul_of_pos_right ?_ (Nat.two_pow_pos _)
        have e53 : (2 : Nat) ^ 53 = 2 ^ 52 + 2 ^ 52 := by decide
        rw [e53]
        omega
      · rw [Nat.div_one, Nat.pow_add]
        exact Nat.mul_le_mul_right _ (Nat.le_add_right ..)
    unfold rung
    rw [hp, Nat.one_mul, rne_exact _ _ (Nat.two_pow_pos _)]
    rw [hk, Nat.mul_add, Nat.mul_one, Nat.mul_comm (2 ^ 52) k] at hdm
    rw [← Nat.add_assoc]
    exact hdm
theorem units_lt {r r' : Nat} (h : units r < units r') : r < r' := by
  rcases Nat.lt_or_ge r r' with c | c
  · exact c
  · exfalso
    have h1 := rung_mono (n := units r) (d := 1) (n' := units r') (d' := 1) (by decide) (by decide) (by rw [Nat.mul_one, Nat.mul_one]; exact Nat.le_of_lt h)
    rw [rung_units, rung_units] at h1
    have : r = r' := by omega
    rw [this] at h
    exact Nat.lt_irrefl _ h
theorem units_inj {r r' : Nat} (h : units r = units r') : r = r' := by rw [← rung_units r, ← rung_units r', h]
theorem units_le {r r' : Nat} (h : r ≤ r') : units r ≤ units r' := by
  rcases Nat.lt_or_ge (units r') (units r) with c | c
  · have := units_lt c; omega
  · exact c
theorem units_mono {r r' : Nat} : units r < units r' ↔ r < r' := ⟨units_lt, fun h => by
  rcases Nat.lt_or_ge (units r) (units r') with c | c
  · exact c
  · have h2 := units_le (Nat.le_of_lt h)
    have := units_inj (Nat.le_antisymm h2 c)
    omega⟩
theorem units_zero : units 0 = 0 := by unfold units; rw [if_pos (by decide)]
end FL
end Go.Proofs.YtmepjcnpbjdlkaaGreatDoor
/- numbers with a point: the model's operations on finite ones, in units of 2^-1074: plain. -/
namespace Go.Proofs.YtmepjcnpbjdlkaaGreatDoor
set_option linter.unusedVariables false
namespace FL

theorem rne_eq {n d n' d' : Nat} (hd : 0 < d) (hd' : 0 < d') (h : n * d' = n' * d) : rne n d = rne n' d' :=
  Nat.le_antisymm (rne_mono hd hd' (Nat.le_of_eq h)) (rne_mono hd' hd (Nat.le_of_eq h.symm))
theorem cut_even (s : Bool) (n drop : Nat) : Ieee.Toward.even.cut s n drop = rne n (2 ^ drop) := by
  have hl : n < 2 ^ (n.log2 + 1) := Nat.lt_log2_self
  unfold Ieee.Toward.cut
  rcases Nat.le_total drop (n.log2 + 2) with c | c
  · rw [Nat.min_eq_left c, Nat.one_shiftLeft]
    unfold rne
    dsimp only
    congr 1
    by_cases h : 2 ^ drop < 2 * (n % 2 ^ drop) ∨ (2 ^ drop = 2 * (n % 2 ^ drop) ∧ n / 2 ^ drop % 2 = 1)
    · rw [if_pos h]
      rcases h with h | h
      · simp [h]
      · simp [h.1.symm, h.2]
    · rw [if_neg h]
      have h1 : ¬ 2 ^ drop < 2 * (n % 2 ^ drop) := fun e => h (Or.inl e)
      by_cases h2 : 2 ^ drop = 2 * (n % 2 ^ drop)
      · have h3 : n / 2 ^ drop % 2 ≠ 1 := fun e => h (Or.inr ⟨h2, e⟩)
        simp [h1, h3]
      · simp [h1, h2]
  · rw [Nat.min_eq_right c, Nat.one_shiftLeft]
    have hp : (2 : Nat) ^ (n.log2 + 2) = 2 * 2 ^ (n.log2 + 1) := by rw [Nat.pow_succ, Nat.mul_comm]
    have hlt : n < 2 ^ (n.log2 + 2) := by omega
    have hd : (2 : Nat) ^ (n.log2 + 2) ≤ 2 ^ drop := Nat.pow_le_pow_right (by decide) c
    dsimp only
    rw [Nat.div_eq_of_lt hlt, Nat.mod_eq_of_lt hlt]
    unfold rne
    have hn : n < 2 ^ drop := by omega
    rw [Nat.div_eq_of_lt hn, Nat.mod_eq_of_lt hn, if_neg (by omega)]
    have h1 : ¬ 2 ^ (n.log2 + 2) < 2 * n := by omega
    simp [h1]

/-- what 1 is worth, in units -/
def EE : Nat := 1074
def ONE : Nat := 2 ^ EE
theorem one_is : ∃ E : Nat, E = 1074 ∧ ONE = 2 ^ E := ⟨EE, rfl, rfl⟩
theorem one_pos : 0 < ONE := Nat.two_pow_pos EE
attribute [local irreducible] EE ONE
/-- beyond all that is finite -/
def INF : Nat := 2047 * 2 ^ 52
theorem least_ : Ieee.double.leastPlace = -1074 := by decide
theorem binade_ : Ieee.double.binade = 2 ^ 52 := by decide
theorem infRung_ : Ieee.double.infRung = INF := by decide
theorem signWeight_ : Ieee.double.signWeight = 2 ^ 63 := by decide

theorem nearest_ab (s : Bool) (m : Nat) (p : Int) (a b : Nat) (h : p + 1074 = (a : Int) - b) :
    Ieee.double.nearest s m p = Ieee.double.word s (min (rung (m * 2 ^ a) (2 ^ b)) INF) := by
  unfold Ieee.Format.nearest
  by_cases hm : m = 0
  · rw [if_pos hm, hm, Nat.zero_mul, rung_zero _ (Nat.two_pow_pos _), Nat.min_eq_left (Nat.zero_le _)]
  · rw [if_neg hm]
    have hl1 : m < 2 ^ (m.log2 + 1) := Nat.lt_log2_self
    have hl2 : 2 ^ m.log2 ≤ m := Nat.log2_self_le hm
    rw [least_, binade_, infRung_, show (Ieee.double.fractionBits : Int) = 52 from rfl]
    dsimp only
    generalize hlast : max (p + (m.log2 : Int) - 52) (-1074) = last
    generalize hk : (last - (-1074)).toNat = k
    have hkl : (k : Int) = last + 1074 := by omega
    have hp : pl (m * 2 ^ a) (2 ^ b) = k := by
      refine pl_unique ?_ (fun hk0 => ?_)
      · rw [Nat.div_lt_iff_lt_mul (Nat.two_pow_pos _), ← Nat.pow_add]
        refine Nat.lt_of_lt_of_le (Nat.mul_lt_mul_of_pos_right hl1 (Nat.two_pow_pos _)) ?_
        rw [← Nat.pow_add]
        exact Nat.pow_le_pow_right (by decide) (by omega)
      · rw [Nat.le_div_iff_mul_le (Nat.two_pow_pos _), ← Nat.pow_add]
        refine Nat.le_trans ?_ (Nat.mul_le_mul_right _ hl2)
        rw [← Nat.pow_add]
        exact Nat.pow_le_pow_right (by decide) (by omega)
    unfold rung
    rw [hp, cut_even, Nat.shiftLeft_eq]
    congr 3
    refine rne_eq (Nat.two_pow_pos _) (Nat.mul_pos (Nat.two_pow_pos _) (Nat.two_pow_pos _)) ?_
    rw [Nat.mul_assoc, Nat.mul_assoc, ← Nat.pow_add, ← Nat.pow_add, ← Nat.pow_add]
    congr 2
    omega

/-- a word's sign, its rung -/
def neg (w : Nat) : Bool := w / 2 ^ 63 % 2 == 1
def rg (w : Nat) : Nat := w % 2 ^ 63
/-- what a finite word is worth, in units -/
def U (w : Nat) : Nat := units (rg w)
def sg (s : Bool) (u : Nat) : Int := if s then -(u : Int) else u
def S (w : Nat) : Int := sg (neg w) (U w)
theorem read_eq (w : Nat) : Ieee.double.read w =
    if rg w < 2 ^ 52 then .number (neg w) (rg w) (-1074)
    else if rg w < INF then .number (neg w) (2 ^ 52 + rg w % 2 ^ 52) (-1074 + (rg w / 2 ^ 52 - 1 : Nat))
    else if rg w = INF then .infinity (neg w)
    else .nan (neg w) (rg w - INF) := by
  unfold Ieee.Format.read
  rw [signWeight_, binade_, infRung_, least_]
  rfl
theorem read_fin {w : Nat} (h : rg w < INF) : ∃ m e : Nat, Ieee.double.read w = .number (neg w) m (-1074 + (e : Int)) ∧ m * 2 ^ e = U w ∧ m < 2 ^ 53 := by
  rw [read_eq]
  by_cases h1 : rg w < 2 ^ 52
  · refine ⟨rg w, 0, ?_, ?_, ?_⟩
    · rw [if_pos h1]; rfl
    · unfold U units; rw [if_pos h1, Nat.pow_zero, Nat.mul_one]
    · exact Nat.lt_of_lt_of_le h1 (by decide)
  · refine ⟨2 ^ 52 + rg w % 2 ^ 52, rg w / 2 ^ 52 - 1, ?_, ?_, ?_⟩
    · rw [if_neg h1, if_pos h]
    · unfold U units; rw [if_neg h1]
    · have : rg w % 2 ^ 52 < 2 ^ 52 := Nat.mod_lt _ (Nat.two_pow_pos _)
      have e53 : (2 : Nat) ^ 53 = 2 ^ 52 + 2 ^ 52 := by decide
      rw [e53]
      exact Nat.add_lt_add_left this _
theorem read_inf {w : Nat} (h : rg w = INF) : Ieee.double.read w = .infinity (neg w) := by
  rw [read_eq, if_neg (by rw [h]; decide), if_neg (by rw [h]; exact Nat.lt_irrefl _), if_pos h]
theorem read_nan {w : Nat} (h : INF < rg w) : Ieee.double.read w = .nan (neg w) (rg w - INF) := by
  have : 2 ^ 52 ≤ INF := by decide
  rw [read_eq, if_neg (by omega), if_neg (by omega), if_neg (by omega)]

/-- the word of a sign and a rung -/
def wd (s : Bool) (r : Nat) : Nat := if s then 2 ^ 63 + r else r
theorem word_wd (s : Bool) (r : Nat) : Ieee.double.word s r = wd s r := by unfold Ieee.Format.word wd; rw [signWeight_]
theorem neg_wd {s : Bool} {r : Nat} (h : r < 2 ^ 63) : neg (wd s r) = s := by
  cases s
  · have : r / 2 ^ 63 = 0 := Nat.div_eq_of_lt h
    unfold neg wd; simp only [Bool.false_eq_true, if_false]; rw [this]; rfl
  · have : (2 ^ 63 + r) / 2 ^ 63 = 1 := by rw [Nat.add_div_left _ (Nat.two_pow_pos _), Nat.div_eq_of_lt h]
    unfold neg wd; simp only [if_true]; rw [this]; rfl
theorem rg_wd {s : Bool} {r : Nat} (h : r < 2 ^ 63) : rg (wd s r) = r := by
  cases s
  · unfold rg wd; simp only [Bool.false_eq_true, if_false]; exact Nat.mod_eq_of_lt h
  · unfold rg wd; simp only [if_true]; rw [Nat.add_mod_left]; exact Nat.mod_eq_of_lt h
theorem wd_of {w : Nat} (h : w < 2 ^ 64) : wd (neg w) (rg w) = w := by
  have h1 := Nat.div_add_mod w (2 ^ 63)
  have h2 : w / 2 ^ 63 < 2 := by rw [Nat.div_lt_iff_lt_mul (Nat.two_pow_pos _)]; exact h
  unfold wd neg rg
  generalize w / 2 ^ 63 = q at *
  have : q = 0 ∨ q = 1 := by omega
  rcases this with e | e
  · subst e
    simp only [show ((0 % 2 == 1) = true) = False by decide, if_false]
    rw [Nat.mul_zero, Nat.zero_add] at h1
    exact h1
  · subst e
    simp only [show ((1 % 2 == 1) = true) = True by decide, if_true]
    rw [Nat.mul_one] at h1
    exact h1
theorem cap_lt (n : Nat) : min n INF < 2 ^ 63 := Nat.lt_of_le_of_lt (Nat.min_le_right ..) (by decide)

theorem mul_fin {x y : Nat} (hx : rg x < INF) (hy : rg y < INF) :
    Ieee.double.mul x y = some (wd (neg x ^^ neg y) (min (rung (U x * U y) ONE) INF)) := by
  obtain ⟨E, hE, hO⟩ := one_is
  obtain ⟨m, e, hr, hu, -⟩ := read_fin hx
  obtain ⟨n, f, hr', hu', -⟩ := read_fin hy
  unfold Ieee.Format.mul
  rw [hr, hr']
  show some (Ieee.double.nearest _ _ _) = _
  rw [nearest_ab _ _ _ (e + f) E (by omega), word_wd, hO]
  rw [← hu, ← hu', Nat.pow_add, Nat.mul_mul_mul_comm]
theorem signed_eq (s : Bool) (m k : Nat) : Ieee.signed s m k = sg s (m * 2 ^ k) := by
  unfold Ieee.signed sg
  rw [Nat.shiftLeft_eq]
theorem sg_mul (s : Bool) (m k : Nat) : sg s (m * k) = sg s m * k := by
  unfold sg
  cases s
  · simp
  · simp [Int.neg_mul]
/-- a sum's sign -/
def addS (x y : Nat) : Bool := if S x + S y = 0 then neg x && neg y else decide (S x + S y < 0)
theorem add_fin {x y : Nat} (hx : rg x < INF) (hy : rg y < INF) :
    Ieee.double.add x y = some (wd (addS x y) (min (rung (S x + S y).natAbs 1) INF)) := by
  obtain ⟨m, e, hr, hu, -⟩ := read_fin hx
  obtain ⟨n, f, hr', hu', -⟩ := read_fin hy
  unfold Ieee.Format.add
  rw [hr, hr']
  show some (Ieee.double.nearest _ _ _) = _
  generalize hg : min e f = g
  have hmin : min (-1074 + (e : Int)) (-1074 + (f : Int)) = -1074 + (g : Int) := by omega
  rw [hmin]
  have h1 : (-1074 + (e : Int) - (-1074 + (g : Int))).toNat = e - g := by omega
  have h2 : (-1074 + (f : Int) - (-1074 + (g : Int))).toNat = f - g := by omega
  rw [h1, h2, signed_eq, signed_eq]
  have hs : (sg (neg x) (m * 2 ^ (e - g)) + sg (neg y) (n * 2 ^ (f - g))) * ((2 ^ g : Nat) : Int) = S x + S y := by
    unfold S
    rw [← hu, ← hu', Int.add_mul, ← sg_mul, ← sg_mul, Nat.mul_assoc, Nat.mul_assoc, ← Nat.pow_add, ← Nat.pow_add]
    rw [show e - g + g = e by omega, show f - g + g = f by omega]
  have hpos : (0 : Int) < ((2 ^ g : Nat) : Int) := by have := Nat.two_pow_pos g; omega
  generalize sg (neg x) (m * 2 ^ (e - g)) + sg (neg y) (n * 2 ^ (f - g)) = t at *
  rw [nearest_ab _ _ _ g 0 (by omega), word_wd]
  have ha : t.natAbs * 2 ^ g = (S x + S y).natAbs := by rw [← hs, Int.natAbs_mul, Int.natAbs_natCast]
  have hsn : (if t = 0 then neg x && neg y else decide (t < 0)) = addS x y := by
    unfold addS
    rw [← hs]
    have hne : ((2 ^ g : Nat) : Int) ≠ 0 := by omega
    have e0 : (t * ((2 ^ g : Nat) : Int) = 0) ↔ (t = 0) := ⟨fun h => by
      rcases Int.mul_eq_zero.1 h with h | h
      · exact h
      · exact absurd h hne, fun h => by rw [h, Int.zero_mul]⟩
    have e1 : (t * ((2 ^ g : Nat) : Int) < 0) ↔ (t < 0) := ⟨fun h => by
      rcases Int.lt_or_le t 0 with c | c
      · exact c
      · have := Int.mul_nonneg c (Int.le_of_lt hpos); omega, fun h => Int.mul_neg_of_neg_of_pos h hpos⟩
    simp only [e0, e1]
  rw [ha, hsn]
theorem order_fin {x y : Nat} (hx : rg x < INF) (hy : rg y < INF) : Ieee.double.order x y = some (compare (S x) (S y)) := by
  obtain ⟨m, e, hr, hu, -⟩ := read_fin hx
  obtain ⟨n, f, hr', hu', -⟩ := read_fin hy
  unfold Ieee.Format.order
  rw [hr, hr']
  show some (compare _ _) = _
  generalize hg : min e f = g
  have hmin : min (-1074 + (e : Int)) (-1074 + (f : Int)) = -1074 + (g : Int) := by omega
  rw [hmin]
  have h1 : (-1074 + (e : Int) - (-1074 + (g : Int))).toNat = e - g := by omega
  have h2 : (-1074 + (f : Int) - (-1074 + (g : Int))).toNat = f - g := by omega
  rw [h1, h2, signed_eq, signed_eq]
  have hpos : (0 : Int) < ((2 ^ g : Nat) : Int) := by have := Nat.two_pow_pos g; omega
  have k1 : sg (neg x) (m * 2 ^ (e - g)) * ((2 ^ g : Nat) : Int) = S x := by
    unfold S; rw [← hu, ← sg_mul, Nat.mul_assoc, ← Nat.pow_add, show e - g + g = e by omega]
  have k2 : sg (neg y) (n * 2 ^ (f - g)) * ((2 ^ g : Nat) : Int) = S y := by
    unfold S; rw [← hu', ← sg_mul, Nat.mul_assoc, ← Nat.pow_add, show f - g + g = f by omega]
  rw [← k1, ← k2]
  congr 1
  generalize sg (neg x) (m * 2 ^ (e - g)) = t
  generalize sg (neg y) (n * 2 ^ (f - g)) = u
  rcases Int.lt_trichotomy t u with c | c | c
  · rw [Int.compare_eq_lt.2 c, Int.compare_eq_lt.2 (Int.mul_lt_mul_of_pos_right c hpos)]
  · rw [c, Int.compare_eq_eq.2 rfl, Int.compare_eq_eq.2 rfl]
  · rw [Int.compare_eq_gt.2 c, Int.compare_eq_gt.2 (Int.mul_lt_mul_of_pos_right c hpos)]
theorem ofInt_ (n : Int) : FloatKind.nearest .f64 n = wd (decide (n < 0)) (min (rung (n.natAbs * ONE) 1) INF) := by
  obtain ⟨E, hE, hO⟩ := one_is
  show Ieee.double.nearest _ _ _ = _
  rw [nearest_ab _ _ _ E 0 (by omega), word_wd, hO]
end FL
end Go.Proofs.YtmepjcnpbjdlkaaGreatDoor
/- numbers with a point: the model's division, infinities, the whole part, in units of 2^-1074: plain. -/
namespace Go.Proofs.YtmepjcnpbjdlkaaGreatDoor
set_option linter.unusedVariables false
namespace FL
attribute [local irreducible] EE ONE

theorem rne_sticky (N D h : Nat) (hD : 0 < D) (hh : 1 ≤ h) : rne (2 * (N / D) + if N % D = 0 then 0 else 1) (2 * 2 ^ h) = rne N (D * 2 ^ h) := by
  obtain ⟨g, rfl⟩ : ∃ g, h = g + 1 := ⟨h - 1, by omega⟩
  have hP : (2 : Nat) ^ (g + 1) = 2 * 2 ^ g := by rw [Nat.pow_succ, Nat.mul_comm]
  have hH : 0 < 2 ^ g := Nat.two_pow_pos g
  have hrho : N % D < D := Nat.mod_lt _ hD
  unfold rne
  rw [Nat.mod_mul, Nat.mod_mul, ← Nat.div_div_eq_div_mul, ← Nat.div_div_eq_div_mul, hP]
  generalize N / D = Q at *
  generalize N % D = r at *
  have hs : (if r = 0 then 0 else 1) ≤ 1 := by split <;> omega
  have hs0 : (if r = 0 then 0 else 1) = 0 ↔ r = 0 := by split <;> omega
  generalize (if r = 0 then 0 else 1) = s at *
  rw [show (2 * Q + s) / 2 = Q by omega, show (2 * Q + s) % 2 = s by omega]
  generalize 2 ^ g = H at *
  generalize Q % (2 * H) = R at *
  have hD1 : D * (2 * H) = 2 * (D * H) := by rw [Nat.mul_left_comm]
  have key : (D * H < r + D * R ↔ (H < R ∨ (H = R ∧ r ≠ 0))) ∧ (D * H = r + D * R ↔ (H = R ∧ r = 0)) := by
    rcases Nat.lt_trichotomy H R with c | c | c
    · have h1 : D * (H + 1) ≤ D * R := Nat.mul_le_mul_left _ c
      rw [Nat.mul_add, Nat.mul_one] at h1
      omega
    · subst c; omega
    · have h1 : D * (R + 1) ≤ D * H := Nat.mul_le_mul_left _ c
      rw [Nat.mul_add, Nat.mul_one] at h1
      omega
  obtain ⟨k1, k2⟩ := key
  rw [hD1]
  have e1 : (2 * (2 * H) < 2 * (s + 2 * R)) ↔ (2 * (D * H) < 2 * (r + D * R)) := by
    constructor
    · intro h
      have := k1.2 (by by_cases c : H < R; exact Or.inl c; exact Or.inr (by omega))
      omega
    · intro h
      have := k1.1 (by omega)
      omega
  have e2 : (2 * (2 * H) = 2 * (s + 2 * R)) ↔ (2 * (D * H) = 2 * (r + D * R)) := by
    constructor
    · intro h
      have := k2.2 (by omega)
      omega
    · intro h
      have := k2.1 (by omega)
      omega
  simp only [e1, e2]
theorem rung_sticky (N D A B : Nat) (hD : 0 < D) (hQ : 2 ^ 53 ≤ N / D) :
    rung ((2 * (N / D) + if N % D = 0 then 0 else 1) * 2 ^ A) (2 ^ B) = rung (N * 2 ^ (A + 1)) (D * 2 ^ B) := by
  have hB := Nat.two_pow_pos B
  have hDB : 0 < D * 2 ^ B := Nat.mul_pos hD hB
  have h1 := pl_hi (N * 2 ^ (A + 1)) (D * 2 ^ B)
  have h2 := pl_lo (N * 2 ^ (A + 1)) (D * 2 ^ B)
  generalize hk : pl (N * 2 ^ (A + 1)) (D * 2 ^ B) = k at *
  rw [Nat.div_lt_iff_lt_mul hDB] at h1
  have hND : 2 ^ 53 * D ≤ N := (Nat.le_div_iff_mul_le hD).1 hQ
  have hAB : A + 2 ≤ k + B := by
    rcases Nat.lt_or_ge (A + 1) (k + B) with c | c
    · omega
    · exfalso
      have l1 : 2 ^ 53 * D * 2 ^ (A + 1) ≤ N * 2 ^ (A + 1) := Nat.mul_le_mul_right _ hND
      have l2 : 2 ^ (53 + k) * (D * 2 ^ B) = 2 ^ 53 * D * 2 ^ (k + B) := by
        rw [Nat.pow_add, Nat.pow_add, Nat.mul_assoc, Nat.mul_assoc, Nat.mul_left_comm (2 ^ k)]
      have l3 : 2 ^ 53 * D * 2 ^ (k + B) ≤ 2 ^ 53 * D * 2 ^ (A + 1) := Nat.mul_le_mul_left _ (Nat.pow_le_pow_right (by decide) c)
      rw [l2] at h1
      omega
  generalize hX : (2 * (N / D) + if N % D = 0 then 0 else 1) = X
  have hXs : ∀ t, 1 ≤ t → (2 ^ t ≤ X ↔ 2 ^ t * D ≤ 2 * N) := by
    intro t ht
    obtain ⟨t', rfl⟩ : ∃ t', t = t' + 1 := ⟨t - 1, by omega⟩
    have e : (2 : Nat) ^ (t' + 1) = 2 * 2 ^ t' := by rw [Nat.pow_succ, Nat.mul_comm]
    have hq : 2 ^ t' ≤ N / D ↔ 2 ^ t' * D ≤ N := Nat.le_div_iff_mul_le hD
    rw [e, Nat.mul_assoc]
    have hs : (if N % D = 0 then 0 else 1) ≤ 1 := by split <;> omega
    generalize (if N % D = 0 then 0 else 1) = s at *
    omega
  have hp : pl (X * 2 ^ A) (2 ^ B) = k := by
    refine pl_unique ?_ (fun hk0 => ?_)
    · rw [Nat.div_lt_iff_lt_mul hB]
      obtain ⟨t, ht⟩ : ∃ t, 53 + k + B = t + A := ⟨53 + k + B - A, by omega⟩
      rw [← Nat.pow_add, ht, Nat.pow_add]
      refine Nat.mul_lt_mul_of_pos_right ?_ (Nat.two_pow_pos _)
      refine Nat.lt_of_not_le fun c => ?_
      have := (hXs t (by omega)).1 c
      have l1 : 2 ^ (53 + k) * (D * 2 ^ B) = 2 ^ t * D * 2 ^ A := by
        rw [Nat.mul_left_comm, ← Nat.pow_add, ht, Nat.pow_add, Nat.mul_left_comm, Nat.mul_assoc]
      have l2 : N * 2 ^ (A + 1) = 2 * N * 2 ^ A := by rw [Nat.pow_succ, ← Nat.mul_assoc, Nat.mul_right_comm, Nat.mul_comm N 2]
      rw [l1, l2] at h1
      have := Nat.mul_le_mul_right (2 ^ A) this
      omega
    · have h3 := h2 hk0
      rw [Nat.le_div_iff_mul_le hDB] at h3
      rw [Nat.le_div_iff_mul_le hB]
      obtain ⟨t, ht⟩ : ∃ t, 52 + k + B = t + A := ⟨52 + k + B - A, by omega⟩
      rw [← Nat.pow_add, ht, Nat.pow_add]
      refine Nat.mul_le_mul_right _ ((hXs t (by omega)).2 ?_)
      have l1 : 2 ^ (52 + k) * (D * 2 ^ B) = 2 ^ t * D * 2 ^ A := by
        rw [Nat.mul_left_comm, ← Nat.pow_add, ht, Nat.pow_add, Nat.mul_left_comm, Nat.mul_assoc]
      have l2 : N * 2 ^ (A + 1) = 2 * N * 2 ^ A := by rw [Nat.pow_succ, ← Nat.mul_assoc, Nat.mul_right_comm, Nat.mul_comm N 2]
      rw [l1, l2] at h3
      exact Nat.le_of_mul_le_mul_right h3 (Nat.two_pow_pos _)
  unfold rung
  rw [hp, hk]
  congr 1
  obtain ⟨h, hh⟩ : ∃ h, B + k = A + 1 + h := ⟨B + k - A - 1, by omega⟩
  have e1 : 2 ^ B * 2 ^ k = 2 ^ A * (2 * 2 ^ h) := by rw [← Nat.pow_add, hh, Nat.pow_add, Nat.pow_succ, Nat.mul_assoc]
  rw [e1, Nat.mul_comm X, rne_mul _ _ _ (Nat.two_pow_pos _), ← hX, rne_sticky N D h hD (by omega)]
  refine rne_eq (Nat.mul_pos hD (Nat.two_pow_pos _)) (Nat.mul_pos hDB (Nat.two_pow_pos _)) ?_
  rw [Nat.mul_assoc D, e1, Nat.mul_assoc N, Nat.pow_succ]
  congr 1
  rw [Nat.mul_left_comm, Nat.mul_assoc, Nat.mul_left_comm D]
theorem U_zero_iff {m e u : Nat} (h : m * 2 ^ e = u) : m = 0 ↔ u = 0 := by
  have := Nat.two_pow_pos e
  rw [← h]
  exact ⟨fun h => by rw [h, Nat.zero_mul], fun h => (Nat.mul_eq_zero.1 h).resolve_right (by omega)⟩
theorem div_fin {x y : Nat} (hx : rg x < INF) (hy : rg y < INF) (h0 : U y ≠ 0) :
    Ieee.double.div x y = some (wd (neg x ^^ neg y) (min (rung (U x * ONE) (U y)) INF)) := by
  obtain ⟨E, hE, hO⟩ := one_is
  obtain ⟨m, e, hr, hu, hm53⟩ := read_fin hx
  obtain ⟨n, f, hr', hu', -⟩ := read_fin hy
  unfold Ieee.Format.div
  rw [hr, hr']
  have hn : n ≠ 0 := fun h => h0 ((U_zero_iff hu').1 h)
  have hn0 : 0 < n := Nat.pos_of_ne_zero hn
  have hUy : 0 < U y := Nat.pos_of_ne_zero h0
  show Option.map _ (if n = 0 then _ else some _) = _
  rw [if_neg hn]
  show some (Ieee.double.nearest _ _ _) = _
  by_cases hm : m = 0
  · subst hm
    have hU : U x = 0 := (U_zero_iff hu).1 rfl
    rw [Nat.zero_shiftLeft, Nat.zero_div, Nat.zero_mod, hU, Nat.zero_mul, rung_zero _ hUy]
    show some (Ieee.double.nearest _ 0 _) = _
    unfold Ieee.Format.nearest
    rw [if_pos rfl, word_wd, Nat.min_eq_left (Nat.zero_le _)]
  · have hl1 : n < 2 ^ (n.log2 + 1) := Nat.lt_log2_self
    have hl2 : 2 ^ m.log2 ≤ m := Nat.log2_self_le hm
    have hl3 : m.log2 < 53 := (Nat.log2_lt hm).2 hm53
    have hfb : Ieee.double.fractionBits + 2 = 54 := rfl
    rw [hfb]
    generalize hmo : 54 + n.log2 - m.log2 = mo
    rw [Nat.shiftLeft_eq]
    have hX : 2 * (m * 2 ^ mo / n) + ((m * 2 ^ mo % n) != 0).toNat = 2 * (m * 2 ^ mo / n) + if m * 2 ^ mo % n = 0 then 0 else 1 := by
      congr 1
      by_cases h : m * 2 ^ mo % n = 0
      · rw [if_pos h]; simp [h]
      · rw [if_neg h]; simp [h]
    rw [hX, nearest_ab _ _ _ (e + E) (f + mo + 1) (by omega), word_wd, rung_sticky _ _ _ _ hn0]
    · refine congrArg (fun r => some (wd (neg x ^^ neg y) (min r INF))) ?_
      refine rung_eq (Nat.mul_pos hn0 (Nat.two_pow_pos _)) hUy ?_
      rw [← hu, ← hu', hO]
      have a1 : m * 2 ^ mo * 2 ^ (e + E + 1) * (n * 2 ^ f) = m * n * 2 ^ (mo + (e + E + 1) + f) := by
        simp only [Nat.pow_add]
        ac_rfl
      have a2 : m * 2 ^ e * 2 ^ E * (n * 2 ^ (f + mo + 1)) = m * n * 2 ^ (e + E + (f + mo + 1)) := by
        simp only [Nat.pow_add]
        ac_rfl
      rw [a1, a2]
      congr 2
      omega
    · rw [Nat.le_div_iff_mul_le hn0]
      refine Nat.le_trans (Nat.mul_le_mul_left _ (Nat.le_of_lt hl1)) (Nat.le_trans ?_ (Nat.mul_le_mul_right _ hl2))
      rw [← Nat.pow_add, ← Nat.pow_add]
      exact Nat.pow_le_pow_right (by decide) (by omega)

theorem add_inf_r {x y : Nat} (hx : rg x < INF) (hy : rg y = INF) : Ieee.double.add x y = some (wd (neg y) INF) := by
  obtain ⟨m, e, hr, -, -⟩ := read_fin hx
  unfold Ieee.Format.add
  rw [hr, read_inf hy]
  show some (Ieee.double.word _ _) = _
  rw [word_wd, infRung_]
theorem div_inf_r {x y : Nat} (hx : rg x < INF) (hy : rg y = INF) : Ieee.double.div x y = some (wd (neg x ^^ neg y) 0) := by
  obtain ⟨m, e, hr, -, -⟩ := read_fin hx
  unfold Ieee.Format.div
  rw [hr, read_inf hy]
  show some (Ieee.double.nearest _ 0 _) = _
  unfold Ieee.Format.nearest
  rw [if_pos rfl, word_wd]
theorem order_inf_l {x y : Nat} (hx : rg x = INF) (hy : rg y < INF) : Ieee.double.order x y = some (if neg x then .lt else .gt) := by
  obtain ⟨m, e, hr, -, -⟩ := read_fin hy
  unfold Ieee.Format.order
  rw [hr, read_inf hx]
  rfl
theorem order_inf_r {x y : Nat} (hx : rg x < INF) (hy : rg y = INF) : Ieee.double.order x y = some (if neg y then .gt else .lt) := by
  obtain ⟨m, e, hr, -, -⟩ := read_fin hx
  unfold Ieee.Format.order
  rw [hr, read_inf hy]
  rfl
theorem cut_zero (s : Bool) (n drop : Nat) : Ieee.Toward.zero.cut s n drop = n / 2 ^ drop := by
  have hl : n < 2 ^ (n.log2 + 1) := Nat.lt_log2_self
  unfold Ieee.Toward.cut
  rw [Nat.one_shiftLeft]
  show n / _ + 0 = _
  rw [Nat.add_zero]
  rcases Nat.le_total drop (n.log2 + 2) with c | c
  · rw [Nat.min_eq_left c]
  · rw [Nat.min_eq_right c]
    have h1 : (2 : Nat) ^ (n.log2 + 1) ≤ 2 ^ (n.log2 + 2) := Nat.pow_le_pow_right (by decide) (by omega)
    have h2 : (2 : Nat) ^ (n.log2 + 2) ≤ 2 ^ drop := Nat.pow_le_pow_right (by decide) c
    have hn1 : n < 2 ^ (n.log2 + 2) := by omega
    have hn2 : n < 2 ^ drop := by omega
    rw [Nat.div_eq_of_lt hn1, Nat.div_eq_of_lt hn2]
theorem toInt_fin {x : Nat} (hx : rg x < INF) : (FloatKind.f64.decode x).toInt .zero = some (sg (neg x) (U x / ONE)) := by
  obtain ⟨E, hE, hO⟩ := one_is
  obtain ⟨m, e, hr, hu, -⟩ := read_fin hx
  show (Ieee.double.read x).toInt .zero = _
  rw [hr]
  show some (Ieee.signed _ _ _) = _
  rw [signed_eq, cut_zero, Nat.shiftLeft_eq, Nat.pow_zero, Nat.mul_one, ← hu, hO]
  congr 1
  rcases Nat.le_total E e with c | c
  · obtain ⟨d, rfl⟩ : ∃ d, e = d + E := ⟨e - E, by omega⟩
    rw [show (-1074 + ((d + E : Nat) : Int)).toNat = d by omega, show (-(-1074 + ((d + E : Nat) : Int))).toNat = 0 by omega, Nat.pow_zero, Nat.div_one, Nat.pow_add, ← Nat.mul_assoc, Nat.mul_div_cancel _ (Nat.two_pow_pos _)]
  · obtain ⟨d, hd⟩ : ∃ d, E = d + e := ⟨E - e, by omega⟩
    rw [show (-1074 + (e : Int)).toNat = 0 by omega, show (-(-1074 + (e : Int))).toNat = d by omega, Nat.pow_zero, Nat.mul_one, hd, Nat.pow_add, Nat.mul_comm (2 ^ d), ← Nat.div_div_eq_div_mul, Nat.mul_div_cancel _ (Nat.two_pow_pos _)]
end FL
end Go.Proofs.YtmepjcnpbjdlkaaGreatDoor
/- rates and ticks as numbers with a point: what is known of their steps: plain. -/
namespace Go.Proofs.YtmepjcnpbjdlkaaGreatDoor
set_option linter.unusedVariables false
set_option linter.unusedSimpArgs false
namespace FL
attribute [local irreducible] EE ONE

def fmul (x y : Nat) : Nat := wd (neg x ^^ neg y) (min (rung (U x * U y) ONE) INF)
def fadd (x y : Nat) : Nat := wd (addS x y) (min (rung (S x + S y).natAbs 1) INF)
def fdiv (x y : Nat) : Nat := wd (neg x ^^ neg y) (min (rung (U x * ONE) (U y)) INF)
def fint (n : Int) : Nat := wd (decide (n < 0)) (min (rung (n.natAbs * ONE) 1) INF)
theorem wd_lt {s : Bool} {r : Nat} (h : r < 2 ^ 63) : wd s r < 2 ^ 64 := by unfold wd; split <;> omega
theorem U_zero {a : Nat} : U a = 0 ↔ rg a = 0 := by
  unfold U
  exact ⟨fun h => units_inj (h.trans units_zero.symm), fun h => by rw [h, units_zero]⟩
theorem U_wd {s : Bool} {r : Nat} (h : r < 2 ^ 63) : U (wd s r) = units r := by unfold U; rw [rg_wd h]
/-- what a power of two is worth -/
theorem units_pow (j : Nat) : units ((1023 + j) * 2 ^ 52) = 2 ^ j * ONE := by
  obtain ⟨E, hE, hO⟩ := one_is
  unfold units
  rw [if_neg (by omega), Nat.mul_mod_left, Nat.mul_div_cancel _ (Nat.two_pow_pos _), Nat.add_zero, ← Nat.pow_add, hO, ← Nat.pow_add]
  congr 1
  omega
theorem units_pow' (j k : Nat) (h : k = (1023 + j) * 2 ^ 52) : units k = 2 ^ j * ONE := by rw [h, units_pow]
theorem rung_pow_le {n d j : Nat} (hd : 0 < d) (h : n ≤ 2 ^ j * ONE * d) : rung n d ≤ (1023 + j) * 2 ^ 52 := by
  have := rung_mono (n := n) (d := d) (n' := units ((1023 + j) * 2 ^ 52)) (d' := 1) hd (by decide) (by rw [units_pow, Nat.mul_one]; exact h)
  rwa [rung_units] at this
theorem le_rung_pow {n d j : Nat} (hd : 0 < d) (h : 2 ^ j * ONE * d ≤ n) : (1023 + j) * 2 ^ 52 ≤ rung n d := by
  have := rung_mono (n := units ((1023 + j) * 2 ^ 52)) (d := 1) (n' := n) (d' := d) (by decide) hd (by rw [units_pow, Nat.mul_one]; exact h)
  rwa [rung_units] at this
theorem cap_le (n : Nat) : min n INF ≤ INF := Nat.min_le_right ..
/-- whole numbers -/
theorem fint_facts {n : Int} (h0 : 0 ≤ n) (h1 : n < 9223372036854775808) : rg (fint n) < INF ∧ neg (fint n) = false ∧ fint n < 2 ^ 64 ∧ U (fint n) ≤ 2 ^ 64 * ONE ∧ (1 ≤ n → ONE ≤ U (fint n)) := by
  obtain ⟨m, rfl⟩ := Int.eq_ofNat_of_zero_le h0
  have hr : rung (m * ONE) 1 ≤ (1023 + 64) * 2 ^ 52 := rung_pow_le (by decide) (by
    rw [Nat.mul_one]; exact Nat.mul_le_mul_right _ (by omega))
  have hlt : rung (m * ONE) 1 < INF := Nat.lt_of_le_of_lt hr (by decide)
  have e : fint (m : Int) = wd false (rung (m * ONE) 1) := by
    unfold fint
    rw [decide_eq_false (by omega), Int.natAbs_natCast, Nat.min_eq_left (Nat.le_of_lt hlt)]
  have h63 : rung (m * ONE) 1 < 2 ^ 63 := Nat.lt_trans hlt (by decide)
  rw [e, rg_wd h63, neg_wd h63, U_wd h63]
  refine ⟨hlt, rfl, wd_lt h63, ?_, fun hn => ?_⟩
  · have := units_le hr
    rwa [units_pow] at this
  · have := le_rung_pow (n := m * ONE) (d := 1) (j := 0) (by decide) (by
      rw [Nat.mul_one, Nat.pow_zero]; exact Nat.mul_le_mul_right _ (by omega))
    have := units_le this
    rw [units_pow, Nat.pow_zero, Nat.one_mul] at this
    exact this
theorem rg_fmul (x y : Nat) : rg (fmul x y) ≤ INF ∧ fmul x y < 2 ^ 64 := by
  unfold fmul; rw [rg_wd (cap_lt _)]; exact ⟨cap_le _, wd_lt (cap_lt _)⟩
theorem rg_fadd (x y : Nat) : rg (fadd x y) ≤ INF ∧ fadd x y < 2 ^ 64 := by
  unfold fadd; rw [rg_wd (cap_lt _)]; exact ⟨cap_le _, wd_lt (cap_lt _)⟩
theorem rg_fdiv (x y : Nat) : rg (fdiv x y) ≤ INF ∧ fdiv x y < 2 ^ 64 := by
  unfold fdiv; rw [rg_wd (cap_lt _)]; exact ⟨cap_le _, wd_lt (cap_lt _)⟩
/-- the part of the year -/
theorem part_facts {A B : Int} (hA : 0 ≤ A) (hA1 : A < 9223372036854775808) (hB : 1 ≤ B) (hB1 : B < 9223372036854775808) :
    rg (fdiv (fint A) (fint B)) < INF ∧ neg (fdiv (fint A) (fint B)) = false ∧ U (fint B) ≠ 0 := by
  obtain ⟨a1, a2, a3, a4, a5⟩ := fint_facts hA hA1
  obtain ⟨b1, b2, b3, b4, b5⟩ := fint_facts (n := B) (by omega) hB1
  have hb := b5 hB
  have h1 := one_pos
  have hU : 0 < U (fint B) := by omega
  have hr : rung (U (fint A) * ONE) (U (fint B)) ≤ (1023 + 64) * 2 ^ 52 := rung_pow_le hU (Nat.mul_le_mul a4 hb)
  have hlt : rung (U (fint A) * ONE) (U (fint B)) < INF := Nat.lt_of_le_of_lt hr (by decide)
  unfold fdiv
  rw [rg_wd (cap_lt _), neg_wd (cap_lt _), a2, b2]
  exact ⟨Nat.lt_of_le_of_lt (Nat.min_le_left ..) hlt, rfl, by omega⟩
/-- 1 -/
def UNIT : Nat := 4607182418800017408
theorem unit_facts : rg UNIT < INF ∧ UNIT < 2 ^ 64 := by decide
def hOf (A B : Int) (rate : Nat) : Nat := if rg (fmul rate (fdiv (fint A) (fint B))) = INF then fmul rate (fdiv (fint A) (fint B)) else fadd UNIT (fmul rate (fdiv (fint A) (fint B)))
def leZ (h : Nat) : Bool := if rg h = INF then neg h else decide (S h ≤ 0)
def lastF (face : Int) (h : Nat) : Nat := if rg h = INF then wd (neg (fint face) ^^ neg h) 0 else fdiv (fint face) h
theorem hOf_facts (A B : Int) (rate : Nat) : rg (hOf A B rate) ≤ INF ∧ hOf A B rate < 2 ^ 64 := by
  unfold hOf
  split
  · exact rg_fmul _ _
  · exact rg_fadd _ _
theorem add_hOf (A B : Int) (rate : Nat) : floatBits .add .f64 UNIT (fmul rate (fdiv (fint A) (fint B))) = some (hOf A B rate) := by
  obtain ⟨h1, h2⟩ := rg_fmul rate (fdiv (fint A) (fint B))
  show Ieee.double.add _ _ = _
  unfold hOf
  by_cases h : rg (fmul rate (fdiv (fint A) (fint B))) = INF
  · rw [if_pos h, add_inf_r unit_facts.1 h]
    congr 1
    have := wd_of h2
    rwa [h] at this
  · rw [if_neg h, add_fin unit_facts.1 (by omega)]; rfl
theorem quo_part {A B : Int} (hA : 0 ≤ A) (hA1 : A < 9223372036854775808) (hB : 1 ≤ B) (hB1 : B < 9223372036854775808) : floatBits .quo .f64 (fint A) (fint B) = some (fdiv (fint A) (fint B)) := by
  show Ieee.double.div _ _ = _
  rw [div_fin (fint_facts hA hA1).1 (fint_facts (n := B) (by omega) hB1).1 (part_facts hA hA1 hB hB1).2.2]; rfl
theorem mul_bits {x y : Nat} (hx : rg x < INF) (hy : rg y < INF) : floatBits .mul .f64 x y = some (fmul x y) := by
  show Ieee.double.mul _ _ = _
  rw [mul_fin hx hy]; rfl
theorem S_0 : S 0 = 0 := by
  have : U 0 = 0 := U_zero.2 (by decide)
  unfold S; rw [this]; decide
theorem leZ_order {h : Nat} (hr : rg h ≤ INF) : (FloatKind.f64.format.order h 0 == some .lt || FloatKind.f64.format.order h 0 == some .eq) = leZ h := by
  have h0 : rg 0 < INF := by decide
  show (Ieee.double.order h 0 == some .lt || Ieee.double.order h 0 == some .eq) = leZ h
  unfold leZ
  by_cases hi : rg h = INF
  · rw [if_pos hi, order_inf_l hi h0]
    cases neg h <;> decide
  · rw [if_neg hi, order_fin (by omega) h0, S_0]
    rcases Int.lt_trichotomy (S h) 0 with c | c | c
    · rw [Int.compare_eq_lt.2 c, decide_eq_true (by omega)]; decide
    · rw [c, Int.compare_eq_eq.2 rfl]; decide
    · rw [Int.compare_eq_gt.2 c, decide_eq_false (by omega)]; decide
theorem quo_last {face : Int} {h : Nat} (hf : 0 ≤ face) (hf1 : face < 9223372036854775808) (hr : rg h ≤ INF) (hz : leZ h = false) : floatBits .quo .f64 (fint face) h = some (lastF face h) := by
  show Ieee.double.div _ _ = _
  unfold lastF
  by_cases hi : rg h = INF
  · rw [if_pos hi, div_inf_r (fint_facts hf hf1).1 hi]
  · rw [if_neg hi]
    have hU : U h ≠ 0 := fun e => by
      unfold leZ at hz
      rw [if_neg hi] at hz
      have := of_decide_eq_false hz
      unfold S at this
      rw [e] at this
      cases hn : neg h <;> rw [hn] at this <;> simp [sg] at this
    rw [div_fin (fint_facts hf hf1).1 (by omega) hU]; rfl
/-- a whole number of not too many bits is exact -/
theorem units_exact (M : Nat) (hM : M < 2 ^ 53) : ∀ k, units (rung (M * 2 ^ k) 1) = M * 2 ^ k := by
  suffices h : ∀ k (M : Nat), M < 2 ^ 53 → ∃ r, units r = M * 2 ^ k by
    intro k
    obtain ⟨r, hr⟩ := h k M hM
    rw [← hr, rung_units]
  intro k
  induction k with
  | zero =>
    intro M hM
    rw [Nat.pow_zero, Nat.mul_one]
    refine ⟨M, ?_⟩
    unfold units
    by_cases h : M < 2 ^ 52
    · rw [if_pos h]
    · rw [if_neg h]
      have h1 : M / 2 ^ 52 = 1 := by omega
      have h2 := Nat.div_add_mod M (2 ^ 52)
      rw [h1] at h2 ⊢
      rw [Nat.sub_self, Nat.pow_zero, Nat.mul_one]
      omega
  | succ k ih =>
    intro M hM
    by_cases h : M < 2 ^ 52
    · obtain ⟨r, hr⟩ := ih (2 * M) (by omega)
      exact ⟨r, by rw [hr, Nat.pow_succ]; ac_rfl⟩
    · refine ⟨(k + 1) * 2 ^ 52 + M, ?_⟩
      unfold units
      rw [if_neg (by omega)]
      have hq : ((k + 1) * 2 ^ 52 + M) / 2 ^ 52 = k + 2 := by
        rw [Nat.add_comm, Nat.add_mul_div_right _ _ (Nat.two_pow_pos _)]
        have : M / 2 ^ 52 = 1 := by omega
        omega
      have hm : ((k + 1) * 2 ^ 52 + M) % 2 ^ 52 = M - 2 ^ 52 := by
        rw [Nat.add_comm, Nat.add_mul_mod_self_right]
        omega
      rw [hq, hm, show 2 ^ 52 + (M - 2 ^ 52) = M by omega, show k + 2 - 1 = k + 1 by omega]
/-- to the nearest whole number -/
def vOf (x : Nat) : Nat := rne (U x) ONE
def rte (x : Nat) : Nat := wd (neg x) (min (rung (vOf x * ONE) 1) INF)
theorem rte_facts {x : Nat} (hx : rg x < INF) : rg (rte x) < INF ∧ neg (rte x) = neg x ∧ U (rte x) = vOf x * ONE := by
  obtain ⟨E, hE, hO⟩ := one_is
  have key : rung (vOf x * ONE) 1 < INF ∧ units (rung (vOf x * ONE) 1) = vOf x * ONE := by
    rcases Nat.lt_or_ge (U x) (2 ^ 53 * ONE) with c | c
    · have hv : vOf x ≤ 2 ^ 53 := rne_le_of one_pos (Nat.le_of_lt c)
      have hr : rung (vOf x * ONE) 1 ≤ (1023 + 53) * 2 ^ 52 := rung_pow_le (by decide) (by rw [Nat.mul_one]; exact Nat.mul_le_mul_right _ hv)
      refine ⟨Nat.lt_of_le_of_lt hr (by decide), ?_⟩
      rw [hO]
      rcases Nat.lt_or_ge (vOf x) (2 ^ 53) with d | d
      · exact units_exact _ d E
      · have : vOf x = 2 ^ 53 := by omega
        rw [this]
        have := units_exact (2 ^ 52) (by decide) (E + 1)
        rw [Nat.pow_succ 2 E, Nat.mul_comm (2 ^ E) 2, ← Nat.mul_assoc] at this
        exact this
    · obtain ⟨m, e, -, hu, hm⟩ := read_fin hx
      have he : E ≤ e := by
        rcases Nat.lt_or_ge e E with d | d
        · exfalso
          have h1 : m * 2 ^ e < 2 ^ 53 * 2 ^ E := by
            refine Nat.lt_of_lt_of_le (Nat.mul_lt_mul_of_pos_right hm (Nat.two_pow_pos _)) ?_
            exact Nat.mul_le_mul_left _ (Nat.pow_le_pow_right (by decide) (by omega))
          rw [hu, ← hO] at h1
          omega
        · exact d
      have hw : U x = m * 2 ^ (e - E) * ONE := by rw [← hu, hO, Nat.mul_assoc, ← Nat.pow_add, Nat.sub_add_cancel he]
      have hv : vOf x * ONE = U x := by
        unfold vOf
        rw [hw, rne_exact _ _ one_pos]
      rw [hv]
      unfold U
      rw [rung_units]
      exact ⟨hx, rfl⟩
  unfold rte
  rw [Nat.min_eq_left (Nat.le_of_lt key.1)]
  have h63 : rung (vOf x * ONE) 1 < 2 ^ 63 := Nat.lt_trans key.1 (by decide)
  rw [rg_wd h63, neg_wd h63, U_wd h63]
  exact ⟨key.1, rfl, key.2⟩
/-- 2^63 -/
def C63 : Nat := 4890909195324358656
theorem C63_facts : rg C63 < INF ∧ S C63 = ((2 ^ 63 * ONE : Nat) : Int) := by
  refine ⟨by decide, ?_⟩
  have h1 : neg C63 = false := by decide
  have h2 : U C63 = 2 ^ 63 * ONE := by unfold U; exact units_pow' 63 _ (by decide)
  unfold S
  rw [h1, h2]
  rfl
theorem toIntegral_fin {x : Nat} (hx : rg x < INF) : FloatKind.f64.encode ((FloatKind.f64.decode x).integral .even) = rte x := by
  obtain ⟨E, hE, hO⟩ := one_is
  obtain ⟨m, e, hr, hu, -⟩ := read_fin hx
  show Ieee.double.write ((Ieee.double.read x).integral .even) = _
  rw [hr]
  show Ieee.double.nearest _ _ 0 = _
  rw [nearest_ab _ _ _ E 0 (by omega), word_wd, cut_even, Nat.shiftLeft_eq, Nat.pow_zero, ← hO]
  unfold rte vOf
  congr 4
  refine rne_eq (Nat.two_pow_pos _) one_pos ?_
  rw [← hu, hO, Nat.mul_assoc, Nat.mul_assoc, ← Nat.pow_add, ← Nat.pow_add]
  congr 2
  omega
theorem ge63 {x : Nat} (hx : rg x < INF) : (FloatKind.f64.format.order (rte x) C63 == some .gt || FloatKind.f64.format.order (rte x) C63 == some .eq) = (!neg x && decide (2 ^ 63 ≤ vOf x)) := by
  obtain ⟨r1, r2, r3⟩ := rte_facts hx
  obtain ⟨c1, c2⟩ := C63_facts
  show (Ieee.double.order (rte x) C63 == some .gt || Ieee.double.order (rte x) C63 == some .eq) = _
  rw [order_fin r1 c1, c2]
  have h1 := one_pos
  have hp : 0 < 2 ^ 63 * ONE := Nat.mul_pos (Nat.two_pow_pos _) h1
  have hS : S (rte x) = sg (neg x) (vOf x * ONE) := by unfold S; rw [r2, r3]
  rw [hS]
  cases hn : neg x
  · simp only [sg, Bool.false_eq_true, if_false, Bool.not_false, Bool.true_and]
    by_cases hv : 2 ^ 63 ≤ vOf x
    · rw [decide_eq_true hv]
      have : 2 ^ 63 * ONE ≤ vOf x * ONE := Nat.mul_le_mul_right _ hv
      rcases Nat.lt_or_ge (2 ^ 63 * ONE) (vOf x * ONE) with c | c
      · rw [Int.compare_eq_gt.2 (by omega)]; decide
      · rw [show vOf x * ONE = 2 ^ 63 * ONE by omega, Int.compare_eq_eq.2 rfl]; decide
    · rw [decide_eq_false hv]
      have : vOf x * ONE < 2 ^ 63 * ONE := Nat.mul_lt_mul_of_pos_right (by omega) h1
      rw [Int.compare_eq_lt.2 (by omega)]; decide
  · simp only [sg, if_true, Bool.not_true, Bool.false_and]
    have h2 : 0 ≤ vOf x * ONE := Nat.zero_le _
    rw [Int.compare_eq_lt.2 (by omega)]; decide
theorem toInt_rte {x : Nat} (hx : rg x < INF) (h : neg x = true → vOf x = 0) (hv : vOf x < 2 ^ 63) : floatToIntVal .f64 (rte x) .i64 = some (vOf x : Int) := by
  obtain ⟨r1, r2, r3⟩ := rte_facts hx
  unfold floatToIntVal
  rw [toInt_fin r1, r2, r3, Nat.mul_div_cancel _ one_pos]
  have : sg (neg x) (vOf x) = (vOf x : Int) := by
    cases hn : neg x
    · rfl
    · rw [h hn]; rfl
  rw [this]
  simp only
  rw [if_pos]
  simp [IntKind.min, IntKind.max, IntKind.signed, IntKind.bits]
  omega
end FL
end Go.Proofs.YtmepjcnpbjdlkaaGreatDoor
