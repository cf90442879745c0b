/- texts of this claim, laid together: FlK. -/
import Derived.Test.YtmepjcnpbjdlkaaGreatDoorQeYieldA
/- prices fall as rates rise, ticks rise with prices: plain. -/
namespace Go.Proofs.YtmepjcnpbjdlkaaGreatDoor
set_option linter.unusedVariables false
set_option linter.unusedSimpArgs false
namespace FL
attribute [local irreducible] EE ONE

/-- where a number stands among all -/
def K (a : Nat) : Int := sg (neg a) (rg a)
theorem sg_le (s : Bool) (a : Nat) : sg s a ≤ a ∧ -(a : Int) ≤ sg s a := by cases s <;> simp [sg] <;> omega
theorem cmp_units (s t : Bool) (r q : Nat) : compare (sg s (units r)) (sg t (units q)) = compare (sg s r) (sg t q) := by
  have h1 := @units_mono r q
  have h2 := @units_mono q r
  have h3 := @units_mono 0 r
  have h4 := @units_mono 0 q
  rw [units_zero] at h3 h4
  have key : (sg s (units r) < sg t (units q) ↔ sg s r < sg t q) ∧ (sg t (units q) < sg s (units r) ↔ sg t q < sg s r) := by
    cases s <;> cases t <;> simp only [sg, Bool.false_eq_true, if_false, if_true] <;> omega
  rcases Int.lt_trichotomy (sg s r) (sg t q) with c | c | c
  · rw [Int.compare_eq_lt.2 c, Int.compare_eq_lt.2 (key.1.2 c)]
  · rw [Int.compare_eq_eq.2 c]
    refine Int.compare_eq_eq.2 ?_
    have a1 : ¬ sg s (units r) < sg t (units q) := fun h => by have := key.1.1 h; omega
    have a2 : ¬ sg t (units q) < sg s (units r) := fun h => by have := key.2.1 h; omega
    omega
  · rw [Int.compare_eq_gt.2 c, Int.compare_eq_gt.2 (key.2.2 c)]
theorem order_K {x y : Nat} (hx : rg x ≤ INF) (hy : rg y ≤ INF) : Ieee.double.order x y = some (compare (K x) (K y)) := by
  have hI : 0 < INF := by decide
  rcases Nat.lt_or_ge (rg x) INF with c | c
  · rcases Nat.lt_or_ge (rg y) INF with d | d
    · rw [order_fin c d]
      unfold S U K
      rw [cmp_units]
    · rw [order_inf_r c (by omega)]
      have hy' : rg y = INF := by omega
      unfold K
      rw [hy']
      have := sg_le (neg x) (rg x)
      cases neg y
      · rw [Int.compare_eq_lt.2 (by simp only [sg, Bool.false_eq_true, if_false] at *; omega)]; rfl
      · rw [Int.compare_eq_gt.2 (by simp only [sg, if_true] at *; omega)]; rfl
  · have hx' : rg x = INF := by omega
    rcases Nat.lt_or_ge (rg y) INF with d | d
    · rw [order_inf_l hx' d]
      unfold K
      rw [hx']
      have := sg_le (neg y) (rg y)
      cases neg x
      · rw [Int.compare_eq_gt.2 (by simp only [sg, Bool.false_eq_true, if_false] at *; omega)]; rfl
      · rw [Int.compare_eq_lt.2 (by simp only [sg, if_true] at *; omega)]; rfl
    · have hy' : rg y = INF := by omega
      unfold Ieee.Format.order
      rw [read_inf hx', read_inf hy']
      show some (compare _ _) = _
      unfold K
      rw [hx', hy']
      cases neg x <;> cases neg y <;> decide
theorem order_none {x y : Nat} (h : INF < rg x ∨ INF < rg y) : Ieee.double.order x y = none := by
  unfold Ieee.Format.order
  rcases h with h | h
  · rw [read_nan h]; rfl
  · rw [read_nan h]
    cases Ieee.double.read x <;> rfl
/-- the tests as the model has them -/
def leB (x y : Nat) : Bool := FloatKind.f64.format.order x y == some .lt || FloatKind.f64.format.order x y == some .eq
def geB (x y : Nat) : Bool := FloatKind.f64.format.order x y == some .gt || FloatKind.f64.format.order x y == some .eq
def gtB (x y : Nat) : Bool := FloatKind.f64.format.order x y == some .gt
def ltB (x y : Nat) : Bool := FloatKind.f64.format.order x y == some .lt
def neB (x y : Nat) : Bool := FloatKind.f64.format.order x y != some .eq
theorem leB_true {x y : Nat} (h : leB x y = true) : rg x ≤ INF ∧ rg y ≤ INF ∧ K x ≤ K y := by
  have h' : (Ieee.double.order x y == some .lt || Ieee.double.order x y == some .eq) = true := h
  by_cases hx : INF < rg x
  · rw [order_none (.inl hx)] at h'; exact absurd h' (by decide)
  · by_cases hy : INF < rg y
    · rw [order_none (.inr hy)] at h'; exact absurd h' (by decide)
    · rw [order_K (by omega) (by omega)] at h'
      refine ⟨by omega, by omega, ?_⟩
      rcases Int.lt_trichotomy (K x) (K y) with c | c | c
      · omega
      · omega
      · rw [Int.compare_eq_gt.2 c] at h'; exact absurd h' (by decide)
theorem geB_true {x y : Nat} (h : geB x y = true) : rg x ≤ INF ∧ rg y ≤ INF ∧ K y ≤ K x := by
  have h' : (Ieee.double.order x y == some .gt || Ieee.double.order x y == some .eq) = true := h
  by_cases hx : INF < rg x
  · rw [order_none (.inl hx)] at h'; exact absurd h' (by decide)
  · by_cases hy : INF < rg y
    · rw [order_none (.inr hy)] at h'; exact absurd h' (by decide)
    · rw [order_K (by omega) (by omega)] at h'
      refine ⟨by omega, by omega, ?_⟩
      rcases Int.lt_trichotomy (K x) (K y) with c | c | c
      · rw [Int.compare_eq_lt.2 c] at h'; exact absurd h' (by decide)
      · omega
      · omega
theorem gtB_false {x y : Nat} (hx : rg x ≤ INF) (hy : rg y ≤ INF) (h : K x ≤ K y) : gtB x y = false := by
  show (Ieee.double.order x y == some .gt) = false
  rw [order_K hx hy]
  rcases Int.lt_or_eq_of_le h with c | c
  · rw [Int.compare_eq_lt.2 c]; decide
  · rw [Int.compare_eq_eq.2 c]; decide
theorem ltB_false {x y : Nat} (hx : rg x ≤ INF) (hy : rg y ≤ INF) (h : K y ≤ K x) : ltB x y = false := by
  show (Ieee.double.order x y == some .lt) = false
  rw [order_K hx hy]
  rcases Int.lt_or_eq_of_le h with c | c
  · rw [Int.compare_eq_gt.2 c]; decide
  · rw [Int.compare_eq_eq.2 c.symm]; decide
theorem neB_self {x : Nat} (hx : rg x ≤ INF) : neB x x = false := by
  show (Ieee.double.order x x != some .eq) = false
  rw [order_K hx hx, Int.compare_eq_eq.2 rfl]
  decide
theorem K_wd {s : Bool} {r : Nat} (h : r < 2 ^ 63) : K (wd s r) = sg s r := by unfold K; rw [neg_wd h, rg_wd h]
theorem min_mono {a c : Nat} (h : a ≤ c) : min a INF ≤ min c INF := by omega
theorem K_fmul {x y f : Nat} (hf : neg f = false) (h : K x ≤ K y) : K (fmul x f) ≤ K (fmul y f) := by
  unfold fmul
  rw [hf, Bool.xor_false, Bool.xor_false, K_wd (cap_lt _), K_wd (cap_lt _)]
  unfold K at h
  have key : ∀ {a c : Nat}, a ≤ c → min (rung (units a * U f) ONE) INF ≤ min (rung (units c * U f) ONE) INF := fun {a c} hac =>
    min_mono (rung_mono one_pos one_pos (Nat.mul_le_mul_right _ (Nat.mul_le_mul_right _ (units_le hac))))
  have zero : rung (0 * U f) ONE = 0 := by rw [Nat.zero_mul, rung_zero _ one_pos]
  show sg (neg x) (min (rung (units (rg x) * U f) ONE) INF) ≤ sg (neg y) (min (rung (units (rg y) * U f) ONE) INF)
  generalize rg x = a at *
  generalize rg y = c at *
  cases hs : neg x <;> cases ht : neg y <;> rw [hs, ht] at h <;> simp only [sg, Bool.false_eq_true, if_false, if_true] at h ⊢
  · have := key (a := a) (c := c) (by omega); omega
  · have ha : a = 0 := by omega
    have hc : c = 0 := by omega
    rw [ha, hc, units_zero, zero, Nat.min_eq_left (Nat.zero_le _)]
    decide
  · omega
  · have := key (a := c) (c := a) (by omega); omega
/-- the sum's place -/
def AT (t : Int) : Int := sg (decide (t < 0)) (min (rung t.natAbs 1) INF)
theorem AT_mono {t u : Int} (h : t ≤ u) : AT t ≤ AT u := by
  have key : ∀ {a c : Nat}, a ≤ c → min (rung a 1) INF ≤ min (rung c 1) INF := fun {a c} hac => min_mono (rung_mono (by decide) (by decide) (by omega))
  unfold AT
  by_cases ht : t < 0
  · rw [decide_eq_true ht]
    by_cases hu : u < 0
    · rw [decide_eq_true hu]
      have := key (a := u.natAbs) (c := t.natAbs) (by omega)
      simp only [sg, if_true]
      omega
    · rw [decide_eq_false hu]
      simp only [sg, if_true, Bool.false_eq_true, if_false]
      omega
  · rw [decide_eq_false ht, decide_eq_false (by omega : ¬ u < 0)]
    have := key (a := t.natAbs) (c := u.natAbs) (by omega)
    simp only [sg, Bool.false_eq_true, if_false]
    omega
theorem AT_bd (t : Int) : -(INF : Int) ≤ AT t ∧ AT t ≤ INF := by
  unfold AT
  have := sg_le (decide (t < 0)) (min (rung t.natAbs 1) INF)
  have h2 := cap_le (rung t.natAbs 1)
  omega
theorem K_fadd (x y : Nat) : K (fadd x y) = AT (S x + S y) := by
  unfold fadd AT addS
  rw [K_wd (cap_lt _)]
  by_cases h : S x + S y = 0
  · rw [if_pos h, h]
    have : min (rung (0 : Int).natAbs 1) INF = 0 := by
      show min (rung 0 1) INF = 0
      rw [rung_zero 1 (by decide)]
      exact Nat.min_eq_left (Nat.zero_le _)
    rw [this]
    cases (neg x && neg y) <;> rfl
  · rw [if_neg h]
theorem S_mono {x y : Nat} (h : K x ≤ K y) : S x ≤ S y := by
  have := cmp_units (neg x) (neg y) (rg x) (rg y)
  unfold K at h
  unfold S U
  rcases Int.lt_trichotomy (sg (neg x) (units (rg x))) (sg (neg y) (units (rg y))) with c | c | c
  · omega
  · omega
  · rw [Int.compare_eq_gt.2 c] at this
    have := Int.compare_eq_gt.1 this.symm
    omega
theorem K_inf {x : Nat} (h : rg x = INF) : K x = sg (neg x) INF := by unfold K; rw [h]
theorem K_hOf (A B : Int) {x y : Nat} (hf : neg (fdiv (fint A) (fint B)) = false) (h : K x ≤ K y) : K (hOf A B x) ≤ K (hOf A B y) := by
  have hg := K_fmul hf h
  obtain ⟨a1, a2⟩ := rg_fmul x (fdiv (fint A) (fint B))
  obtain ⟨b1, b2⟩ := rg_fmul y (fdiv (fint A) (fint B))
  unfold hOf
  generalize fmul x (fdiv (fint A) (fint B)) = g at *
  generalize fmul y (fdiv (fint A) (fint B)) = g' at *
  have hI : 0 < INF := by decide
  by_cases c : rg g = INF
  · rw [if_pos c]
    by_cases d : rg g' = INF
    · rw [if_pos d]; exact hg
    · rw [if_neg d, K_fadd]
      have hb := AT_bd (S UNIT + S g')
      have hk := K_inf c
      have := sg_le (neg g') (rg g')
      unfold K at hg hk ⊢
      rw [c] at hg hk ⊢
      cases hn : neg g
      · rw [hn] at hg
        simp only [sg, Bool.false_eq_true, if_false] at hg
        have : sg (neg g') (rg g') ≤ rg g' := (sg_le _ _).1
        have h3 : (INF : Int) ≤ (if neg g' = true then -(rg g' : Int) else rg g') := hg
        split at h3 <;> omega
      · simp only [sg, if_true]; omega
  · rw [if_neg c, K_fadd]
    by_cases d : rg g' = INF
    · rw [if_pos d]
      have hb := AT_bd (S UNIT + S g)
      unfold K at hg ⊢
      rw [d] at hg ⊢
      cases hn : neg g'
      · simp only [sg, Bool.false_eq_true, if_false]; omega
      · rw [hn] at hg
        simp only [sg, if_true] at hg
        have h3 : (if neg g = true then -(rg g : Int) else rg g) ≤ -(INF : Int) := hg
        split at h3 <;> omega
    · rw [if_neg d, K_fadd]
      exact AT_mono (by have := S_mono hg; omega)
theorem leZ_K {h : Nat} (hr : rg h ≤ INF) : leZ h = decide (K h ≤ 0) := by
  have hI : 0 < INF := by decide
  unfold leZ K
  by_cases c : rg h = INF
  · rw [if_pos c, c]
    cases neg h
    · simp only [sg, Bool.false_eq_true, if_false]; rw [decide_eq_false (by omega)]
    · simp only [sg, if_true]; rw [decide_eq_true (by omega)]
  · rw [if_neg c]
    have h1 := U_zero (a := h)
    unfold S
    cases neg h
    · simp only [sg, Bool.false_eq_true, if_false]
      by_cases d : rg h = 0
      · rw [decide_eq_true (by have := h1.2 d; omega), decide_eq_true (by omega)]
      · rw [decide_eq_false (by have : U h ≠ 0 := fun e => d (h1.1 e); omega), decide_eq_false (by omega)]
    · simp only [sg, if_true]; rw [decide_eq_true (by omega), decide_eq_true (by omega)]
theorem rg_lastF (face : Int) (h : Nat) : rg (lastF face h) ≤ INF := by
  unfold lastF
  split
  · rw [rg_wd (by decide)]; exact Nat.zero_le _
  · exact (rg_fdiv _ _).1
theorem K_lastF {face : Int} {h h' : Nat} (hf : neg (fint face) = false) (hr : rg h ≤ INF) (hr' : rg h' ≤ INF) (hz : leZ h = false) (hz' : leZ h' = false) (hle : K h ≤ K h') : K (lastF face h') ≤ K (lastF face h) := by
  rw [leZ_K hr] at hz
  rw [leZ_K hr'] at hz'
  have k1 := of_decide_eq_false hz
  have k2 := of_decide_eq_false hz'
  have n1 : neg h = false := by
    cases hn : neg h
    · rfl
    · unfold K at k1; rw [hn] at k1; simp only [sg, if_true] at k1; omega
  have n2 : neg h' = false := by
    cases hn : neg h'
    · rfl
    · unfold K at k2; rw [hn] at k2; simp only [sg, if_true] at k2; omega
  have e1 : K h = rg h := by unfold K; rw [n1]; rfl
  have e2 : K h' = rg h' := by unfold K; rw [n2]; rfl
  rw [e1] at k1 hle
  rw [e2] at k2 hle
  have val : ∀ {q : Nat}, neg q = false → K (lastF face q) = if rg q = INF then 0 else ((min (rung (U (fint face) * ONE) (U q)) INF : Nat) : Int) := fun {q} hq => by
    unfold lastF
    rw [hf, hq]
    split
    · rw [K_wd (by decide)]; rfl
    · unfold fdiv
      rw [hf, hq, K_wd (cap_lt _)]
      rfl
  rw [val n1, val n2]
  by_cases c : rg h = INF
  · have : rg h' = INF := by omega
    rw [if_pos c, if_pos this]; exact Int.le_refl _
  · rw [if_neg c]
    by_cases d : rg h' = INF
    · rw [if_pos d]; omega
    · rw [if_neg d]
      have u1 : 0 < U h := Nat.pos_of_ne_zero fun e => by have := U_zero.1 e; omega
      have u2 : 0 < U h' := Nat.pos_of_ne_zero fun e => by have := U_zero.1 e; omega
      have hu : U h ≤ U h' := units_le (by omega)
      have := min_mono (rung_mono u2 u1 (Nat.mul_le_mul_left (U (fint face) * ONE) hu))
      omega
end FL
open FL in
/-- at a higher rate a bill costs no more -/
theorem yield_falls {s : SecV} {x y : Nat} {day : Int} {p q : Nat} (hf1 : s.face < 9223372036854775808) (h : YieldIs s x day p 0) (k : YieldIs s y day q 0) (hle : K x ≤ K y) : K q ≤ K p ∧ rg p ≤ INF ∧ rg q ≤ INF := by
  have cases5 : ∀ {x : Nat} {p : Nat}, YieldIs s x day p 0 → ∃ A B, FracIs day s.finish s.basis A B ∧ leZ (hOf A B x) = false ∧ p = lastF s.face (hOf A B x) ∧ checkN s = 0 ∧ s.kind = 3 ∧ ¬ (day < s.start ∨ s.finish < day) := fun {x p} h => by
    rcases h with ⟨h1, h2, h3⟩ | ⟨h1, h2, h3, h4⟩ | ⟨h1, h2, h3, h4, h5⟩ | ⟨h1, h2, h3, h4, h5, h6⟩ | ⟨h1, h2, h3, h4, A, B, h5, h6⟩
    · exact absurd h3.symm h1
    · omega
    · omega
    · omega
    · rcases h6 with ⟨_, _, m3⟩ | ⟨m1, m2, m3⟩
      · omega
      · exact ⟨A, B, h5, m1, m2, h1, h2, h3⟩
  obtain ⟨A, B, f1, f2, rfl, c0, ck, cd⟩ := cases5 h
  obtain ⟨A', B', g1, g2, rfl, _, _, _⟩ := cases5 k
  obtain ⟨rfl, rfl⟩ := f1.unique g1
  obtain ⟨b1, b2, b3, b4, b5, b6⟩ := bill_facts c0 ck
  have hAB := f1.bounds (by omega) (by omega) b6 b2
  have hp := part_facts (A := A) (B := B) hAB.1 (by omega) (by omega) (by omega)
  have hh := K_hOf A B hp.2.1 hle
  exact ⟨K_lastF (fint_facts (n := s.face) (by omega) hf1).2.1 (hOf_facts A B x).1 (hOf_facts A B y).1 f2 g2 hh, rg_lastF _ _, rg_lastF _ _⟩
end Go.Proofs.YtmepjcnpbjdlkaaGreatDoor
