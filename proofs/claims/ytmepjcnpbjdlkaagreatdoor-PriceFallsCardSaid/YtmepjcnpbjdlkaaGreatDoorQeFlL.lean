/- texts of this claim, laid together: FlL. -/
import Derived.Test.YtmepjcnpbjdlkaaGreatDoorQeFlK
import Derived.Test.YtmepjcnpbjdlkaaGreatDoorQeGrow
/- a bill at its end, at no rate; ticks rise with prices; whole numbers are their own ticks: plain. -/
namespace Go.Proofs.YtmepjcnpbjdlkaaGreatDoor
set_option linter.unusedVariables false
set_option linter.unusedSimpArgs false
attribute [local irreducible] FL.EE FL.ONE
open FL

theorem unit_U : U UNIT = ONE ∧ neg UNIT = false := by
  refine ⟨?_, by decide⟩
  have := units_pow' 0 (rg UNIT) (by decide)
  rw [Nat.pow_zero, Nat.one_mul] at this
  exact this
theorem rung_of_units {r o : Nat} (h : units r = o) : rung o 1 = r := by rw [← h, rung_units]
theorem rung_one : rung ONE 1 = rg UNIT := rung_of_units (r := rg UNIT) unit_U.1
theorem hOf_unit {A B : Int} {x : Nat} (h : U x * U (fdiv (fint A) (fint B)) = 0) : hOf A B x = UNIT := by
  have hg : fmul x (fdiv (fint A) (fint B)) = FL.wd (neg x ^^ neg (fdiv (fint A) (fint B))) 0 := by
    unfold fmul
    rw [h, rung_zero _ one_pos, Nat.min_eq_left (Nat.zero_le _)]
  unfold hOf
  rw [hg, rg_wd (by decide), if_neg (by decide)]
  have hS : S (FL.wd (neg x ^^ neg (fdiv (fint A) (fint B))) 0) = 0 := by
    unfold S
    rw [U_wd (by decide), units_zero]
    cases neg (FL.wd (neg x ^^ neg (fdiv (fint A) (fint B))) 0) <;> rfl
  have hU : S UNIT = ONE := by unfold S; rw [unit_U.1, unit_U.2]; rfl
  have h1 := one_pos
  unfold fadd addS
  rw [hS, hU, Int.add_zero, if_neg (by omega), decide_eq_false (by omega), Int.natAbs_natCast]
  have hr := rung_one
  rw [hr, Nat.min_eq_left (Nat.le_of_lt unit_facts.1)]
  have := wd_of unit_facts.2
  rwa [unit_U.2] at this
theorem leZ_unit : leZ UNIT = false := by
  rw [leZ_K (Nat.le_of_lt unit_facts.1)]
  decide
theorem lastF_unit {face : Int} (h0 : 0 ≤ face) (h1 : face < 9223372036854775808) : lastF face UNIT = fint face := by
  obtain ⟨f1, f2, f3, f4, f5⟩ := fint_facts h0 h1
  unfold lastF
  rw [if_neg (by have := unit_facts.1; omega)]
  unfold fdiv
  rw [f2, unit_U.2, unit_U.1]
  have hr : rung (U (fint face) * ONE) ONE = rg (fint face) := by
    have := rung_mul ONE (U (fint face)) 1 one_pos
    rw [Nat.mul_one, Nat.mul_comm ONE] at this
    rw [this]
    exact rung_units _
  rw [hr, Nat.min_eq_left (Nat.le_of_lt f1)]
  have := wd_of f3
  rwa [f2] at this
theorem yield_cases {s : SecV} {x : Nat} {day : Int} {p : Nat} {n : Int} (h : YieldIs s x day p n) (h0 : checkN s = 0) (hk : s.kind = 3) (hd : ¬ (day < s.start ∨ s.finish < day)) :
    (¬ rg x < INF ∧ n = 1) ∨ (rg x < INF ∧ ∃ A B, FracIs day s.finish s.basis A B ∧ ((leZ (hOf A B x) = true ∧ p = 0 ∧ n = 1) ∨ (leZ (hOf A B x) = false ∧ p = lastF s.face (hOf A B x) ∧ n = 0))) := by
  rcases h with ⟨h1, h2, h3⟩ | ⟨h1, h2, h3, h4⟩ | ⟨h1, h2, h3, h4, h5⟩ | ⟨h1, h2, h3, h4, h5, h6⟩ | ⟨h1, h2, h3, h4, A, B, h5, h6⟩
  · exact absurd h0 h1
  · exact absurd hk h2
  · exact absurd h3 hd
  · exact .inl ⟨h4, h6⟩
  · exact .inr ⟨h4, A, B, h5, h6⟩
/-- at its end a bill costs its face, at any rate -/
theorem yield_end {s : SecV} {x u : Nat} {n : Int} (hf1 : s.face < 9223372036854775808) (h : YieldIs s x s.finish u n) (h0 : checkN s = 0) (hk : s.kind = 3) : (rg x < INF ∧ n = 0 ∧ u = fint s.face) ∨ (¬ rg x < INF ∧ n = 1) := by
  obtain ⟨b1, b2, b3, b4, b5, b6⟩ := bill_facts h0 hk
  rcases yield_cases h h0 hk (by omega) with ⟨h1, h2⟩ | ⟨h1, A, B, hF, h2⟩
  · exact .inr ⟨h1, h2⟩
  · obtain ⟨rfl, hB⟩ := frac_self hF b3
    have hbd := hF.bounds (by omega) (by omega) b6 b2
    have hp := part_facts (A := 0) (B := B) (by decide) (by decide) (by omega) (by omega)
    have hU0 : U (fint 0) = 0 := by
      have : fint 0 = 0 := by
        unfold fint
        show FL.wd (decide ((0 : Int) < 0)) (min (rung (0 * ONE) 1) INF) = 0
        rw [Nat.zero_mul, rung_zero 1 (by decide)]
        rfl
      rw [this]
      exact U_zero.2 (by decide)
    have hUf : U (fdiv (fint 0) (fint B)) = 0 := by
      unfold fdiv
      rw [U_wd (cap_lt _), hU0, Nat.zero_mul, rung_zero _ (Nat.pos_of_ne_zero hp.2.2), Nat.min_eq_left (Nat.zero_le _), units_zero]
    rw [hOf_unit (by rw [hUf, Nat.mul_zero]), leZ_unit] at h2
    rcases h2 with ⟨c, _⟩ | ⟨_, h3, h4⟩
    · cases c
    · rw [lastF_unit (by omega) hf1] at h3
      exact .inl ⟨h1, h4, h3⟩
/-- at the rate 0 too -/
theorem yield_zero {s : SecV} {v : Nat} {n : Int} (hf1 : s.face < 9223372036854775808) (h : YieldIs s 0 s.start v n) (h0 : checkN s = 0) (hk : s.kind = 3) : n = 0 ∧ v = fint s.face := by
  obtain ⟨b1, b2, b3, b4, b5, b6⟩ := bill_facts h0 hk
  rcases yield_cases h h0 hk (by omega) with ⟨h1, h2⟩ | ⟨h1, A, B, hF, h2⟩
  · exact absurd (by decide) h1
  · have hU : U 0 = 0 := U_zero.2 (by decide)
    rw [hOf_unit (by rw [hU, Nat.zero_mul]), leZ_unit] at h2
    rcases h2 with ⟨c, _⟩ | ⟨_, h3, h4⟩
    · cases c
    · rw [lastF_unit (by omega) hf1] at h3
      exact ⟨h4, h3⟩
theorem tick_good {p : Nat} {scale z : Int} (h : TickIs p scale z 0) : ¬ TickBad p scale ∧ ¬ (rg (tickX p scale) = INF ∨ 2 ^ 63 ≤ vOf (tickX p scale)) ∧ z = vOf (tickX p scale) := by
  rcases h with ⟨h1, h2, h3⟩ | ⟨h1, h2, h3, h4⟩ | ⟨h1, h2, h3, h4⟩
  · omega
  · omega
  · exact ⟨h1, h2, h3⟩
theorem tick_mono {c d : Nat} {scale : Int} (hc : ¬ TickBad c scale) (hd : ¬ TickBad d scale) (h : K c ≤ K d) : rg (tickX c scale) ≤ rg (tickX d scale) ∧ vOf (tickX c scale) ≤ vOf (tickX d scale) := by
  obtain ⟨c1, c2, c3, c4, c5, c6, c7, c8⟩ := tick_facts hc
  have hS := S_mono h
  have hU : U c ≤ U d := by
    cases hn : neg c
    · have e1 : S c = U c := by unfold S; rw [hn]; rfl
      have e2 : S d ≤ U d := (sg_le (neg d) (U d)).1
      omega
    · rw [(c8 hn).1]; exact Nat.zero_le _
  have hr : rg (tickX c scale) ≤ rg (tickX d scale) := by
    unfold tickX fmul
    rw [rg_wd (cap_lt _), rg_wd (cap_lt _)]
    exact min_mono (rung_mono one_pos one_pos (Nat.mul_le_mul_right _ (Nat.mul_le_mul_right _ hU)))
  exact ⟨hr, rne_mono one_pos one_pos (Nat.mul_le_mul_right _ (units_le hr))⟩
theorem tick_rises {c d : Nat} {scale i k : Int} (h : TickIs c scale i 0) (g : TickIs d scale k 0) (hle : K c ≤ K d) : i ≤ k := by
  obtain ⟨h1, h2, h3⟩ := tick_good h
  obtain ⟨g1, g2, g3⟩ := tick_good g
  have := (tick_mono h1 g1 hle).2
  omega
theorem tick_err {c d : Nat} {scale i n k : Int} (h : TickIs c scale i n) (g : TickIs d scale k 0) (hle : leB c d = true) (h0 : geB c 0 = true) : n = 0 := by
  obtain ⟨l1, l2, l3⟩ := leB_true hle
  obtain ⟨z1, z2, z3⟩ := geB_true h0
  obtain ⟨g1, g2, g3⟩ := tick_good g
  obtain ⟨d1, d2, d3, d4, d5, d6, d7, d8⟩ := tick_facts g1
  have hK0 : K 0 = 0 := by decide
  rw [hK0] at z3
  have hcf : rg c < INF := by
    have e1 : K d ≤ rg d := (sg_le (neg d) (rg d)).1
    cases hn : neg c
    · have e2 : K c = rg c := by unfold K; rw [hn]; rfl
      omega
    · have e2 : K c = -(rg c : Int) := by unfold K; rw [hn]; rfl
      have : 0 < INF := by decide
      omega
  have hS0 : S 0 = 0 := S_0
  have hSc : ¬ S c < 0 := by
    have := S_mono (x := 0) (y := c) (by rw [hK0]; exact z3)
    omega
  have hgc : ¬ TickBad c scale := by
    unfold TickBad
    rintro (q | q | q | q)
    · exact q hcf
    · exact hSc q
    · omega
    · omega
  have hm := tick_mono hgc g1 l3
  rcases h with ⟨h1, _, _⟩ | ⟨h1, h2, h3, h4⟩ | ⟨h1, h2, h3, h4⟩
  · exact absurd h1 hgc
  · exfalso
    rcases h2 with h2 | h2
    · have : rg (tickX d scale) = INF := by omega
      exact g2 (.inl this)
    · exact g2 (.inr (by omega))
  · exact h4
theorem tick_whole {n m e : Int} (h0 : 0 ≤ n) (h1 : n ≤ 9007199254740992) (h : TickIs (fint n) 0 m e) : e = 0 ∧ m = n := by
  obtain ⟨f1, f2, f3, f4, f5⟩ := fint_facts (n := n) h0 (by omega)
  obtain ⟨E, hE, hO⟩ := one_is
  obtain ⟨N, rfl⟩ := Int.eq_ofNat_of_zero_le h0
  have hex : units (rung (N * ONE) 1) = N * ONE := by
    rw [hO]
    rcases Nat.lt_or_ge N (2 ^ 53) with d | d
    · exact units_exact _ d E
    · have : N = 2 ^ 53 := by omega
      rw [this]
      have := units_exact (2 ^ 52) (by decide) (E + 1)
      rw [Nat.pow_succ 2 E, Nat.mul_comm (2 ^ E) 2, ← Nat.mul_assoc] at this
      exact this
  have hcap : rung (N * ONE) 1 < INF := by
    have : fint (N : Int) = FL.wd false (min (rung (N * ONE) 1) INF) := by unfold fint; rw [decide_eq_false (by omega), Int.natAbs_natCast]
    rw [this, rg_wd (cap_lt _)] at f1
    omega
  have hUn : U (fint (N : Int)) = N * ONE := by
    unfold fint
    rw [decide_eq_false (by omega), Int.natAbs_natCast, U_wd (cap_lt _), Nat.min_eq_left (Nat.le_of_lt hcap), hex]
  have hU1 : U (fint 1) = ONE := by
    have e1 : fint 1 = FL.wd false (min (rung ONE 1) INF) := by
      unfold fint
      show FL.wd (decide ((1 : Int) < 0)) (min (rung (1 * ONE) 1) INF) = _
      rw [Nat.one_mul]
      rfl
    have hr := rung_one
    rw [e1, U_wd (cap_lt _), hr, Nat.min_eq_left (Nat.le_of_lt unit_facts.1)]
    exact unit_U.1
  have hg : ¬ TickBad (fint (N : Int)) 0 := by
    unfold TickBad
    rintro (q | q | q | q)
    · exact q f1
    · unfold S at q; rw [f2] at q; simp only [sg, Bool.false_eq_true, if_false] at q; omega
    · omega
    · omega
  have hX : tickX (fint (N : Int)) 0 = FL.wd (neg (fint (N : Int)) ^^ neg (fint 1)) (rung (N * ONE) 1) := by
    unfold tickX fmul
    have e1 : ((10 ^ (0 : Int).toNat : Nat) : Int) = 1 := rfl
    rw [e1, hUn, hU1]
    have := rung_mul ONE (N * ONE) 1 one_pos
    rw [Nat.mul_one, Nat.mul_comm ONE] at this
    rw [this, Nat.min_eq_left (Nat.le_of_lt hcap)]
  have h63 : rung (N * ONE) 1 < 2 ^ 63 := Nat.lt_trans hcap (by decide)
  have hv : vOf (tickX (fint (N : Int)) 0) = N := by
    unfold vOf
    rw [hX, U_wd h63, hex, rne_exact _ _ one_pos]
  have hr : rg (tickX (fint (N : Int)) 0) ≠ INF := by rw [hX, rg_wd h63]; omega
  rcases h with ⟨k1, _, _⟩ | ⟨k1, k2, _, _⟩ | ⟨k1, k2, k3, k4⟩
  · exact absurd k1 hg
  · exfalso
    rcases k2 with k2 | k2
    · exact hr k2
    · rw [hv] at k2; omega
  · rw [hv] at k3
    exact ⟨k4, k3⟩
end Go.Proofs.YtmepjcnpbjdlkaaGreatDoor
