/- texts of this claim, laid together: Grow, GrowA. -/
import Derived.Test.YtmepjcnpbjdlkaaGreatDoorQcWorksP
/- interest grows between coupon days: the plain law. -/
namespace Go.Proofs.YtmepjcnpbjdlkaaGreatDoor
set_option linter.unusedVariables false
set_option linter.unusedSimpArgs false
open Go.RowKit
attribute [local irreducible] Go.wpStill

theorem quo_mono {x x' D : Nat} (h : x ≤ x') (mode : Int) : DG.quo x D mode ≤ DG.quo x' D mode := by
  have hq : x / D ≤ x' / D := Nat.div_le_div_right h
  unfold DG.quo
  by_cases he : x / D = x' / D
  · have hr : x % D ≤ x' % D := by
      have h1 := Nat.div_add_mod x D
      have h2 := Nat.div_add_mod x' D
      rw [he] at h1
      omega
    rw [he]
    have hg : DG.goesUp (x' / D) (x % D) D mode = true → DG.goesUp (x' / D) (x' % D) D mode = true := by
      unfold DG.goesUp
      simp only [decide_eq_true_eq]
      omega
    cases hc : DG.goesUp (x' / D) (x % D) D mode
    · simp
    · rw [hg hc]
      exact Nat.le_refl _
  · have : (if DG.goesUp (x / D) (x % D) D mode = true then 1 else 0) ≤ 1 := by split <;> omega
    have : x / D + 1 ≤ x' / D := by omega
    omega
theorem rounded_mono {x x' D : Nat} (h : x ≤ x') (mode : Int) : ((DG.rounded x' D mode).2 = 0 → (DG.rounded x D mode).2 = 0 ∧ (DG.rounded x D mode).1 ≤ (DG.rounded x' D mode).1) := by
  have hq := quo_mono (D := D) h mode
  intro hz
  unfold DG.rounded at hz ⊢
  split at hz
  · next h1 =>
    rw [if_pos h1, if_pos (by omega)]
    exact ⟨rfl, by show ((DG.quo x D mode : Nat) : Int) ≤ (DG.quo x' D mode : Nat); omega⟩
  · exact absurd hz (by decide)
theorem rounded_zero {D : Nat} (hD : 0 < D) (mode : Int) : DG.rounded 0 D mode = (0, 0) := by
  have : DG.quo 0 D mode = 0 := by
    unfold DG.quo DG.goesUp
    simp
    omega
  unfold DG.rounded
  rw [this]
  rfl
theorem prodN_mono (l : List Nat) {x y : Nat} (h : x ≤ y) : prodN (l ++ [x]) ≤ prodN (l ++ [y]) := by
  unfold prodN
  rw [List.foldl_append, List.foldl_append]
  exact Nat.mul_le_mul_left _ h
theorem prodN_last_zero (l : List Nat) : prodN (l ++ [0]) = 0 := by
  unfold prodN
  rw [List.foldl_append]
  exact Nat.mul_zero _
theorem dayTo_mono {basis d d' d'' : Int} (h : d' ≤ d'') : dayTo basis d d' ≤ dayTo basis d d'' := by
  unfold dayTo mnI
  split
  · split <;> split <;> omega
  · exact h
theorem frac_mono {f n n' basis A B A' B' : Int} (h : FracIs f n basis A B) (k : FracIs f n' basis A' B') (hn : n ≤ n') : A ≤ A' ∧ B = B' := by
  rcases h with ⟨h1, h2, h3⟩ | ⟨h1, h2, h3⟩ | ⟨h1, h2, y, m, d, y', m', d', h3, h4, h5⟩ <;> rcases k with ⟨k1, k2, k3⟩ | ⟨k1, k2, k3⟩ | ⟨k1, k2, z, n, e, z', n', e', k3, k4, k5⟩
  all_goals first | omega | skip
  obtain ⟨rfl, rfl, rfl⟩ := h3.unique k3
  refine ⟨?_, by omega⟩
  have ho : Cal.mon y' m' < Cal.mon z' n' ∨ Cal.mon y' m' = Cal.mon z' n' := by
    rcases Int.lt_or_le (Cal.mon z' n') (Cal.mon y' m') with h | h
    · have := Cal.numOf_lt k4 h4 h; omega
    · omega
  have hm4 := h4
  have km4 := k4
  obtain ⟨y3, y4, m3, m4, d3, d4, e2⟩ := hm4
  obtain ⟨z3, z4, n3, n4, f3, f4, e4⟩ := km4
  have l2 := (Cal.mlen_bd y' m' m3 m4).2
  have l3 := (Cal.mlen_bd z' n' n3 n4).2
  rcases ho with ho | ho
  · have b1 : 1 ≤ dayTo basis d e' ∧ dayTo basis d d' ≤ 31 := by unfold dayTo mnI; constructor <;> (split <;> (try split) <;> omega)
    unfold Cal.mon at ho
    omega
  · have hy : y' = z' ∧ m' = n' := by unfold Cal.mon at ho; omega
    obtain ⟨rfl, rfl⟩ := hy
    have hd : d' ≤ e' := by unfold Cal.numOf at e2 e4; omega
    have := dayTo_mono (basis := basis) (d := d) hd
    omega
theorem frac_self {f basis A B : Int} (h : FracIs f f basis A B) (h3 : basis ≤ 3) : A = 0 ∧ 0 < B := by
  rcases h with ⟨h1, h2, h3⟩ | ⟨h1, h2, h3⟩ | ⟨h1, h2, y, m, d, y', m', d', h3, h4, h5⟩
  · omega
  · omega
  · obtain ⟨rfl, rfl, rfl⟩ := h3.unique h4
    have : dayTo basis d d = mnI d 30 := by
      unfold dayTo mnI
      split
      · rfl
      · split <;> omega
    omega
theorem onM_lt {M M' d : Int} (h0 : 12 ≤ M) (h1 : M' < 120000) (hd : 1 ≤ d) (h : M < M') : Cal.onM M d < Cal.onM M' d := by
  refine Cal.numOf_lt (Cal.onM_is h0 (by omega) hd) (Cal.onM_is (by omega) h1 hd) ?_
  unfold Cal.mon
  omega
/-- days of coupons fall as one goes back -/
theorem cd_lt {E d st start : Int} {j j' : Nat} (hs : 1 ≤ start) (hst : 1 ≤ st) (hE : E < 120000) (hd : 1 ≤ d) (hj : j < j') (h : start < Cal.cd E d st j') : Cal.cd E d st j' < Cal.cd E d st j := by
  obtain ⟨b1, b2⟩ := Cal.cd_bound hs hst h
  have hm : st * j < st * j' := Int.mul_lt_mul_of_pos_left (by omega) (by omega)
  have hnn : 0 ≤ st * (j : Int) := Int.mul_nonneg (by omega) (by omega)
  rw [Cal.cd_of b1, Cal.cd_of (by omega)]
  exact onM_lt b1 (by omega) hd (by omega)
/-- between two days interest does not fall -/
def Btw (s : SecV) (q mode f t : Int) : Prop := ∀ day day' z e z' e', f ≤ day → day ≤ day' → day' < t → AccIs s q day mode z e → AccIs s q day' mode z' e' → (e' = 0 → e = 0 ∧ z ≤ z')
structure GrowOk (s : SecV) (q mode : Int) (l : List Int) : Prop where
  pos : 0 < l.length
  ent : ∀ i : Nat, i < l.length → ∃ x, l[i]? = some x ∧ s.start < x ∧ x ≤ s.finish ∧ 1 ≤ x ∧ x ≤ 3652059
  lst : l[l.length - 1]? = some s.finish
  rise : ∀ (i : Nat) (x y : Int), l[i]? = some x → l[i + 1]? = some y → x < y
  mon : ∀ (i : Nat) (k x : Int) w e w', i < l.length → k = (-(((l.length : Nat) : Int) - 1 - i)) * (12 / s.per) → l[i]? = some x → MonthsP s.finish k w e w' → e = .returned (.tuple #[.int .i64 x, .nilIface]) ∧ Below w.heap.size w w'
  zero : ∀ (i : Nat) (x z e : Int), l[i]? = some x → AccIs s q x mode z e → z = 0 ∧ e = 0
  fst : ∀ z e, AccIs s q s.start mode z e → z = 0 ∧ e = 0
  hd : ∀ x, l[0]? = some x → Btw s q mode s.start x
  nxt : ∀ (i : Nat) (x y : Int), l[i]? = some x → l[i + 1]? = some y → Btw s q mode x y
theorem acc_bond {s : SecV} {q day mode z e : Int} (h0 : checkN s = 0) (hk : s.kind = 2) (hg : ¬ (q < 0 ∨ mode < 0 ∨ 3 < mode)) (hd : ¬ (day < s.start ∨ s.finish < day)) (h : AccIs s q day mode z e) : ∃ f A B, LastIs s day f ∧ FracIs f day s.basis A B ∧ (z, e) = bondAcc s q mode A B := by
  rcases h with ⟨h, _⟩ | ⟨_, h, _⟩ | ⟨_, _, h, _⟩ | ⟨_, _, _, h, _⟩ | ⟨_, _, _, _, h⟩
  · exact absurd h0 h
  · exact absurd h hg
  · exact absurd hk h
  · exact absurd h hd
  · exact h
theorem acc_zero {s : SecV} {q day mode z e : Int} (h0 : checkN s = 0) (hk : s.kind = 2) (hg : ¬ (q < 0 ∨ mode < 0 ∨ 3 < mode)) (hd : ¬ (day < s.start ∨ s.finish < day)) (hL : LastIs s day day) (h : AccIs s q day mode z e) : z = 0 ∧ e = 0 := by
  obtain ⟨f, A, B, h1, h2, h3⟩ := acc_bond h0 hk hg hd h
  obtain rfl := h1.unique hL
  have hb := bond_facts2 h0 hk
  obtain ⟨rfl, hB⟩ := frac_self h2 hb.2.2.2.2
  have hD : 0 < prodN [1000000, B.toNat] := by
    rw [prodN_cons, prodN_cons]; exact Nat.mul_pos (by decide) (Nat.mul_pos (by omega) (by decide))
  unfold bondAcc at h3
  rw [show prodN [q.toNat, s.face.toNat, s.coupon.toNat, (0 : Int).toNat] = 0 from prodN_last_zero [q.toNat, s.face.toNat, s.coupon.toNat], rounded_zero hD] at h3
  injection h3 with h3 h4
  exact ⟨h3, h4⟩
theorem acc_btw {s : SecV} {q mode f t : Int} (h0 : checkN s = 0) (hk : s.kind = 2) (hg : ¬ (q < 0 ∨ mode < 0 ∨ 3 < mode)) (hf : s.start ≤ f) (ht : t ≤ s.finish) (hL : ∀ day, f ≤ day → day < t → LastIs s day f) : Btw s q mode f t := by
  intro day day' z e z' e' h1 h2 h3 ha ha' he
  obtain ⟨f1, A, B, a1, a2, a3⟩ := acc_bond h0 hk hg (by omega) ha
  obtain ⟨f2, A', B', b1, b2, b3⟩ := acc_bond h0 hk hg (by omega) ha'
  obtain rfl := a1.unique (hL day h1 (by omega))
  obtain rfl := b1.unique (hL day' (by omega) h3)
  obtain ⟨hA, rfl⟩ := frac_mono a2 b2 h2
  have hm : prodN [q.toNat, s.face.toNat, s.coupon.toNat, A.toNat] ≤ prodN [q.toNat, s.face.toNat, s.coupon.toNat, A'.toNat] := prodN_mono [q.toNat, s.face.toNat, s.coupon.toNat] (by omega)
  have hr := rounded_mono (D := prodN [1000000, B.toNat]) hm mode
  unfold bondAcc at a3 b3
  rw [← a3, ← b3] at hr
  exact hr he
theorem rev_get {E d st : Int} {n i : Nat} (h : i < n) : (cdl E d st n).reverse[i]? = some (Cal.cd E d st (n - 1 - i)) := by
  rw [List.getElem?_reverse (by rw [cdl_len]; exact h), cdl_len]
  unfold cdl
  rw [List.getElem?_map, List.getElem?_range (by omega)]
  rfl
theorem grow_ok {s : SecV} {q mode : Int} {l : List Int} (h0 : coupN s = 0) (hg : ¬ (q < 0 ∨ mode < 0 ∨ 3 < mode)) (hl : CoupIs s l) : GrowOk s q mode l := by
  have hck : checkN s = 0 ∧ s.kind = 2 := by
    unfold coupN at h0
    split at h0
    · next h1 => split at h0
                 · next h2 => exact ⟨h1, h2⟩
                 · omega
    · next h1 => exact absurd h0 h1
  obtain ⟨hc, hk⟩ := hck
  obtain ⟨hper, hd1, hd2, hsf⟩ := bond_facts hc hk
  have hs1 : 1 ≤ s.start := by simp [dayB] at hd1; omega
  have hfin : 1 ≤ s.finish ∧ s.finish ≤ 3652059 := by simpa [dayB] using hd2
  obtain ⟨p1, p2, p3, p4, p5⟩ := per_facts hper
  rcases hl with ⟨hl, _⟩ | ⟨_, y, m, d, n, hI, ⟨hc1, hc2⟩, rfl⟩
  · exact absurd h0 hl
  have hbd := hI
  obtain ⟨y1, y2, m1, m2, d1, d2, e1⟩ := hbd
  have hE : Cal.mon y m < 120000 := by unfold Cal.mon; omega
  have hE0 : 12 ≤ Cal.mon y m := by unfold Cal.mon; omega
  have hcd0 : Cal.cd (Cal.mon y m) d (12 / s.per) 0 = s.finish := by
    rw [Cal.cd_of (by simp; omega)]
    simp only [Int.natCast_zero, Int.mul_zero, Int.sub_zero]
    exact Cal.onM_self hI
  have hn : 0 < n := by
    rcases Nat.eq_zero_or_pos n with h | h
    · subst h; rw [hcd0] at hc2; omega
    · exact h
  have hlt : ∀ j j' : Nat, j < j' → j' < n → Cal.cd (Cal.mon y m) d (12 / s.per) j' < Cal.cd (Cal.mon y m) d (12 / s.per) j := fun j j' h h' => cd_lt hs1 p3 hE d1 h (hc1 j' h')
  have hle : ∀ j : Nat, j < n → Cal.cd (Cal.mon y m) d (12 / s.per) j ≤ s.finish := fun j h => by
    rcases Nat.eq_zero_or_pos j with h1 | h1
    · subst h1; rw [hcd0]; exact Int.le_refl _
    · have := hlt 0 j h1 h; omega
  have hLast : ∀ (k : Nat) day, k ≤ n → (k = n → s.start ≤ day) → (k < n → Cal.cd (Cal.mon y m) d (12 / s.per) k ≤ day) → (0 < k → day < Cal.cd (Cal.mon y m) d (12 / s.per) (k - 1)) → LastIs s day (max s.start (Cal.cd (Cal.mon y m) d (12 / s.per) k)) := fun k day h1 h2 h3 h4 => by
    refine ⟨y, m, d, k, hI, fun j hj => ?_, ?_, rfl⟩
    · have h5 := h4 (by omega)
      rcases Nat.lt_or_ge j (k - 1) with h | h
      · have := hlt j (k - 1) h (by omega); omega
      · obtain rfl : j = k - 1 := by omega
        exact h5
    · rcases Nat.lt_or_ge k n with h | h
      · exact h3 h
      · obtain rfl : k = n := by omega
        have := h2 rfl
        omega
  have hlen : (cdl (Cal.mon y m) d (12 / s.per) n).reverse.length = n := by rw [List.length_reverse, cdl_len]
  have hget : ∀ i x, (cdl (Cal.mon y m) d (12 / s.per) n).reverse[i]? = some x → i < n ∧ x = Cal.cd (Cal.mon y m) d (12 / s.per) (n - 1 - i) := fun i x h => by
    have hi : i < n := by
      rcases Nat.lt_or_ge i n with h1 | h1
      · exact h1
      · rw [List.getElem?_eq_none (by omega)] at h; exact absurd h (by simp)
    rw [rev_get hi] at h
    exact ⟨hi, (Option.some.inj h).symm⟩
  generalize hR : (cdl (Cal.mon y m) d (12 / s.per) n).reverse = R at *
  have hsome : ∀ i, i < n → R[i]? = some (Cal.cd (Cal.mon y m) d (12 / s.per) (n - 1 - i)) := fun i h => by rw [← hR]; exact rev_get h
  refine ⟨by omega, fun i h => ?_, ?_, ?_, ?_, ?_, ?_, ?_, ?_⟩
  · have h1 := hc1 (n - 1 - i) (by omega)
    have h2 := hle (n - 1 - i) (by omega)
    exact ⟨_, hsome i (by omega), h1, h2, by omega, by omega⟩
  · rw [hlen, hsome (n - 1) (by omega), show n - 1 - (n - 1) = 0 by omega, hcd0]
  · intro i x x' hx hx'
    obtain ⟨i1, rfl⟩ := hget i x hx
    obtain ⟨i2, rfl⟩ := hget (i + 1) x' hx'
    exact hlt _ _ (by omega) (by omega)
  · intro i k x w e w' hi hk' hx hM
    obtain ⟨i1, rfl⟩ := hget i x hx
    rw [hlen] at hk'
    obtain ⟨y', m', d', hI', hb, hM⟩ := hM
    obtain ⟨rfl, rfl, rfl⟩ := hI.unique hI'
    have hb1 := Cal.cd_bound hs1 p3 (hc1 (n - 1 - i) (by omega))
    have hcast : ((n - 1 - i : Nat) : Int) = (n : Int) - 1 - i := by omega
    have hkk : Cal.mon y m + k = Cal.mon y m - 12 / s.per * ((n - 1 - i : Nat) : Int) := by
      have e1 : -((n : Int) - 1 - i) * (12 / s.per) = -(12 / s.per * ((n : Int) - 1 - i)) := by rw [Int.neg_mul, Int.mul_comm]
      rw [hk', hcast, e1]
      rfl
    rcases hM with ⟨h1, _⟩ | ⟨h1, h2⟩
    · omega
    · rw [hkk] at h2
      rw [Cal.cd_of hb1.1]
      exact ⟨h2, hb⟩
  · intro i x z e hx ha
    obtain ⟨i1, rfl⟩ := hget i x hx
    have h1 := hc1 (n - 1 - i) (by omega)
    have h2 := hle (n - 1 - i) (by omega)
    refine acc_zero hc hk hg (by omega) ?_ ha
    have := hLast (n - 1 - i) _ (by omega) (by omega) (fun _ => Int.le_refl _) (fun h => hlt _ _ (by omega) (by omega))
    rwa [show max s.start (Cal.cd (Cal.mon y m) d (12 / s.per) (n - 1 - i)) = Cal.cd (Cal.mon y m) d (12 / s.per) (n - 1 - i) by omega] at this
  · intro z e ha
    refine acc_zero hc hk hg (by omega) ?_ ha
    have := hLast n s.start (by omega) (fun _ => Int.le_refl _) (by omega) (fun _ => hc1 (n - 1) (by omega))
    rwa [show max s.start (Cal.cd (Cal.mon y m) d (12 / s.per) n) = s.start by omega] at this
  · intro x hx
    obtain ⟨i1, rfl⟩ := hget 0 x hx
    refine acc_btw hc hk hg (Int.le_refl _) (hle _ (by omega)) (fun day h1 h2 => ?_)
    have := hLast n day (by omega) (fun _ => h1) (by omega) (fun _ => h2)
    rwa [show max s.start (Cal.cd (Cal.mon y m) d (12 / s.per) n) = s.start by omega] at this
  · intro i x x' hx hx'
    obtain ⟨i1, rfl⟩ := hget i x hx
    obtain ⟨i2, rfl⟩ := hget (i + 1) x' hx'
    have h1 := hc1 (n - 1 - i) (by omega)
    refine acc_btw hc hk hg (by omega) (hle _ (by omega)) (fun day h3 h4 => ?_)
    have := hLast (n - 1 - i) day (by omega) (by omega) (fun _ => h3) (fun _ => by rwa [show n - 1 - i - 1 = n - 1 - (i + 1) by omega])
    rwa [show max s.start (Cal.cd (Cal.mon y m) d (12 / s.per) (n - 1 - i)) = Cal.cd (Cal.mon y m) d (12 / s.per) (n - 1 - i) by omega] at this
end Go.Proofs.YtmepjcnpbjdlkaaGreatDoor
/- operations as they are carried out: index, sums. -/
namespace Go.Proofs.YtmepjcnpbjdlkaaGreatDoor
set_option linter.unusedVariables false
set_option linter.unusedSimpArgs false
open Go.RowKit
attribute [local irreducible] Go.wpStill
theorem exec_sub64 {P : Program} {w : World} {a : Act} {o : Oper} {x y : Operand} {i j r : Int} {T T2 : TypeId} (ho : o.op = .binOp .sub T x y T2) (hx : a.eval x = .int .i64 i) (hy : a.eval y = .int .i64 j) (h : i - j = r) (h0 : -9223372036854775808 ≤ r) (h1 : r ≤ 9223372036854775807) : (execOp a.eval o).run P w = .ok (.value (.int .i64 r)) w := by
  subst h
  unfold execOp
  simp only [ho, hx, hy]
  simp [go_sem, IntKind.wrap, IntKind.bits, IntKind.signed]
  omega
theorem exec_mul64 {P : Program} {w : World} {a : Act} {o : Oper} {x y : Operand} {i j r : Int} {T T2 : TypeId} (ho : o.op = .binOp .mul T x y T2) (hx : a.eval x = .int .i64 i) (hy : a.eval y = .int .i64 j) (h : i * j = r) (h0 : -9223372036854775808 ≤ r) (h1 : r ≤ 9223372036854775807) : (execOp a.eval o).run P w = .ok (.value (.int .i64 r)) w := by
  unfold execOp
  simp only [ho, hx, hy]
  simp [go_sem, IntKind.wrap, IntKind.bits, IntKind.signed]
  rw [h]
  omega
theorem exec_neg64 {P : Program} {w : World} {a : Act} {o : Oper} {x : Operand} {i r : Int} {T : TypeId} (ho : o.op = .unOp .neg T x) (hx : a.eval x = .int .i64 i) (h : -i = r) (h0 : -9223372036854775808 ≤ r) (h1 : r ≤ 9223372036854775807) : (execOp a.eval o).run P w = .ok (.value (.int .i64 r)) w := by
  subst h
  unfold execOp
  simp only [ho, hx]
  simp [go_sem, IntKind.wrap, IntKind.bits, IntKind.signed]
  omega
theorem exec_index64 {w : World} {a : Act} {o : Oper} {x y : Operand} {g off n cap i : Nat} (ho : o.op = .indexAddr 26 x y) (hx : a.eval x = .slice (some ⟨g, off, none⟩) n cap) (hy : a.eval y = .int .i64 (i : Int)) (hi : i < n) : (execOp a.eval o).run Tryz.prog w = .ok (.value (.pointer (some ⟨g, off + i, none⟩))) w := by
  unfold execOp
  simp only [ho, hx, hy]
  simp only [Sem.run_bind]
  have hd : decide ((i : Int) < n) = true := decide_eq_true (by omega)
  go_simp
theorem exec_quo64 {P : Program} {w : World} {a : Act} {o : Oper} {x y : Operand} {i j r : Int} {T T2 : TypeId} (ho : o.op = .binOp .quo T x y T2) (hx : a.eval x = .int .i64 i) (hy : a.eval y = .int .i64 j) (hj : j ≠ 0) (h : Int.tdiv i j = r) (h0 : -9223372036854775808 ≤ r) (h1 : r ≤ 9223372036854775807) : (execOp a.eval o).run P w = .ok (.value (.int .i64 r)) w := by
  unfold execOp
  simp only [ho, hx, hy]
  simp [go_sem, IntKind.wrap, IntKind.bits, IntKind.signed, hj]
  rw [h]
  omega
end Go.Proofs.YtmepjcnpbjdlkaaGreatDoor
