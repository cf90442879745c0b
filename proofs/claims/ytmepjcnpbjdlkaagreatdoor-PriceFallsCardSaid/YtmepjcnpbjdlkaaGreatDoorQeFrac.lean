/- texts of this claim, laid together: Frac, RefFrac, AccA, RefLast, AccB, AccC. -/
import Derived.Test.YtmepjcnpbjdlkaaGreatDoorQeCalK
import Derived.Test.YtmepjcnpbjdlkaaGreatDoorQeBigJ
/- calendar.Fraction by contract, between two days. -/
namespace Go.Proofs.YtmepjcnpbjdlkaaGreatDoor
set_option linter.unusedVariables false
set_option linter.unusedSimpArgs false
open Go.RowKit
attribute [local irreducible] Go.wpStill

/-- the less of two -/
def mnI (a b : Int) : Int := if b < a then b else a
theorem min2_mn (k k' : IntKind) (x y : Int) : Builtin.min2 (.int k x) (.int k' y) = pure (.int k (mnI x y)) := by simp only [Builtin.min2, mnI]
theorem min_mn (ats : Array TypeId) (ty : TypeId) (a b : Value) : Builtin.min_ ats ty #[a, b] = (Builtin.min2 a b >>= fun s => pure s) := by simp only [Builtin.min_, List.foldlM_cons, List.foldlM_nil]
attribute [local go_sem] min2_mn min_mn
/-- the later day of the month, as it counts -/
def dayTo (basis d d' : Int) : Int := if basis = 3 ∨ 30 ≤ d then mnI d' 30 else d'
def FracIs (a b basis A B : Int) : Prop :=
  (basis = 0 ∧ A = b - a ∧ B = 360) ∨ (basis = 1 ∧ A = b - a ∧ B = 365) ∨
  (2 ≤ basis ∧ B = 360 ∧ ∃ y m d y' m' d', Cal.Is a y m d ∧ Cal.Is b y' m' d' ∧ A = 360 * (y' - y) + 30 * (m' - m) + dayTo basis d d' - mnI d 30)
theorem FracIs.unique {a b basis A B A' B' : Int} (h : FracIs a b basis A B) (k : FracIs a b basis A' B') : A = A' ∧ B = B' := by
  rcases h with ⟨h1, h2, h3⟩ | ⟨h1, h2, h3⟩ | ⟨h1, h2, y, m, d, y', m', d', h3, h4, h5⟩ <;> rcases k with ⟨k1, k2, k3⟩ | ⟨k1, k2, k3⟩ | ⟨k1, k2, z, n, e, z', n', e', k3, k4, k5⟩
  all_goals first | omega | skip
  obtain ⟨rfl, rfl, rfl⟩ := h3.unique k3
  obtain ⟨rfl, rfl, rfl⟩ := h4.unique k4
  exact ⟨by rw [h5, k5], by omega⟩
theorem FracIs.bounds {a b basis A B : Int} (h : FracIs a b basis A B) (ha : 1 ≤ a) (hab : a ≤ b) (hb : b ≤ 3652059) (h0 : 0 ≤ basis) : 0 ≤ A ∧ A ≤ 1000000000 ∧ (B = 360 ∨ B = 365) := by
  rcases h with ⟨h1, h2, h3⟩ | ⟨h1, h2, h3⟩ | ⟨h1, h2, y, m, d, y', m', d', h3, h4, h5⟩
  · omega
  · omega
  · have ho : Cal.mon y m < Cal.mon y' m' ∨ Cal.mon y m = Cal.mon y' m' := by
      rcases Int.lt_or_le (Cal.mon y' m') (Cal.mon y m) with h | h
      · have := Cal.numOf_lt h4 h3 h; omega
      · omega
    obtain ⟨y1, y2, m1, m2, d1, d2, e1⟩ := h3
    obtain ⟨y3, y4, m3, m4, d3, d4, e2⟩ := h4
    have l1 := (Cal.mlen_bd y m m1 m2).2
    have l2 := (Cal.mlen_bd y' m' m3 m4).2
    have hd1 : 1 ≤ mnI d 30 ∧ mnI d 30 ≤ 30 ∧ mnI d 30 ≤ d := by unfold mnI; split <;> omega
    have hd2 : 1 ≤ dayTo basis d d' ∧ dayTo basis d d' ≤ 31 := by unfold dayTo mnI; split <;> (try split) <;> omega
    refine ⟨?_, by omega, .inl h2⟩
    rcases ho with ho | ho
    · unfold Cal.mon at ho; omega
    · have hy : y = y' ∧ m = m' := by unfold Cal.mon at ho; omega
      obtain ⟨rfl, rfl⟩ := hy
      have hdd : d ≤ d' := by unfold Cal.numOf at e1 e2; omega
      have : mnI d 30 ≤ dayTo basis d d' := by unfold dayTo mnI; split <;> (try split) <;> (try split) <;> omega
      omega
def FracP (a b basis : Int) (w : World) (e : Ending) (w' : World) : Prop := ∃ A B, e = .returned (.tuple #[.int .i64 A, .int .i64 B, .nilIface]) ∧ FracIs a b basis A B ∧ Below w.heap.size w w'
set_option maxRecDepth 100000 in
set_option maxHeartbeats 4000000 in
theorem fraction_any (a b basis : Int) (w : World) (ha : 1 ≤ a) (hab : a ≤ b) (hb : b ≤ 3652059) (hb0 : 0 ≤ basis) (hb3 : basis ≤ 3) : Calls Tryz.prog 60 #[.int .i64 a, .int .i64 b, .int .i64 basis] w (FracP a b basis w) := by
  have hda : dayB a = true := by simp [dayB]; omega
  have hdb : dayB b = true := by simp [dayB]; omega
  have hIA := isDay_any a
  have hIB := isDay_any b
  rw [hda] at hIA
  rw [hdb] at hIB
  have HIA := Lib.hid hIA
  have HIB := Lib.hid hIB
  have hd1 : decide (basis < 0) = false := decide_eq_false (by omega)
  have hd2 : decide (basis > 3) = false := decide_eq_false (by omega)
  have hd3 : decide (b < a) = false := decide_eq_false (by omega)
  have HDA := Lib.hid (fun w => date_any a w ha (by omega))
  have HDB := Lib.hid (fun w => date_any b w (by omega) hb)
  clear hIA hIB hda hdb
  go_enter Tryz.func60, Tryz.ntmps60
  go_wp2_with fail
  refine (HIA.out w).mono ?_
  rintro e w ⟨rfl, rfl⟩
  go_wp2_with fail
  refine (HIB.out _).mono ?_
  rintro e w ⟨rfl, rfl⟩
  go_wp2_with fail
  refine (HDA.out _).mono ?_
  rintro e w1 ⟨y, m, d, rfl, hI1, hb1⟩
  have HI1 := Lib.hid hI1
  clear hI1
  go_wp2_with fail
  refine (HDB.out _).mono ?_
  rintro e w2 ⟨y', m', d', rfl, hI2, hb2⟩
  have HI2 := Lib.hid hI2
  have hz := (((hb1.trans (hb2.mono hb1.size)).alloc (by have := hb1.size; have := hb2.size; omega) (.cells #[.int .i64 0, .int .i64 0, .int .i64 0] 72))).alloc (by have := hb1.size; have := hb2.size; simp; omega) (.cells #[.int .i64 0, .int .i64 0, .int .i64 0] 72)
  have hg9 := heap_alloc2_old w2 (.cells #[.int .i64 0, .int .i64 0, .int .i64 0] 72) (.cells #[.int .i64 0, .int .i64 0, .int .i64 0] 72)
  have hg10 := heap_alloc2_new w2 (.cells #[.int .i64 0, .int .i64 0, .int .i64 0] 72) (.cells #[.int .i64 0, .int .i64 0, .int .i64 0] 72)
  have hws : w.heap.size ≤ w2.heap.size := by have := hb1.size; have := hb2.size; omega
  have HZ := Lib.hid hz
  have HG9 := Lib.hid hg9
  have HG10 := Lib.hid hg10
  clear hb1 hb2 hI2 hz hg9 hg10
  go_upto_region 6 with (first | (refine wpList_store_any rfl 72 _ _ rfl w2.heap.size #[.int .i64 y, .int .i64 m, .int .i64 d] rfl rfl _ _ HG9.out (by kernel_rfl) rfl (by simp [Value.oneCell']) ?_; intro w3 h3 s3 bl3 ot3; have H3 := Lib.hid h3; have HBL3 := Lib.hid bl3; have HOT3 := Lib.hid ot3; clear h3 bl3 ot3; refine wpList_store_any rfl 72 _ _ rfl (w2.heap.size + 1) #[.int .i64 y', .int .i64 m', .int .i64 d'] rfl rfl _ _ ((HOT3.out (w2.heap.size + 1) (by omega)).trans HG10.out) (by kernel_rfl) rfl (by simp [Value.oneCell']) ?_; intro w4 h4 s4 bl4 ot4; have H4 := Lib.hid h4; have HBL4 := Lib.hid bl4; have HOT4 := Lib.hid ot4; clear h4 bl4 ot4))
  obtain ⟨a0, a1, a2⟩ := cells_of_row3 ((HOT4.out w2.heap.size (by omega)).trans H3.out)
  obtain ⟨b0, b1, b2⟩ := cells_of_row3 H4.out
  have fa := frozen_of_row ((HOT4.out w2.heap.size (by omega)).trans H3.out) 2
  have fb := frozen_of_row H4.out 2
  have hW4 := HBL4.out _ _ (HBL3.out _ _ HZ.out hws) (by omega)
  have hu : 1 ≤ mnI d 30 ∧ mnI d 30 ≤ 31 := by
    obtain ⟨_, _, m1, m2, d1, d2, _⟩ := HI1.out
    have := (Cal.mlen_bd y m m1 m2).2
    unfold mnI; split <;> omega
  have hu' : 1 ≤ mnI d' 30 ∧ mnI d' 30 ≤ 31 := by
    obtain ⟨_, _, m1, m2, d1, d2, _⟩ := HI2.out
    have := (Cal.mlen_bd y' m' m1 m2).2
    unfold mnI; split <;> omega
  obtain ⟨y1, y2, m1, m2, d1, d2, he1⟩ := id HI1.out
  obtain ⟨y3, y4, m3, m4, d3, d4, he2⟩ := id HI2.out
  clear he1 he2
  have l1 := (Cal.mlen_bd y m m1 m2).2
  have l2 := (Cal.mlen_bd y' m' m3 m4).2
  have HFI : ∀ A, 2 ≤ basis → A = 360 * (y' - y) + 30 * (m' - m) + dayTo basis d d' - mnI d 30 → FracIs a b basis A 360 := fun A h hA => .inr (.inr ⟨h, rfl, y, m, d, y', m', d', HI1.out, HI2.out, hA⟩)
  have HFI := Lib.hid HFI
  have HT3 := Lib.hid (show basis = 3 → dayTo basis d d' = mnI d' 30 from fun h => by unfold dayTo; rw [if_pos (.inl h)])
  have HT30 := Lib.hid (show 30 ≤ d → dayTo basis d d' = mnI d' 30 from fun h => by unfold dayTo; rw [if_pos (.inr h)])
  have HT0 := Lib.hid (show basis ≠ 3 → d < 30 → dayTo basis d d' = d' from fun h k => by unfold dayTo; rw [if_neg (by omega)])
  have HW4 := Lib.hid hW4
  generalize dayTo basis d d' = T at *
  generalize hmu : mnI d 30 = u at *
  generalize hmu' : mnI d' 30 = u' at *
  obtain ⟨u1, u2⟩ := hu
  obtain ⟨u3, u4⟩ := hu'
  have hdd : d ≤ 31 ∧ d' ≤ 31 := by omega
  obtain ⟨d5, d6⟩ := hdd
  clear d2 d4 l1 l2 HI1 HI2 HDA HDB HIA HIB H3 H4 HOT3 HOT4 HBL3 HBL4 HG9 HG10 HZ hW4
  have hst : ∀ w5 : World, Below w.heap.size w w5 → ∀ g u, w.heap.size ≤ g → Below w.heap.size w (w5.setCell ⟨g, 2, none⟩ u) := fun w5 h g u hg => h.setCell hg u
  have HST := Lib.hid hst
  clear hst
  by_cases c0 : basis = 0
  · have e0 : (basis == 0) = true := by simp [c0]
    go_wp2_with fail
    go_ret3
    exact ⟨_, _, rfl, .inl ⟨c0, rfl, rfl⟩, HW4.out⟩
  · have e0 : (basis == 0) = false := by simp [c0]
    by_cases c1 : basis = 1
    · have e1 : (basis == 1) = true := by simp [c1]
      go_wp2_with fail
      go_ret3
      exact ⟨_, _, rfl, .inr (.inl ⟨c1, rfl, rfl⟩), HW4.out⟩
    · have e1 : (basis == 1) = false := by simp [c1]
      by_cases c3 : basis = 3
      · have e3 : (basis == 3) = true := by simp [c3]
        have hT := HT3.out c3
        have HTT := Lib.hid hT
        have hb2 : 2 ≤ basis := by omega
        clear hT
        go_wp2_with fail
        go_ret3
        refine ⟨_, _, rfl, HFI.out _ hb2 ?_, HST.out _ (HST.out _ HW4.out _ _ (by omega)) _ _ (by omega)⟩
        rw [HTT.out]
      · have e3 : (basis == 3) = false := by simp [c3]
        have hb2 : 2 ≤ basis := by omega
        by_cases c30 : 30 ≤ d
        · have hd30 : decide (d ≥ 30) = true := decide_eq_true c30
          have hT := HT30.out c30
          have HTT := Lib.hid hT
          clear hT
          go_wp2_with fail
          go_ret3
          refine ⟨_, _, rfl, HFI.out _ hb2 ?_, HST.out _ (HST.out _ HW4.out _ _ (by omega)) _ _ (by omega)⟩
          rw [HTT.out]
        · have hd30 : decide (d ≥ 30) = false := decide_eq_false c30
          have hT := HT0.out c3 (by omega)
          have HTT := Lib.hid hT
          clear hT
          go_wp2_with fail
          go_ret3
          refine ⟨_, _, rfl, HFI.out _ hb2 ?_, HST.out _ HW4.out _ _ (by omega)⟩
          rw [HTT.out]
end Go.Proofs.YtmepjcnpbjdlkaaGreatDoor
/- the document's Fraction by contract, between two days. -/
namespace Go.Proofs.YtmepjcnpbjdlkaaGreatDoor
set_option linter.unusedVariables false
set_option linter.unusedSimpArgs false
open Go.RowKit
attribute [local irreducible] Go.wpStill

end Go.Proofs.YtmepjcnpbjdlkaaGreatDoor
/- what has accrued, plainly; the papers without interest. -/
namespace Go.Proofs.YtmepjcnpbjdlkaaGreatDoor
set_option linter.unusedVariables false
set_option linter.unusedSimpArgs false
open Go.RowKit
attribute [local irreducible] Go.wpStill

/-- the day from which interest is reckoned -/
def LastIs (s : SecV) (day f : Int) : Prop := ∃ y m d, ∃ k : Nat, Cal.Is s.finish y m d ∧ (∀ j, j < k → day < Cal.cd (Cal.mon y m) d (12 / s.per) j) ∧ Cal.cd (Cal.mon y m) d (12 / s.per) k ≤ day ∧ f = max s.start (Cal.cd (Cal.mon y m) d (12 / s.per) k)
theorem LastIs.unique {s : SecV} {day f f' : Int} (h : LastIs s day f) (h' : LastIs s day f') : f = f' := by
  obtain ⟨y, m, d, k, h1, h2, h3, h4⟩ := h
  obtain ⟨y', m', d', k', k1, k2, k3, k4⟩ := h'
  obtain ⟨rfl, rfl, rfl⟩ := h1.unique k1
  have : k = k' := by
    rcases Nat.lt_trichotomy k k' with h | h | h
    · have := k2 k h; omega
    · exact h
    · have := h2 k' h; omega
  subst this
  rw [h4, k4]
/-- quotient and error -/
def bondAcc (s : SecV) (qty mode A B : Int) : Int × Int := DG.rounded (prodN [qty.toNat, s.face.toNat, s.coupon.toNat, A.toNat]) (prodN [1000000, B.toNat]) mode
def AccIs (s : SecV) (qty day mode : Int) (z e : Int) : Prop :=
  (checkN s ≠ 0 ∧ z = 0 ∧ e = checkN s) ∨
  (checkN s = 0 ∧ (qty < 0 ∨ mode < 0 ∨ 3 < mode) ∧ z = 0 ∧ e = 1) ∨
  (checkN s = 0 ∧ ¬ (qty < 0 ∨ mode < 0 ∨ 3 < mode) ∧ s.kind ≠ 2 ∧ z = 0 ∧ e = 0) ∨
  (checkN s = 0 ∧ ¬ (qty < 0 ∨ mode < 0 ∨ 3 < mode) ∧ s.kind = 2 ∧ (day < s.start ∨ s.finish < day) ∧ z = 0 ∧ e = 8) ∨
  (checkN s = 0 ∧ ¬ (qty < 0 ∨ mode < 0 ∨ 3 < mode) ∧ s.kind = 2 ∧ ¬ (day < s.start ∨ s.finish < day) ∧ ∃ f A B, LastIs s day f ∧ FracIs f day s.basis A B ∧ (z, e) = bondAcc s qty mode A B)
theorem AccIs.unique {s : SecV} {qty day mode z e z' e' : Int} (h : AccIs s qty day mode z e) (k : AccIs s qty day mode z' e') : z = z' ∧ e = e' := by
  rcases h with ⟨h1, h2, h3⟩ | ⟨h1, h2, h3, h4⟩ | ⟨h1, h2, h3, h4, h5⟩ | ⟨h1, h2, h3, h4, h5, h6⟩ | ⟨h1, h2, h3, h4, f, A, B, h5, h6, h7⟩ <;>
  rcases k with ⟨k1, k2, k3⟩ | ⟨k1, k2, k3, k4⟩ | ⟨k1, k2, k3, k4, k5⟩ | ⟨k1, k2, k3, k4, k5, k6⟩ | ⟨k1, k2, k3, k4, f', A', B', k5, k6, k7⟩
  all_goals first | (exfalso; first | exact h1 k1 | exact k1 h1 | exact k2 h2 | exact h2 k2 | exact k3 h3 | exact h3 k3 | exact k4 h4 | exact h4 k4) | (constructor <;> omega) | skip
  have := h5.unique k5
  subst this
  obtain ⟨rfl, rfl⟩ := h6.unique k6
  rw [← k7] at h7
  injection h7 with h7 h8
  exact ⟨h7, h8⟩
/-- two numbers of one's own -/
def TwoP (a b : Nat) (w : World) (e : Ending) (w' : World) : Prop := ∃ p q, e = .returned (.tuple #[.pointer (some ⟨p, 0, none⟩), .pointer (some ⟨q, 0, none⟩), .nilIface]) ∧ BigAt w' p false a ∧ BigAt w' q false b ∧ Below w.heap.size w w'
set_option maxHeartbeats 2000000 in
theorem equityAccrued_any (cs : Array Value) (qty day : Int) (w : World) : Calls Tryz.prog 211 #[.agg cs, .int .i64 qty, .int .i64 day] w (TwoP 0 1 w) := by
  have hn := fun x w h => newInt_any x w h
  have HN := Lib.hid hn
  have hz := (Below.refl w.heap.size w).alloc (Nat.le_refl _) (.cells cs 203)
  have HZ := Lib.hid hz
  clear hn hz
  go_enter Tryz.func211, Tryz.ntmps211
  go_wp2_with fail
  refine (HN.out 0 _ (by decide)).mono ?_
  rintro e w1 ⟨p, rfl, hp, h1, hb1⟩
  have H1 := Lib.hid h1
  have HB1 := Lib.hid (HZ.out.trans (hb1.mono (by simp)))
  clear h1 hb1
  go_wp2_with fail
  refine (HN.out 1 _ (by decide)).mono ?_
  rintro e w2 ⟨q, rfl, hq, h2, hb2⟩
  have H2 := Lib.hid h2
  have HB2 := Lib.hid (HB1.out.trans (hb2.mono HB1.out.size))
  have H12 := Lib.hid (H1.out.below hb2)
  clear h2 hb2
  go_wp2_with fail
  go_ret3
  exact ⟨p, q, rfl, H12.out, H2.out, HB2.out⟩
set_option maxHeartbeats 2000000 in
theorem billAccrued_any (cs : Array Value) (qty day : Int) (w : World) : Calls Tryz.prog 216 #[.agg cs, .int .i64 qty, .int .i64 day] w (TwoP 0 1 w) := by
  have hn := fun x w h => newInt_any x w h
  have HN := Lib.hid hn
  have hz := (Below.refl w.heap.size w).alloc (Nat.le_refl _) (.cells cs 204)
  have HZ := Lib.hid hz
  clear hn hz
  go_enter Tryz.func216, Tryz.ntmps216
  go_wp2_with fail
  refine (HN.out 0 _ (by decide)).mono ?_
  rintro e w1 ⟨p, rfl, hp, h1, hb1⟩
  have H1 := Lib.hid h1
  have HB1 := Lib.hid (HZ.out.trans (hb1.mono (by simp)))
  clear h1 hb1
  go_wp2_with fail
  refine (HN.out 1 _ (by decide)).mono ?_
  rintro e w2 ⟨q, rfl, hq, h2, hb2⟩
  have H2 := Lib.hid h2
  have HB2 := Lib.hid (HB1.out.trans (hb2.mono HB1.out.size))
  have H12 := Lib.hid (H1.out.below hb2)
  clear h2 hb2
  go_wp2_with fail
  go_ret3
  exact ⟨p, q, rfl, H12.out, H2.out, HB2.out⟩
end Go.Proofs.YtmepjcnpbjdlkaaGreatDoor
/- the document's last by contract. -/
namespace Go.Proofs.YtmepjcnpbjdlkaaGreatDoor
set_option linter.unusedVariables false
set_option linter.unusedSimpArgs false
open Go.RowKit
attribute [local irreducible] Go.wpStill

end Go.Proofs.YtmepjcnpbjdlkaaGreatDoor
/- a bond's interest by contract. -/
namespace Go.Proofs.YtmepjcnpbjdlkaaGreatDoor
set_option linter.unusedVariables false
set_option linter.unusedSimpArgs false
open Go.RowKit
attribute [local irreducible] Go.wpStill

theorem bond_facts2 {s : SecV} (h : checkN s = 0) (hk : s.kind = 2) : 1 ≤ s.face ∧ 0 ≤ s.coupon ∧ s.coupon ≤ 1000000 ∧ 0 ≤ s.basis ∧ s.basis ≤ 3 := by
  unfold checkN at h
  split at h
  · omega
  split at h
  · omega
  split at h
  · omega
  unfold kindN at h
  rw [if_pos hk] at h
  unfold bondN at h
  split at h
  · omega
  split at h
  · omega
  next h1 h2 =>
    unfold termN at h
    split at h
    · next h3 =>
      simp [basisB] at h3
      simp at h2
      omega
    · omega
def BondP (s : SecV) (qty : Nat) (day : Int) (w : World) (e : Ending) (w' : World) : Prop :=
  ((day < s.start ∨ s.finish < day) ∧ ∃ t x, e = .returned (.tuple #[.pointer none, .pointer none, .iface t x]) ∧ ErrP (.iface t x) 8 none ∧ Below w.heap.size w w') ∨
  (¬ (day < s.start ∨ s.finish < day) ∧ ∃ f A B, LastIs s day f ∧ FracIs f day s.basis A B ∧ TwoP (prodN [qty, s.face.toNat, s.coupon.toNat, A.toNat]) (prodN [1000000, B.toNat]) w e w')
set_option maxRecDepth 100000 in
set_option maxHeartbeats 8000000 in
theorem bondAccrued_any (s : SecV) (qty : Nat) (day : Int) (w : World) (hk : s.kind = 2) (h0 : checkN s = 0) (hq : qty < 9223372036854775808) (hf : s.face < 9223372036854775808) : Calls Tryz.prog 221 #[.agg (secC s), .int .i64 (qty : Int), .int .i64 day] w (BondP s qty day w) := by
  obtain ⟨hper, hd1, hd2, hsf⟩ := bond_facts h0 hk
  obtain ⟨f1, c1, c2, b1, b2⟩ := bond_facts2 h0 hk
  have hs1 : 1 ≤ s.start := by simp [dayB] at hd1; omega
  have hfin : 1 ≤ s.finish ∧ s.finish ≤ 3652059 := by simpa [dayB] using hd2
  have hBO : (day < s.start ∨ s.finish < day) → ∀ t x e w', e = .returned (.tuple #[.pointer none, .pointer none, .iface t x]) → ErrP (.iface t x) 8 none → Below w.heap.size w w' → BondP s qty day w e w' := fun h t x e w' h1 h2 h3 => .inl ⟨h, t, x, h1, h2, h3⟩
  have hBI : ¬ (day < s.start ∨ s.finish < day) → ∀ f A B e w', LastIs s day f → FracIs f day s.basis A B → TwoP (prodN [qty, s.face.toNat, s.coupon.toNat, A.toNat]) (prodN [1000000, B.toNat]) w e w' → BondP s qty day w e w' := fun h f A B e w' h1 h2 h3 => .inr ⟨h, f, A, B, h1, h2, h3⟩
  obtain ⟨y, m, d, hI⟩ := Cal.is_ex hfin.1 hfin.2
  have hLI : ∀ k : Nat, (∀ j, j < k → day < Cal.cd (Cal.mon y m) d (12 / s.per) j) → Cal.cd (Cal.mon y m) d (12 / s.per) k ≤ day → LastIs s day (max s.start (Cal.cd (Cal.mon y m) d (12 / s.per) k)) := fun k h1 h2 => ⟨y, m, d, k, hI, h1, h2, rfl⟩
  generalize BondP s qty day w = BP at *
  generalize LastIs s = LI at *
  have HG := Lib.hid (heap_alloc_new w (.cells (secC s) 206))
  have z0 := (Below.refl w.heap.size w).alloc (Nat.le_refl _) (.cells (secC s) 206)
  have hcell : ∀ w1, Below (w.alloc (.cells (secC s) 206)).heap.size (w.alloc (.cells (secC s) 206)) w1 → ∀ i : Nat, w1.cell? ⟨w.heap.size, i, none⟩ = (secC s)[i]? := fun w1 h i => by
    rw [cell_of_row _ _ _ _ _ _ (rowAt_below (heap_alloc_new w (.cells (secC s) 206)) h)]
  obtain ⟨q0, q1, q2, q3, q4, q5, q6, q7, q8, q9, q10, q11, kind, face, coupon, per, basis, start, finish, cur⟩ := s
  dsimp only at *
  subst hk
  obtain ⟨fn, rfl⟩ := Int.eq_ofNat_of_zero_le (show 0 ≤ face by omega)
  obtain ⟨cn, rfl⟩ := Int.eq_ofNat_of_zero_le c1
  simp only [Int.toNat_natCast] at hBI
  have HC := Lib.hid hcell
  have HZ := Lib.hid z0
  have HBO := Lib.hid hBO
  have HBI := Lib.hid hBI
  have HLI := Lib.hid hLI
  clear hcell z0 hBO hBI hLI h0
  have HC13 := Lib.hid (show ∀ w1, Below (w.alloc (.cells (secC ⟨q0, q1, q2, q3, q4, q5, q6, q7, q8, q9, q10, q11, 2, (fn : Int), (cn : Int), per, basis, start, finish, cur⟩) 206)).heap.size (w.alloc (.cells (secC ⟨q0, q1, q2, q3, q4, q5, q6, q7, q8, q9, q10, q11, 2, (fn : Int), (cn : Int), per, basis, start, finish, cur⟩) 206)) w1 → w1.cell? ⟨w.heap.size, 13, none⟩ = some (.int .i64 (fn : Int)) ∧ w1.cell? ⟨w.heap.size, 14, none⟩ = some (.int .i64 (cn : Int)) ∧ w1.cell? ⟨w.heap.size, 15, none⟩ = some (.int .i64 per) ∧ w1.cell? ⟨w.heap.size, 16, none⟩ = some (.int .i64 basis) ∧ w1.cell? ⟨w.heap.size, 17, none⟩ = some (.int .i64 start) ∧ w1.cell? ⟨w.heap.size, 18, none⟩ = some (.int .i64 finish) from fun w1 h => ⟨HC.out w1 h 13, HC.out w1 h 14, HC.out w1 h 15, HC.out w1 h 16, HC.out w1 h 17, HC.out w1 h 18⟩)
  clear HC HG
  generalize secC ⟨q0, q1, q2, q3, q4, q5, q6, q7, q8, q9, q10, q11, 2, (fn : Int), (cn : Int), per, basis, start, finish, cur⟩ = cs at *
  clear q0 q1 q2 q3 q4 q5 q6 q7 q8 q9 q10 q11 cur
  obtain ⟨k13, k14, k15, k16, k17, k18⟩ := HC13.out _ (Below.refl _ _)
  by_cases hday : day < start ∨ finish < day
  · by_cases hds : day < start
    · have hdd : decide (day < start) = true := decide_eq_true hds
      have HD := Lib.hid hday
      clear hday hds
      go_enter Tryz.func221, Tryz.ntmps221
      go_wp2_with fail
      go_ret3
      exact HBO.out HD.out _ _ _ _ rfl (errP_pri _ (by decide) (by decide)) HZ.out
    · have hdd : decide (day < start) = false := decide_eq_false hds
      have hde : decide (day > finish) = true := decide_eq_true (by omega)
      have HD := Lib.hid hday
      clear hday hds
      go_enter Tryz.func221, Tryz.ntmps221
      go_wp2_with fail
      go_ret3
      exact HBO.out HD.out _ _ _ _ rfl (errP_pri _ (by decide) (by decide)) HZ.out
  · have hdd : decide (day < start) = false := decide_eq_false (by omega)
    have hde : decide (day > finish) = false := decide_eq_false (by omega)
    have hday0 : start ≤ day ∧ day ≤ finish := by omega
    have HD := Lib.hid hday
    clear hday
    obtain ⟨p1, p2, t1, t2, pt⟩ := per_facts hper
    have hQ := fun k h0 h1 => step_quo k per h0 h1 hper
    have hMo := fun k w h0 h1 => months_any finish k w hd2 h0 h1
    have hEb : Cal.mon y m ≤ 120000 := by have := hI.2.1; have := hI.2.2.2.1; unfold Cal.mon; omega
    have hcdb := fun j h => Cal.cd_bound (E := Cal.mon y m) (d := d) (j := j) hs1 t1 h
    have hun := fun y' m' d' (h : Cal.Is finish y' m' d') => h.unique hI
    have hcd0 := fun j h => Cal.cd_zero_of (E := Cal.mon y m) (d := d) (st := 12 / per) (j := j) h
    have hcd1 := fun j h => Cal.cd_of (E := Cal.mon y m) (d := d) (st := 12 / per) (j := j) h
    have hper0 : (per == 0) = false := by simp; omega
    generalize hE : Cal.mon y m = E at *
    generalize hst : 12 / per = st at *
    have HE := Lib.hid hE
    have HQ := Lib.hid hQ
    have HMO := Lib.hid hMo
    have HCDB := Lib.hid hcdb
    have HUN := Lib.hid hun
    have HCD0 := Lib.hid hcd0
    have HCD1 := Lib.hid hcd1
    clear hE hst hQ hMo hcdb hI hun hcd0 hcd1 pt hper hd1 hd2
    have hszw : w.heap.size < (w.alloc (.cells cs 206)).heap.size := by simp
    generalize hw1 : w.alloc (.cells cs 206) = w1 at *
    go_enter Tryz.func221, Tryz.ntmps221
    go_upto_block 0 with fail
    have HW1 := Lib.hid hw1
    clear hw1
    go_cut [9] (fun v wc => ∃ f, v = .int .i64 f ∧ LI day f ∧ start ≤ f ∧ f ≤ day ∧ Below w1.heap.size w1 wc)
    case first =>
      go_wp2_with fail
      go_loopw [9, 10] (fun v9 k wr => ∃ n : Nat, v9 = .int .i64 start ∧ k = .int .i64 n ∧ n ≤ 120001 ∧ (∀ j, j < n → day < Cal.cd E d st j) ∧ Below w1.heap.size w1 wr ∧ (n = 0 ∨ (n : Int) ≤ E + 1)) (fun _ k _ => (120005 - intOf k).toNat)
      case atStart => exact ⟨0, rfl, rfl, by omega, by omega, Below.refl _ _, .inl rfl⟩
      case round =>
        obtain ⟨n, rfl, rfl, hn, hcds, hW, hnE⟩ := hrel
        have HCDS := Lib.hid hcds
        have hq1 := HQ.out n (by omega) (by omega)
        have hq2 : IntKind.i64.wrap ((IntKind.i64.wrap (IntKind.i64.wrap (-(n : Int)) * 12)).tdiv per) = -(st * n) := by rw [IntWalk.i64_in (-(n : Int)) (by omega), IntWalk.i64_in (-(n : Int) * 12) (by omega)]; exact hq1
        have HQN := Lib.hid hq2
        have hk0 : -(st * n) ≤ 0 := by have := Int.mul_nonneg (show (0:Int) ≤ st by omega) (show (0 : Int) ≤ n by omega); omega
        have hk1 : -1000000000 ≤ -(st * n) := by have := Int.mul_le_mul_of_nonneg_right t2 (show (0 : Int) ≤ n by omega); omega
        have hper1 : per ≠ 0 := by omega
        have hli := HLI.out n hcds
        have HLIN := Lib.hid hli
        clear hcds hq1 hq2 hli
        go_wp2_with fail
        rename_i HK
        refine wp_region_held_drew (S := fun w' => Below wr.heap.size wr w') (by kernel_rfl) (Below.refl _ _).drew (fun hHeld => ?_)
        (refine rg_yes 0 ?v1 (by simp only [List.getElem?_toArray, List.getElem?_cons_succ, List.getElem?_cons_zero]; rfl) (by kernel_rfl) (by kernel_rfl) (by kernel_rfl) (by exact fun _ _ _ h => h) (by kernel_rfl) (by assumption) ?y1 ?z1; case y1 => (intro w hSw; (try dsimp only at hSw); go_simp; (try (rw [if_neg (by omega)])); (try with_reducible rfl)))
        (try simp only [Act.put, List.setIfInBounds_toArray, List.set_cons_zero, List.set_cons_succ])
        (refine rg_yes 1 ?v2 (by simp only [List.getElem?_toArray, List.getElem?_cons_succ, List.getElem?_cons_zero]; rfl) (by kernel_rfl) (by kernel_rfl) (by kernel_rfl) (by exact fun _ _ _ h => h) (by kernel_rfl) (by assumption) ?y2 ?z2; case y2 => (intro w hSw; (try dsimp only at hSw); go_simp; (try (rw [if_neg (by omega)])); (try with_reducible rfl)))
        (try simp only [Act.put, List.setIfInBounds_toArray, List.set_cons_zero, List.set_cons_succ])
        (refine rg_yes 2 ?v3 (by simp only [List.getElem?_toArray, List.getElem?_cons_succ, List.getElem?_cons_zero]; rfl) (by kernel_rfl) (by kernel_rfl) (by kernel_rfl) (by exact fun _ _ _ h => h) (by kernel_rfl) (by assumption) ?y3 ?z3; case y3 => (intro w hSw; (try dsimp only at hSw); go_simp; (try (rw [if_neg (by omega)])); (try with_reducible rfl)))
        (try simp only [Act.put, List.setIfInBounds_toArray, List.set_cons_zero, List.set_cons_succ])
        refine rg_yes 3 _ (by simp only [List.getElem?_toArray, List.getElem?_cons_succ, List.getElem?_cons_zero]; rfl) (by kernel_rfl) (by kernel_rfl) (by kernel_rfl) (by exact fun _ _ _ h => h) (by kernel_rfl) (by assumption) (by exact fun w' hS => (exec_load_at ((HC13.out _ (hW.trans (hS.mono hW.size))).2.2.2.2.2) rfl rfl (fun w => by kernel_rfl))) ?_
        (try simp only [Act.put, List.setIfInBounds_toArray, List.set_cons_zero, List.set_cons_succ])
        (refine rg_yes 4 ?v4 (by simp only [List.getElem?_toArray, List.getElem?_cons_succ, List.getElem?_cons_zero]; rfl) (by kernel_rfl) (by kernel_rfl) (by kernel_rfl) (by exact fun _ _ _ h => h) (by kernel_rfl) (by assumption) ?y4 ?z4; case y4 => (intro w hSw; (try dsimp only at hSw); go_simp; (try (rw [if_neg (by omega)])); (try with_reducible rfl)))
        (try simp only [Act.put, List.setIfInBounds_toArray, List.set_cons_zero, List.set_cons_succ])
        (refine rg_yes 5 ?v5 (by simp only [List.getElem?_toArray, List.getElem?_cons_succ, List.getElem?_cons_zero]; rfl) (by kernel_rfl) (by kernel_rfl) (by kernel_rfl) (by exact fun _ _ _ h => h) (by kernel_rfl) (by assumption) ?y5 ?z5; case y5 => (intro w hSw; (try dsimp only at hSw); go_simp; (try (rw [if_neg (by omega)])); (try with_reducible rfl)))
        (try simp only [Act.put, List.setIfInBounds_toArray, List.set_cons_zero, List.set_cons_succ])
        (refine rg_yes 6 ?v6 (by simp only [List.getElem?_toArray, List.getElem?_cons_succ, List.getElem?_cons_zero]; rfl) (by kernel_rfl) (by kernel_rfl) (by kernel_rfl) (by exact fun _ _ _ h => h) (by kernel_rfl) (by assumption) ?y6 ?z6; case y6 => (intro w hSw; (try dsimp only at hSw); go_simp; (try (rw [if_neg (by omega)])); (try with_reducible rfl)))
        (try simp only [Act.put, List.setIfInBounds_toArray, List.set_cons_zero, List.set_cons_succ])
        (refine rg_yes 7 ?v7 (by simp only [List.getElem?_toArray, List.getElem?_cons_succ, List.getElem?_cons_zero]; rfl) (by kernel_rfl) (by kernel_rfl) (by kernel_rfl) (by exact fun _ _ _ h => h) (by kernel_rfl) (by assumption) ?y7 ?z7; case y7 => (intro w hSw; (try dsimp only at hSw); go_simp; (try (rw [if_neg (by omega)])); (try with_reducible rfl)))
        (try simp only [Act.put, List.setIfInBounds_toArray, List.set_cons_zero, List.set_cons_succ])
        (refine rg_yes 8 ?v8 (by simp only [List.getElem?_toArray, List.getElem?_cons_succ, List.getElem?_cons_zero]; rfl) (by kernel_rfl) (by kernel_rfl) (by kernel_rfl) (by exact fun _ _ _ h => h) (by kernel_rfl) (by assumption) ?y8 ?z8; case y8 => (intro w hSw; (try dsimp only at hSw); go_simp; (try (rw [if_neg (by omega)])); (try with_reducible rfl)))
        (try simp only [Act.put, List.setIfInBounds_toArray, List.set_cons_zero, List.set_cons_succ])
        (refine rg_yes 9 ?v9 (by simp only [List.getElem?_toArray, List.getElem?_cons_succ, List.getElem?_cons_zero]; rfl) (by kernel_rfl) (by kernel_rfl) (by kernel_rfl) (by exact fun _ _ _ h => h) (by kernel_rfl) (by assumption) ?y9 ?z9; case y9 => (intro w hSw; (try dsimp only at hSw); go_simp; (try (rw [if_neg (by omega)])); (try with_reducible rfl)))
        (try simp only [Act.put, List.setIfInBounds_toArray, List.set_cons_zero, List.set_cons_succ])
        refine rg_yes 10 _ (by simp only [List.getElem?_toArray, List.getElem?_cons_succ, List.getElem?_cons_zero]; rfl) (by kernel_rfl) (by kernel_rfl) (by kernel_rfl) (by exact fun _ _ _ h => h) (by kernel_rfl) (by assumption) (by exact fun w' hS => (exec_load_at ((HC13.out _ (hW.trans (hS.mono hW.size))).2.2.1) rfl rfl (fun w => by kernel_rfl))) ?_
        (try simp only [Act.put, List.setIfInBounds_toArray, List.set_cons_zero, List.set_cons_succ])
        (refine rg_yes 11 ?v10 (by simp only [List.getElem?_toArray, List.getElem?_cons_succ, List.getElem?_cons_zero]; rfl) (by kernel_rfl) (by kernel_rfl) (by kernel_rfl) (by exact fun _ _ _ h => h) (by kernel_rfl) (by assumption) ?y10 ?z10; case y10 => (intro w hSw; (try dsimp only at hSw); go_simp; (try (rw [if_neg (by omega)])); (try with_reducible rfl)))
        (try simp only [Act.put, List.setIfInBounds_toArray, List.set_cons_zero, List.set_cons_succ])
        rw [HQN.out]
        refine rg_call 12 _ _ (by simp only [List.getElem?_toArray, List.getElem?_cons_succ, List.getElem?_cons_zero]; rfl) (by kernel_rfl) (by kernel_rfl) (fun w => by go_simp; exact ⟨rfl, rfl⟩) ?_
        refine (HMO.out _ _ hk0 hk1).mono ?_
        rintro e w2 ⟨y', m', d', hI', hb2, hres⟩
        obtain ⟨e1, e2, e3⟩ := HUN.out y' m' d' hI'
        rw [e1, e2, e3, HE.out] at hres
        clear e1 e2 e3
        have hsub : E + -(st * (n : Int)) = E - st * n := by omega
        rw [hsub] at hres
        clear hsub hI'
        have hb3 := hHeld.trans (hb2.mono hHeld.size)
        rcases hres with ⟨hlt, tt, xx, rfl⟩ | ⟨hge, rfl⟩
        · refine ⟨_, rfl, hb3, fun hHeld => ?_⟩
          have hc0 := HCD0.out n hlt
          have hli := HLIN.out (by rw [hc0]; omega)
          rw [hc0, show max start 0 = start by omega] at hli
          have HLF := Lib.hid hli
          have HWB := Lib.hid (hW.trans (hHeld.mono hW.size))
          clear hb2 hb3 hlt hk0 hk1 hc0 hli
          (refine rg_yes 13 ?v11 (by simp only [List.getElem?_toArray, List.getElem?_cons_succ, List.getElem?_cons_zero]; rfl) (by kernel_rfl) (by kernel_rfl) (by kernel_rfl) (by exact fun _ _ _ h => h) (by kernel_rfl) (by assumption) ?y11 ?z11; case y11 => (intro w hSw; (try dsimp only at hSw); go_simp; (try (rw [if_neg (by omega)])); (try with_reducible rfl)))
          (try simp only [Act.put, List.setIfInBounds_toArray, List.set_cons_zero, List.set_cons_succ])
          (refine rg_yes 14 ?v12 (by simp only [List.getElem?_toArray, List.getElem?_cons_succ, List.getElem?_cons_zero]; rfl) (by kernel_rfl) (by kernel_rfl) (by kernel_rfl) (by exact fun _ _ _ h => h) (by kernel_rfl) (by assumption) ?y12 ?z12; case y12 => (intro w hSw; (try dsimp only at hSw); go_simp; (try (rw [if_neg (by omega)])); (try with_reducible rfl)))
          (try simp only [Act.put, List.setIfInBounds_toArray, List.set_cons_zero, List.set_cons_succ])
          (refine rg_yes 15 ?v13 (by simp only [List.getElem?_toArray, List.getElem?_cons_succ, List.getElem?_cons_zero]; rfl) (by kernel_rfl) (by kernel_rfl) (by kernel_rfl) (by exact fun _ _ _ h => h) (by kernel_rfl) (by assumption) ?y13 ?z13; case y13 => (intro w hSw; (try dsimp only at hSw); go_simp; (try (rw [if_neg (by omega)])); (try with_reducible rfl)))
          (try simp only [Act.put, List.setIfInBounds_toArray, List.set_cons_zero, List.set_cons_succ])
          (refine rg_yes 16 ?v14 (by simp only [List.getElem?_toArray, List.getElem?_cons_succ, List.getElem?_cons_zero]; rfl) (by kernel_rfl) (by kernel_rfl) (by kernel_rfl) (by exact fun _ _ _ h => h) (by kernel_rfl) (by assumption) ?y14 ?z14; case y14 => (intro w hSw; (try dsimp only at hSw); go_simp; (try (rw [if_neg (by omega)])); (try with_reducible rfl)))
          (try simp only [Act.put, List.setIfInBounds_toArray, List.set_cons_zero, List.set_cons_succ])
          (refine rg_yes 17 ?v15 (by simp only [List.getElem?_toArray, List.getElem?_cons_succ, List.getElem?_cons_zero]; rfl) (by kernel_rfl) (by kernel_rfl) (by kernel_rfl) (by exact fun _ _ _ h => h) (by kernel_rfl) (by assumption) ?y15 ?z15; case y15 => (intro w hSw; (try dsimp only at hSw); go_simp; (try (rw [if_neg (by omega)])); (try with_reducible rfl)))
          (try simp only [Act.put, List.setIfInBounds_toArray, List.set_cons_zero, List.set_cons_succ])
          refine wpAnyH_done (by kernel_rfl) ?_ _
          apply HK
          go_wp2_with fail
          go_meet
          case rel => exact ⟨start, rfl, HLF.out, by omega, by omega, HWB.out⟩
        · have hc0 := HCD1.out n hge
          rw [← hc0]
          refine ⟨_, rfl, hb3, fun hHeld => ?_⟩
          have HWB := Lib.hid (hW.trans (hHeld.mono hW.size))
          have hsc := (HC13.out _ HWB.out).2.2.2.2.1
          have HSC := Lib.hid hsc
          have hcb := HCDB.out n
          clear hb2 hb3 hge hk0 hk1 hc0 hsc
          generalize hD : Cal.cd E d st n = D at *
          have HD := Lib.hid hD
          clear hD
          (refine rg_yes 13 ?v16 (by simp only [List.getElem?_toArray, List.getElem?_cons_succ, List.getElem?_cons_zero]; rfl) (by kernel_rfl) (by kernel_rfl) (by kernel_rfl) (by exact fun _ _ _ h => h) (by kernel_rfl) (by assumption) ?y16 ?z16; case y16 => (intro w hSw; (try dsimp only at hSw); go_simp; (try (rw [if_neg (by omega)])); (try with_reducible rfl)))
          (try simp only [Act.put, List.setIfInBounds_toArray, List.set_cons_zero, List.set_cons_succ])
          (refine rg_yes 14 ?v17 (by simp only [List.getElem?_toArray, List.getElem?_cons_succ, List.getElem?_cons_zero]; rfl) (by kernel_rfl) (by kernel_rfl) (by kernel_rfl) (by exact fun _ _ _ h => h) (by kernel_rfl) (by assumption) ?y17 ?z17; case y17 => (intro w hSw; (try dsimp only at hSw); go_simp; (try (rw [if_neg (by omega)])); (try with_reducible rfl)))
          (try simp only [Act.put, List.setIfInBounds_toArray, List.set_cons_zero, List.set_cons_succ])
          (refine rg_yes 15 ?v18 (by simp only [List.getElem?_toArray, List.getElem?_cons_succ, List.getElem?_cons_zero]; rfl) (by kernel_rfl) (by kernel_rfl) (by kernel_rfl) (by exact fun _ _ _ h => h) (by kernel_rfl) (by assumption) ?y18 ?z18; case y18 => (intro w hSw; (try dsimp only at hSw); go_simp; (try (rw [if_neg (by omega)])); (try with_reducible rfl)))
          (try simp only [Act.put, List.setIfInBounds_toArray, List.set_cons_zero, List.set_cons_succ])
          (refine rg_yes 16 ?v19 (by simp only [List.getElem?_toArray, List.getElem?_cons_succ, List.getElem?_cons_zero]; rfl) (by kernel_rfl) (by kernel_rfl) (by kernel_rfl) (by exact fun _ _ _ h => h) (by kernel_rfl) (by assumption) ?y19 ?z19; case y19 => (intro w hSw; (try dsimp only at hSw); go_simp; (try (rw [if_neg (by omega)])); (try with_reducible rfl)))
          (try simp only [Act.put, List.setIfInBounds_toArray, List.set_cons_zero, List.set_cons_succ])
          (refine rg_yes 17 ?v20 (by simp only [List.getElem?_toArray, List.getElem?_cons_succ, List.getElem?_cons_zero]; rfl) (by kernel_rfl) (by kernel_rfl) (by kernel_rfl) (by exact fun _ _ _ h => h) (by kernel_rfl) (by assumption) ?y20 ?z20; case y20 => (intro w hSw; (try dsimp only at hSw); go_simp; (try (rw [if_neg (by omega)])); (try with_reducible rfl)))
          (try simp only [Act.put, List.setIfInBounds_toArray, List.set_cons_zero, List.set_cons_succ])
          refine wpAnyH_done (by kernel_rfl) ?_ _
          apply HK
          have hsc := HSC.out
          by_cases hle : D ≤ start
          · have hdl : decide (D ≤ start) = true := decide_eq_true hle
            have hli := HLIN.out (by omega)
            rw [show max start D = start by omega] at hli
            have HLF := Lib.hid hli
            clear hli hle hcb
            go_wp2_with fail
            go_meet
            case rel => exact ⟨start, rfl, HLF.out, by omega, by omega, HWB.out⟩
          · have hdl : decide (D ≤ start) = false := decide_eq_false hle
            by_cases hled : D ≤ day
            · have hdl2 : decide (D ≤ day) = true := decide_eq_true hled
              have hli := HLIN.out hled
              rw [show max start D = D by omega] at hli
              have HLF := Lib.hid hli
              have hDs : start ≤ D := by omega
              clear hli hle hcb
              go_wp2_with fail
              go_meet
              case rel => exact ⟨D, rfl, HLF.out, hDs, by omega, HWB.out⟩
            · have hdl2 : decide (D ≤ day) = false := decide_eq_false hled
              have hcb2 := hcb (by omega)
              have HLT := Lib.hid (show day < D by omega)
              clear hle hled hcb
              go_wp2_with fail
              refine ⟨⟨n + 1, rfl, by go_num, by omega, fun j hj => ?_, HWB.out, .inr (by omega)⟩, by simp [intOf]; omega⟩
              by_cases e : j = n
              · subst e; rw [HD.out]; exact HLT.out
              · exact HCDS.out j (by omega)
    case rest =>
      obtain ⟨f, rfl, hli, hf1, hf2, hWc⟩ := hcut
      obtain ⟨j13, j14, j15, j16, j17, j18⟩ := HC13.out _ hWc
      have hfr := fraction_any f day basis wc (by omega) hf2 (by omega) b1 b2
      have HFR := Lib.hid hfr
      have HLI2 := Lib.hid hli
      have HWC := Lib.hid hWc
      clear hfr hli hWc HLI HCDB HUN HCD0 HCD1 HMO HQ HE k13 k14 k15 k16 k17 k18
      go_wp2_with fail
      refine HFR.out.mono ?_
      rintro e w3 ⟨A, B, rfl, hFI, hb3⟩
      obtain ⟨A1, A2, hB⟩ := hFI.bounds (by omega) hf2 (by omega) b1
      obtain ⟨An, rfl⟩ := Int.eq_ofNat_of_zero_le A1
      obtain ⟨Bn, rfl⟩ := Int.eq_ofNat_of_zero_le (show 0 ≤ B by omega)
      have hW3 := HWC.out.trans (hb3.mono HWC.out.size)
      obtain ⟨l13, l14, l15, l16, l17, l18⟩ := HC13.out _ hW3
      have hbi := HBI.out HD.out f An Bn
      simp only [Int.toNat_natCast] at hbi
      have hpr := product_any w3.heap.size [qty, fn, cn, An] (w3.alloc (.cells (([qty, fn, cn, An] : List Nat).map (fun x : Nat => Value.int .i64 (x : Int))).toArray 2)) (heap_alloc_new w3 _) (by simp) (by simp; omega)
      have HPR := Lib.hid hpr
      have HBI2 := Lib.hid (fun e w' => hbi e w' HLI2.out hFI)
      have hz3 : Below w3.heap.size w3 (w3.alloc (.cells (([qty, fn, cn, An] : List Nat).map (fun x : Nat => Value.int .i64 (x : Int))).toArray 2)) := (Below.refl _ _).alloc (Nat.le_refl _) _
      have HZ3 := Lib.hid (hW3.trans (hz3.mono hW3.size))
      have HB3 := Lib.hid hB
      clear hb3 hFI hW3 hbi hpr hz3 hB HFR HLI2 HWC HBI HBO j13 j14 j15 j16 j17 j18
      go_wp2_with fail
      refine HPR.out.mono ?_
      rintro e w4 ⟨p, rfl, hp, hBp, hb4⟩
      have hW4 := HZ3.out.trans (hb4.mono HZ3.out.size)
      have hpr2 := product_any w4.heap.size [1000000, Bn] (w4.alloc (.cells (([1000000, Bn] : List Nat).map (fun x : Nat => Value.int .i64 (x : Int))).toArray 2)) (heap_alloc_new w4 _) (by simp) (by simp; have := HB3.out; omega)
      have HPR2 := Lib.hid hpr2
      have hz4 : Below w4.heap.size w4 (w4.alloc (.cells (([1000000, Bn] : List Nat).map (fun x : Nat => Value.int .i64 (x : Int))).toArray 2)) := (Below.refl _ _).alloc (Nat.le_refl _) _
      have HBP := Lib.hid (hBp.below hz4)
      have HW5 := Lib.hid (hW4.trans (hz4.mono hW4.size))
      clear hBp hb4 hW4 hpr2 hz4 HPR HZ3
      go_wp2_with fail
      refine HPR2.out.mono ?_
      rintro e w5 ⟨q, rfl, hq5, hBq, hb5⟩
      have HBQ := Lib.hid hBq
      have HBP5 := Lib.hid (HBP.out.below hb5)
      have HW6 := Lib.hid (HW5.out.trans (hb5.mono HW5.out.size))
      clear hBq hb5
      go_wp2_with fail
      go_ret3
      have hz := HZ.out
      exact HBI2.out _ _ ⟨p, q, rfl, HBP5.out, HBQ.out, hz.trans (HW6.out.mono hz.size)⟩
end Go.Proofs.YtmepjcnpbjdlkaaGreatDoor
/- price.Accrued by contract. -/
namespace Go.Proofs.YtmepjcnpbjdlkaaGreatDoor
set_option linter.unusedVariables false
set_option linter.unusedSimpArgs false
open Go.RowKit
attribute [local irreducible] Go.wpStill

theorem rounded_none (mode : Int) : DG.rounded 0 1 mode = (0, 0) := by
  have : DG.goesUp 0 0 1 mode = false := decide_eq_false (by omega)
  unfold DG.rounded DG.quo
  rw [show (0 : Nat) / 1 = 0 from rfl, show (0 : Nat) % 1 = 0 from rfl, this]
  rfl
theorem maEquity (n : Nat) (cs : Array Value) (w : World) : (Go.method (n + 1) 203 (.agg cs) "custody/price.accrued").run Tryz.prog w = .ok (211, .agg cs) w := by kernel_rfl
theorem maBond (n : Nat) (cs : Array Value) (w : World) : (Go.method (n + 1) 206 (.agg cs) "custody/price.accrued").run Tryz.prog w = .ok (221, .agg cs) w := by kernel_rfl
theorem maBill (n : Nat) (cs : Array Value) (w : World) : (Go.method (n + 1) 204 (.agg cs) "custody/price.accrued").run Tryz.prog w = .ok (216, .agg cs) w := by kernel_rfl
theorem maCash (n : Nat) (s : SecV) (w : World) : (Go.method (n + 1) 208 (.agg (secC s)) "custody/price.accrued").run Tryz.prog w = .ok (211, .agg (secC s)) w := by kernel_rfl
def AccP (s : SecV) (qty day mode : Int) (w : World) (e : Ending) (w' : World) : Prop := ∃ z v2 n, e = .returned (.tuple #[.int .i64 z, v2]) ∧ ErrP v2 n none ∧ AccIs s qty day mode z n ∧ Below w.heap.size w w'
theorem TwoP.rounded {m n : Nat} {w : World} {e : Ending} {w' : World} (h : TwoP m n w e w') (mode : Int) (hn : 0 < n) (hm : (DG.dig m).length ≤ 20000) (hnl : (DG.dig n).length ≤ 20000) : ∃ p q, e = .returned (.tuple #[.pointer (some ⟨p, 0, none⟩), .pointer (some ⟨q, 0, none⟩), .nilIface]) ∧ Calls Tryz.prog 64 #[.pointer (some ⟨p, 0, none⟩), .pointer (some ⟨q, 0, none⟩), .int .i64 mode] w' (RndP m n mode w') ∧ Below w.heap.size w w' := by
  obtain ⟨p, q, h1, h2, h3, h4⟩ := h
  exact ⟨p, q, h1, rounded_any p q m n mode w' h2 h3 hn hm hnl, h4⟩
set_option maxRecDepth 100000 in
set_option maxHeartbeats 8000000 in
theorem accrued_any (s : SecV) (qty day mode : Int) (w : World) (hcs : s.cur.size ≤ 140737488351232) (hok : Ok w) (hq : qty < 9223372036854775808) (hf : s.face < 9223372036854775808) : Calls Tryz.prog 22 #[.agg (secC s), .int .i64 qty, .int .i64 day, .int .i64 mode] w (AccP s qty day mode w) := by
  have hC := fun w hok => checked_any s w hcs hok
  have hE := fun w => equityAccrued_any (secC s) qty day w
  have hL := fun w => billAccrued_any (secC s) qty day w
  have hB := fun hk h0 (q : Nat) (hqq : qty = q) w => bondAccrued_any s q day w hk h0 (by omega) hf
  have hA1 : checkN s ≠ 0 → AccIs s qty day mode 0 (checkN s) := fun h => .inl ⟨h, rfl, rfl⟩
  have hA2 : checkN s = 0 → (qty < 0 ∨ mode < 0 ∨ 3 < mode) → AccIs s qty day mode 0 1 := fun h k => .inr (.inl ⟨h, k, rfl, rfl⟩)
  have hA3 : checkN s = 0 → ¬ (qty < 0 ∨ mode < 0 ∨ 3 < mode) → s.kind ≠ 2 → AccIs s qty day mode 0 0 := fun h k l => .inr (.inr (.inl ⟨h, k, l, rfl, rfl⟩))
  have hA4 : checkN s = 0 → ¬ (qty < 0 ∨ mode < 0 ∨ 3 < mode) → s.kind = 2 → (day < s.start ∨ s.finish < day) → AccIs s qty day mode 0 8 := fun h k l m => .inr (.inr (.inr (.inl ⟨h, k, l, m, rfl, rfl⟩)))
  have hA5 : checkN s = 0 → ¬ (qty < 0 ∨ mode < 0 ∨ 3 < mode) → s.kind = 2 → ¬ (day < s.start ∨ s.finish < day) → ∀ f A B, LastIs s day f → FracIs f day s.basis A B → AccIs s qty day mode (bondAcc s qty mode A B).1 (bondAcc s qty mode A B).2 := fun h k l m f A B h1 h2 => .inr (.inr (.inr (.inr ⟨h, k, l, m, f, A, B, h1, h2, rfl⟩)))
  have hbf := fun h k => bond_facts2 (s := s) h k
  have hbf2 := fun h k => bond_facts (s := s) h k
  unfold AccP
  have HC := Lib.hid hC
  have HOK := Lib.hid hok
  have z0 := (Below.refl w.heap.size w).alloc (Nat.le_refl _) (.cells (secC s) 25)
  have HZ0 := Lib.hid z0
  have HG := Lib.hid (heap_alloc_new w (.cells (secC s) 25))
  have hm1 := fun (n : Nat) (w : World) => maEquity n (secC s) w
  have hm2 := fun (n : Nat) (w : World) => maBond n (secC s) w
  have hm3 := fun (n : Nat) (w : World) => maBill n (secC s) w
  have hm4 := fun (n : Nat) (w : World) => maCash n s w
  have hsz : (secC s).size = 20 := rfl
  have hload := fun (w1 : World) (h : w1.heap[w.heap.size]? = some (.cells (secC s) 25 (0, 0))) => h
  have HE := Lib.hid hE
  have HL := Lib.hid hL
  have HB := Lib.hid hB
  have HA1 := Lib.hid hA1
  have HA2 := Lib.hid hA2
  have HA3 := Lib.hid hA3
  have HA4 := Lib.hid hA4
  have HA5 := Lib.hid hA5
  have HBF := Lib.hid hbf
  have HBF2 := Lib.hid hbf2
  have HM1 := Lib.hid hm1
  have HM2 := Lib.hid hm2
  have HM3 := Lib.hid hm3
  have HM4 := Lib.hid hm4
  clear hC hok z0 hm1 hm2 hm3 hm4 hE hL hB hA1 hA2 hA3 hA4 hA5 hbf hbf2 hload hcs hsz
  generalize hkN : checkN s = kN at *
  generalize hAI : AccIs s qty day mode = AI at *
  go_enter Tryz.func22, Tryz.ntmps22
  go_wp2_with (refine wpList_val (.agg (secC s)) (by kernel_rfl) (exec_load_row HG.out rfl rfl Tryz.underlying25 rfl (by kernel_rfl)) ?_)
  refine (HC.out _ (HOK.out.below HZ0.out)).mono ?_
  rintro e w1 ⟨p, v, rfl, hE, hPP, hBw⟩
  rw [hkN] at hE hPP
  have hbw := HZ0.out.trans (hBw.mono (by simp))
  have HBW := Lib.hid hbw
  have HPP := Lib.hid hPP
  clear hBw hbw HC hPP HG
  by_cases hk0 : kN = 0
  · obtain ⟨rfl, _⟩ := hE.zero hk0
    obtain ⟨nn, hP⟩ := HPP.out hk0
    have HK0 := Lib.hid hk0
    clear hk0 hE HPP
    by_cases hg : qty < 0 ∨ mode < 0 ∨ 3 < mode
    · have HAA := Lib.hid (HA2.out HK0.out hg)
      by_cases g1 : qty < 0
      · have d1 : decide (qty < 0) = true := decide_eq_true g1
        clear hg g1
        go_wp2_with fail
        go_ret2
        exact ⟨_, _, _, rfl, errP_errno (by decide) (by decide), HAA.out, HBW.out⟩
      · have d1 : decide (qty < 0) = false := decide_eq_false g1
        by_cases g2 : mode < 0
        · have d2 : decide (mode < 0) = true := decide_eq_true g2
          clear hg g1 g2
          go_wp2_with fail
          go_ret2
          exact ⟨_, _, _, rfl, errP_errno (by decide) (by decide), HAA.out, HBW.out⟩
        · have d2 : decide (mode < 0) = false := decide_eq_false g2
          have d3 : decide (mode > 3) = true := decide_eq_true (by omega)
          clear hg g1 g2
          go_wp2_with fail
          go_ret2
          exact ⟨_, _, _, rfl, errP_errno (by decide) (by decide), HAA.out, HBW.out⟩
    · have d1 : decide (qty < 0) = false := decide_eq_false (by omega)
      have d2 : decide (mode < 0) = false := decide_eq_false (by omega)
      have d3 : decide (mode > 3) = false := decide_eq_false (by omega)
      obtain ⟨qn, hqn⟩ := Int.eq_ofNat_of_zero_le (show 0 ≤ qty by omega)
      have HA3 := Lib.hid (HA3.out HK0.out hg)
      have HA4 := Lib.hid (HA4.out HK0.out hg)
      have HA5 := Lib.hid (HA5.out HK0.out hg)
      have HQN := Lib.hid hqn
      clear hg hqn
      cases hP with
      | equity hk =>
        have hm := HM1.out
        have hE1 := HE.out w1
        have HAA := Lib.hid (HA3.out (by omega))
        have HE1 := Lib.hid hE1
        clear hk hE1
        go_wp2_with fail
        refine HE1.out.mono ?_
        rintro e w2 hTw
        obtain ⟨p, q, rfl, hR, hb2⟩ := hTw.rounded mode (by decide) (by rw [DG.dig_zero]; simp) (by rw [DG.dig_one]; simp)
        have HR := Lib.hid hR
        have HB2 := Lib.hid (HBW.out.trans (hb2.mono HBW.out.size))
        clear hTw hR hb2
        go_wp2_with fail
        refine HR.out.mono ?_
        rintro e w3 ⟨v2, rfl, hEr, hb3⟩
        rw [rounded_none] at hEr
        have HER := Lib.hid hEr
        have HB3 := Lib.hid (HB2.out.trans (hb3.mono HB2.out.size))
        have hr0 : (DG.rounded 0 1 mode).1 = 0 := by rw [rounded_none]
        rw [hr0]
        clear hEr hb3 hr0
        go_wp2_with fail
        go_ret2
        exact ⟨_, _, _, rfl, HER.out, HAA.out, HB3.out⟩
      | bill hk =>
        have hm := HM3.out
        have hE1 := HL.out w1
        have HAA := Lib.hid (HA3.out (by omega))
        have HE1 := Lib.hid hE1
        clear hk hE1
        go_wp2_with fail
        refine HE1.out.mono ?_
        rintro e w2 hTw
        obtain ⟨p, q, rfl, hR, hb2⟩ := hTw.rounded mode (by decide) (by rw [DG.dig_zero]; simp) (by rw [DG.dig_one]; simp)
        have HR := Lib.hid hR
        have HB2 := Lib.hid (HBW.out.trans (hb2.mono HBW.out.size))
        clear hTw hR hb2
        go_wp2_with fail
        refine HR.out.mono ?_
        rintro e w3 ⟨v2, rfl, hEr, hb3⟩
        rw [rounded_none] at hEr
        have HER := Lib.hid hEr
        have HB3 := Lib.hid (HB2.out.trans (hb3.mono HB2.out.size))
        have hr0 : (DG.rounded 0 1 mode).1 = 0 := by rw [rounded_none]
        rw [hr0]
        clear hEr hb3 hr0
        go_wp2_with fail
        go_ret2
        exact ⟨_, _, _, rfl, HER.out, HAA.out, HB3.out⟩
      | cash hk =>
        have hm := HM4.out
        have hE1 := HE.out w1
        have HAA := Lib.hid (HA3.out (by omega))
        have HE1 := Lib.hid hE1
        clear hk hE1
        go_wp2_with fail
        refine HE1.out.mono ?_
        rintro e w2 hTw
        obtain ⟨p, q, rfl, hR, hb2⟩ := hTw.rounded mode (by decide) (by rw [DG.dig_zero]; simp) (by rw [DG.dig_one]; simp)
        have HR := Lib.hid hR
        have HB2 := Lib.hid (HBW.out.trans (hb2.mono HBW.out.size))
        clear hTw hR hb2
        go_wp2_with fail
        refine HR.out.mono ?_
        rintro e w3 ⟨v2, rfl, hEr, hb3⟩
        rw [rounded_none] at hEr
        have HER := Lib.hid hEr
        have HB3 := Lib.hid (HB2.out.trans (hb3.mono HB2.out.size))
        have hr0 : (DG.rounded 0 1 mode).1 = 0 := by rw [rounded_none]
        rw [hr0]
        clear hEr hb3 hr0
        go_wp2_with fail
        go_ret2
        exact ⟨_, _, _, rfl, HER.out, HAA.out, HB3.out⟩
      | bond hk =>
        have hm := HM2.out
        have hE1 := HB.out hk HK0.out qn HQN.out w1
        rw [← HQN.out] at hE1
        have HE1 := Lib.hid hE1
        have HK2 := Lib.hid hk
        clear hk hE1
        go_wp2_with fail
        refine HE1.out.mono ?_
        rintro e w2 hBP
        rcases hBP with ⟨hday, t, x, rfl, hEr, hb2⟩ | ⟨hday, f, A, B, hLI, hFI, hTw⟩
        · have HAA := Lib.hid (HA4.out HK2.out hday)
          have HER := Lib.hid hEr
          have HB2 := Lib.hid (HBW.out.trans (hb2.mono HBW.out.size))
          clear hday hEr hb2
          go_wp2_with fail
          go_ret2
          exact ⟨_, _, _, rfl, HER.out, HAA.out, HB2.out⟩
        · have hAA := HA5.out HK2.out hday f A B hLI hFI
          obtain ⟨f1, c1, c2, b1, b2⟩ := HBF.out HK0.out HK2.out
          obtain ⟨hper, hd1, hd2, hsf⟩ := HBF2.out HK0.out HK2.out
          have hs1 : 1 ≤ s.start := by simp [dayB] at hd1; omega
          have hfin : 1 ≤ s.finish ∧ s.finish ≤ 3652059 := by simpa [dayB] using hd2
          have hfd : 1 ≤ f ∧ f ≤ day := by
            obtain ⟨y, m, d, k, _, _, h3, h4⟩ := hLI
            omega
          obtain ⟨A1, A2, hBB⟩ := hFI.bounds hfd.1 hfd.2 (by omega) b1
          have hpq : 0 < prodN [1000000, B.toNat] := by
            rcases hBB with rfl | rfl <;> decide
          have hl1 := prodN_len [qn, s.face.toNat, s.coupon.toNat, A.toNat] (by have := HQN.out; simp; omega) (by simp) 4 (by simp)
          have hl2 := prodN_len [1000000, B.toNat] (by simp; omega) (by simp) 2 (by simp)
          obtain ⟨p, q, rfl, hR, hb2⟩ := hTw.rounded mode hpq (Nat.le_trans hl1 (by decide)) (Nat.le_trans hl2 (by decide))
          have hbe : bondAcc s qty mode A B = DG.rounded (prodN [qn, s.face.toNat, s.coupon.toNat, A.toNat]) (prodN [1000000, B.toNat]) mode := by unfold bondAcc; rw [HQN.out, Int.toNat_natCast]
          rw [hbe] at hAA
          have HAA := Lib.hid hAA
          have HR := Lib.hid hR
          have HB2 := Lib.hid (HBW.out.trans (hb2.mono HBW.out.size))
          clear hday hLI hFI hTw hAA f1 c1 c2 b1 b2 hper hd1 hd2 hsf hs1 hfin hfd A1 A2 hBB hpq hl1 hl2 hR hb2 hbe
          go_wp2_with fail
          refine HR.out.mono ?_
          rintro e w3 ⟨v2, rfl, hEr, hb3⟩
          have HER := Lib.hid hEr
          have HB3 := Lib.hid (HB2.out.trans (hb3.mono HB2.out.size))
          clear hEr hb3
          go_wp2_with fail
          go_ret2
          exact ⟨_, _, _, rfl, HER.out, HAA.out, HB3.out⟩
  · obtain ⟨t, x, rfl⟩ := hE.held hk0
    have HAA := Lib.hid (HA1.out hk0)
    have HE := Lib.hid hE
    clear hk0 hE
    go_wp2_with fail
    go_ret2
    exact ⟨_, _, _, rfl, HE.out, HAA.out, HBW.out⟩
end Go.Proofs.YtmepjcnpbjdlkaaGreatDoor
