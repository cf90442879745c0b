/- texts of this claim, laid together: Frac, RefFrac, AccA, RefLast, AccB, AccC. -/
import Derived.Test.YtmepjcnpbjdlkaaGreatDoorQdBigJ
import Derived.Test.YtmepjcnpbjdlkaaGreatDoorQdCalK
/- calendar.Fraction by contract, between two days. -/
namespace Go.Proofs.YtmepjcnpbjdlkaaGreatDoor
set_option linter.unusedVariables false
set_option linter.unusedSimpArgs false
open Go.RowKit
attribute [local irreducible] Go.wpStill

/-- the less of two -/
def mnI (a b : Int) : Int := if b < a then b else a
theorem min2_mn (k k' : IntKind) (x y : Int) : Builtin.min2 (.int k x) (.int k' y) = pure (.int k (mnI x y)) := by simp only [Builtin.min2, mnI]
theorem min_mn (ats : Array TypeId) (ty : TypeId) (a b : Value) : Builtin.min_ ats ty #[a, b] = (Builtin.min2 a b >>= fun s => pure s) := by simp only [Builtin.min_, List.foldlM_cons, List.foldlM_nil]
attribute [local go_sem] min2_mn min_mn
/-- the later day of the month, as it counts -/
def dayTo (basis d d' : Int) : Int := if basis = 3 ∨ 30 ≤ d then mnI d' 30 else d'
def FracIs (a b basis A B : Int) : Prop :=
  (basis = 0 ∧ A = b - a ∧ B = 360) ∨ (basis = 1 ∧ A = b - a ∧ B = 365) ∨
  (2 ≤ basis ∧ B = 360 ∧ ∃ y m d y' m' d', Cal.Is a y m d ∧ Cal.Is b y' m' d' ∧ A = 360 * (y' - y) + 30 * (m' - m) + dayTo basis d d' - mnI d 30)
theorem FracIs.unique {a b basis A B A' B' : Int} (h : FracIs a b basis A B) (k : FracIs a b basis A' B') : A = A' ∧ B = B' := by
  rcases h with ⟨h1, h2, h3⟩ | ⟨h1, h2, h3⟩ | ⟨h1, h2, y, m, d, y', m', d', h3, h4, h5⟩ <;> rcases k with ⟨k1, k2, k3⟩ | ⟨k1, k2, k3⟩ | ⟨k1, k2, z, n, e, z', n', e', k3, k4, k5⟩
  all_goals first | omega | skip
  obtain ⟨rfl, rfl, rfl⟩ := h3.unique k3
  obtain ⟨rfl, rfl, rfl⟩ := h4.unique k4
  exact ⟨by rw [h5, k5], by omega⟩
theorem FracIs.bounds {a b basis A B : Int} (h : FracIs a b basis A B) (ha : 1 ≤ a) (hab : a ≤ b) (hb : b ≤ 3652059) (h0 : 0 ≤ basis) : 0 ≤ A ∧ A ≤ 1000000000 ∧ (B = 360 ∨ B = 365) := by
  rcases h with ⟨h1, h2, h3⟩ | ⟨h1, h2, h3⟩ | ⟨h1, h2, y, m, d, y', m', d', h3, h4, h5⟩
  · omega
  · omega
  · have ho : Cal.mon y m < Cal.mon y' m' ∨ Cal.mon y m = Cal.mon y' m' := by
      rcases Int.lt_or_le (Cal.mon y' m') (Cal.mon y m) with h | h
      · have := Cal.numOf_lt h4 h3 h; omega
      · omega
    obtain ⟨y1, y2, m1, m2, d1, d2, e1⟩ := h3
    obtain ⟨y3, y4, m3, m4, d3, d4, e2⟩ := h4
    have l1 := (Cal.mlen_bd y m m1 m2).2
    have l2 := (Cal.mlen_bd y' m' m3 m4).2
    have hd1 : 1 ≤ mnI d 30 ∧ mnI d 30 ≤ 30 ∧ mnI d 30 ≤ d := by unfold mnI; split <;> omega
    have hd2 : 1 ≤ dayTo basis d d' ∧ dayTo basis d d' ≤ 31 := by unfold dayTo mnI; split <;> (try split) <;> omega
    refine ⟨?_, by omega, .inl h2⟩
    rcases ho with ho | ho
    · unfold Cal.mon at ho; omega
    · have hy : y = y' ∧ m = m' := by unfold Cal.mon at ho; omega
      obtain ⟨rfl, rfl⟩ := hy
      have hdd : d ≤ d' := by unfold Cal.numOf at e1 e2; omega
      have : mnI d 30 ≤ dayTo basis d d' := by unfold dayTo mnI; split <;> (try split) <;> (try split) <;> omega
      omega
def FracP (a b basis : Int) (w : World) (e : Ending) (w' : World) : Prop := ∃ A B, e = .returned (.tuple #[.int .i64 A, .int .i64 B, .nilIface]) ∧ FracIs a b basis A B ∧ Below w.heap.size w w'
set_option maxRecDepth 100000 in
set_option maxHeartbeats 4000000 in
theorem fraction_any (a b basis : Int) (w : World) (ha : 1 ≤ a) (hab : a ≤ b) (hb : b ≤ 3652059) (hb0 : 0 ≤ basis) (hb3 : basis ≤ 3) : Calls Tryz.prog 60 #[.int .i64 a, .int .i64 b, .int .i64 basis] w (FracP a b basis w) := by
  have hda : dayB a = true := by simp [dayB]; omega
  have hdb : dayB b = true := by simp [dayB]; omega
  have hIA := isDay_any a
  have hIB := isDay_any b
  rw [hda] at hIA
  rw [hdb] at hIB
  have HIA := Lib.hid hIA
  have HIB := Lib.hid hIB
  have hd1 : decide (basis < 0) = false := decide_eq_false (by omega)
  have hd2 : decide (basis > 3) = false := decide_eq_false (by omega)
  have hd3 : decide (b < a) = false := decide_eq_false (by omega)
  have HDA := Lib.hid (fun w => date_any a w ha (by omega))
  have HDB := Lib.hid (fun w => date_any b w (by omega) hb)
  clear hIA hIB hda hdb
  go_enter Tryz.func60, Tryz.ntmps60
  go_wp2_with fail
  refine (HIA.out w).mono ?_
  rintro e w ⟨rfl, rfl⟩
  go_wp2_with fail
  refine (HIB.out _).mono ?_
  rintro e w ⟨rfl, rfl⟩
  go_wp2_with fail
  refine (HDA.out _).mono ?_
  rintro e w1 ⟨y, m, d, rfl, hI1, hb1⟩
  have HI1 := Lib.hid hI1
  clear hI1
  go_wp2_with fail
  refine (HDB.out _).mono ?_
  rintro e w2 ⟨y', m', d', rfl, hI2, hb2⟩
  have HI2 := Lib.hid hI2
  have hz := (((hb1.trans (hb2.mono hb1.size)).alloc (by have := hb1.size; have := hb2.size; omega) (.cells #[.int .i64 0, .int .i64 0, .int .i64 0] 72))).alloc (by have := hb1.size; have := hb2.size; simp; omega) (.cells #[.int .i64 0, .int .i64 0, .int .i64 0] 72)
  have hg9 := heap_alloc2_old w2 (.cells #[.int .i64 0, .int .i64 0, .int .i64 0] 72) (.cells #[.int .i64 0, .int .i64 0, .int .i64 0] 72)
  have hg10 := heap_alloc2_new w2 (.cells #[.int .i64 0, .int .i64 0, .int .i64 0] 72) (.cells #[.int .i64 0, .int .i64 0, .int .i64 0] 72)
  have hws : w.heap.size ≤ w2.heap.size := by have := hb1.size; have := hb2.size; omega
  have HZ := Lib.hid hz
  have HG9 := Lib.hid hg9
  have HG10 := Lib.hid hg10
  clear hb1 hb2 hI2 hz hg9 hg10
  go_upto_region 6 with (first | (refine wpList_store_any rfl 72 _ _ rfl w2.heap.size #[.int .i64 y, .int .i64 m, .int .i64 d] rfl rfl _ _ HG9.out (by kernel_rfl) rfl (by simp [Value.oneCell']) ?_; intro w3 h3 s3 bl3 ot3; have H3 := Lib.hid h3; have HBL3 := Lib.hid bl3; have HOT3 := Lib.hid ot3; clear h3 bl3 ot3; refine wpList_store_any rfl 72 _ _ rfl (w2.heap.size + 1) #[.int .i64 y', .int .i64 m', .int .i64 d'] rfl rfl _ _ ((HOT3.out (w2.heap.size + 1) (by omega)).trans HG10.out) (by kernel_rfl) rfl (by simp [Value.oneCell']) ?_; intro w4 h4 s4 bl4 ot4; have H4 := Lib.hid h4; have HBL4 := Lib.hid bl4; have HOT4 := Lib.hid ot4; clear h4 bl4 ot4))
  obtain ⟨a0, a1, a2⟩ := cells_of_row3 ((HOT4.out w2.heap.size (by omega)).trans H3.out)
  obtain ⟨b0, b1, b2⟩ := cells_of_row3 H4.out
  have fa := frozen_of_row ((HOT4.out w2.heap.size (by omega)).trans H3.out) 2
  have fb := frozen_of_row H4.out 2
  have hW4 := HBL4.out _ _ (HBL3.out _ _ HZ.out hws) (by omega)
  have hu : 1 ≤ mnI d 30 ∧ mnI d 30 ≤ 31 := by
    obtain ⟨_, _, m1, m2, d1, d2, _⟩ := HI1.out
    have := (Cal.mlen_bd y m m1 m2).2
    unfold mnI; split <;> omega
  have hu' : 1 ≤ mnI d' 30 ∧ mnI d' 30 ≤ 31 := by
    obtain ⟨_, _, m1, m2, d1, d2, _⟩ := HI2.out
    have := (Cal.mlen_bd y' m' m1 m2).2
    unfold mnI; split <;> omega
  obtain ⟨y1, y2, m1, m2, d1, d2, he1⟩ := id HI1.out
  obtain ⟨y3, y4, m3, m4, d3, d4, he2⟩ := id HI2.out
  clear he1 he2
  have l1 := (Cal.mlen_bd y m m1 m2).2
  have l2 := (Cal.mlen_bd y' m' m3 m4).2
  have HFI : ∀ A, 2 ≤ basis → A = 360 * (y' - y) + 30 * (m' - m) + dayTo basis d d' - mnI d 30 → FracIs a b basis A 360 := fun A h hA => .inr (.inr ⟨h, rfl, y, m, d, y', m', d', HI1.out, HI2.out, hA⟩)
  have HFI := Lib.hid HFI
  have HT3 := Lib.hid (show basis = 3 → dayTo basis d d' = mnI d' 30 from fun h => by unfold dayTo; rw [if_pos (.inl h)])
  have HT30 := Lib.hid (show 30 ≤ d → dayTo basis d d' = mnI d' 30 from fun h => by unfold dayTo; rw [if_pos (.inr h)])
  have HT0 := Lib.hid (show basis ≠ 3 → d < 30 → dayTo basis d d' = d' from fun h k => by unfold dayTo; rw [if_neg (by omega)])
  have HW4 := Lib.hid hW4
  generalize dayTo basis d d' = T at *
  generalize hmu : mnI d 30 = u at *
  generalize hmu' : mnI d' 30 = u' at *
  obtain ⟨u1, u2⟩ := hu
  obtain ⟨u3, u4⟩ := hu'
  have hdd : d ≤ 31 ∧ d' ≤ 31 := by omega
  obtain ⟨d5, d6⟩ := hdd
  clear d2 d4 l1 l2 HI1 HI2 HDA HDB HIA HIB H3 H4 HOT3 HOT4 HBL3 HBL4 HG9 HG10 HZ hW4
  have hst : ∀ w5 : World, Below w.heap.size w w5 → ∀ g u, w.heap.size ≤ g → Below w.heap.size w (w5.setCell ⟨g, 2, none⟩ u) := fun w5 h g u hg => h.setCell hg u
  have HST := Lib.hid hst
  clear hst
  by_cases c0 : basis = 0
  · have e0 : (basis == 0) = true := by simp [c0]
    go_wp2_with fail
    go_ret3
    exact ⟨_, _, rfl, .inl ⟨c0, rfl, rfl⟩, HW4.out⟩
  · have e0 : (basis == 0) = false := by simp [c0]
    by_cases c1 : basis = 1
    · have e1 : (basis == 1) = true := by simp [c1]
      go_wp2_with fail
      go_ret3
      exact ⟨_, _, rfl, .inr (.inl ⟨c1, rfl, rfl⟩), HW4.out⟩
    · have e1 : (basis == 1) = false := by simp [c1]
      by_cases c3 : basis = 3
      · have e3 : (basis == 3) = true := by simp [c3]
        have hT := HT3.out c3
        have HTT := Lib.hid hT
        have hb2 : 2 ≤ basis := by omega
        clear hT
        go_wp2_with fail
        go_ret3
        refine ⟨_, _, rfl, HFI.out _ hb2 ?_, HST.out _ (HST.out _ HW4.out _ _ (by omega)) _ _ (by omega)⟩
        rw [HTT.out]
      · have e3 : (basis == 3) = false := by simp [c3]
        have hb2 : 2 ≤ basis := by omega
        by_cases c30 : 30 ≤ d
        · have hd30 : decide (d ≥ 30) = true := decide_eq_true c30
          have hT := HT30.out c30
          have HTT := Lib.hid hT
          clear hT
          go_wp2_with fail
          go_ret3
          refine ⟨_, _, rfl, HFI.out _ hb2 ?_, HST.out _ (HST.out _ HW4.out _ _ (by omega)) _ _ (by omega)⟩
          rw [HTT.out]
        · have hd30 : decide (d ≥ 30) = false := decide_eq_false c30
          have hT := HT0.out c3 (by omega)
          have HTT := Lib.hid hT
          clear hT
          go_wp2_with fail
          go_ret3
          refine ⟨_, _, rfl, HFI.out _ hb2 ?_, HST.out _ HW4.out _ _ (by omega)⟩
          rw [HTT.out]
end Go.Proofs.YtmepjcnpbjdlkaaGreatDoor
/- the document's Fraction by contract, between two days. -/
namespace Go.Proofs.YtmepjcnpbjdlkaaGreatDoor
set_option linter.unusedVariables false
set_option linter.unusedSimpArgs false
open Go.RowKit
attribute [local irreducible] Go.wpStill

def RefFracP (a b basis : Int) (w : World) (e : Ending) (w' : World) : Prop := ∃ A B, e = .returned (.tuple #[.int .i64 A, .int .i64 B, .int .i64 0]) ∧ FracIs a b basis A B ∧ Below w.heap.size w w'
set_option maxRecDepth 100000 in
set_option maxHeartbeats 8000000 in
theorem refFraction_any (a b basis : Int) (w : World) (ha : 1 ≤ a) (hab : a ≤ b) (hb : b ≤ 3652059) (hb0 : 0 ≤ basis) (hb3 : basis ≤ 3) : Calls Tryz.prog 46 #[.int .i64 a, .int .i64 b, .int .i64 basis] w (RefFracP a b basis w) := by
  have hd1 : decide (basis < 0) = false := decide_eq_false (by omega)
  have hd2 : decide (basis > 3) = false := decide_eq_false (by omega)
  have hd3 : decide (b < a) = false := decide_eq_false (by omega)
  have HDA := Lib.hid (fun w => refOf_any a w ha (by omega))
  have HDB := Lib.hid (fun w => refOf_any b w (by omega) hb)
  go_enter Tryz.func46, Tryz.ntmps46
  go_wp2_with fail
  refine (HDA.out _).mono ?_
  rintro e w1 ⟨y, m, d, rfl, hI1, hb1⟩
  have HI1 := Lib.hid hI1
  have HZ1 := Lib.hid (hb1.alloc hb1.size (.cells #[.int .i64 0, .int .i64 0, .int .i64 0] 72))
  have HG9 := Lib.hid (heap_alloc_new w1 (.cells #[.int .i64 0, .int .i64 0, .int .i64 0] 72))
  have hs1 := hb1.size
  clear hI1 hb1
  go_wp2_with (refine wpList_store_any rfl 72 _ _ rfl w1.heap.size #[.int .i64 y, .int .i64 m, .int .i64 d] rfl rfl _ _ HG9.out (by kernel_rfl) rfl (by simp [Value.oneCell']) ?_; intro w3 h3 s3 bl3 ot3; have H3 := Lib.hid h3; have HBL3 := Lib.hid bl3; clear h3 bl3 ot3)
  have hg9l : w1.heap.size < w3.heap.size := by simp at s3; omega
  have HZ3 := Lib.hid (HBL3.out _ _ HZ1.out hs1)
  clear s3 HBL3 HZ1 HG9
  refine (HDB.out _).mono ?_
  rintro e w2 ⟨y', m', d', rfl, hI2, hb2⟩
  have HI2 := Lib.hid hI2
  have hz2 := HZ3.out.trans (hb2.mono HZ3.out.size)
  have HZ2 := Lib.hid (hz2.alloc hz2.size (.cells #[.int .i64 0, .int .i64 0, .int .i64 0] 72))
  have H32 := Lib.hid (((heap_alloc_old w2 (.cells #[.int .i64 0, .int .i64 0, .int .i64 0] 72) (show w1.heap.size < w2.heap.size by have := hb2.size; omega)).trans (hb2.block _ hg9l)).trans H3.out)
  have HG11 := Lib.hid (heap_alloc_new w2 (.cells #[.int .i64 0, .int .i64 0, .int .i64 0] 72))
  have hs2 : w1.heap.size < w2.heap.size := by have := hb2.size; omega
  have hs3 := hz2.size
  clear hI2 hb2 hz2 H3 HZ3
  go_upto_region 3 with (first | (refine wpList_store_any rfl 72 _ _ rfl w2.heap.size #[.int .i64 y', .int .i64 m', .int .i64 d'] rfl rfl _ _ HG11.out (by kernel_rfl) rfl (by simp [Value.oneCell']) ?_; intro w4 h4 s4 bl4 ot4; have H4 := Lib.hid h4; have HBL4 := Lib.hid bl4; have HOT4 := Lib.hid ot4; clear h4 bl4 ot4))
  obtain ⟨a0, a1, a2⟩ := cells_of_row3 ((HOT4.out w1.heap.size (by omega)).trans H32.out)
  obtain ⟨b0, b1, b2⟩ := cells_of_row3 H4.out
  have fa := frozen_of_row ((HOT4.out w1.heap.size (by omega)).trans H32.out) 2
  have fb := frozen_of_row H4.out 2
  have HW4 := Lib.hid (HBL4.out _ _ HZ2.out (by omega))
  obtain ⟨y1, y2, m1, m2, d1, d2, he1⟩ := id HI1.out
  obtain ⟨y3, y4, m3, m4, d3, d4, he2⟩ := id HI2.out
  have l1 := (Cal.mlen_bd y m m1 m2).2
  have l2 := (Cal.mlen_bd y' m' m3 m4).2
  have HFI : ∀ A, 2 ≤ basis → A = 360 * (y' - y) + 30 * (m' - m) + dayTo basis d d' - mnI d 30 → FracIs a b basis A 360 := fun A h hA => .inr (.inr ⟨h, rfl, y, m, d, y', m', d', HI1.out, HI2.out, hA⟩)
  have HFI := Lib.hid HFI
  have HTA := Lib.hid (show ∀ x, (basis = 3 ∨ 30 ≤ d) → x = (if 30 < d' then 30 else d') → dayTo basis d d' = x from fun x h hx => by unfold dayTo mnI; rw [if_pos h, hx])
  have HTB := Lib.hid (show ¬ (basis = 3 ∨ 30 ≤ d) → dayTo basis d d' = d' from fun h => by unfold dayTo; rw [if_neg h])
  have HMM := Lib.hid (show ∀ x, x = (if 30 < d then 30 else d) → mnI d 30 = x from fun x hx => by unfold mnI; rw [hx])
  have hst : ∀ w5 : World, Below w.heap.size w w5 → ∀ g u, w.heap.size ≤ g → Below w.heap.size w (w5.setCell ⟨g, 2, none⟩ u) := fun w5 h g u hg => h.setCell hg u
  have HST := Lib.hid hst
  generalize dayTo basis d d' = T at *
  generalize mnI d 30 = u at *
  have hdd : d ≤ 31 ∧ d' ≤ 31 := by omega
  obtain ⟨d5, d6⟩ := hdd
  clear d2 d4 l1 l2 HI1 HI2 HDA HDB H32 H4 HOT4 HBL4 HG11 HZ2 hst he1 he2
  by_cases c0 : basis = 0
  · have e0 : (basis == 0) = true := by simp [c0]
    go_wp2_with fail
    go_ret3
    exact ⟨_, _, rfl, .inl ⟨c0, rfl, rfl⟩, HW4.out⟩
  · have e0 : (basis == 0) = false := by simp [c0]
    by_cases c1 : basis = 1
    · have e1 : (basis == 1) = true := by simp [c1]
      go_wp2_with fail
      go_ret3
      exact ⟨_, _, rfl, .inr (.inl ⟨c1, rfl, rfl⟩), HW4.out⟩
    · have e1 : (basis == 1) = false := by simp [c1]
      have hb2 : 2 ≤ basis := by omega
      by_cases x1 : d = 31
      · have x1b : (d == 31) = true := by simp [x1]
        by_cases x2 : d' = 31
        · have x2b : (d' == 31) = true := by simp [x2]
          by_cases x3 : basis = 3
          · have x3b : (basis == 3) = true := by simp [x3]
            have hu := HMM.out 30 (by split <;> omega)
            have hT : T = 30 := HTA.out _ (by omega) (by split <;> omega)
            have HU := Lib.hid hu
            have HTT := Lib.hid hT
            clear hu hT
            go_wp2_with fail
            go_ret3
            refine ⟨_, _, rfl, HFI.out _ hb2 ?_, (HST.out _ (HST.out _ HW4.out _ _ (by omega)) _ _ (by omega))⟩
            rw [HTT.out, HU.out]
            all_goals omega
          · have x3b : (basis == 3) = false := by simp [x3]
            have hu := HMM.out 30 (by split <;> omega)
            have hT : T = 30 := HTA.out _ (by omega) (by split <;> omega)
            have HU := Lib.hid hu
            have HTT := Lib.hid hT
            clear hu hT
            go_wp2_with fail
            go_ret3
            refine ⟨_, _, rfl, HFI.out _ hb2 ?_, (HST.out _ (HST.out _ HW4.out _ _ (by omega)) _ _ (by omega))⟩
            rw [HTT.out, HU.out]
            all_goals omega
        · have x2b : (d' == 31) = false := by simp [x2]
          have hu := HMM.out 30 (by split <;> omega)
          have hT : T = d' := by
            by_cases h : basis = 3 ∨ 30 ≤ d
            · exact HTA.out _ h (by split <;> omega)
            · exact HTB.out h
          have HU := Lib.hid hu
          have HTT := Lib.hid hT
          clear hu hT
          go_wp2_with fail
          go_ret3
          refine ⟨_, _, rfl, HFI.out _ hb2 ?_, (HST.out _ HW4.out _ _ (by omega))⟩
          rw [HTT.out, HU.out]
          all_goals omega
      · have x1b : (d == 31) = false := by simp [x1]
        by_cases x2 : d' = 31
        · have x2b : (d' == 31) = true := by simp [x2]
          by_cases x3 : basis = 3
          · have x3b : (basis == 3) = true := by simp [x3]
            have hu := HMM.out d (by split <;> omega)
            have hT : T = 30 := HTA.out _ (by omega) (by split <;> omega)
            have HU := Lib.hid hu
            have HTT := Lib.hid hT
            clear hu hT
            go_wp2_with fail
            go_ret3
            refine ⟨_, _, rfl, HFI.out _ hb2 ?_, (HST.out _ HW4.out _ _ (by omega))⟩
            rw [HTT.out, HU.out]
            all_goals omega
          · have x3b : (basis == 3) = false := by simp [x3]
            by_cases x4 : d = 30
            · have x4b : (d == 30) = true := by simp [x4]
              have hu := HMM.out d (by split <;> omega)
              have hT : T = 30 := HTA.out _ (by omega) (by split <;> omega)
              have HU := Lib.hid hu
              have HTT := Lib.hid hT
              clear hu hT
              go_wp2_with fail
              go_ret3
              refine ⟨_, _, rfl, HFI.out _ hb2 ?_, (HST.out _ HW4.out _ _ (by omega))⟩
              rw [HTT.out, HU.out]
              all_goals omega
            · have x4b : (d == 30) = false := by simp [x4]
              have hu := HMM.out d (by split <;> omega)
              have hT : T = d' := HTB.out (by omega)
              have HU := Lib.hid hu
              have HTT := Lib.hid hT
              clear hu hT
              go_wp2_with fail
              go_ret3
              refine ⟨_, _, rfl, HFI.out _ hb2 ?_, HW4.out⟩
              rw [HTT.out, HU.out]
              all_goals omega
        · have x2b : (d' == 31) = false := by simp [x2]
          have hu := HMM.out d (by split <;> omega)
          have hT : T = d' := by
            by_cases h : basis = 3 ∨ 30 ≤ d
            · exact HTA.out _ h (by split <;> omega)
            · exact HTB.out h
          have HU := Lib.hid hu
          have HTT := Lib.hid hT
          clear hu hT
          go_wp2_with fail
          go_ret3
          refine ⟨_, _, rfl, HFI.out _ hb2 ?_, HW4.out⟩
          rw [HTT.out, HU.out]
          all_goals omega
end Go.Proofs.YtmepjcnpbjdlkaaGreatDoor
/- what has accrued, plainly; the papers without interest. -/
namespace Go.Proofs.YtmepjcnpbjdlkaaGreatDoor
set_option linter.unusedVariables false
set_option linter.unusedSimpArgs false
open Go.RowKit
attribute [local irreducible] Go.wpStill

end Go.Proofs.YtmepjcnpbjdlkaaGreatDoor
/- the document's last by contract. -/
namespace Go.Proofs.YtmepjcnpbjdlkaaGreatDoor
set_option linter.unusedVariables false
set_option linter.unusedSimpArgs false
open Go.RowKit
attribute [local irreducible] Go.wpStill

end Go.Proofs.YtmepjcnpbjdlkaaGreatDoor
/- a bond's interest by contract. -/
namespace Go.Proofs.YtmepjcnpbjdlkaaGreatDoor
set_option linter.unusedVariables false
set_option linter.unusedSimpArgs false
open Go.RowKit
attribute [local irreducible] Go.wpStill

end Go.Proofs.YtmepjcnpbjdlkaaGreatDoor
/- price.Accrued by contract. -/
namespace Go.Proofs.YtmepjcnpbjdlkaaGreatDoor
set_option linter.unusedVariables false
set_option linter.unusedSimpArgs false
open Go.RowKit
attribute [local irreducible] Go.wpStill

end Go.Proofs.YtmepjcnpbjdlkaaGreatDoor
