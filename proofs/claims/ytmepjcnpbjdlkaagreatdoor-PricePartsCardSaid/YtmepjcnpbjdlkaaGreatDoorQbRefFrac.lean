/- texts of this claim, laid together: RefFrac. -/
import Derived.Test.YtmepjcnpbjdlkaaGreatDoorQbFrac
/- the document's Fraction by contract, between two days. -/
namespace Go.Proofs.YtmepjcnpbjdlkaaGreatDoor
set_option linter.unusedVariables false
set_option linter.unusedSimpArgs false
open Go.RowKit
attribute [local irreducible] Go.wpStill

def RefFracP (a b basis : Int) (w : World) (e : Ending) (w' : World) : Prop := ∃ A B, e = .returned (.tuple #[.int .i64 A, .int .i64 B, .int .i64 0]) ∧ FracIs a b basis A B ∧ Below w.heap.size w w'
set_option maxRecDepth 100000 in
set_option maxHeartbeats 8000000 in
theorem refFraction_any (a b basis : Int) (w : World) (ha : 1 ≤ a) (hab : a ≤ b) (hb : b ≤ 3652059) (hb0 : 0 ≤ basis) (hb3 : basis ≤ 3) : Calls Tryz.prog 46 #[.int .i64 a, .int .i64 b, .int .i64 basis] w (RefFracP a b basis w) := by
  have hd1 : decide (basis < 0) = false := decide_eq_false (by omega)
  have hd2 : decide (basis > 3) = false := decide_eq_false (by omega)
  have hd3 : decide (b < a) = false := decide_eq_false (by omega)
  have HDA := Lib.hid (fun w => refOf_any a w ha (by omega))
  have HDB := Lib.hid (fun w => refOf_any b w (by omega) hb)
  go_enter Tryz.func46, Tryz.ntmps46
  go_wp2_with fail
  refine (HDA.out _).mono ?_
  rintro e w1 ⟨y, m, d, rfl, hI1, hb1⟩
  have HI1 := Lib.hid hI1
  have HZ1 := Lib.hid (hb1.alloc hb1.size (.cells #[.int .i64 0, .int .i64 0, .int .i64 0] 72))
  have HG9 := Lib.hid (heap_alloc_new w1 (.cells #[.int .i64 0, .int .i64 0, .int .i64 0] 72))
  have hs1 := hb1.size
  clear hI1 hb1
  go_wp2_with (refine wpList_store_any rfl 72 _ _ rfl w1.heap.size #[.int .i64 y, .int .i64 m, .int .i64 d] rfl rfl _ _ HG9.out (by kernel_rfl) rfl (by simp [Value.oneCell']) ?_; intro w3 h3 s3 bl3 ot3; have H3 := Lib.hid h3; have HBL3 := Lib.hid bl3; clear h3 bl3 ot3)
  have hg9l : w1.heap.size < w3.heap.size := by simp at s3; omega
  have HZ3 := Lib.hid (HBL3.out _ _ HZ1.out hs1)
  clear s3 HBL3 HZ1 HG9
  refine (HDB.out _).mono ?_
  rintro e w2 ⟨y', m', d', rfl, hI2, hb2⟩
  have HI2 := Lib.hid hI2
  have hz2 := HZ3.out.trans (hb2.mono HZ3.out.size)
  have HZ2 := Lib.hid (hz2.alloc hz2.size (.cells #[.int .i64 0, .int .i64 0, .int .i64 0] 72))
  have H32 := Lib.hid (((heap_alloc_old w2 (.cells #[.int .i64 0, .int .i64 0, .int .i64 0] 72) (show w1.heap.size < w2.heap.size by have := hb2.size; omega)).trans (hb2.block _ hg9l)).trans H3.out)
  have HG11 := Lib.hid (heap_alloc_new w2 (.cells #[.int .i64 0, .int .i64 0, .int .i64 0] 72))
  have hs2 : w1.heap.size < w2.heap.size := by have := hb2.size; omega
  have hs3 := hz2.size
  clear hI2 hb2 hz2 H3 HZ3
  go_upto_region 3 with (first | (refine wpList_store_any rfl 72 _ _ rfl w2.heap.size #[.int .i64 y', .int .i64 m', .int .i64 d'] rfl rfl _ _ HG11.out (by kernel_rfl) rfl (by simp [Value.oneCell']) ?_; intro w4 h4 s4 bl4 ot4; have H4 := Lib.hid h4; have HBL4 := Lib.hid bl4; have HOT4 := Lib.hid ot4; clear h4 bl4 ot4))
  obtain ⟨a0, a1, a2⟩ := cells_of_row3 ((HOT4.out w1.heap.size (by omega)).trans H32.out)
  obtain ⟨b0, b1, b2⟩ := cells_of_row3 H4.out
  have fa := frozen_of_row ((HOT4.out w1.heap.size (by omega)).trans H32.out) 2
  have fb := frozen_of_row H4.out 2
  have HW4 := Lib.hid (HBL4.out _ _ HZ2.out (by omega))
  obtain ⟨y1, y2, m1, m2, d1, d2, he1⟩ := id HI1.out
  obtain ⟨y3, y4, m3, m4, d3, d4, he2⟩ := id HI2.out
  have l1 := (Cal.mlen_bd y m m1 m2).2
  have l2 := (Cal.mlen_bd y' m' m3 m4).2
  have HFI : ∀ A, 2 ≤ basis → A = 360 * (y' - y) + 30 * (m' - m) + dayTo basis d d' - mnI d 30 → FracIs a b basis A 360 := fun A h hA => .inr (.inr ⟨h, rfl, y, m, d, y', m', d', HI1.out, HI2.out, hA⟩)
  have HFI := Lib.hid HFI
  have HTA := Lib.hid (show ∀ x, (basis = 3 ∨ 30 ≤ d) → x = (if 30 < d' then 30 else d') → dayTo basis d d' = x from fun x h hx => by unfold dayTo mnI; rw [if_pos h, hx])
  have HTB := Lib.hid (show ¬ (basis = 3 ∨ 30 ≤ d) → dayTo basis d d' = d' from fun h => by unfold dayTo; rw [if_neg h])
  have HMM := Lib.hid (show ∀ x, x = (if 30 < d then 30 else d) → mnI d 30 = x from fun x hx => by unfold mnI; rw [hx])
  have hst : ∀ w5 : World, Below w.heap.size w w5 → ∀ g u, w.heap.size ≤ g → Below w.heap.size w (w5.setCell ⟨g, 2, none⟩ u) := fun w5 h g u hg => h.setCell hg u
  have HST := Lib.hid hst
  generalize dayTo basis d d' = T at *
  generalize mnI d 30 = u at *
  have hdd : d ≤ 31 ∧ d' ≤ 31 := by omega
  obtain ⟨d5, d6⟩ := hdd
  clear d2 d4 l1 l2 HI1 HI2 HDA HDB H32 H4 HOT4 HBL4 HG11 HZ2 hst he1 he2
  by_cases c0 : basis = 0
  · have e0 : (basis == 0) = true := by simp [c0]
    go_wp2_with fail
    go_ret3
    exact ⟨_, _, rfl, .inl ⟨c0, rfl, rfl⟩, HW4.out⟩
  · have e0 : (basis == 0) = false := by simp [c0]
    by_cases c1 : basis = 1
    · have e1 : (basis == 1) = true := by simp [c1]
      go_wp2_with fail
      go_ret3
      exact ⟨_, _, rfl, .inr (.inl ⟨c1, rfl, rfl⟩), HW4.out⟩
    · have e1 : (basis == 1) = false := by simp [c1]
      have hb2 : 2 ≤ basis := by omega
      by_cases x1 : d = 31
      · have x1b : (d == 31) = true := by simp [x1]
        by_cases x2 : d' = 31
        · have x2b : (d' == 31) = true := by simp [x2]
          by_cases x3 : basis = 3
          · have x3b : (basis == 3) = true := by simp [x3]
            have hu := HMM.out 30 (by split <;> omega)
            have hT : T = 30 := HTA.out _ (by omega) (by split <;> omega)
            have HU := Lib.hid hu
            have HTT := Lib.hid hT
            clear hu hT
            go_wp2_with fail
            go_ret3
            refine ⟨_, _, rfl, HFI.out _ hb2 ?_, (HST.out _ (HST.out _ HW4.out _ _ (by omega)) _ _ (by omega))⟩
            rw [HTT.out, HU.out]
            all_goals omega
          · have x3b : (basis == 3) = false := by simp [x3]
            have hu := HMM.out 30 (by split <;> omega)
            have hT : T = 30 := HTA.out _ (by omega) (by split <;> omega)
            have HU := Lib.hid hu
            have HTT := Lib.hid hT
            clear hu hT
            go_wp2_with fail
            go_ret3
            refine ⟨_, _, rfl, HFI.out _ hb2 ?_, (HST.out _ (HST.out _ HW4.out _ _ (by omega)) _ _ (by omega))⟩
            rw [HTT.out, HU.out]
            all_goals omega
        · have x2b : (d' == 31) = false := by simp [x2]
          have hu := HMM.out 30 (by split <;> omega)
          have hT : T = d' := by
            by_cases h : basis = 3 ∨ 30 ≤ d
            · exact HTA.out _ h (by split <;> omega)
            · exact HTB.out h
          have HU := Lib.hid hu
          have HTT := Lib.hid hT
          clear hu hT
          go_wp2_with fail
          go_ret3
          refine ⟨_, _, rfl, HFI.out _ hb2 ?_, (HST.out _ HW4.out _ _ (by omega))⟩
          rw [HTT.out, HU.out]
          all_goals omega
      · have x1b : (d == 31) = false := by simp [x1]
        by_cases x2 : d' = 31
        · have x2b : (d' == 31) = true := by simp [x2]
          by_cases x3 : basis = 3
          · have x3b : (basis == 3) = true := by simp [x3]
            have hu := HMM.out d (by split <;> omega)
            have hT : T = 30 := HTA.out _ (by omega) (by split <;> omega)
            have HU := Lib.hid hu
            have HTT := Lib.hid hT
            clear hu hT
            go_wp2_with fail
            go_ret3
            refine ⟨_, _, rfl, HFI.out _ hb2 ?_, (HST.out _ HW4.out _ _ (by omega))⟩
            rw [HTT.out, HU.out]
            all_goals omega
          · have x3b : (basis == 3) = false := by simp [x3]
            by_cases x4 : d = 30
            · have x4b : (d == 30) = true := by simp [x4]
              have hu := HMM.out d (by split <;> omega)
              have hT : T = 30 := HTA.out _ (by omega) (by split <;> omega)
              have HU := Lib.hid hu
              have HTT := Lib.hid hT
              clear hu hT
              go_wp2_with fail
              go_ret3
              refine ⟨_, _, rfl, HFI.out _ hb2 ?_, (HST.out _ HW4.out _ _ (by omega))⟩
              rw [HTT.out, HU.out]
              all_goals omega
            · have x4b : (d == 30) = false := by simp [x4]
              have hu := HMM.out d (by split <;> omega)
              have hT : T = d' := HTB.out (by omega)
              have HU := Lib.hid hu
              have HTT := Lib.hid hT
              clear hu hT
              go_wp2_with fail
              go_ret3
              refine ⟨_, _, rfl, HFI.out _ hb2 ?_, HW4.out⟩
              rw [HTT.out, HU.out]
              all_goals omega
        · have x2b : (d' == 31) = false := by simp [x2]
          have hu := HMM.out d (by split <;> omega)
          have hT : T = d' := by
            by_cases h : basis = 3 ∨ 30 ≤ d
            · exact HTA.out _ h (by split <;> omega)
            · exact HTB.out h
          have HU := Lib.hid hu
          have HTT := Lib.hid hT
          clear hu hT
          go_wp2_with fail
          go_ret3
          refine ⟨_, _, rfl, HFI.out _ hb2 ?_, HW4.out⟩
          rw [HTT.out, HU.out]
          all_goals omega
end Go.Proofs.YtmepjcnpbjdlkaaGreatDoor
