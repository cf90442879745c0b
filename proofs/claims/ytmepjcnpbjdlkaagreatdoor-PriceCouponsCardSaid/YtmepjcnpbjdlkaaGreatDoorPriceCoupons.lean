/- the law PriceCoupons by contract. -/
import Derived.Test.YtmepjcnpbjdlkaaGreatDoorApartI
namespace Go.Proofs.YtmepjcnpbjdlkaaGreatDoor
set_option linter.unusedVariables false
set_option linter.unusedSimpArgs false
open Go.RowKit
attribute [local irreducible] Go.wpStill
theorem Wrote.under {w0 w w' : World} {S : Nat → Prop} (h : Wrote w w' S) (hb : Below w0.heap.size w0 w) (hS : ∀ q, S q → w0.heap.size ≤ q) : Below w0.heap.size w0 w' :=
  hb.trans ⟨h.os, h.tape, h.output, h.size, fun i hi => h.block i (Nat.lt_of_lt_of_le hi hb.size) (fun hs => by have := hS i hs; omega)⟩
theorem fam_two {w2 w3 w : World} {v1 v2 : Value} {l : List Int} {B : Nat} (h1 : RowE intE 3 w2 B v1 l) (h2 : RowE intE 3 w3 w2.heap.size v2 l) (b2 : Below w2.heap.size w2 w) (b3 : Below w3.heap.size w3 w) (hl : l.length ≤ 200000) :
    FamE intE 3 w 2 (fun j => if j = 0 then v1 else v2) (fun j => if j = 0 then v1 else v2) (fun _ => l) (fun _ => l.length) := by
  have r1 := (h1.below b2).low (Nat.zero_le _)
  have r2 := (h2.below b3).low (Nat.zero_le _)
  have t1 : ∀ q, v1.ownBlock = some q → q < w2.heap.size := fun q hq => by
    obtain ⟨_, cs, hc⟩ := h1.type hq
    exact lt_of_block hc
  have t2 : ∀ q, v2.ownBlock = some q → w2.heap.size ≤ q ∧ q < w.heap.size := fun q hq => by
    obtain ⟨hb, cs, hc⟩ := h2.type hq
    have := lt_of_block hc
    have := b3.size
    exact ⟨hb, by omega⟩
  have hz := b2.size
  refine ⟨fun j hj => ?_, fun j hj => Nat.le_refl _, fun j hj => ?_, fun j q hj hq => ?_, fun j j' q hj hj' hq hq' => ?_⟩
  · split
    · exact r1
    · exact r2
  · rw [List.take_length]
    split
    · exact r1.head (by omega)
    · exact r2.head (by omega)
  · split at hq
    · have := t1 q hq; omega
    · exact (t2 q hq).2
  · simp only [or_self] at hq hq'
    split at hq
    · split at hq'
      · omega
      · have := t1 q hq; have := (t2 q hq').1; omega
    · split at hq'
      · have := t1 q hq'; have := (t2 q hq).1; omega
      · omega
set_option maxRecDepth 100000 in
set_option maxHeartbeats 4000000 in
theorem priceCoupons_any (s : SecV) (w : World) (hcs : s.cur.size ≤ 140737488351232) (hok : Ok w) : Calls Tryz.prog 3 #[.agg (secC s)] w (FlatP true w) := by
  have hC := fun w hok => coupons_any s w hcs hok
  have hR := fun w => refCoupons_any s w hcs
  have hU := fun l l' (a : CoupIs s l) (b : CoupIs s l') => a.unique b
  unfold CoupP at hC
  unfold CoupR at hR
  generalize coupN s = N at hC hR
  generalize CoupIs s = CI at hC hR hU
  obtain ⟨c0, c1, c2, c3, c4, c5, c6, c7, c8, c9, c10, c11, kind, face, coupon, per, basis, start, finish, cur⟩ := s
  have HC := Lib.hid hC
  have HR := Lib.hid hR
  have HOK := Lib.hid hok
  have HU := Lib.hid hU
  have HG := Lib.hid (heap_alloc_new w (.cells (secC ⟨c0, c1, c2, c3, c4, c5, c6, c7, c8, c9, c10, c11, kind, face, coupon, per, basis, start, finish, cur⟩) 25))
  have HZ0 := Lib.hid ((Below.refl w.heap.size w).alloc (Nat.le_refl _) (.cells (secC ⟨c0, c1, c2, c3, c4, c5, c6, c7, c8, c9, c10, c11, kind, face, coupon, per, basis, start, finish, cur⟩) 25))
  clear hC hR hok hU
  go_enter Tryz.func3, Tryz.ntmps3
  have H0 := HG
  go_wp2_with (refine wpList_val (.agg (secC ⟨c0, c1, c2, c3, c4, c5, c6, c7, c8, c9, c10, c11, kind, face, coupon, per, basis, start, finish, cur⟩)) (by kernel_rfl) (exec_load_row H0.out rfl rfl Tryz.underlying25 rfl (by kernel_rfl)) ?_)
  refine (HR.out _).mono ?_
  rintro e w1 ⟨vw, l, rfl, hRw, hIw, hlw, hb1⟩
  have H1 := Lib.hid (rowAt_below H0.out hb1)
  have HB1 := Lib.hid (HZ0.out.trans (hb1.mono (by simp)))
  have HRW := Lib.hid hRw
  clear hRw hb1 H0
  go_wp2_with (refine wpList_val (.agg (secC ⟨c0, c1, c2, c3, c4, c5, c6, c7, c8, c9, c10, c11, kind, face, coupon, per, basis, start, finish, cur⟩)) (by kernel_rfl) (exec_load_row H1.out rfl rfl Tryz.underlying25 rfl (by kernel_rfl)) ?_)
  refine (HC.out _ (HOK.out.below HB1.out)).mono ?_
  rintro e w2 ⟨v1, x1, l1, rfl, hE1, hR1, hI1, hl1, hb2⟩
  obtain rfl := HU.out _ _ hI1 hIw
  have H2 := Lib.hid (rowAt_below H1.out hb2)
  have HB2 := Lib.hid (HB1.out.trans (hb2.mono HB1.out.size))
  have HRW2 := Lib.hid (HRW.out.below hb2)
  have HR1 := Lib.hid hR1
  have HE1 := Lib.hid hE1
  have hz2 := hb2.size
  clear hR1 hE1 hb2 H1 hI1
  go_wp2_with (refine wpList_val (.agg (secC ⟨c0, c1, c2, c3, c4, c5, c6, c7, c8, c9, c10, c11, kind, face, coupon, per, basis, start, finish, cur⟩)) (by kernel_rfl) (exec_load_row H2.out rfl rfl Tryz.underlying25 rfl (by kernel_rfl)) ?_)
  refine (HC.out _ (HOK.out.below HB2.out)).mono ?_
  rintro e w3 ⟨v2, x2, l2, rfl, hE2, hR2, hI2, hl2, hb3⟩
  obtain rfl := HU.out _ _ hI2 hIw
  have HB3 := Lib.hid (HB2.out.trans (hb3.mono HB2.out.size))
  have HRW3 := Lib.hid (HRW2.out.below hb3)
  have HR13 := Lib.hid (HR1.out.below hb3)
  have HR2 := Lib.hid hR2
  have HE2 := Lib.hid hE2
  have hz3 := hb3.size
  have hz3a := hb3
  clear hR2 hE2 hb3 H2 hI2
  go_wp2_with fail
  refine (plain_any x1 N N none true w3 HE1.out (by simp) (HOK.out.below HB3.out).1).mono ?_
  rintro e w4 ⟨rfl, hb4⟩
  go_wp2_with fail
  have HB4 := Lib.hid (HB3.out.trans (hb4.mono HB3.out.size))
  refine (plain_any x2 N N none true w4 HE2.out (by simp) (HOK.out.below HB4.out).1).mono ?_
  rintro e w5 ⟨rfl, hb5⟩
  have h35 := hb4.trans (hb5.mono hb4.size)
  go_wp2_with fail
  refine (sameInts_same _ _ l2 w5 ((HR13.out.below h35).reads (by omega)) ((HRW3.out.below h35).reads (by omega))).mono ?_
  rintro e w6 ⟨rfl, hb6⟩
  have h36 := h35.trans (hb6.mono h35.size)
  go_wp2_with fail
  refine (sameInts_same _ _ l2 w6 ((HR2.out.below h36).reads (by omega)) ((HRW3.out.below h36).reads (by omega))).mono ?_
  rintro e w7 ⟨rfl, hb7⟩
  have h37 := h36.trans (hb7.mono h36.size)
  have HB7 := Lib.hid (HB3.out.trans (h37.mono HB3.out.size))
  have H37 := Lib.hid h37
  clear h37 h36 h35 hb7 hb6 hb5 hb4
  obtain ⟨a1, cp1, hv1⟩ := HR1.out.slice
  obtain ⟨a2, cp2, hv2⟩ := HR2.out.slice
  subst hv1
  subst hv2
  go_wp2_with fail
  have b2 := Lib.hid (hz3a.trans (H37.out.mono hz3a.size))
  have hal := (Below.refl w7.heap.size w7).alloc (Nat.le_refl _) (.cells #[(Value.slice a1 l2.length cp1), (Value.slice a2 l2.length cp2)] 26)
  have hb27 := b2.out.trans (hal.mono b2.out.size)
  have hb37 := H37.out.trans (hal.mono H37.out.size)
  have hF := fam_two HR1.out HR2.out hb27 hb37 hl2
  have hrow := heap_alloc_new w7 (.cells #[(Value.slice a1 l2.length cp1), (Value.slice a2 l2.length cp2)] 26)
  have hown : ∀ j q, j < 2 → (if j = 0 then (Value.slice a1 l2.length cp1) else (Value.slice a2 l2.length cp2)).ownBlock = some q → w.heap.size ≤ q ∧ q < w7.heap.size := fun j q hj hq => by
    have z1 := HB1.out.size
    have z2 := H37.out.size
    split at hq
    · obtain ⟨hb, cs, hc⟩ := HR1.out.type hq
      have := lt_of_block hc
      omega
    · obtain ⟨hb, cs, hc⟩ := HR2.out.type hq
      have := lt_of_block hc
      omega
  refine (apart_any w7.heap.size 2 2 (fun j => if j = 0 then (Value.slice a1 l2.length cp1) else (Value.slice a2 l2.length cp2)) (fun _ => l2.length) (fun _ => l2) (w7.alloc (.cells #[(Value.slice a1 l2.length cp1), (Value.slice a2 l2.length cp2)] 26)) (by decide) (fun j hj => ?_) (by simp) (fun j q hj hq => ?_) hF (fun j hj => rfl) (fun j hj => by omega)).mono ?_
  · rw [cell_of_row _ _ _ _ _ _ hrow]
    obtain rfl | rfl : j = 0 ∨ j = 1 := by omega
    · rfl
    · rfl
  · have := (hown j q hj hq).2; omega
  · rintro e w8 ⟨rfl, hWr⟩
    have hfin := hWr.under (HB7.out.alloc HB7.out.size _) (fun q ⟨j, hj, hq⟩ => (hown j q hj hq).1)
    go_wp2_with fail
    go_ret
    exact ⟨rfl, hfin⟩
end Go.Proofs.YtmepjcnpbjdlkaaGreatDoor
