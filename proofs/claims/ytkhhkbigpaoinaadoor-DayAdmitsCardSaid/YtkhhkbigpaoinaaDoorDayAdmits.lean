/- the law DayAdmits by contract. -/
import Derived.Test.YtkhhkbigpaoinaaDoorRefAdmits
namespace Go.Proofs.YtkhhkbigpaoinaaDoor
set_option linter.unusedVariables false
set_option linter.unusedSimpArgs false
open Go.RowKit
attribute [local irreducible] Go.wpStill marksE
set_option maxRecDepth 100000 in
set_option maxHeartbeats 4000000 in
theorem dayAdmits_any (p : Int) (o : OpV) (l q : Value) (paid : Bool) (ls : List legT) (ps : List keyT) (w : World) (hT : EType w) (hl : ReadsE legE w l ls) (hp : ReadsE keyE w q ps) (hs : (ls.length + 16) * 40 ≤ 140737488355328) (hs2 : (ps.length + 16) * 16 ≤ 140737488355328) :
    Calls Tryd.prog 3 #[.int .i64 p, opVal o l q, .bool paid] w (FixB true w) := by
  have hLO := lentOp_any o l q ls ps
  have hAd := admits_any p o
  have hRA := refAdmits_any p o l q paid
  have hKO := keptOp_any o
  obtain ⟨o1, o2, o3, o4, o5, o6⟩ := o
  unfold opVal at hLO hAd hRA hKO ⊢
  simp only at hLO hAd hRA hKO ⊢
  have HL := Lib.hid hl
  have HP := Lib.hid hp
  have HT := Lib.hid hT
  have HLO := Lib.hid hLO
  have HAD := Lib.hid hAd
  have HRA := Lib.hid hRA
  have HKO := Lib.hid hKO
  obtain ⟨al, cl, rfl⟩ := hl.slice
  obtain ⟨ap, cp, rfl⟩ := hp.slice
  clear hl hp hT hLO hAd hRA hKO
  go_enter Tryd.func3, Tryd.ntmps3
  go_wp2_with fail
  have hb0 : Below w.heap.size w (w.alloc (.cells #[.int .i64 o1, .int .i64 o2, .int .i64 o3, .int .i64 o4, .int .i64 o5, .int .i64 o6, .slice al ls.length cl, .slice ap ps.length cp] 25)) := (Below.refl _ _).alloc (Nat.le_refl _) _
  refine (HLO.out _ (HL.out.below hb0) (HP.out.below hb0) hs hs2).mono ?_
  rintro e w1 ⟨v1, v2, rfl, hV1, hV2, hB1⟩
  unfold opVal
  simp only
  obtain ⟨g1, c1, rfl, hr1⟩ := id hV1
  obtain ⟨g2, c2, rfl, hr2⟩ := id hV2
  have HV1 := Lib.hid hV1
  have HV2 := Lib.hid hV2
  obtain ⟨hc, hf⟩ := bcell hB1
  have hz : w.heap.size < w1.heap.size := by have := hB1.size; simp at this; omega
  have hW1 := hb0.trans (hB1.mono (by simp))
  clear hr1 hr2 hV1 hV2 hB1 HLO
  go_wp2_with fail
  refine (HAD.out _ _ _ _).mono ?_
  rintro e w2 ⟨v2, rfl, hE, hB2⟩
  have hT2 := ((HT.out.below hW1).alloc (.cells #[.int .i64 o1, .int .i64 o2, .int .i64 o3, .int .i64 o4, .int .i64 o5, .int .i64 o6, .slice (some ⟨g1, 0, none⟩) ls.length c1, .slice (some ⟨g2, 0, none⟩) ps.length c2] 25)).below hB2
  have hA := hW1.alloc hW1.size (.cells #[.int .i64 o1, .int .i64 o2, .int .i64 o3, .int .i64 o4, .int .i64 o5, .int .i64 o6, .slice (some ⟨g1, 0, none⟩) ls.length c1, .slice (some ⟨g2, 0, none⟩) ps.length c2] 25)
  have hW2 := hA.trans (hB2.mono (by simp; omega))
  have hV12 := (HV1.out.kept fun k hk => heap_alloc_old w1 (.cells #[.int .i64 o1, .int .i64 o2, .int .i64 o3, .int .i64 o4, .int .i64 o5, .int .i64 o6, .slice (some ⟨g1, 0, none⟩) ls.length c1, .slice (some ⟨g2, 0, none⟩) ps.length c2] 25) hk).below hB2
  have hV22 := (HV2.out.kept fun k hk => heap_alloc_old w1 (.cells #[.int .i64 o1, .int .i64 o2, .int .i64 o3, .int .i64 o4, .int .i64 o5, .int .i64 o6, .slice (some ⟨g1, 0, none⟩) ls.length c1, .slice (some ⟨g2, 0, none⟩) ps.length c2] 25) hk).below hB2
  have HT2 := Lib.hid hT2
  have HV12 := Lib.hid hV12
  have HV22 := Lib.hid hV22
  obtain ⟨hc2, hf2⟩ := bcell hB2
  have hz2 : w1.heap.size < w2.heap.size := by have := hB2.size; simp at this; omega
  clear hT2 hA hV12 hV22 HAD HV1 HV2 hB2 hf hf2
  go_wp2_with fail
  refine (HRA.out _).mono ?_
  rintro e w3 ⟨rfl, hB3⟩
  obtain ⟨hc3, hf3⟩ := bcell hB3
  clear hf3 HRA
  go_wp2_with fail
  refine (plain_any v2 _ _ none true w3 hE (by simp) (HT2.out.below hB3)).mono ?_
  rintro e w4 ⟨rfl, hB4⟩
  have hB34 := hB3.trans (hB4.mono hB3.size)
  obtain ⟨hc4, hf4⟩ := bcell hB4
  have hz3 := hB3.size
  have hz4 : w1.heap.size < w3.heap.size := by omega
  have hz5 : w.heap.size < w3.heap.size := by omega
  have hz6 : w.heap.size < w2.heap.size := by omega
  clear hf4
  go_wp2_with fail
  refine (HKO.out _ _ _ _ ls ps _ w4 (HV12.out.below hB34) (HV22.out.below hB34) (HL.out.below (hW2.trans (hB34.mono hW2.size))) (HP.out.below (hW2.trans (hB34.mono hW2.size))) (by omega) (by omega)).mono ?_
  rintro e w5 ⟨rfl, hB5⟩
  go_wp2_with fail
  go_ret
  exact ⟨rfl, (hW2.trans (hB34.mono hW2.size)).trans (hB5.mono (by have := hW2.size; have := hB34.size; omega))⟩
end Go.Proofs.YtkhhkbigpaoinaaDoor
