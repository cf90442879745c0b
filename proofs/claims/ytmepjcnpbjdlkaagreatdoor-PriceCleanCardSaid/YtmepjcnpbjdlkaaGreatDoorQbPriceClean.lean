/- texts of this claim, laid together: PriceClean. -/
import Derived.Test.YtmepjcnpbjdlkaaGreatDoorQbClA
/- the law PriceClean by contract. -/
namespace Go.Proofs.YtmepjcnpbjdlkaaGreatDoor
set_option linter.unusedVariables false
set_option linter.unusedSimpArgs false
open Go.RowKit
attribute [local irreducible] Go.wpStill

set_option maxRecDepth 100000 in
set_option maxHeartbeats 8000000 in
theorem priceClean_any (s : SecV) (qty at_ scale day mode : Int) (w : World) (hcs : s.cur.size ≤ 140737488351232) (hok : Ok w) (hq : qty < 9223372036854775808) (hp : at_ < 9223372036854775808) (hf : s.face < 9223372036854775808) : Calls Tryz.prog 8 #[.agg (secC s), .int .i64 qty, .int .i64 at_, .int .i64 scale, .int .i64 day, .int .i64 mode] w (FlatP true w) := by
  have HR := Lib.hid (fun w => refClean_any s qty at_ scale mode w hcs hq hp hf)
  have HS := Lib.hid (fun w => refConsideration_any s qty at_ scale day mode w hcs hq hp hf)
  have HP := Lib.hid (fun w hok => clean_any s qty at_ scale mode w hcs hok hq hp hf)
  have HQ := Lib.hid (fun w hok => consideration_any s qty at_ scale day mode w hcs hok hq hp hf)
  have HUN := Lib.hid (fun z e z' e' (h : ConsIs s qty at_ scale day mode z e) (k : ConsIs s qty at_ scale day mode z' e') => h.unique k)
  unfold RefCleanP at HR
  unfold CleanP at HP
  unfold RefConsP at HS
  unfold ConsP at HQ
  have HOK := Lib.hid hok
  have HG := Lib.hid (heap_alloc_new w (.cells (secC s) 25))
  have HZ0 := Lib.hid ((Below.refl w.heap.size w).alloc (Nat.le_refl _) (.cells (secC s) 25))
  clear hok hcs hq hp hf
  generalize cleanR s qty at_ scale mode = R at *
  generalize ConsIs s qty at_ scale day mode = CI at *
  go_enter Tryz.func8, Tryz.ntmps8
  go_wp2_with (refine wpList_val (.agg (secC s)) (by kernel_rfl) (exec_load_row HG.out rfl rfl Tryz.underlying25 rfl (by kernel_rfl)) ?_)
  refine (HR.out _).mono ?_
  rintro e w1 ⟨rfl, hb1⟩
  have HG1 := Lib.hid (rowAt_below HG.out hb1)
  have HB1 := Lib.hid (HZ0.out.trans (hb1.mono (by simp)))
  have HN1 := Lib.hid (Nat.le_trans HZ0.out.size hb1.size)
  have HY1 := Lib.hid hb1
  clear hb1
  go_wp2_with (refine wpList_val (.agg (secC s)) (by kernel_rfl) (exec_load_row HG1.out rfl rfl Tryz.underlying25 rfl (by kernel_rfl)) ?_)
  refine (HS.out _).mono ?_
  rintro e w2 ⟨z, n, rfl, hA, hb2⟩
  have HA := Lib.hid hA
  have HY2 := Lib.hid (HY1.out.trans (hb2.mono HY1.out.size))
  have HG2 := Lib.hid (rowAt_below HG.out HY2.out)
  have HB2 := Lib.hid (HB1.out.trans (hb2.mono HB1.out.size))
  clear hA hb2
  go_wp2_with (refine wpList_val (.agg (secC s)) (by kernel_rfl) (exec_load_row HG2.out rfl rfl Tryz.underlying25 rfl (by kernel_rfl)) ?_)
  refine (HP.out _ (HOK.out.below HB2.out)).mono ?_
  rintro e w3 ⟨v3, rfl, hE, hb3⟩
  have HE := Lib.hid hE
  have HY3 := Lib.hid (HY2.out.trans (hb3.mono HY2.out.size))
  have HG3 := Lib.hid (rowAt_below HG.out HY3.out)
  have HB3 := Lib.hid (HB2.out.trans (hb3.mono HB2.out.size))
  clear hE hb3
  go_wp2_with (refine wpList_val (.agg (secC s)) (by kernel_rfl) (exec_load_row HG3.out rfl rfl Tryz.underlying25 rfl (by kernel_rfl)) ?_)
  refine (HQ.out _ (HOK.out.below HB3.out)).mono ?_
  rintro e w4 ⟨z', v4, n', rfl, hE, hA', hb4⟩
  obtain ⟨rfl, rfl⟩ := HUN.out _ _ _ _ HA.out hA'
  have HE2 := Lib.hid hE
  have HB4 := Lib.hid (HB3.out.trans (hb4.mono HB3.out.size))
  clear hE hA' hb4
  go_wp2_with fail
  refine (plain_any v3 R.2 R.2 none true w4 HE.out (by simp) (HOK.out.below HB4.out).1).mono ?_
  rintro e w5 ⟨rfl, hb5⟩
  have HB5 := Lib.hid (HB4.out.trans (hb5.mono HB4.out.size))
  clear hb5
  go_wp2_with fail
  refine (plain_any v4 n n none true w5 HE2.out (by simp) (HOK.out.below HB5.out).1).mono ?_
  rintro e w6 ⟨rfl, hb6⟩
  have HB6 := Lib.hid (HB5.out.trans (hb6.mono HB5.out.size))
  clear hb6
  go_wp2_with fail
  go_ret
  exact ⟨rfl, HB6.out⟩
end Go.Proofs.YtmepjcnpbjdlkaaGreatDoor
