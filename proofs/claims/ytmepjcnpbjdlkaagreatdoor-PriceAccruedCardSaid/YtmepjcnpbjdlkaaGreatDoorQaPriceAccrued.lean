/- texts of this claim, laid together: PriceAccrued. -/
import Derived.Test.YtmepjcnpbjdlkaaGreatDoorQaRefAcc
/- the law PriceAccrued by contract. -/
namespace Go.Proofs.YtmepjcnpbjdlkaaGreatDoor
set_option linter.unusedVariables false
set_option linter.unusedSimpArgs false
open Go.RowKit
attribute [local irreducible] Go.wpStill

set_option maxRecDepth 100000 in
set_option maxHeartbeats 4000000 in
theorem priceAccrued_any (s : SecV) (qty day mode : Int) (w : World) (hcs : s.cur.size ≤ 140737488351232) (hok : Ok w) (hq : qty < 9223372036854775808) (hf : s.face < 9223372036854775808) : Calls Tryz.prog 6 #[.agg (secC s), .int .i64 qty, .int .i64 day, .int .i64 mode] w (FlatP true w) := by
  have HR := Lib.hid (fun w => refAccrued_any s qty day mode w hcs hq hf)
  have HP := Lib.hid (fun w hok => accrued_any s qty day mode w hcs hok hq hf)
  have HUN := Lib.hid (fun z e z' e' (h : AccIs s qty day mode z e) (k : AccIs s qty day mode z' e') => h.unique k)
  have HOK := Lib.hid hok
  have HG := Lib.hid (heap_alloc_new w (.cells (secC s) 25))
  have HZ0 := Lib.hid ((Below.refl w.heap.size w).alloc (Nat.le_refl _) (.cells (secC s) 25))
  clear hok hcs hq hf
  go_enter Tryz.func6, Tryz.ntmps6
  go_wp2_with (refine wpList_val (.agg (secC s)) (by kernel_rfl) (exec_load_row HG.out rfl rfl Tryz.underlying25 rfl (by kernel_rfl)) ?_)
  refine (HR.out _).mono ?_
  rintro e w1 ⟨z, n, rfl, hA, hb1⟩
  have HA := Lib.hid hA
  have HG1 := Lib.hid (rowAt_below HG.out hb1)
  have HB1 := Lib.hid (HZ0.out.trans (hb1.mono (by simp)))
  clear hA hb1 HG
  go_wp2_with (refine wpList_val (.agg (secC s)) (by kernel_rfl) (exec_load_row HG1.out rfl rfl Tryz.underlying25 rfl (by kernel_rfl)) ?_)
  refine (HP.out _ (HOK.out.below HB1.out)).mono ?_
  rintro e w2 ⟨z', v2, n', rfl, hE, hA', hb2⟩
  obtain ⟨rfl, rfl⟩ := HUN.out _ _ _ _ HA.out hA'
  have HE := Lib.hid hE
  have HB2 := Lib.hid (HB1.out.trans (hb2.mono HB1.out.size))
  clear hE hA' hb2
  go_wp2_with fail
  refine (plain_any v2 n n none true w2 HE.out (by simp) (HOK.out.below HB2.out).1).mono ?_
  rintro e w3 ⟨rfl, hb3⟩
  have HB3 := Lib.hid (HB2.out.trans (hb3.mono HB2.out.size))
  clear hb3
  go_wp2_with fail
  go_ret
  exact ⟨rfl, HB3.out⟩
end Go.Proofs.YtmepjcnpbjdlkaaGreatDoor
