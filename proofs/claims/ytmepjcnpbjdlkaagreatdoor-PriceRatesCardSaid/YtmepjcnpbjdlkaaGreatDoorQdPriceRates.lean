/- texts of this claim, laid together: PriceRates. -/
import Derived.Test.YtmepjcnpbjdlkaaGreatDoorQdFlX
import Derived.Test.YtmepjcnpbjdlkaaGreatDoorQdPriceClean
/- the law PriceRates by contract. -/
namespace Go.Proofs.YtmepjcnpbjdlkaaGreatDoor
set_option linter.unusedVariables false
set_option linter.unusedSimpArgs false
open Go.RowKit
attribute [local irreducible] Go.wpStill

set_option maxRecDepth 100000 in
set_option maxHeartbeats 16000000 in
theorem priceRates_any (s : SecV) (rate at_ : Nat) (day scale : Int) (w : World) (hcs : s.cur.size ≤ 140737488351232) (hok : Ok w) (hf : s.face < 9223372036854775808) (hr : rate < 2 ^ 64) (ha : at_ < 2 ^ 64) : Calls Tryz.prog 4 #[.agg (secC s), .int .u64 (rate : Int), .int .i64 day, .int .u64 (at_ : Int), .int .i64 scale] w (FlatP true w) := by
  have hA := fun w => refYield_any s rate day w hcs hf hr
  have hB := fun w => refTick_any at_ scale w ha
  have hC := fun w hok => yield_any s rate day w hcs hok hf hr
  have hD := fun w => tick_any at_ scale w ha
  unfold RefYieldP at hA
  unfold RefTickP at hB
  unfold YieldP at hC
  unfold TickP at hD
  have HA := Lib.hid hA
  have HB := Lib.hid hB
  have HC := Lib.hid hC
  have HD := Lib.hid hD
  have HOK := Lib.hid hok
  have HU1 := Lib.hid (fun z e z' e' h k => YieldIs.unique (s := s) (rate := rate) (day := day) (z := z) (e := e) (z' := z') (e' := e') h k)
  have HU2 := Lib.hid (fun z n z' n' h k => TickIs.unique (p := at_) (scale := scale) (z := z) (n := n) (z' := z') (n' := n') h k)
  have HSZ := Lib.hid (show (Tryz.prog.info? 25).map (·.size) = some (secC s).size by kernel_rfl)
  have HG := Lib.hid (heap_alloc_new w (.cells (secC s) 25))
  have HZ0 := Lib.hid ((Below.refl w.heap.size w).alloc (Nat.le_refl _) (.cells (secC s) 25))
  have hrow : ∀ w1, Below (w.alloc (.cells (secC s) 25)).heap.size (w.alloc (.cells (secC s) 25)) w1 → w1.heap[w.heap.size]? = some (.cells (secC s) 25 (0, 0)) ∧ Ok w1 ∧ Below w.heap.size w w1 := fun w1 h => by
    have hb := HZ0.out.trans (h.mono (by simp))
    exact ⟨rowAt_below (heap_alloc_new w (.cells (secC s) 25)) h, hok.below hb, hb⟩
  have HW := Lib.hid hrow
  have HR0 := Lib.hid (Below.refl (w.alloc (.cells (secC s) 25)).heap.size (w.alloc (.cells (secC s) 25)))
  have x1 := @run_callFunc_extern Tryz.prog 19 _ Extern.MathFloatBits.float64frombits Tryz.func19 (by kernel_rfl) (by kernel_rfl) (by kernel_rfl) (by kernel_rfl)
  have x2 := @run_callFunc_extern Tryz.prog 21 _ Extern.MathFloatBits.float64bits Tryz.func21 (by kernel_rfl) (by kernel_rfl) (by kernel_rfl) (by kernel_rfl)
  have r1 : ∀ (n : Nat) (w : World), (Extern.MathFloatBits.float64frombits #[.int .u64 (n : Int)]).run Tryz.prog w = .ok (.float .f64 n) w := fun n w => run_frombits (n : Int) w
  have r2 := run_bits
  have X1 := Lib.hid (fun (n : Nat) w => show (callFunc 19 #[.int .u64 (n : Int)]).run Tryz.prog w = .ok (.value (.float .f64 n)) w by rw [x1, r1]; rfl)
  clear hA hB hC hD hok hcs hf hr ha hrow
  generalize secC s = SV at *
  generalize YieldIs s rate day = YI at *
  generalize TickIs at_ scale = TI at *
  generalize hW0 : w.alloc (.cells SV 25) = w0 at *
  go_enter Tryz.func4, Tryz.ntmps4
  go_wp2_with (refine wpList_val (.agg SV) (by kernel_rfl) (exec_load_row HG.out rfl rfl Tryz.underlying25 rfl HSZ.out) ?_)
  refine (HA.out _).mono ?_
  rintro e w1 ⟨z, n, rfl, hA, hb1⟩
  have HA1 := Lib.hid hA
  have HB1 := Lib.hid hb1
  clear hb1 hA
  go_wp2_with fail
  refine (HB.out _).mono ?_
  rintro e w2 ⟨y, m, rfl, hT, hb2⟩
  have HT1 := Lib.hid hT
  have HB2 := Lib.hid (HB1.out.trans (hb2.mono HB1.out.size))
  clear hb2 hT HB1
  go_wp2_with fail
  rename_i HK
  refine wp_region_held_drew (S := fun w' => Below w0.heap.size w0 w') (by kernel_rfl) HB2.out.drew (fun hHeld => ?_)
  refine rg_yes 0 _ (by simp only [List.getElem?_toArray, List.getElem?_cons_succ, List.getElem?_cons_zero]; rfl) (by kernel_rfl) (by kernel_rfl) (by kernel_rfl) (by exact fun _ _ _ h => h) (by kernel_rfl) (by assumption) (by exact fun w' hS => (exec_load_row (HW.out _ hS).1 rfl rfl Tryz.underlying25 rfl HSZ.out)) ?_
  (try simp only [Act.put, List.setIfInBounds_toArray, List.set_cons_zero, List.set_cons_succ])
  (refine rg_yes 1 ?v1 (by simp only [List.getElem?_toArray, List.getElem?_cons_succ, List.getElem?_cons_zero]; rfl) (by kernel_rfl) (by kernel_rfl) (by kernel_rfl) (by exact fun _ _ _ h => h) (by kernel_rfl) (by assumption) ?y1 ?z1; case y1 => (intro w hSw; (try dsimp only at hSw); go_simp; (try (rw [if_neg (by omega)])); (try with_reducible rfl)))
  (try simp only [Act.put, List.setIfInBounds_toArray, List.set_cons_zero, List.set_cons_succ])
  refine rg_yes 2 _ (by simp only [List.getElem?_toArray, List.getElem?_cons_succ, List.getElem?_cons_zero]; rfl) (by kernel_rfl) (by kernel_rfl) (by kernel_rfl) (by exact fun _ _ _ h => h) (by kernel_rfl) (by assumption) (by exact fun w' hS => (exec_ext rfl rfl (X1.out rate _))) ?_
  (try simp only [Act.put, List.setIfInBounds_toArray, List.set_cons_zero, List.set_cons_succ])
  (refine rg_yes 3 ?v2 (by simp only [List.getElem?_toArray, List.getElem?_cons_succ, List.getElem?_cons_zero]; rfl) (by kernel_rfl) (by kernel_rfl) (by kernel_rfl) (by exact fun _ _ _ h => h) (by kernel_rfl) (by assumption) ?y2 ?z2; case y2 => (intro w hSw; (try dsimp only at hSw); go_simp; (try (rw [if_neg (by omega)])); (try with_reducible rfl)))
  (try simp only [Act.put, List.setIfInBounds_toArray, List.set_cons_zero, List.set_cons_succ])
  refine rg_call 4 _ _ (by simp only [List.getElem?_toArray, List.getElem?_cons_succ, List.getElem?_cons_zero]; rfl) (by kernel_rfl) (by kernel_rfl) (fun w => by go_simp; exact ⟨rfl, rfl⟩) ?_
  refine (HC.out _ (HW.out _ hHeld).2.1).mono ?_
  rintro e w3 ⟨z', v3, n', rfl, hE, hA', hb3⟩
  obtain ⟨rfl, rfl⟩ := HU1.out _ _ _ _ HA1.out hA'
  have hH2 := hHeld.trans (hb3.mono hHeld.size)
  have HE1 := Lib.hid hE
  refine ⟨_, rfl, hH2, fun hHeld2 => ?_⟩
  clear hb3 hHeld hH2 hE hA'
  (try simp only [Act.put, List.setIfInBounds_toArray, List.set_cons_zero, List.set_cons_succ])
  (refine rg_yes 5 ?v3 (by simp only [List.getElem?_toArray, List.getElem?_cons_succ, List.getElem?_cons_zero]; rfl) (by kernel_rfl) (by kernel_rfl) (by kernel_rfl) (by exact fun _ _ _ h => h) (by kernel_rfl) (by assumption) ?y3 ?z3; case y3 => (intro w hSw; (try dsimp only at hSw); go_simp; (try (rw [if_neg (by omega)])); (try with_reducible rfl)))
  (try simp only [Act.put, List.setIfInBounds_toArray, List.set_cons_zero, List.set_cons_succ])
  (refine rg_yes 6 ?v4 (by simp only [List.getElem?_toArray, List.getElem?_cons_succ, List.getElem?_cons_zero]; rfl) (by kernel_rfl) (by kernel_rfl) (by kernel_rfl) (by exact fun _ _ _ h => h) (by kernel_rfl) (by assumption) ?y4 ?z4; case y4 => (intro w hSw; (try dsimp only at hSw); go_simp; (try (rw [if_neg (by omega)])); (try with_reducible rfl)))
  (try simp only [Act.put, List.setIfInBounds_toArray, List.set_cons_zero, List.set_cons_succ])
  (refine rg_yes 7 ?v5 (by simp only [List.getElem?_toArray, List.getElem?_cons_succ, List.getElem?_cons_zero]; rfl) (by kernel_rfl) (by kernel_rfl) (by kernel_rfl) (by exact fun _ _ _ h => h) (by kernel_rfl) (by assumption) ?y5 ?z5; case y5 => (intro w hSw; (try dsimp only at hSw); go_simp; (try (rw [if_neg (by omega)])); (try with_reducible rfl)))
  (try simp only [Act.put, List.setIfInBounds_toArray, List.set_cons_zero, List.set_cons_succ])
  (refine rg_yes 8 ?v6 (by simp only [List.getElem?_toArray, List.getElem?_cons_succ, List.getElem?_cons_zero]; rfl) (by kernel_rfl) (by kernel_rfl) (by kernel_rfl) (by exact fun _ _ _ h => h) (by kernel_rfl) (by assumption) ?y6 ?z6; case y6 => (intro w hSw; (try dsimp only at hSw); go_simp; (try (rw [if_neg (by omega)])); (try with_reducible rfl)))
  (try simp only [Act.put, List.setIfInBounds_toArray, List.set_cons_zero, List.set_cons_succ])
  (refine rg_yes 9 ?v7 (by simp only [List.getElem?_toArray, List.getElem?_cons_succ, List.getElem?_cons_zero]; rfl) (by kernel_rfl) (by kernel_rfl) (by kernel_rfl) (by exact fun _ _ _ h => h) (by kernel_rfl) (by assumption) ?y7 ?z7; case y7 => (intro w hSw; (try dsimp only at hSw); go_simp; (try (rw [if_neg (by omega)])); (try with_reducible rfl)))
  (try simp only [Act.put, List.setIfInBounds_toArray, List.set_cons_zero, List.set_cons_succ])
  refine wpAnyH_done (by kernel_rfl) ?_ _
  apply HK
  have HB3 := Lib.hid hHeld2
  clear hHeld2 HK HB2
  go_wp2_with fail
  refine (HD.out _).mono ?_
  rintro e w4 ⟨y', v4, m', rfl, hE, hT', hb4⟩
  obtain ⟨rfl, rfl⟩ := HU2.out _ _ _ _ HT1.out hT'
  have HE2 := Lib.hid hE
  have HB4 := Lib.hid (HB3.out.trans (hb4.mono HB3.out.size))
  clear hb4 hE hT' HB3
  go_wp2_with fail
  refine (plain_any v3 n n none true w4 HE1.out (by simp) (HW.out _ HB4.out).2.1.1).mono ?_
  rintro e w5 ⟨rfl, hb5⟩
  have HB5 := Lib.hid (HB4.out.trans (hb5.mono HB4.out.size))
  clear hb5
  go_wp2_with fail
  refine (plain_any v4 m m none true w5 HE2.out (by simp) (HW.out _ HB5.out).2.1.1).mono ?_
  rintro e w6 ⟨rfl, hb6⟩
  have HB6 := Lib.hid (HB5.out.trans (hb6.mono HB5.out.size))
  clear hb6
  go_wp2_with fail
  go_ret
  exact ⟨rfl, (HW.out _ HB6.out).2.2⟩
end Go.Proofs.YtmepjcnpbjdlkaaGreatDoor
