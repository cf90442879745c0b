/- the law CodesForms walked. -/
import Derived.Test.YtenpakddifebbaaGreatDoorBic
import Derived.Test.YtenpakddifebbaaGreatDoorWorks
namespace Go.Proofs.YtenpakddifebbaaGreatDoor
set_option linter.unusedVariables false
set_option linter.unusedSimpArgs false
open Go.RowKit

theorem bicArr_form (s : ByteArray) : ∃ a b c d : ByteArray, bicArr s = #[.string a, .string b, .string c, .string d] := by
  unfold bicArr
  split
  · exact ⟨_, _, _, _, rfl⟩
  · exact ⟨_, _, _, _, rfl⟩
theorem strSelf (a : ByteArray) (w : World) : (Op.equalIn 9999 9 (.string a) (.string a)).run Tryz.prog w = .ok true w := by
  rw [run_equalIn_string w 9998 _ _ _ Tryz.underlying9]
  simp
theorem eqFour (a b c d : ByteArray) (w : World) : (Op.equalIn 10000 41 (.agg #[.string a, .string b, .string c, .string d]) (.agg #[.string a, .string b, .string c, .string d])).run Tryz.prog w = .ok true w := by
  obtain ⟨i, hi⟩ : ∃ i, Tryz.prog.info? 9 = some i := Option.isSome_iff_exists.1 (by kernel_rfl)
  refine eqArr_refl 9999 _ Tryz.underlying41 hi (by kernel_rfl) (by kernel_rfl) (fun i hi => ?_) w
  have h4 : i = 0 ∨ i = 1 ∨ i = 2 ∨ i = 3 := by omega
  rcases h4 with rfl | rfl | rfl | rfl
  · exact ⟨.string a, rfl, fun w => strSelf a w⟩
  · exact ⟨.string b, rfl, fun w => strSelf b w⟩
  · exact ⟨.string c, rfl, fun w => strSelf c w⟩
  · exact ⟨.string d, rfl, fun w => strSelf d w⟩

set_option maxRecDepth 100000 in
set_option maxHeartbeats 1000000 in
theorem codesForms_law (s : ByteArray) (w : World) (hs : s.size ≤ 140737488351232) (hok : Ok w) :
    Calls Tryz.prog 18 #[.string s] w fun e w' => e = .returned (.bool true) ∧ Below w.heap.size w w' := by
  have HOK := Lib.hid hok
  clear hok
  have hA := fun w => bicRef_any s w hs
  have hB := fun w => bic_any s w hs
  have hP : Placed (bicR s) := hasR_placed _ _
  obtain ⟨a, b, c, d, hF⟩ := bicArr_form s
  rw [hF] at hA hB
  clear hF
  generalize bicR s = r at hA hB hP
  have hC := fun w => currencyRef_any s w hs
  have hD := fun w => currency_any s w hs
  have hPC := hasR_placed s.data.toList formCur
  generalize hasR s.data.toList formCur = rc at hC hD hPC
  have hE := fun w => accountRef_any s w hs
  have hG := fun w => account_any s w hs
  have hPA := hasR_placed s.data.toList (formAcc s.size)
  generalize hasR s.data.toList (formAcc s.size) = ra at hE hG hPA
  have HA := Lib.hid hA
  have HB := Lib.hid hB
  have HC := Lib.hid hC
  have HD := Lib.hid hD
  have HE := Lib.hid hE
  have HG := Lib.hid hG
  have HP := Lib.hid hP
  have HPC := Lib.hid hPC
  have HPA := Lib.hid hPA
  have hguard : Tryz.prog.eqGuardType Tryz.prog.depth 41 = false := by kernel_rfl
  have HGD := Lib.hid hguard
  have heq := eqFour a b c d
  have HEQ := Lib.hid heq
  clear hA hB hC hD hE hG hP hPC hPA hguard heq
  go_enter Tryz.func18, Tryz.ntmps18
  go_wp2_with fail
  refine (HA.out _).mono ?_
  rintro e w1 ⟨rfl, hb1⟩
  go_wp2_with (refine wpList_store_any rfl 41 _ _ rfl w1.heap.size _ rfl rfl 41 _ (heap_alloc_new w1 _) (by kernel_rfl) (by rfl) (by simp [Value.oneCell']) ?_; intro w2 hr2 hs2 hbl2 _)
  have hb2 := hbl2 _ _ (hb1.alloc hb1.size _) hb1.size
  have hlt2 := lt_of_block hr2
  generalize w1.heap.size = g at hr2 hlt2 ⊢
  clear hb1 hbl2 hs2
  refine (HB.out _ (Ok.below HOK.out hb2)).mono ?_
  rintro e w3 ⟨v, rfl, hE3, hb3⟩
  have hr3 := rowAt_below hr2 hb3
  have hlt3 := Nat.lt_of_lt_of_le hlt2 hb3.size
  have hbw3 := hb2.trans (hb3.mono hb2.size)
  clear hr2 hb3
  have hr4' : ∀ w4 : World, (∀ k, k ≠ w3.heap.size → w4.heap[k]? = (w3.alloc (.cells #[.string ⟨#[]⟩, .string ⟨#[]⟩, .string ⟨#[]⟩, .string ⟨#[]⟩] 41)).heap[k]?) → w4.heap[g]? = some (.cells #[.string a, .string b, .string c, .string d] 41 (0, 0)) := fun w4 h => by
    rw [h g (Nat.ne_of_lt hlt3)]
    exact (heap_alloc_old w3 _ hlt3).trans hr3
  have HR4 := Lib.hid hr4'
  clear hr4'
  go_wp2_with (first
    | (refine wpList_store_any rfl 41 _ _ rfl w3.heap.size _ rfl rfl 41 _ (heap_alloc_new w3 _) (by kernel_rfl) (by rfl) (by simp [Value.oneCell']) ?_; intro w4 hr4 hs4 hbl4 hot4; have hr5 := HR4.out w4 hot4; have hbw4 := hbl4 _ _ (hbw3.alloc hbw3.size _) hbw3.size)
    | (refine wpList_val _ (by kernel_rfl) (exec_load_row hr4 rfl rfl Tryz.underlying41 rfl (by kernel_rfl)) ?_)
    | (refine wpList_val _ (by kernel_rfl) (exec_load_row hr5 rfl rfl Tryz.underlying41 rfl (by kernel_rfl)) ?_)
    | (refine wpList_val _ (by kernel_rfl) (exec_neq_same rfl rfl rfl HGD.out HEQ.out) ?_))
  refine (told_any v r _ hE3 HP.out (Ok.below HOK.out hbw4).1).mono ?_
  rintro e w5 ⟨rfl, hb5⟩
  have hbw5 := hbw4.trans (hb5.mono hbw4.size)
  go_wp2_with fail
  refine (HC.out _).mono ?_
  rintro e w6 ⟨rfl, hb6⟩
  have hbw6 := hbw5.trans (hb6.mono hbw5.size)
  go_wp2_with fail
  refine (HD.out _ (Ok.below HOK.out hbw6)).mono ?_
  rintro e w7 ⟨v7, rfl, hE7, hb7⟩
  have hbw7 := hbw6.trans (hb7.mono hbw6.size)
  go_wp2_with fail
  refine (told_any v7 rc _ hE7 HPC.out (Ok.below HOK.out hbw7).1).mono ?_
  rintro e w8 ⟨rfl, hb8⟩
  have hbw8 := hbw7.trans (hb8.mono hbw7.size)
  go_wp2_with fail
  refine (HE.out _).mono ?_
  rintro e w9 ⟨rfl, hb9⟩
  have hbw9 := hbw8.trans (hb9.mono hbw8.size)
  go_wp2_with fail
  refine (HG.out _ (Ok.below HOK.out hbw9)).mono ?_
  rintro e w10 ⟨v10, rfl, hE10, hb10⟩
  have hbw10 := hbw9.trans (hb10.mono hbw9.size)
  go_wp2_with fail
  refine (told_any v10 ra _ hE10 HPA.out (Ok.below HOK.out hbw10).1).mono ?_
  rintro e w11 ⟨rfl, hb11⟩
  have hbw11 := hbw10.trans (hb11.mono hbw10.size)
  go_wp2_with fail
  refine (works_any _ (Ok.below HOK.out hbw11)).mono ?_
  rintro e w12 ⟨rfl, hb12⟩
  go_wp2_with fail
  go_ret
  exact ⟨rfl, hbw11.trans (hb12.mono hbw11.size)⟩
end Go.Proofs.YtenpakddifebbaaGreatDoor
