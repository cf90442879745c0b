/- custodylaw02.shown, the examples: by contract. -/
import Derived.Test.YtenpakddifebbaaGreatDoorEvery
namespace Go.Proofs.YtenpakddifebbaaGreatDoor
set_option linter.unusedVariables false
set_option linter.unusedSimpArgs false
open Go.RowKit

theorem at6_any (v : Value) (a : Int) (w : World) (hE : ErrP v 6 (some (0, a))) (hT : EType w) :
    Calls Tryz.prog 9 #[v, .int .i64 6, .int .i64 0, .int .i64 a] w fun e w' => e = .returned (.bool true) ∧ Below w.heap.size w w' := by
  cases hE with
  | fault lo hi => exact at_yes 6 6 0 a 0 a true w lo hi (by decide) hT (by simp)
theorem row_over {w1 w2 : World} {o : Obj} {g : Nat} {cs : Array Value} {t : TypeId} {fr : Nat × Nat} (h : w1.heap[g]? = some (.cells cs t fr)) (hot : ∀ k, k ≠ w1.heap.size → w2.heap[k]? = (w1.alloc o).heap[k]?) : w2.heap[g]? = some (.cells cs t fr) := by
  have hl := lt_of_block h
  rw [hot g (Nat.ne_of_lt hl)]
  exact (heap_alloc_old w1 _ hl).trans h
theorem sh_a (w : World) (hok : Ok w) : Calls Tryz.prog 6 #[.string ⟨#[71, 66, 48, 48, 48, 50, 54, 51, 52, 57, 52, 54]⟩] w (RetArr [71, 66, 48, 48, 48, 50, 54, 51, 52, 57, 52, 54] (0, none) w) := by
  have := isinf_any ⟨#[71, 66, 48, 48, 48, 50, 54, 51, 52, 57, 52, 54]⟩ w (by decide) hok
  rw [show isinR (⟨#[71, 66, 48, 48, 48, 50, 54, 51, 52, 57, 52, 54]⟩ : ByteArray).data.toList = (0, none) from by decide +kernel, if_pos rfl] at this
  exact this
theorem sh_1 (w : World) (hok : Ok w) : Calls Tryz.prog 6 #[.string ⟨#[117, 115, 48, 51, 55, 56, 51, 51, 49, 48, 48, 53]⟩] w (RetArr (zeros 12) (6, some (0, 0)) w) := by
  have := isinf_any ⟨#[117, 115, 48, 51, 55, 56, 51, 51, 49, 48, 48, 53]⟩ w (by decide) hok
  rw [show isinR (⟨#[117, 115, 48, 51, 55, 56, 51, 51, 49, 48, 48, 53]⟩ : ByteArray).data.toList = (6, some (0, 0)) from by decide +kernel, if_neg (by decide)] at this
  exact this
theorem sh_2 (w : World) (hok : Ok w) : Calls Tryz.prog 6 #[.string ⟨#[85, 83, 48, 51, 55, 56, 51, 51, 49, 48, 48, 88]⟩] w (RetArr (zeros 12) (6, some (0, 11)) w) := by
  have := isinf_any ⟨#[85, 83, 48, 51, 55, 56, 51, 51, 49, 48, 48, 88]⟩ w (by decide) hok
  rw [show isinR (⟨#[85, 83, 48, 51, 55, 56, 51, 51, 49, 48, 48, 88]⟩ : ByteArray).data.toList = (6, some (0, 11)) from by decide +kernel, if_neg (by decide)] at this
  exact this
theorem sh_3 (w : World) (hok : Ok w) : Calls Tryz.prog 6 #[.string ⟨#[85, 83, 48, 51, 55, 56, 51, 51, 49, 48, 48]⟩] w (RetArr (zeros 12) (2, none) w) := by
  have := isinf_any ⟨#[85, 83, 48, 51, 55, 56, 51, 51, 49, 48, 48]⟩ w (by decide) hok
  rw [show isinR (⟨#[85, 83, 48, 51, 55, 56, 51, 51, 49, 48, 48]⟩ : ByteArray).data.toList = (2, none) from by decide +kernel, if_neg (by decide)] at this
  exact this
theorem sh_4 (w : World) (hok : Ok w) : Calls Tryz.prog 6 #[.string ⟨#[85, 83, 48, 51, 55, 56, 51, 51, 49, 48, 48, 53, 53]⟩] w (RetArr (zeros 12) (3, none) w) := by
  have := isinf_any ⟨#[85, 83, 48, 51, 55, 56, 51, 51, 49, 48, 48, 53, 53]⟩ w (by decide) hok
  rw [show isinR (⟨#[85, 83, 48, 51, 55, 56, 51, 51, 49, 48, 48, 53, 53]⟩ : ByteArray).data.toList = (3, none) from by decide +kernel, if_neg (by decide)] at this
  exact this
theorem sh_c (w : World) (hok : Ok w) : Calls Tryz.prog 11 #[.string ⟨#[65, 65, 48, 48, 48, 48, 48, 67, 48, 48, 48]⟩] w (RetByte 52 (0, none) w) := by
  have := isinDigit_any ⟨#[65, 65, 48, 48, 48, 48, 48, 67, 48, 48, 48]⟩ w (by decide) hok
  rw [show isinDigitR (⟨#[65, 65, 48, 48, 48, 48, 48, 67, 48, 48, 48]⟩ : ByteArray).data.toList = 52 from by decide +kernel, show hasR (⟨#[65, 65, 48, 48, 48, 48, 48, 67, 48, 48, 48]⟩ : ByteArray).data.toList formHead = (0, none) from by decide +kernel] at this
  exact this
theorem sh_k (w : World) (hok : Ok w) : Calls Tryz.prog 11 #[.string ⟨#[65, 65, 48, 48, 48, 48, 48, 75, 48, 48, 48]⟩] w (RetByte 52 (0, none) w) := by
  have := isinDigit_any ⟨#[65, 65, 48, 48, 48, 48, 48, 75, 48, 48, 48]⟩ w (by decide) hok
  rw [show isinDigitR (⟨#[65, 65, 48, 48, 48, 48, 48, 75, 48, 48, 48]⟩ : ByteArray).data.toList = 52 from by decide +kernel, show hasR (⟨#[65, 65, 48, 48, 48, 48, 48, 75, 48, 48, 48]⟩ : ByteArray).data.toList formHead = (0, none) from by decide +kernel] at this
  exact this
theorem sh_l (w : World) (hok : Ok w) : Calls Tryz.prog 12 #[.string ⟨#[55, 76, 84, 87, 70, 90, 89, 73, 67, 78, 83, 88, 56, 68, 54, 50, 49, 75, 56, 54]⟩] w (RetArr [55, 76, 84, 87, 70, 90, 89, 73, 67, 78, 83, 88, 56, 68, 54, 50, 49, 75, 56, 54] (0, none) w) := by
  have := leif_any ⟨#[55, 76, 84, 87, 70, 90, 89, 73, 67, 78, 83, 88, 56, 68, 54, 50, 49, 75, 56, 54]⟩ w (by decide) hok
  rw [show leiR (⟨#[55, 76, 84, 87, 70, 90, 89, 73, 67, 78, 83, 88, 56, 68, 54, 50, 49, 75, 56, 54]⟩ : ByteArray).data.toList = (0, none) from by decide +kernel, if_pos rfl] at this
  exact this
theorem sh_8 (w : World) (hok : Ok w) : Calls Tryz.prog 12 #[.string ⟨#[48, 48, 48, 48, 48, 48, 48, 48, 48, 48, 48, 48, 48, 48, 48, 48, 48, 48, 48, 49]⟩] w (RetArr (zeros 20) (7, none) w) := by
  have := leif_any ⟨#[48, 48, 48, 48, 48, 48, 48, 48, 48, 48, 48, 48, 48, 48, 48, 48, 48, 48, 48, 49]⟩ w (by decide) hok
  rw [show leiR (⟨#[48, 48, 48, 48, 48, 48, 48, 48, 48, 48, 48, 48, 48, 48, 48, 48, 48, 48, 48, 49]⟩ : ByteArray).data.toList = (7, none) from by decide +kernel, if_neg (by decide)] at this
  exact this
theorem sh_d (w : World) (hok : Ok w) : Calls Tryz.prog 14 #[.string ⟨#[48, 48, 48, 48, 48, 48, 48, 48, 48, 48, 48, 48, 48, 48, 48, 48, 51, 50]⟩] w (RetStr [48, 50] (0, none) w) := by
  have := leiDigits_any ⟨#[48, 48, 48, 48, 48, 48, 48, 48, 48, 48, 48, 48, 48, 48, 48, 48, 51, 50]⟩ w (by decide) hok
  rw [show leiDigitsR (⟨#[48, 48, 48, 48, 48, 48, 48, 48, 48, 48, 48, 48, 48, 48, 48, 48, 51, 50]⟩ : ByteArray).data.toList = [48, 50] from by decide +kernel, show hasR (⟨#[48, 48, 48, 48, 48, 48, 48, 48, 48, 48, 48, 48, 48, 48, 48, 48, 51, 50]⟩ : ByteArray).data.toList formLeiHead = (0, none) from by decide +kernel] at this
  exact this
theorem sh_b (w : World) (hok : Ok w) : Calls Tryz.prog 15 #[.string ⟨#[68, 69, 85, 84, 68, 69, 70, 70, 88, 88, 88]⟩] w fun e w' => ∃ v, e = .returned (.tuple #[.agg #[.string ⟨#[68, 69, 85, 84]⟩, .string ⟨#[68, 69]⟩, .string ⟨#[70, 70]⟩, .string ⟨#[]⟩], v]) ∧ ErrP v 0 none ∧ Below w.heap.size w w' := by
  have := bic_any ⟨#[68, 69, 85, 84, 68, 69, 70, 70, 88, 88, 88]⟩ w (by decide) hok
  rw [show bicArr (⟨#[68, 69, 85, 84, 68, 69, 70, 70, 88, 88, 88]⟩ : ByteArray) = #[.string ⟨#[68, 69, 85, 84]⟩, .string ⟨#[68, 69]⟩, .string ⟨#[70, 70]⟩, .string ⟨#[]⟩] from by kernel_rfl, show bicR (⟨#[68, 69, 85, 84, 68, 69, 70, 70, 88, 88, 88]⟩ : ByteArray) = (0, none) from by decide +kernel] at this
  exact this
theorem sh_11 (w : World) (hok : Ok w) : Calls Tryz.prog 15 #[.string ⟨#[68, 69, 85, 84, 68, 69, 70, 70, 53, 48]⟩] w fun e w' => ∃ v, e = .returned (.tuple #[.agg #[.string ⟨#[]⟩, .string ⟨#[]⟩, .string ⟨#[]⟩, .string ⟨#[]⟩], v]) ∧ ErrP v 2 none ∧ Below w.heap.size w w' := by
  have := bic_any ⟨#[68, 69, 85, 84, 68, 69, 70, 70, 53, 48]⟩ w (by decide) hok
  rw [show bicArr (⟨#[68, 69, 85, 84, 68, 69, 70, 70, 53, 48]⟩ : ByteArray) = #[.string ⟨#[]⟩, .string ⟨#[]⟩, .string ⟨#[]⟩, .string ⟨#[]⟩] from by kernel_rfl, show bicR (⟨#[68, 69, 85, 84, 68, 69, 70, 70, 53, 48]⟩ : ByteArray) = (2, none) from by decide +kernel] at this
  exact this
theorem sh_cur (w : World) (hok : Ok w) : Calls Tryz.prog 16 #[.string ⟨#[69, 85, 82]⟩] w (RetErr (0, none) w) := by
  have := currency_any ⟨#[69, 85, 82]⟩ w (by decide) hok
  rw [show hasR (⟨#[69, 85, 82]⟩ : ByteArray).data.toList formCur = (0, none) from by decide +kernel] at this
  exact this
theorem sh_acc (w : World) (hok : Ok w) : Calls Tryz.prog 17 #[.string ⟨#[65, 45, 49]⟩] w (RetErr (6, some (0, 1)) w) := by
  have := account_any ⟨#[65, 45, 49]⟩ w (by decide) hok
  rw [show hasR (⟨#[65, 45, 49]⟩ : ByteArray).data.toList (formAcc (⟨#[65, 45, 49]⟩ : ByteArray).size) = (6, some (0, 1)) from by decide +kernel] at this
  exact this
set_option maxRecDepth 100000 in
set_option maxHeartbeats 4000000 in
theorem shown_any (w : World) (hok : Ok w) :
    Calls Tryz.prog 4 #[] w fun e w' => e = .returned (.bool true) ∧ Below w.heap.size w w' := by
  have HOK := Lib.hid hok
  clear hok
  have hTa : ∀ w, Calls Tryz.prog 7 #[.agg (bytesV [71, 66, 48, 48, 48, 50, 54, 51, 52, 57, 52, 54])] w fun e w' => e = .returned (.string ⟨#[71, 66, 48, 48, 48, 50, 54, 51, 52, 57, 52, 54]⟩) ∧ Below w.heap.size w w' := fun w => textIsin_any [71, 66, 48, 48, 48, 50, 54, 51, 52, 57, 52, 54] w rfl
  have hTl : ∀ w, Calls Tryz.prog 13 #[.agg (bytesV [55, 76, 84, 87, 70, 90, 89, 73, 67, 78, 83, 88, 56, 68, 54, 50, 49, 75, 56, 54])] w fun e w' => e = .returned (.string ⟨#[55, 76, 84, 87, 70, 90, 89, 73, 67, 78, 83, 88, 56, 68, 54, 50, 49, 75, 56, 54]⟩) ∧ Below w.heap.size w w' := fun w => textLei_any [55, 76, 84, 87, 70, 90, 89, 73, 67, 78, 83, 88, 56, 68, 54, 50, 49, 75, 56, 54] w rfl
  have hoa := bytesV_one [71, 66, 48, 48, 48, 50, 54, 51, 52, 57, 52, 54]
  have hol := bytesV_one [55, 76, 84, 87, 70, 90, 89, 73, 67, 78, 83, 88, 56, 68, 54, 50, 49, 75, 56, 54]
  have hsa : (bytesV [71, 66, 48, 48, 48, 50, 54, 51, 52, 57, 52, 54]).size = 12 := by kernel_rfl
  have hsl : (bytesV [55, 76, 84, 87, 70, 90, 89, 73, 67, 78, 83, 88, 56, 68, 54, 50, 49, 75, 56, 54]).size = 20 := by kernel_rfl
  have hSA := sh_a
  have hSL := sh_l
  unfold RetArr at hSA hSL
  generalize bytesV [71, 66, 48, 48, 48, 50, 54, 51, 52, 57, 52, 54] = CA at hTa hoa hsa hSA
  generalize bytesV [55, 76, 84, 87, 70, 90, 89, 73, 67, 78, 83, 88, 56, 68, 54, 50, 49, 75, 56, 54] = CL at hTl hol hsl hSL
  have HTA := Lib.hid hTa
  have HTL := Lib.hid hTl
  have HOA := Lib.hid hoa
  have HOL := Lib.hid hol
  have HSA := Lib.hid hsa
  have HSL := Lib.hid hsl
  have KA := Lib.hid hSA
  have KL := Lib.hid hSL
  clear hTa hTl hoa hol hsa hsl hSA hSL
  have hz12 := bytesV_one (zeros 12)
  have hz20 := bytesV_one (zeros 20)
  have hy12 : (bytesV (zeros 12)).size = 12 := by kernel_rfl
  have hy20 : (bytesV (zeros 20)).size = 20 := by kernel_rfl
  have h1 := sh_1
  have h2 := sh_2
  have h3 := sh_3
  have h4 := sh_4
  have h8 := sh_8
  unfold RetArr at h1 h2 h3 h4 h8
  generalize bytesV (zeros 12) = C12 at hz12 hy12 h1 h2 h3 h4
  generalize bytesV (zeros 20) = C20 at hz20 hy20 h8
  have HZ12 := Lib.hid hz12
  have HZ20 := Lib.hid hz20
  have HY12 := Lib.hid hy12
  have HY20 := Lib.hid hy20
  have K1 := Lib.hid h1
  have K2 := Lib.hid h2
  have K3 := Lib.hid h3
  have K4 := Lib.hid h4
  have K8 := Lib.hid h8
  clear hz12 hz20 hy12 hy20 h1 h2 h3 h4 h8
  have hguard : Tryz.prog.eqGuardType Tryz.prog.depth 41 = false := by kernel_rfl
  have HG := Lib.hid hguard
  clear hguard
  have hbw0 := Below.refl w.heap.size w
  go_enter Tryz.func4, Tryz.ntmps4
  have HK0 := True.intro
  go_wp2_with fail
  refine (KA.out _ (Ok.below HOK.out hbw0)).mono ?_
  rintro e w1 ⟨v1, rfl, hE1, hb1⟩
  have hbw1 := hbw0.trans (hb1.mono hbw0.size)
  clear hb1
  obtain ⟨rfl, _⟩ := hE1.zero rfl
  go_wp2_with (first | (refine wpList_store_any rfl 24 _ _ rfl w1.heap.size CA rfl rfl 24 _ (heap_alloc_new w1 _) (by rw [HSA.out]; kernel_rfl) (by rw [HSA.out]; rfl) HOA.out ?_; intro w2 hr2 hs2 hbl2 hot2; have hbw2 := hbl2 _ _ (hbw1.alloc hbw1.size _) hbw1.size; clear hs2 hbl2 hot2) | (refine wpList_val _ (by kernel_rfl) (exec_load_row hr2 rfl rfl Tryz.underlying24 rfl (by rw [HSA.out]; kernel_rfl)) ?_))
  go_wp2_with fail
  refine (HTA.out _).mono ?_
  rintro e w3 ⟨rfl, hb3⟩
  have hbw3 := hbw2.trans (hb3.mono hbw2.size)
  replace hr2 := rowAt_below hr2 hb3
  clear hb3
  go_wp2_with fail
  refine (works_any _ (Ok.below HOK.out hbw3)).mono ?_
  rintro e w4 ⟨rfl, hb4⟩
  have hbw4 := hbw3.trans (hb4.mono hbw3.size)
  replace hr2 := rowAt_below hr2 hb4
  clear hb4
  go_wp2_with fail
  refine (K1.out _ (Ok.below HOK.out hbw4)).mono ?_
  rintro e w5 ⟨v5, rfl, hE5, hb5⟩
  have hbw5 := hbw4.trans (hb5.mono hbw4.size)
  replace hr2 := rowAt_below hr2 hb5
  clear hb5
  go_wp2_with (first | (refine wpList_store_any rfl 24 _ _ rfl w5.heap.size C12 rfl rfl 24 _ (heap_alloc_new w5 _) (by rw [HY12.out]; kernel_rfl) (by rw [HY12.out]; rfl) HZ12.out ?_; intro w6 hr6 hs6 hbl6 hot6; have hr2x := row_over hr2 hot6; clear hr2; have hr2 := hr2x; clear hr2x; have hbw6 := hbl6 _ _ (hbw5.alloc hbw5.size _) hbw5.size; clear hs6 hbl6 hot6))
  clear hr6
  go_wp2_with fail
  refine (K2.out _ (Ok.below HOK.out hbw6)).mono ?_
  rintro e w7 ⟨v7, rfl, hE7, hb7⟩
  have hbw7 := hbw6.trans (hb7.mono hbw6.size)
  replace hr2 := rowAt_below hr2 hb7
  clear hb7
  go_wp2_with (first | (refine wpList_store_any rfl 24 _ _ rfl w7.heap.size C12 rfl rfl 24 _ (heap_alloc_new w7 _) (by rw [HY12.out]; kernel_rfl) (by rw [HY12.out]; rfl) HZ12.out ?_; intro w8 hr8 hs8 hbl8 hot8; have hr2x := row_over hr2 hot8; clear hr2; have hr2 := hr2x; clear hr2x; have hbw8 := hbl8 _ _ (hbw7.alloc hbw7.size _) hbw7.size; clear hs8 hbl8 hot8))
  clear hr8
  go_wp2_with fail
  refine (K3.out _ (Ok.below HOK.out hbw8)).mono ?_
  rintro e w9 ⟨v9, rfl, hE9, hb9⟩
  have hbw9 := hbw8.trans (hb9.mono hbw8.size)
  replace hr2 := rowAt_below hr2 hb9
  clear hb9
  go_wp2_with (first | (refine wpList_store_any rfl 24 _ _ rfl w9.heap.size C12 rfl rfl 24 _ (heap_alloc_new w9 _) (by rw [HY12.out]; kernel_rfl) (by rw [HY12.out]; rfl) HZ12.out ?_; intro w10 hr10 hs10 hbl10 hot10; have hr2x := row_over hr2 hot10; clear hr2; have hr2 := hr2x; clear hr2x; have hbw10 := hbl10 _ _ (hbw9.alloc hbw9.size _) hbw9.size; clear hs10 hbl10 hot10))
  clear hr10
  go_wp2_with fail
  refine (K4.out _ (Ok.below HOK.out hbw10)).mono ?_
  rintro e w11 ⟨v11, rfl, hE11, hb11⟩
  have hbw11 := hbw10.trans (hb11.mono hbw10.size)
  replace hr2 := rowAt_below hr2 hb11
  clear hb11
  go_wp2_with (first | (refine wpList_store_any rfl 24 _ _ rfl w11.heap.size C12 rfl rfl 24 _ (heap_alloc_new w11 _) (by rw [HY12.out]; kernel_rfl) (by rw [HY12.out]; rfl) HZ12.out ?_; intro w12 hr12 hs12 hbl12 hot12; have hr2x := row_over hr2 hot12; clear hr2; have hr2 := hr2x; clear hr2x; have hbw12 := hbl12 _ _ (hbw11.alloc hbw11.size _) hbw11.size; clear hs12 hbl12 hot12))
  clear hr12
  go_wp2_with fail
  refine (at6_any v5 0 _ hE5 (Ok.below HOK.out hbw12).1).mono ?_
  rintro e w13 ⟨rfl, hb13⟩
  have hbw13 := hbw12.trans (hb13.mono hbw12.size)
  replace hr2 := rowAt_below hr2 hb13
  clear hb13
  go_wp2_with fail
  refine (at6_any v7 11 _ hE7 (Ok.below HOK.out hbw13).1).mono ?_
  rintro e w14 ⟨rfl, hb14⟩
  have hbw14 := hbw13.trans (hb14.mono hbw13.size)
  replace hr2 := rowAt_below hr2 hb14
  clear hb14
  go_wp2_with fail
  refine (plain_any v9 2 2 none true _ hE9 (by simp) (Ok.below HOK.out hbw14).1).mono ?_
  rintro e w15 ⟨rfl, hb15⟩
  have hbw15 := hbw14.trans (hb15.mono hbw14.size)
  replace hr2 := rowAt_below hr2 hb15
  clear hb15
  go_wp2_with fail
  refine (plain_any v11 3 3 none true _ hE11 (by simp) (Ok.below HOK.out hbw15).1).mono ?_
  rintro e w16 ⟨rfl, hb16⟩
  have hbw16 := hbw15.trans (hb16.mono hbw15.size)
  replace hr2 := rowAt_below hr2 hb16
  clear hb16
  go_wp2_with fail
  refine (sh_c _ (Ok.below HOK.out hbw16)).mono ?_
  rintro e w17 ⟨v17, rfl, hE17, hb17⟩
  have hbw17 := hbw16.trans (hb17.mono hbw16.size)
  replace hr2 := rowAt_below hr2 hb17
  clear hb17
  obtain ⟨rfl, _⟩ := hE17.zero rfl
  go_wp2_with fail
  refine (sh_k _ (Ok.below HOK.out hbw17)).mono ?_
  rintro e w18 ⟨v18, rfl, hE18, hb18⟩
  have hbw18 := hbw17.trans (hb18.mono hbw17.size)
  replace hr2 := rowAt_below hr2 hb18
  clear hb18
  obtain ⟨rfl, _⟩ := hE18.zero rfl
  go_wp2_with fail
  refine (KL.out _ (Ok.below HOK.out hbw18)).mono ?_
  rintro e w19 ⟨v19, rfl, hE19, hb19⟩
  have hbw19 := hbw18.trans (hb19.mono hbw18.size)
  replace hr2 := rowAt_below hr2 hb19
  clear hb19
  obtain ⟨rfl, _⟩ := hE19.zero rfl
  go_wp2_with (first | (refine wpList_store_any rfl 35 _ _ rfl w19.heap.size CL rfl rfl 35 _ (heap_alloc_new w19 _) (by rw [HSL.out]; kernel_rfl) (by rw [HSL.out]; rfl) HOL.out ?_; intro w20 hr20 hs20 hbl20 hot20; have hr2x := row_over hr2 hot20; clear hr2; have hr2 := hr2x; clear hr2x; have hbw20 := hbl20 _ _ (hbw19.alloc hbw19.size _) hbw19.size; clear hs20 hbl20 hot20))
  go_wp2_with fail
  refine (K8.out _ (Ok.below HOK.out hbw20)).mono ?_
  rintro e w21 ⟨v21, rfl, hE21, hb21⟩
  have hbw21 := hbw20.trans (hb21.mono hbw20.size)
  replace hr2 := rowAt_below hr2 hb21
  replace hr20 := rowAt_below hr20 hb21
  clear hb21
  go_wp2_with (first | (refine wpList_store_any rfl 35 _ _ rfl w21.heap.size C20 rfl rfl 35 _ (heap_alloc_new w21 _) (by rw [HY20.out]; kernel_rfl) (by rw [HY20.out]; rfl) HZ20.out ?_; intro w22 hr22 hs22 hbl22 hot22; have hr2x := row_over hr2 hot22; clear hr2; have hr2 := hr2x; clear hr2x; have hr20x := row_over hr20 hot22; clear hr20; have hr20 := hr20x; clear hr20x; have hbw22 := hbl22 _ _ (hbw21.alloc hbw21.size _) hbw21.size; clear hs22 hbl22 hot22) | (refine wpList_val _ (by kernel_rfl) (exec_load_row hr20 rfl rfl Tryz.underlying35 rfl (by rw [HSL.out]; kernel_rfl)) ?_))
  clear hr22
  go_wp2_with fail
  refine (HTL.out _).mono ?_
  rintro e w23 ⟨rfl, hb23⟩
  have hbw23 := hbw22.trans (hb23.mono hbw22.size)
  replace hr2 := rowAt_below hr2 hb23
  replace hr20 := rowAt_below hr20 hb23
  clear hb23
  go_wp2_with fail
  refine (plain_any v21 7 7 none true _ hE21 (by simp) (Ok.below HOK.out hbw23).1).mono ?_
  rintro e w24 ⟨rfl, hb24⟩
  have hbw24 := hbw23.trans (hb24.mono hbw23.size)
  replace hr2 := rowAt_below hr2 hb24
  replace hr20 := rowAt_below hr20 hb24
  clear hb24
  go_wp2_with fail
  refine (sh_d _ (Ok.below HOK.out hbw24)).mono ?_
  rintro e w25 ⟨v25, rfl, hE25, hb25⟩
  have hbw25 := hbw24.trans (hb25.mono hbw24.size)
  replace hr2 := rowAt_below hr2 hb25
  replace hr20 := rowAt_below hr20 hb25
  clear hb25
  obtain ⟨rfl, _⟩ := hE25.zero rfl
  go_wp2_with fail
  refine (sh_b _ (Ok.below HOK.out hbw25)).mono ?_
  rintro e w26 ⟨v26, rfl, hE26, hb26⟩
  have hbw26 := hbw25.trans (hb26.mono hbw25.size)
  replace hr2 := rowAt_below hr2 hb26
  replace hr20 := rowAt_below hr20 hb26
  clear hb26
  obtain ⟨rfl, _⟩ := hE26.zero rfl
  go_wp2_with (first | (refine wpList_store_any rfl 41 _ _ rfl w26.heap.size _ rfl rfl 41 _ (heap_alloc_new w26 _) (by kernel_rfl) rfl (by simp [Value.oneCell']) ?_; intro w27 hr27 hs27 hbl27 hot27; have hr2x := row_over hr2 hot27; clear hr2; have hr2 := hr2x; clear hr2x; have hr20x := row_over hr20 hot27; clear hr20; have hr20 := hr20x; clear hr20x; have hbw27 := hbl27 _ _ (hbw26.alloc hbw26.size _) hbw26.size; clear hs27 hbl27 hot27))
  go_wp2_with fail
  refine (sh_11 _ (Ok.below HOK.out hbw27)).mono ?_
  rintro e w28 ⟨v28, rfl, hE28, hb28⟩
  have hbw28 := hbw27.trans (hb28.mono hbw27.size)
  replace hr2 := rowAt_below hr2 hb28
  replace hr20 := rowAt_below hr20 hb28
  replace hr27 := rowAt_below hr27 hb28
  clear hb28
  go_wp2_with (first | (refine wpList_store_any rfl 41 _ _ rfl w28.heap.size _ rfl rfl 41 _ (heap_alloc_new w28 _) (by kernel_rfl) rfl (by simp [Value.oneCell']) ?_; intro w29 hr29 hs29 hbl29 hot29; have hr2x := row_over hr2 hot29; clear hr2; have hr2 := hr2x; clear hr2x; have hr20x := row_over hr20 hot29; clear hr20; have hr20 := hr20x; clear hr20x; have hr27x := row_over hr27 hot29; clear hr27; have hr27 := hr27x; clear hr27x; have hbw29 := hbl29 _ _ (hbw28.alloc hbw28.size _) hbw28.size; clear hs29 hbl29 hot29) | (refine wpList_val _ (by kernel_rfl) (exec_load_row hr27 rfl rfl Tryz.underlying41 rfl (by kernel_rfl)) ?_) | (refine wpList_val _ (by kernel_rfl) (exec_neq_same rfl rfl rfl HG.out (eqFour _ _ _ _)) ?_))
  clear hr29
  go_wp2_with fail
  refine (plain_any v28 2 2 none true _ hE28 (by simp) (Ok.below HOK.out hbw29).1).mono ?_
  rintro e w30 ⟨rfl, hb30⟩
  have hbw30 := hbw29.trans (hb30.mono hbw29.size)
  replace hr2 := rowAt_below hr2 hb30
  replace hr20 := rowAt_below hr20 hb30
  replace hr27 := rowAt_below hr27 hb30
  clear hb30
  go_wp2_with fail
  refine (sh_cur _ (Ok.below HOK.out hbw30)).mono ?_
  rintro e w31 ⟨v31, rfl, hE31, hb31⟩
  have hbw31 := hbw30.trans (hb31.mono hbw30.size)
  replace hr2 := rowAt_below hr2 hb31
  replace hr20 := rowAt_below hr20 hb31
  replace hr27 := rowAt_below hr27 hb31
  clear hb31
  obtain ⟨rfl, _⟩ := hE31.zero rfl
  go_wp2_with fail
  refine (sh_acc _ (Ok.below HOK.out hbw31)).mono ?_
  rintro e w32 ⟨v32, rfl, hE32, hb32⟩
  have hbw32 := hbw31.trans (hb32.mono hbw31.size)
  replace hr2 := rowAt_below hr2 hb32
  replace hr20 := rowAt_below hr20 hb32
  replace hr27 := rowAt_below hr27 hb32
  clear hb32
  go_wp2_with fail
  refine (at6_any v32 1 _ hE32 (Ok.below HOK.out hbw32).1).mono ?_
  rintro e w33 ⟨rfl, hb33⟩
  have hbw33 := hbw32.trans (hb33.mono hbw32.size)
  replace hr2 := rowAt_below hr2 hb33
  replace hr20 := rowAt_below hr20 hb33
  replace hr27 := rowAt_below hr27 hb33
  clear hb33
  go_wp2_with fail
  go_ret
  exact ⟨rfl, hbw33⟩
end Go.Proofs.YtenpakddifebbaaGreatDoor
