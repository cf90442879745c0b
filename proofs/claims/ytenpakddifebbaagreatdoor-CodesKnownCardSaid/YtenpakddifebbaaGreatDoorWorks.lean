/- custodylaw02.works: by contract. -/
import Derived.Test.YtenpakddifebbaaGreatDoorCodesLaw
import Derived.IntWalk
namespace Go.Proofs.YtenpakddifebbaaGreatDoor
set_option linter.unusedVariables false
set_option linter.unusedSimpArgs false
open Go.RowKit

def goodL : List UInt8 := [85, 83, 48, 51, 55, 56, 51, 51, 49, 48, 48, 53]
def badL : List UInt8 := [85, 83, 48, 51, 55, 56, 51, 51, 49, 48, 48, 52]
theorem goodR : isinR goodL = (0, none) := by decide +kernel
theorem badR : isinR badL = (7, none) := by decide +kernel
set_option maxRecDepth 100000 in
set_option maxHeartbeats 1000000 in
theorem works_any (w : World) (hok : Ok w) :
    Calls Tryz.prog 8 #[] w fun e w' => e = .returned (.bool true) ∧ Below w.heap.size w w' := by
  have HOK := Lib.hid hok
  clear hok
  have h1 : ∀ w, Ok w → Calls Tryz.prog 6 #[.string ⟨#[85, 83, 48, 51, 55, 56, 51, 51, 49, 48, 48, 53]⟩] w (RetArr goodL (0, none) w) := fun w hok => by
    have := isinf_any ⟨#[85, 83, 48, 51, 55, 56, 51, 51, 49, 48, 48, 53]⟩ w (by decide) hok
    rw [show (⟨#[85, 83, 48, 51, 55, 56, 51, 51, 49, 48, 48, 53]⟩ : ByteArray).data.toList = goodL from rfl, goodR, if_pos rfl] at this
    exact this
  have h2 : ∀ w, Ok w → Calls Tryz.prog 6 #[.string ⟨#[85, 83, 48, 51, 55, 56, 51, 51, 49, 48, 48, 52]⟩] w (RetArr (zeros 12) (7, none) w) := fun w hok => by
    have := isinf_any ⟨#[85, 83, 48, 51, 55, 56, 51, 51, 49, 48, 48, 52]⟩ w (by decide) hok
    rw [show (⟨#[85, 83, 48, 51, 55, 56, 51, 51, 49, 48, 48, 52]⟩ : ByteArray).data.toList = badL from rfl, badR, if_neg (by decide)] at this
    exact this
  have hz : bytesV (zeros 12) = #[.int .u8 0, .int .u8 0, .int .u8 0, .int .u8 0, .int .u8 0, .int .u8 0, .int .u8 0, .int .u8 0, .int .u8 0, .int .u8 0, .int .u8 0, .int .u8 0] := by rfl
  have H1 := Lib.hid h1
  have H2 := Lib.hid h2
  have hlen : goodL.length = 12 := rfl
  have hT : ∀ w, Calls Tryz.prog 7 #[.agg (bytesV goodL)] w fun e w' => e = .returned (.string ⟨#[85, 83, 48, 51, 55, 56, 51, 51, 49, 48, 48, 53]⟩) ∧ Below w.heap.size w w' := fun w => textIsin_any goodL w hlen
  have HT := Lib.hid hT
  clear h1 h2 hT
  go_enter Tryz.func8, Tryz.ntmps8
  go_wp2_with fail
  refine (H1.out _ HOK.out).mono ?_
  rintro e w1 ⟨v, rfl, hE, hb1⟩
  obtain ⟨rfl, _⟩ := hE.zero rfl
  go_wp2_with (refine wpList_store_any rfl 24 _ _ rfl w1.heap.size (bytesV goodL) rfl rfl 24 _ (heap_alloc_new w1 _) (by kernel_rfl) rfl (bytesV_one _) ?_; intro w2 hr2 hs2 hbl2 _)
  have hb2 := hbl2 _ _ (hb1.alloc hb1.size _) hb1.size
  have hlt := lt_of_block hr2
  generalize w1.heap.size = g at hr2 hlt ⊢
  clear hb1 hbl2 hs2
  refine (H2.out _ (Ok.below HOK.out hb2)).mono ?_
  rintro e w3 ⟨v2, rfl, hE2, hb3⟩
  rw [hz]
  have hr3 := rowAt_below hr2 hb3
  have hlt3 := Nat.lt_of_lt_of_le hlt hb3.size
  have hbw3 := hb2.trans (hb3.mono hb2.size)
  clear hr2 hb3
  have hr4' : ∀ w4 : World, (∀ k, k ≠ w3.heap.size → w4.heap[k]? = (w3.alloc (.cells #[.int .u8 0, .int .u8 0, .int .u8 0, .int .u8 0, .int .u8 0, .int .u8 0, .int .u8 0, .int .u8 0, .int .u8 0, .int .u8 0, .int .u8 0, .int .u8 0] 24)).heap[k]?) → w4.heap[g]? = some (.cells (bytesV goodL) 24 (0, 0)) := fun w4 h => by
    rw [h g (Nat.ne_of_lt hlt3)]
    exact (heap_alloc_old w3 _ hlt3).trans hr3
  have HR4 := Lib.hid hr4'
  clear hr4'
  go_wp2_with (first
    | (refine wpList_store_any rfl 24 _ _ rfl w3.heap.size _ rfl rfl 24 _ (heap_alloc_new w3 _) (by kernel_rfl) rfl (by simp [Value.oneCell']) ?_; intro w4 hr4 hs4 hbl4 hot4; have hr5 := HR4.out w4 hot4; have hbw4 := hbl4 _ _ (hbw3.alloc hbw3.size _) hbw3.size)
    | (refine wpList_val _ (by kernel_rfl) (exec_load_row hr5 rfl rfl Tryz.underlying24 rfl (by kernel_rfl)) ?_))
  refine (HT.out _).mono ?_
  rintro e w5 ⟨rfl, hb5⟩
  have hbw5 := hbw4.trans (hb5.mono hbw4.size)
  go_wp2_with fail
  refine (plain_any v2 7 7 none true _ hE2 (by simp) (Ok.below HOK.out hbw5).1).mono ?_
  rintro e w6 ⟨rfl, hb6⟩
  go_wp2_with fail
  go_ret
  exact ⟨rfl, hbw5.trans (hb6.mono hbw5.size)⟩
end Go.Proofs.YtenpakddifebbaaGreatDoor
