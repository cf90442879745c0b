/- the law PriceCheck by contract. -/
import Derived.Test.YtmepjcnpbjdlkaaDoorPriceE
namespace Go.Proofs.YtmepjcnpbjdlkaaDoor
set_option linter.unusedVariables false
set_option linter.unusedSimpArgs false
open Go.RowKit
attribute [local irreducible] Go.wpStill
theorem ok_etype {w : World} (h : Ok w) : EType w := h.1
set_option maxRecDepth 100000 in
set_option maxHeartbeats 4000000 in
theorem priceLaw_any (s : SecV) (w : World) (hcs : s.cur.size ≤ 140737488351232) (hok : Ok w) : Calls Tryd.prog 3 #[.agg (secC s)] w (FlatP true w) := by
  have hC := fun w hok => priceCheck_any s w hcs hok
  have hR := fun w => refCheck_any s w hcs
  generalize checkN s = N at hC hR
  obtain ⟨c0, c1, c2, c3, c4, c5, c6, c7, c8, c9, c10, c11, kind, face, coupon, per, basis, start, finish, cur⟩ := s
  have HC := Lib.hid hC
  have HR := Lib.hid hR
  have HOK := Lib.hid hok
  have HG := Lib.hid (heap_alloc_new w (.cells (secC ⟨c0, c1, c2, c3, c4, c5, c6, c7, c8, c9, c10, c11, kind, face, coupon, per, basis, start, finish, cur⟩) 25))
  have HZ0 := Lib.hid ((Below.refl w.heap.size w).alloc (Nat.le_refl _) (.cells (secC ⟨c0, c1, c2, c3, c4, c5, c6, c7, c8, c9, c10, c11, kind, face, coupon, per, basis, start, finish, cur⟩) 25))
  clear hC hR hok
  go_enter Tryd.func3, Tryd.ntmps3
  go_wp2_with fail
  refine wp_region_held_drew (S := fun w' => w'.heap[w.heap.size]? = some (.cells (secC ⟨c0, c1, c2, c3, c4, c5, c6, c7, c8, c9, c10, c11, kind, face, coupon, per, basis, start, finish, cur⟩) 25 (0, 0)) ∧ Below w.heap.size w w') (by kernel_rfl) ⟨HG.out, HZ0.out.drew⟩ (fun hHeld => ?_)
  refine rg_yes 0 _ (by simp only [List.getElem?_toArray, List.getElem?_cons_succ, List.getElem?_cons_zero]; rfl) (by kernel_rfl) (by kernel_rfl) (by kernel_rfl) (by exact fun _ _ _ h => h) (by kernel_rfl) (by assumption) (by exact fun w' hS => (exec_load_row hS.1 rfl rfl Tryd.underlying25 rfl (by kernel_rfl))) ?_
  (try simp only [Act.put, List.setIfInBounds_toArray, List.set_cons_zero, List.set_cons_succ])
  refine rg_yes 2 _ (by simp only [List.getElem?_toArray, List.getElem?_cons_succ, List.getElem?_cons_zero]; rfl) (by kernel_rfl) (by kernel_rfl) (by kernel_rfl) (by exact fun _ _ _ h => h) (by kernel_rfl) (by assumption) (by exact fun w' hS => (exec_load_row hS.1 rfl rfl Tryd.underlying25 rfl (by kernel_rfl))) ?_
  (try simp only [Act.put, List.setIfInBounds_toArray, List.set_cons_zero, List.set_cons_succ])
  refine rg_call 1 _ _ (by simp only [List.getElem?_toArray, List.getElem?_cons_succ, List.getElem?_cons_zero]; rfl) (by kernel_rfl) (by kernel_rfl) (fun w => by go_simp; exact ⟨rfl, rfl⟩) ?_
  refine (HC.out _ (HOK.out.below hHeld.2)).mono ?_
  rintro e w1 ⟨v1, rfl, hE, hb1⟩
  have HE := Lib.hid hE
  clear hE
  refine ⟨_, rfl, ⟨rowAt_below hHeld.1 hb1, hHeld.2.trans (hb1.mono hHeld.2.size)⟩, fun hHeld => ?_⟩
  refine rg_call 3 _ _ (by simp only [List.getElem?_toArray, List.getElem?_cons_succ, List.getElem?_cons_zero]; rfl) (by kernel_rfl) (by kernel_rfl) (fun w => by go_simp; exact ⟨rfl, rfl⟩) ?_
  refine (HR.out _).mono ?_
  rintro e w2 ⟨rfl, hb2⟩
  refine ⟨_, rfl, ⟨rowAt_below hHeld.1 hb2, hHeld.2.trans (hb2.mono hHeld.2.size)⟩, fun hHeld => ?_⟩
  refine rg_call 4 _ _ (by simp only [List.getElem?_toArray, List.getElem?_cons_succ, List.getElem?_cons_zero]; rfl) (by kernel_rfl) (by kernel_rfl) (fun w => by go_simp; exact ⟨rfl, rfl⟩) ?_
  refine (plain_any v1 N N none true w2 HE.out (by simp) (ok_etype (HOK.out.below hHeld.2))).mono ?_
  rintro e w3 ⟨rfl, hb3⟩
  refine ⟨_, rfl, ⟨rowAt_below hHeld.1 hb3, hHeld.2.trans (hb3.mono hHeld.2.size)⟩, fun hHeld => ?_⟩
  (refine rg_yes 5 ?v1 (by simp only [List.getElem?_toArray, List.getElem?_cons_succ, List.getElem?_cons_zero]; rfl) (by kernel_rfl) (by kernel_rfl) (by kernel_rfl) (by exact fun _ _ _ h => h) (by kernel_rfl) (by assumption) ?y1 ?z1; case y1 => (intro w hSw; (try dsimp only at hSw); go_simp; (try (rw [if_neg (by omega)])); (try with_reducible rfl)))
  (try simp only [Act.put, List.setIfInBounds_toArray, List.set_cons_zero, List.set_cons_succ])
  refine wpAnyH_done (by kernel_rfl) ?_ _
  have HH := Lib.hid hHeld.2
  clear hHeld
  go_wp2_with fail
  go_ret
  exact ⟨rfl, HH.out⟩
end Go.Proofs.YtmepjcnpbjdlkaaDoor
