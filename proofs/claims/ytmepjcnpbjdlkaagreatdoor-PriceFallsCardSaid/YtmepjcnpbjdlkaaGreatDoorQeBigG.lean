/- texts of this claim, laid together: BigG. -/
import Derived.Test.YtmepjcnpbjdlkaaGreatDoorQeBase
import Derived.Test.YtmepjcnpbjdlkaaGreatDoorQeBigF
/- big: Add, Sub, Cmp by contract, of numbers from 0 on. -/
namespace Go.Proofs.YtmepjcnpbjdlkaaGreatDoor
set_option linter.unusedVariables false
set_option linter.unusedSimpArgs false
open Go.RowKit
attribute [local irreducible] Go.wpStill

set_option maxHeartbeats 8000000 in
theorem add_any (p q r : Nat) (x y : Value) (m n : Nat) (w : World) (hp : w.heap[p]? = some (.cells #[x, y] 171 (0, 0))) (hq : BigAt w q false m) (hr : BigAt w r false n) (hml : (DG.dig m).length ≤ 40000) (hnl : (DG.dig n).length ≤ 40000) : Calls Tryz.prog 118 #[.pointer (some ⟨p, 0, none⟩), .pointer (some ⟨q, 0, none⟩), .pointer (some ⟨r, 0, none⟩)] w fun e w' => e = .returned (.pointer (some ⟨p, 0, none⟩)) ∧ BigAt w' p false (m + n) ∧ w.grownBy w' (some p) := by
  obtain ⟨v, hq1, hv⟩ := hq
  obtain ⟨v2, hr1, hv2⟩ := hr
  have hql := lt_of_block hq1
  have hrl := lt_of_block hr1
  have hpl := lt_of_block hp
  have hplus := fun w1 (h : Below w.heap.size w w1) => plus_any w1 (hv.below h) (hv2.below h) (by omega)
  have hto := fun w1 v zs (h : Below w.heap.size w w1) (hz : Ws w1 v zs) => to_any (v := v) (ds := zs) false w1 ((h.block p hpl).trans hp) hz
  rw [DG.val_dig, DG.val_dig] at hplus
  have hq0 : w.cell? ⟨q, 0, none⟩ = some (.bool false) := by rw [cell_of_row _ _ _ _ _ _ hq1]; rfl
  have hq2 : w.cell? ⟨q, 1, none⟩ = some v := by rw [cell_of_row _ _ _ _ _ _ hq1]; rfl
  have hr0 : w.cell? ⟨r, 0, none⟩ = some (.bool false) := by rw [cell_of_row _ _ _ _ _ _ hr1]; rfl
  have hr2 : w.cell? ⟨r, 1, none⟩ = some v2 := by rw [cell_of_row _ _ _ _ _ _ hr1]; rfl
  obtain ⟨ao, ca, rfl⟩ := hv.slice
  obtain ⟨bo, cb, rfl⟩ := hv2.slice
  have HPL := Lib.hid hplus
  have HTO := Lib.hid hto
  have HQ0 := Lib.hid hq0
  have HQ2 := Lib.hid hq2
  have HR0 := Lib.hid hr0
  have HR2 := Lib.hid hr2
  clear hv hv2 hp hq1 hr1 hq0 hq2 hr0 hr2 hplus hto
  generalize (DG.dig m).length = lm at *
  generalize (DG.dig n).length = ln at *
  go_enter Tryz.func118, Tryz.ntmps118
  go_wp2_with fail
  rename_i HK
  refine wp_region_held_drew (S := fun w' => Below w.heap.size w w') (by kernel_rfl) (Below.refl _ _).drew (fun hHeld => ?_)
  (refine rg_yes 0 ?v1 (by simp only [List.getElem?_toArray, List.getElem?_cons_succ, List.getElem?_cons_zero]; rfl) (by kernel_rfl) (by kernel_rfl) (by kernel_rfl) (by exact fun _ _ _ h => h) (by kernel_rfl) (by assumption) ?y1 ?z1; case y1 => (intro w hSw; (try dsimp only at hSw); go_simp; (try (rw [if_neg (by omega)])); (try with_reducible rfl)))
  (try simp only [Act.put, List.setIfInBounds_toArray, List.set_cons_zero, List.set_cons_succ])
  (refine rg_yes 1 ?v2 (by simp only [List.getElem?_toArray, List.getElem?_cons_succ, List.getElem?_cons_zero]; rfl) (by kernel_rfl) (by kernel_rfl) (by kernel_rfl) (by exact fun _ _ _ h => h) (by kernel_rfl) (by assumption) ?y2 ?z2; case y2 => (intro w hSw; (try dsimp only at hSw); go_simp; (try (rw [if_neg (by omega)])); (try with_reducible rfl)))
  (try simp only [Act.put, List.setIfInBounds_toArray, List.set_cons_zero, List.set_cons_succ])
  (refine rg_yes 2 ?v3 (by simp only [List.getElem?_toArray, List.getElem?_cons_succ, List.getElem?_cons_zero]; rfl) (by kernel_rfl) (by kernel_rfl) (by kernel_rfl) (by exact fun _ _ _ h => h) (by kernel_rfl) (by assumption) ?y3 ?z3; case y3 => (intro w hSw; (try dsimp only at hSw); go_simp; (try (rw [if_neg (by omega)])); (try with_reducible rfl)))
  (try simp only [Act.put, List.setIfInBounds_toArray, List.set_cons_zero, List.set_cons_succ])
  refine rg_yes 3 _ (by simp only [List.getElem?_toArray, List.getElem?_cons_succ, List.getElem?_cons_zero]; rfl) (by kernel_rfl) (by kernel_rfl) (by kernel_rfl) (by exact fun _ _ _ h => h) (by kernel_rfl) (by assumption) (by exact fun w' hS => (exec_load_at ((cell_kept (hS.block q hql)).trans HQ0.out) rfl rfl (fun w => by kernel_rfl))) ?_
  (try simp only [Act.put, List.setIfInBounds_toArray, List.set_cons_zero, List.set_cons_succ])
  (refine rg_yes 4 ?v4 (by simp only [List.getElem?_toArray, List.getElem?_cons_succ, List.getElem?_cons_zero]; rfl) (by kernel_rfl) (by kernel_rfl) (by kernel_rfl) (by exact fun _ _ _ h => h) (by kernel_rfl) (by assumption) ?y4 ?z4; case y4 => (intro w hSw; (try dsimp only at hSw); go_simp; (try (rw [if_neg (by omega)])); (try with_reducible rfl)))
  (try simp only [Act.put, List.setIfInBounds_toArray, List.set_cons_zero, List.set_cons_succ])
  (refine rg_yes 5 ?v5 (by simp only [List.getElem?_toArray, List.getElem?_cons_succ, List.getElem?_cons_zero]; rfl) (by kernel_rfl) (by kernel_rfl) (by kernel_rfl) (by exact fun _ _ _ h => h) (by kernel_rfl) (by assumption) ?y5 ?z5; case y5 => (intro w hSw; (try dsimp only at hSw); go_simp; (try (rw [if_neg (by omega)])); (try with_reducible rfl)))
  (try simp only [Act.put, List.setIfInBounds_toArray, List.set_cons_zero, List.set_cons_succ])
  (refine rg_yes 6 ?v6 (by simp only [List.getElem?_toArray, List.getElem?_cons_succ, List.getElem?_cons_zero]; rfl) (by kernel_rfl) (by kernel_rfl) (by kernel_rfl) (by exact fun _ _ _ h => h) (by kernel_rfl) (by assumption) ?y6 ?z6; case y6 => (intro w hSw; (try dsimp only at hSw); go_simp; (try (rw [if_neg (by omega)])); (try with_reducible rfl)))
  (try simp only [Act.put, List.setIfInBounds_toArray, List.set_cons_zero, List.set_cons_succ])
  refine rg_yes 7 _ (by simp only [List.getElem?_toArray, List.getElem?_cons_succ, List.getElem?_cons_zero]; rfl) (by kernel_rfl) (by kernel_rfl) (by kernel_rfl) (by exact fun _ _ _ h => h) (by kernel_rfl) (by assumption) (by exact fun w' hS => (exec_load_at ((cell_kept (hS.block r hrl)).trans HR0.out) rfl rfl (fun w => by kernel_rfl))) ?_
  (try simp only [Act.put, List.setIfInBounds_toArray, List.set_cons_zero, List.set_cons_succ])
  (refine rg_yes 8 ?v7 (by simp only [List.getElem?_toArray, List.getElem?_cons_succ, List.getElem?_cons_zero]; rfl) (by kernel_rfl) (by kernel_rfl) (by kernel_rfl) (by exact fun _ _ _ h => h) (by kernel_rfl) (by assumption) ?y7 ?z7; case y7 => (intro w hSw; (try dsimp only at hSw); go_simp; (try (rw [if_neg (by omega)])); (try with_reducible rfl)))
  (try simp only [Act.put, List.setIfInBounds_toArray, List.set_cons_zero, List.set_cons_succ])
  (refine rg_yes 9 ?v8 (by simp only [List.getElem?_toArray, List.getElem?_cons_succ, List.getElem?_cons_zero]; rfl) (by kernel_rfl) (by kernel_rfl) (by kernel_rfl) (by exact fun _ _ _ h => h) (by kernel_rfl) (by assumption) ?y8 ?z8; case y8 => (intro w hSw; (try dsimp only at hSw); go_simp; (try (rw [if_neg (by omega)])); (try with_reducible rfl)))
  (try simp only [Act.put, List.setIfInBounds_toArray, List.set_cons_zero, List.set_cons_succ])
  refine wpAnyH_done (by kernel_rfl) ?_ _
  apply HK
  go_wp2_with fail
  rename_i HK2
  refine wp_region_till (k := 14) (S := fun w' => Below w.heap.size w w') (by kernel_rfl) ?_
  have hHeld : Below w.heap.size w w.drew.drew := (Below.refl _ _).drew.drew
  (refine rt_yes 0 ?v9 (by simp only [List.getElem?_toArray, List.getElem?_cons_succ, List.getElem?_cons_zero]; rfl) (by kernel_rfl) (by kernel_rfl) (by kernel_rfl) (by kernel_rfl) (by exact fun _ _ _ h => h) (by kernel_rfl) (by exact fun _ => hHeld) ?y9 ?z9; case y9 => (intro w; go_simp; (try (rw [if_neg (by omega)])); (try with_reducible rfl)))
  (try simp only [Act.put, List.setIfInBounds_toArray, List.set_cons_zero, List.set_cons_succ])
  (refine rt_yes 1 ?v10 (by simp only [List.getElem?_toArray, List.getElem?_cons_succ, List.getElem?_cons_zero]; rfl) (by kernel_rfl) (by kernel_rfl) (by kernel_rfl) (by kernel_rfl) (by exact fun _ _ _ h => h) (by kernel_rfl) (by exact fun _ => hHeld) ?y10 ?z10; case y10 => (intro w; go_simp; (try (rw [if_neg (by omega)])); (try with_reducible rfl)))
  (try simp only [Act.put, List.setIfInBounds_toArray, List.set_cons_zero, List.set_cons_succ])
  (refine rt_yes 2 ?v11 (by simp only [List.getElem?_toArray, List.getElem?_cons_succ, List.getElem?_cons_zero]; rfl) (by kernel_rfl) (by kernel_rfl) (by kernel_rfl) (by kernel_rfl) (by exact fun _ _ _ h => h) (by kernel_rfl) (by exact fun _ => hHeld) ?y11 ?z11; case y11 => (intro w; go_simp; (try (rw [if_neg (by omega)])); (try with_reducible rfl)))
  (try simp only [Act.put, List.setIfInBounds_toArray, List.set_cons_zero, List.set_cons_succ])
  (refine rt_yes 3 ?v12 (by simp only [List.getElem?_toArray, List.getElem?_cons_succ, List.getElem?_cons_zero]; rfl) (by kernel_rfl) (by kernel_rfl) (by kernel_rfl) (by kernel_rfl) (by exact fun _ _ _ h => h) (by kernel_rfl) (by exact fun _ => hHeld) ?y12 ?z12; case y12 => (intro w; go_simp; (try (rw [if_neg (by omega)])); (try with_reducible rfl)))
  (try simp only [Act.put, List.setIfInBounds_toArray, List.set_cons_zero, List.set_cons_succ])
  refine rt_load 4 _ (by simp only [List.getElem?_toArray, List.getElem?_cons_succ, List.getElem?_cons_zero]; rfl) (by kernel_rfl) (by kernel_rfl) (by kernel_rfl) (by kernel_rfl) (by kernel_rfl) (by kernel_rfl) (by exact fun _ _ _ h => h) (by kernel_rfl) hHeld (fun w' hS => (exec_load_at ((cell_kept (hS.block q hql)).trans HQ0.out) rfl rfl (fun w => by kernel_rfl))) ?_
  (try simp only [Act.put, List.setIfInBounds_toArray, List.set_cons_zero, List.set_cons_succ])
  (refine rt_yes 5 ?v13 (by simp only [List.getElem?_toArray, List.getElem?_cons_succ, List.getElem?_cons_zero]; rfl) (by kernel_rfl) (by kernel_rfl) (by kernel_rfl) (by kernel_rfl) (by exact fun _ _ _ h => h) (by kernel_rfl) (by exact fun _ => hHeld) ?y13 ?z13; case y13 => (intro w; go_simp; (try (rw [if_neg (by omega)])); (try with_reducible rfl)))
  (try simp only [Act.put, List.setIfInBounds_toArray, List.set_cons_zero, List.set_cons_succ])
  (refine rt_yes 6 ?v14 (by simp only [List.getElem?_toArray, List.getElem?_cons_succ, List.getElem?_cons_zero]; rfl) (by kernel_rfl) (by kernel_rfl) (by kernel_rfl) (by kernel_rfl) (by exact fun _ _ _ h => h) (by kernel_rfl) (by exact fun _ => hHeld) ?y14 ?z14; case y14 => (intro w; go_simp; (try (rw [if_neg (by omega)])); (try with_reducible rfl)))
  (try simp only [Act.put, List.setIfInBounds_toArray, List.set_cons_zero, List.set_cons_succ])
  (refine rt_yes 7 ?v15 (by simp only [List.getElem?_toArray, List.getElem?_cons_succ, List.getElem?_cons_zero]; rfl) (by kernel_rfl) (by kernel_rfl) (by kernel_rfl) (by kernel_rfl) (by exact fun _ _ _ h => h) (by kernel_rfl) (by exact fun _ => hHeld) ?y15 ?z15; case y15 => (intro w; go_simp; (try (rw [if_neg (by omega)])); (try with_reducible rfl)))
  (try simp only [Act.put, List.setIfInBounds_toArray, List.set_cons_zero, List.set_cons_succ])
  refine rt_load2 8 13 _ (by simp only [List.getElem?_toArray, List.getElem?_cons_succ, List.getElem?_cons_zero]; rfl) (by kernel_rfl) (by kernel_rfl) (by kernel_rfl) (by kernel_rfl) (by kernel_rfl) (by kernel_rfl) (by kernel_rfl) (by kernel_rfl) (by exact fun _ _ _ h => h) (by kernel_rfl) hHeld (fun w' hS => (exec_load_at ((cell_kept (hS.block q hql)).trans HQ2.out) rfl rfl (fun w => by kernel_rfl))) ?_
  (try simp only [Act.put, List.setIfInBounds_toArray, List.set_cons_zero, List.set_cons_succ])
  (refine rt_yes 9 ?v16 (by simp only [List.getElem?_toArray, List.getElem?_cons_succ, List.getElem?_cons_zero]; rfl) (by kernel_rfl) (by kernel_rfl) (by kernel_rfl) (by kernel_rfl) (by exact fun _ _ _ h => h) (by kernel_rfl) (by exact fun _ => hHeld) ?y16 ?z16; case y16 => (intro w; go_simp; (try (rw [if_neg (by omega)])); (try with_reducible rfl)))
  (try simp only [Act.put, List.setIfInBounds_toArray, List.set_cons_zero, List.set_cons_succ])
  (refine rt_yes 10 ?v17 (by simp only [List.getElem?_toArray, List.getElem?_cons_succ, List.getElem?_cons_zero]; rfl) (by kernel_rfl) (by kernel_rfl) (by kernel_rfl) (by kernel_rfl) (by exact fun _ _ _ h => h) (by kernel_rfl) (by exact fun _ => hHeld) ?y17 ?z17; case y17 => (intro w; go_simp; (try (rw [if_neg (by omega)])); (try with_reducible rfl)))
  (try simp only [Act.put, List.setIfInBounds_toArray, List.set_cons_zero, List.set_cons_succ])
  (refine rt_yes 11 ?v18 (by simp only [List.getElem?_toArray, List.getElem?_cons_succ, List.getElem?_cons_zero]; rfl) (by kernel_rfl) (by kernel_rfl) (by kernel_rfl) (by kernel_rfl) (by exact fun _ _ _ h => h) (by kernel_rfl) (by exact fun _ => hHeld) ?y18 ?z18; case y18 => (intro w; go_simp; (try (rw [if_neg (by omega)])); (try with_reducible rfl)))
  (try simp only [Act.put, List.setIfInBounds_toArray, List.set_cons_zero, List.set_cons_succ])
  refine rt_load2 12 13 _ (by simp only [List.getElem?_toArray, List.getElem?_cons_succ, List.getElem?_cons_zero]; rfl) (by kernel_rfl) (by kernel_rfl) (by kernel_rfl) (by kernel_rfl) (by kernel_rfl) (by kernel_rfl) (by kernel_rfl) (by kernel_rfl) (by exact fun _ _ _ h => h) (by kernel_rfl) hHeld (fun w' hS => (exec_load_at ((cell_kept (hS.block r hrl)).trans HR2.out) rfl rfl (fun w => by kernel_rfl))) ?_
  (try simp only [Act.put, List.setIfInBounds_toArray, List.set_cons_zero, List.set_cons_succ])
  refine rt_call 13 _ _ (by simp only [List.getElem?_toArray, List.getElem?_cons_succ, List.getElem?_cons_zero]; rfl) (by kernel_rfl) (by kernel_rfl) (fun w => by go_simp; exact ⟨rfl, rfl⟩) ?_
  refine (HPL.out _ hHeld).mono ?_
  rintro e w5 ⟨v, zs, rfl, hz, hzv, hb5⟩
  have hHeld5 : Below w.heap.size w w5 := hHeld.trans (hb5.mono hHeld.size)
  refine ⟨_, rfl, fun _ => hHeld5, ?_⟩
  (try simp only [Act.put, List.setIfInBounds_toArray, List.set_cons_zero, List.set_cons_succ])
  refine rt_call 14 _ _ (by simp only [List.getElem?_toArray, List.getElem?_cons_succ, List.getElem?_cons_zero]; rfl) (by kernel_rfl) (by kernel_rfl) (fun w => by go_simp; exact ⟨rfl, rfl⟩) ?_
  refine (HTO.out _ _ _ hHeld5 hz).mono ?_
  rintro e w6 ⟨rfl, h1, h2⟩
  refine ⟨_, rfl, till_past (by kernel_rfl), ?_⟩
  rw [hzv, Bool.false_and] at h1
  have H1 := Lib.hid h1
  have H2 := Lib.hid (below_grown hHeld5 h2)
  clear h1 h2 hz hzv hb5 hHeld hHeld5
  (try simp only [Act.put, List.setIfInBounds_toArray, List.set_cons_zero, List.set_cons_succ])
  (refine rt_yes 15 ?v19 (by simp only [List.getElem?_toArray, List.getElem?_cons_succ, List.getElem?_cons_zero]; rfl) (by kernel_rfl) (by kernel_rfl) (by kernel_rfl) (by kernel_rfl) (by exact fun _ _ _ h => h) (by kernel_rfl) (by exact till_past (by kernel_rfl)) ?y19 ?z19; case y19 => (intro w; go_simp; (try (rw [if_neg (by omega)])); (try with_reducible rfl)))
  (try simp only [Act.put, List.setIfInBounds_toArray, List.set_cons_zero, List.set_cons_succ])
  refine rt_done (by kernel_rfl) ?_ _
  apply HK2
  go_wp2_with fail
  go_ret
  exact ⟨rfl, H1.out, H2.out⟩
set_option maxHeartbeats 8000000 in
theorem addNeg_any (p q r : Nat) (x y : Value) (m n : Nat) (w : World) (hp : w.heap[p]? = some (.cells #[x, y] 171 (0, 0))) (hq : BigAt w q false m) (hr : BigAt w r true n) : Calls Tryz.prog 118 #[.pointer (some ⟨p, 0, none⟩), .pointer (some ⟨q, 0, none⟩), .pointer (some ⟨r, 0, none⟩)] w fun e w' => e = .returned (.pointer (some ⟨p, 0, none⟩)) ∧ (∃ s d, BigAt w' p s d ∧ (if s = true then -1 else if 0 < d then 1 else 0) = DG.cmpN m n) ∧ w.grownBy w' (some p) := by
  obtain ⟨v, hq1, hv⟩ := hq
  obtain ⟨v2, hr1, hv2⟩ := hr
  have hql := lt_of_block hq1
  have hrl := lt_of_block hr1
  have hpl := lt_of_block hp
  have hord := fun w1 (h : Below w.heap.size w w1) => order_any w1 (hv.below h) (hv2.below h)
  have hmin := fun w1 (h : Below w.heap.size w w1) (hnm : n ≤ m) => minus_any w1 (hv.below h) (hv2.below h) (by rw [DG.val_dig, DG.val_dig]; exact hnm) (DG.len_mono hnm)
  have hmin2 := fun w1 (h : Below w.heap.size w w1) (hnm : m ≤ n) => minus_any w1 (hv2.below h) (hv.below h) (by rw [DG.val_dig, DG.val_dig]; exact hnm) (DG.len_mono hnm)
  have hto := fun s w1 v zs (h : Below w.heap.size w w1) (hz : Ws w1 v zs) => to_any (v := v) (ds := zs) s w1 ((h.block p hpl).trans hp) hz
  rw [DG.val_dig, DG.val_dig] at hord hmin hmin2
  have hq0 : w.cell? ⟨q, 0, none⟩ = some (.bool false) := by rw [cell_of_row _ _ _ _ _ _ hq1]; rfl
  have hq2 : w.cell? ⟨q, 1, none⟩ = some v := by rw [cell_of_row _ _ _ _ _ _ hq1]; rfl
  have hr0 : w.cell? ⟨r, 0, none⟩ = some (.bool true) := by rw [cell_of_row _ _ _ _ _ _ hr1]; rfl
  have hr2 : w.cell? ⟨r, 1, none⟩ = some v2 := by rw [cell_of_row _ _ _ _ _ _ hr1]; rfl
  obtain ⟨ao, ca, rfl⟩ := hv.slice
  obtain ⟨bo, cb, rfl⟩ := hv2.slice
  have HOR := Lib.hid hord
  have HMN := Lib.hid hmin
  have HMN2 := Lib.hid hmin2
  have HTO := Lib.hid hto
  have HQ0 := Lib.hid hq0
  have HQ2 := Lib.hid hq2
  have HR0 := Lib.hid hr0
  have HR2 := Lib.hid hr2
  clear hv hv2 hp hq1 hr1 hq0 hq2 hr0 hr2 hord hmin hmin2 hto
  generalize (DG.dig m).length = lm at *
  generalize (DG.dig n).length = ln at *
  have hge : n ≤ m → decide (DG.cmpN m n ≥ 0) = true := fun h => decide_eq_true (by
    unfold DG.cmpN
    rw [if_neg (show ¬ m < n by omega)]
    split <;> decide)
  have hlt : m < n → decide (DG.cmpN m n ≥ 0) = false := fun h => decide_eq_false (by
    unfold DG.cmpN
    rw [if_pos h]
    decide)
  have hs1 : n ≤ m → (if false = true then (-1 : Int) else if 0 < m - n then 1 else 0) = DG.cmpN m n := fun h => by
    unfold DG.cmpN
    rw [if_neg (by decide), if_neg (show ¬ m < n by omega)]
    congr 1
    exact propext (by omega)
  have hs2 : m < n → (if true = true then (-1 : Int) else if 0 < n - m then 1 else 0) = DG.cmpN m n := fun h => by
    unfold DG.cmpN
    rw [if_pos rfl, if_pos h]
  generalize DG.cmpN m n = cmp at *
  have HGE := Lib.hid hge
  have HLT := Lib.hid hlt
  have HS1 := Lib.hid hs1
  have HS2 := Lib.hid hs2
  clear hge hlt hs1 hs2
  go_enter Tryz.func118, Tryz.ntmps118
  go_wp2_with fail
  rename_i HK
  refine wp_region_held_drew (S := fun w' => Below w.heap.size w w') (by kernel_rfl) (Below.refl _ _).drew (fun hHeld => ?_)
  (refine rg_yes 0 ?v20 (by simp only [List.getElem?_toArray, List.getElem?_cons_succ, List.getElem?_cons_zero]; rfl) (by kernel_rfl) (by kernel_rfl) (by kernel_rfl) (by exact fun _ _ _ h => h) (by kernel_rfl) (by assumption) ?y20 ?z20; case y20 => (intro w hSw; (try dsimp only at hSw); go_simp; (try (rw [if_neg (by omega)])); (try with_reducible rfl)))
  (try simp only [Act.put, List.setIfInBounds_toArray, List.set_cons_zero, List.set_cons_succ])
  (refine rg_yes 1 ?v21 (by simp only [List.getElem?_toArray, List.getElem?_cons_succ, List.getElem?_cons_zero]; rfl) (by kernel_rfl) (by kernel_rfl) (by kernel_rfl) (by exact fun _ _ _ h => h) (by kernel_rfl) (by assumption) ?y21 ?z21; case y21 => (intro w hSw; (try dsimp only at hSw); go_simp; (try (rw [if_neg (by omega)])); (try with_reducible rfl)))
  (try simp only [Act.put, List.setIfInBounds_toArray, List.set_cons_zero, List.set_cons_succ])
  (refine rg_yes 2 ?v22 (by simp only [List.getElem?_toArray, List.getElem?_cons_succ, List.getElem?_cons_zero]; rfl) (by kernel_rfl) (by kernel_rfl) (by kernel_rfl) (by exact fun _ _ _ h => h) (by kernel_rfl) (by assumption) ?y22 ?z22; case y22 => (intro w hSw; (try dsimp only at hSw); go_simp; (try (rw [if_neg (by omega)])); (try with_reducible rfl)))
  (try simp only [Act.put, List.setIfInBounds_toArray, List.set_cons_zero, List.set_cons_succ])
  refine rg_yes 3 _ (by simp only [List.getElem?_toArray, List.getElem?_cons_succ, List.getElem?_cons_zero]; rfl) (by kernel_rfl) (by kernel_rfl) (by kernel_rfl) (by exact fun _ _ _ h => h) (by kernel_rfl) (by assumption) (by exact fun w' hS => (exec_load_at ((cell_kept (hS.block q hql)).trans HQ0.out) rfl rfl (fun w => by kernel_rfl))) ?_
  (try simp only [Act.put, List.setIfInBounds_toArray, List.set_cons_zero, List.set_cons_succ])
  (refine rg_yes 4 ?v23 (by simp only [List.getElem?_toArray, List.getElem?_cons_succ, List.getElem?_cons_zero]; rfl) (by kernel_rfl) (by kernel_rfl) (by kernel_rfl) (by exact fun _ _ _ h => h) (by kernel_rfl) (by assumption) ?y23 ?z23; case y23 => (intro w hSw; (try dsimp only at hSw); go_simp; (try (rw [if_neg (by omega)])); (try with_reducible rfl)))
  (try simp only [Act.put, List.setIfInBounds_toArray, List.set_cons_zero, List.set_cons_succ])
  (refine rg_yes 5 ?v24 (by simp only [List.getElem?_toArray, List.getElem?_cons_succ, List.getElem?_cons_zero]; rfl) (by kernel_rfl) (by kernel_rfl) (by kernel_rfl) (by exact fun _ _ _ h => h) (by kernel_rfl) (by assumption) ?y24 ?z24; case y24 => (intro w hSw; (try dsimp only at hSw); go_simp; (try (rw [if_neg (by omega)])); (try with_reducible rfl)))
  (try simp only [Act.put, List.setIfInBounds_toArray, List.set_cons_zero, List.set_cons_succ])
  (refine rg_yes 6 ?v25 (by simp only [List.getElem?_toArray, List.getElem?_cons_succ, List.getElem?_cons_zero]; rfl) (by kernel_rfl) (by kernel_rfl) (by kernel_rfl) (by exact fun _ _ _ h => h) (by kernel_rfl) (by assumption) ?y25 ?z25; case y25 => (intro w hSw; (try dsimp only at hSw); go_simp; (try (rw [if_neg (by omega)])); (try with_reducible rfl)))
  (try simp only [Act.put, List.setIfInBounds_toArray, List.set_cons_zero, List.set_cons_succ])
  refine rg_yes 7 _ (by simp only [List.getElem?_toArray, List.getElem?_cons_succ, List.getElem?_cons_zero]; rfl) (by kernel_rfl) (by kernel_rfl) (by kernel_rfl) (by exact fun _ _ _ h => h) (by kernel_rfl) (by assumption) (by exact fun w' hS => (exec_load_at ((cell_kept (hS.block r hrl)).trans HR0.out) rfl rfl (fun w => by kernel_rfl))) ?_
  (try simp only [Act.put, List.setIfInBounds_toArray, List.set_cons_zero, List.set_cons_succ])
  (refine rg_yes 8 ?v26 (by simp only [List.getElem?_toArray, List.getElem?_cons_succ, List.getElem?_cons_zero]; rfl) (by kernel_rfl) (by kernel_rfl) (by kernel_rfl) (by exact fun _ _ _ h => h) (by kernel_rfl) (by assumption) ?y26 ?z26; case y26 => (intro w hSw; (try dsimp only at hSw); go_simp; (try (rw [if_neg (by omega)])); (try with_reducible rfl)))
  (try simp only [Act.put, List.setIfInBounds_toArray, List.set_cons_zero, List.set_cons_succ])
  (refine rg_yes 9 ?v27 (by simp only [List.getElem?_toArray, List.getElem?_cons_succ, List.getElem?_cons_zero]; rfl) (by kernel_rfl) (by kernel_rfl) (by kernel_rfl) (by exact fun _ _ _ h => h) (by kernel_rfl) (by assumption) ?y27 ?z27; case y27 => (intro w hSw; (try dsimp only at hSw); go_simp; (try (rw [if_neg (by omega)])); (try with_reducible rfl)))
  (try simp only [Act.put, List.setIfInBounds_toArray, List.set_cons_zero, List.set_cons_succ])
  refine wpAnyH_done (by kernel_rfl) ?_ _
  apply HK
  go_wp2_with fail
  rename_i HK1
  refine wp_region_held_drew (S := fun w' => Below w.heap.size w w') (by kernel_rfl) (Below.refl _ _).drew.drew (fun hHeld1 => ?_)
  (refine rg_yes 0 ?v28 (by simp only [List.getElem?_toArray, List.getElem?_cons_succ, List.getElem?_cons_zero]; rfl) (by kernel_rfl) (by kernel_rfl) (by kernel_rfl) (by exact fun _ _ _ h => h) (by kernel_rfl) (by assumption) ?y28 ?z28; case y28 => (intro w hSw; (try dsimp only at hSw); go_simp; (try (rw [if_neg (by omega)])); (try with_reducible rfl)))
  (try simp only [Act.put, List.setIfInBounds_toArray, List.set_cons_zero, List.set_cons_succ])
  (refine rg_yes 1 ?v29 (by simp only [List.getElem?_toArray, List.getElem?_cons_succ, List.getElem?_cons_zero]; rfl) (by kernel_rfl) (by kernel_rfl) (by kernel_rfl) (by exact fun _ _ _ h => h) (by kernel_rfl) (by assumption) ?y29 ?z29; case y29 => (intro w hSw; (try dsimp only at hSw); go_simp; (try (rw [if_neg (by omega)])); (try with_reducible rfl)))
  (try simp only [Act.put, List.setIfInBounds_toArray, List.set_cons_zero, List.set_cons_succ])
  (refine rg_yes 2 ?v30 (by simp only [List.getElem?_toArray, List.getElem?_cons_succ, List.getElem?_cons_zero]; rfl) (by kernel_rfl) (by kernel_rfl) (by kernel_rfl) (by exact fun _ _ _ h => h) (by kernel_rfl) (by assumption) ?y30 ?z30; case y30 => (intro w hSw; (try dsimp only at hSw); go_simp; (try (rw [if_neg (by omega)])); (try with_reducible rfl)))
  (try simp only [Act.put, List.setIfInBounds_toArray, List.set_cons_zero, List.set_cons_succ])
  refine rg_yes 3 _ (by simp only [List.getElem?_toArray, List.getElem?_cons_succ, List.getElem?_cons_zero]; rfl) (by kernel_rfl) (by kernel_rfl) (by kernel_rfl) (by exact fun _ _ _ h => h) (by kernel_rfl) (by assumption) (by exact fun w' hS => (exec_load_at ((cell_kept (hS.block q hql)).trans HQ2.out) rfl rfl (fun w => by kernel_rfl))) ?_
  (try simp only [Act.put, List.setIfInBounds_toArray, List.set_cons_zero, List.set_cons_succ])
  (refine rg_yes 4 ?v31 (by simp only [List.getElem?_toArray, List.getElem?_cons_succ, List.getElem?_cons_zero]; rfl) (by kernel_rfl) (by kernel_rfl) (by kernel_rfl) (by exact fun _ _ _ h => h) (by kernel_rfl) (by assumption) ?y31 ?z31; case y31 => (intro w hSw; (try dsimp only at hSw); go_simp; (try (rw [if_neg (by omega)])); (try with_reducible rfl)))
  (try simp only [Act.put, List.setIfInBounds_toArray, List.set_cons_zero, List.set_cons_succ])
  (refine rg_yes 5 ?v32 (by simp only [List.getElem?_toArray, List.getElem?_cons_succ, List.getElem?_cons_zero]; rfl) (by kernel_rfl) (by kernel_rfl) (by kernel_rfl) (by exact fun _ _ _ h => h) (by kernel_rfl) (by assumption) ?y32 ?z32; case y32 => (intro w hSw; (try dsimp only at hSw); go_simp; (try (rw [if_neg (by omega)])); (try with_reducible rfl)))
  (try simp only [Act.put, List.setIfInBounds_toArray, List.set_cons_zero, List.set_cons_succ])
  (refine rg_yes 6 ?v33 (by simp only [List.getElem?_toArray, List.getElem?_cons_succ, List.getElem?_cons_zero]; rfl) (by kernel_rfl) (by kernel_rfl) (by kernel_rfl) (by exact fun _ _ _ h => h) (by kernel_rfl) (by assumption) ?y33 ?z33; case y33 => (intro w hSw; (try dsimp only at hSw); go_simp; (try (rw [if_neg (by omega)])); (try with_reducible rfl)))
  (try simp only [Act.put, List.setIfInBounds_toArray, List.set_cons_zero, List.set_cons_succ])
  refine rg_yes 7 _ (by simp only [List.getElem?_toArray, List.getElem?_cons_succ, List.getElem?_cons_zero]; rfl) (by kernel_rfl) (by kernel_rfl) (by kernel_rfl) (by exact fun _ _ _ h => h) (by kernel_rfl) (by assumption) (by exact fun w' hS => (exec_load_at ((cell_kept (hS.block r hrl)).trans HR2.out) rfl rfl (fun w => by kernel_rfl))) ?_
  (try simp only [Act.put, List.setIfInBounds_toArray, List.set_cons_zero, List.set_cons_succ])
  refine rg_call 8 _ _ (by simp only [List.getElem?_toArray, List.getElem?_cons_succ, List.getElem?_cons_zero]; rfl) (by kernel_rfl) (by kernel_rfl) (fun w => by go_simp; exact ⟨rfl, rfl⟩) ?_
  refine (HOR.out _ hHeld1).mono ?_
  rintro e w4 ⟨rfl, rfl⟩
  refine ⟨_, rfl, hHeld1, fun hHeld2 => ?_⟩
  by_cases hnm : n ≤ m
  · have hge := HGE.out hnm
    have HSG := Lib.hid (HS1.out hnm)
    have HNM := Lib.hid hnm
    clear hnm
    (try simp only [Act.put, List.setIfInBounds_toArray, List.set_cons_zero, List.set_cons_succ])
    (refine rg_yes 9 ?v34 (by simp only [List.getElem?_toArray, List.getElem?_cons_succ, List.getElem?_cons_zero]; rfl) (by kernel_rfl) (by kernel_rfl) (by kernel_rfl) (by exact fun _ _ _ h => h) (by kernel_rfl) (by assumption) ?y34 ?z34; case y34 => (intro w hSw; (try dsimp only at hSw); go_simp; (try (rw [if_neg (by omega)])); (try with_reducible rfl)))
    (try simp only [Act.put, List.setIfInBounds_toArray, List.set_cons_zero, List.set_cons_succ])
    (refine rg_yes 10 ?v35 (by simp only [List.getElem?_toArray, List.getElem?_cons_succ, List.getElem?_cons_zero]; rfl) (by kernel_rfl) (by kernel_rfl) (by kernel_rfl) (by exact fun _ _ _ h => h) (by kernel_rfl) (by assumption) ?y35 ?z35; case y35 => (intro w hSw; (try dsimp only at hSw); go_simp; (try (rw [if_neg (by omega)])); (try with_reducible rfl)))
    (try simp only [Act.put, List.setIfInBounds_toArray, List.set_cons_zero, List.set_cons_succ])
    refine wpAnyH_done (by kernel_rfl) ?_ _
    apply HK1
    go_wp2_with fail
    rename_i HK2
    refine wp_region_till (k := 14) (S := fun w' => Below w.heap.size w w') (by kernel_rfl) ?_
    have hHeld : Below w.heap.size w w.drew.drew.drew := (Below.refl _ _).drew.drew.drew
    (refine rt_yes 0 ?v36 (by simp only [List.getElem?_toArray, List.getElem?_cons_succ, List.getElem?_cons_zero]; rfl) (by kernel_rfl) (by kernel_rfl) (by kernel_rfl) (by kernel_rfl) (by exact fun _ _ _ h => h) (by kernel_rfl) (by exact fun _ => hHeld) ?y36 ?z36; case y36 => (intro w; go_simp; (try (rw [if_neg (by omega)])); (try with_reducible rfl)))
    (try simp only [Act.put, List.setIfInBounds_toArray, List.set_cons_zero, List.set_cons_succ])
    (refine rt_yes 1 ?v37 (by simp only [List.getElem?_toArray, List.getElem?_cons_succ, List.getElem?_cons_zero]; rfl) (by kernel_rfl) (by kernel_rfl) (by kernel_rfl) (by kernel_rfl) (by exact fun _ _ _ h => h) (by kernel_rfl) (by exact fun _ => hHeld) ?y37 ?z37; case y37 => (intro w; go_simp; (try (rw [if_neg (by omega)])); (try with_reducible rfl)))
    (try simp only [Act.put, List.setIfInBounds_toArray, List.set_cons_zero, List.set_cons_succ])
    (refine rt_yes 2 ?v38 (by simp only [List.getElem?_toArray, List.getElem?_cons_succ, List.getElem?_cons_zero]; rfl) (by kernel_rfl) (by kernel_rfl) (by kernel_rfl) (by kernel_rfl) (by exact fun _ _ _ h => h) (by kernel_rfl) (by exact fun _ => hHeld) ?y38 ?z38; case y38 => (intro w; go_simp; (try (rw [if_neg (by omega)])); (try with_reducible rfl)))
    (try simp only [Act.put, List.setIfInBounds_toArray, List.set_cons_zero, List.set_cons_succ])
    (refine rt_yes 3 ?v39 (by simp only [List.getElem?_toArray, List.getElem?_cons_succ, List.getElem?_cons_zero]; rfl) (by kernel_rfl) (by kernel_rfl) (by kernel_rfl) (by kernel_rfl) (by exact fun _ _ _ h => h) (by kernel_rfl) (by exact fun _ => hHeld) ?y39 ?z39; case y39 => (intro w; go_simp; (try (rw [if_neg (by omega)])); (try with_reducible rfl)))
    (try simp only [Act.put, List.setIfInBounds_toArray, List.set_cons_zero, List.set_cons_succ])
    refine rt_load 4 _ (by simp only [List.getElem?_toArray, List.getElem?_cons_succ, List.getElem?_cons_zero]; rfl) (by kernel_rfl) (by kernel_rfl) (by kernel_rfl) (by kernel_rfl) (by kernel_rfl) (by kernel_rfl) (by exact fun _ _ _ h => h) (by kernel_rfl) hHeld (fun w' hS => (exec_load_at ((cell_kept (hS.block q hql)).trans HQ0.out) rfl rfl (fun w => by kernel_rfl))) ?_
    (try simp only [Act.put, List.setIfInBounds_toArray, List.set_cons_zero, List.set_cons_succ])
    (refine rt_yes 5 ?v40 (by simp only [List.getElem?_toArray, List.getElem?_cons_succ, List.getElem?_cons_zero]; rfl) (by kernel_rfl) (by kernel_rfl) (by kernel_rfl) (by kernel_rfl) (by exact fun _ _ _ h => h) (by kernel_rfl) (by exact fun _ => hHeld) ?y40 ?z40; case y40 => (intro w; go_simp; (try (rw [if_neg (by omega)])); (try with_reducible rfl)))
    (try simp only [Act.put, List.setIfInBounds_toArray, List.set_cons_zero, List.set_cons_succ])
    (refine rt_yes 6 ?v41 (by simp only [List.getElem?_toArray, List.getElem?_cons_succ, List.getElem?_cons_zero]; rfl) (by kernel_rfl) (by kernel_rfl) (by kernel_rfl) (by kernel_rfl) (by exact fun _ _ _ h => h) (by kernel_rfl) (by exact fun _ => hHeld) ?y41 ?z41; case y41 => (intro w; go_simp; (try (rw [if_neg (by omega)])); (try with_reducible rfl)))
    (try simp only [Act.put, List.setIfInBounds_toArray, List.set_cons_zero, List.set_cons_succ])
    (refine rt_yes 7 ?v42 (by simp only [List.getElem?_toArray, List.getElem?_cons_succ, List.getElem?_cons_zero]; rfl) (by kernel_rfl) (by kernel_rfl) (by kernel_rfl) (by kernel_rfl) (by exact fun _ _ _ h => h) (by kernel_rfl) (by exact fun _ => hHeld) ?y42 ?z42; case y42 => (intro w; go_simp; (try (rw [if_neg (by omega)])); (try with_reducible rfl)))
    (try simp only [Act.put, List.setIfInBounds_toArray, List.set_cons_zero, List.set_cons_succ])
    refine rt_load2 8 13 _ (by simp only [List.getElem?_toArray, List.getElem?_cons_succ, List.getElem?_cons_zero]; rfl) (by kernel_rfl) (by kernel_rfl) (by kernel_rfl) (by kernel_rfl) (by kernel_rfl) (by kernel_rfl) (by kernel_rfl) (by kernel_rfl) (by exact fun _ _ _ h => h) (by kernel_rfl) hHeld (fun w' hS => (exec_load_at ((cell_kept (hS.block q hql)).trans HQ2.out) rfl rfl (fun w => by kernel_rfl))) ?_
    (try simp only [Act.put, List.setIfInBounds_toArray, List.set_cons_zero, List.set_cons_succ])
    (refine rt_yes 9 ?v43 (by simp only [List.getElem?_toArray, List.getElem?_cons_succ, List.getElem?_cons_zero]; rfl) (by kernel_rfl) (by kernel_rfl) (by kernel_rfl) (by kernel_rfl) (by exact fun _ _ _ h => h) (by kernel_rfl) (by exact fun _ => hHeld) ?y43 ?z43; case y43 => (intro w; go_simp; (try (rw [if_neg (by omega)])); (try with_reducible rfl)))
    (try simp only [Act.put, List.setIfInBounds_toArray, List.set_cons_zero, List.set_cons_succ])
    (refine rt_yes 10 ?v44 (by simp only [List.getElem?_toArray, List.getElem?_cons_succ, List.getElem?_cons_zero]; rfl) (by kernel_rfl) (by kernel_rfl) (by kernel_rfl) (by kernel_rfl) (by exact fun _ _ _ h => h) (by kernel_rfl) (by exact fun _ => hHeld) ?y44 ?z44; case y44 => (intro w; go_simp; (try (rw [if_neg (by omega)])); (try with_reducible rfl)))
    (try simp only [Act.put, List.setIfInBounds_toArray, List.set_cons_zero, List.set_cons_succ])
    (refine rt_yes 11 ?v45 (by simp only [List.getElem?_toArray, List.getElem?_cons_succ, List.getElem?_cons_zero]; rfl) (by kernel_rfl) (by kernel_rfl) (by kernel_rfl) (by kernel_rfl) (by exact fun _ _ _ h => h) (by kernel_rfl) (by exact fun _ => hHeld) ?y45 ?z45; case y45 => (intro w; go_simp; (try (rw [if_neg (by omega)])); (try with_reducible rfl)))
    (try simp only [Act.put, List.setIfInBounds_toArray, List.set_cons_zero, List.set_cons_succ])
    refine rt_load2 12 13 _ (by simp only [List.getElem?_toArray, List.getElem?_cons_succ, List.getElem?_cons_zero]; rfl) (by kernel_rfl) (by kernel_rfl) (by kernel_rfl) (by kernel_rfl) (by kernel_rfl) (by kernel_rfl) (by kernel_rfl) (by kernel_rfl) (by exact fun _ _ _ h => h) (by kernel_rfl) hHeld (fun w' hS => (exec_load_at ((cell_kept (hS.block r hrl)).trans HR2.out) rfl rfl (fun w => by kernel_rfl))) ?_
    (try simp only [Act.put, List.setIfInBounds_toArray, List.set_cons_zero, List.set_cons_succ])
    refine rt_call 13 _ _ (by simp only [List.getElem?_toArray, List.getElem?_cons_succ, List.getElem?_cons_zero]; rfl) (by kernel_rfl) (by kernel_rfl) (fun w => by go_simp; exact ⟨rfl, rfl⟩) ?_
    refine (HMN.out _ hHeld HNM.out).mono ?_
    rintro e w5 ⟨v, zs, rfl, hz, _, hzv, hb5⟩
    have hHeld5 : Below w.heap.size w w5 := hHeld.trans (hb5.mono hHeld.size)
    refine ⟨_, rfl, fun _ => hHeld5, ?_⟩
    (try simp only [Act.put, List.setIfInBounds_toArray, List.set_cons_zero, List.set_cons_succ])
    refine rt_call 14 _ _ (by simp only [List.getElem?_toArray, List.getElem?_cons_succ, List.getElem?_cons_zero]; rfl) (by kernel_rfl) (by kernel_rfl) (fun w => by go_simp; exact ⟨rfl, rfl⟩) ?_
    refine (HTO.out _ _ _ _ hHeld5 hz).mono ?_
    rintro e w6 ⟨rfl, h1, h2⟩
    refine ⟨_, rfl, till_past (by kernel_rfl), ?_⟩
    rw [hzv, Bool.false_and] at h1
    have H1 := Lib.hid h1
    have H2 := Lib.hid (below_grown hHeld5 h2)
    clear h1 h2 hz hzv hb5 hHeld hHeld5
    (try simp only [Act.put, List.setIfInBounds_toArray, List.set_cons_zero, List.set_cons_succ])
    (refine rt_yes 15 ?v46 (by simp only [List.getElem?_toArray, List.getElem?_cons_succ, List.getElem?_cons_zero]; rfl) (by kernel_rfl) (by kernel_rfl) (by kernel_rfl) (by kernel_rfl) (by exact fun _ _ _ h => h) (by kernel_rfl) (by exact till_past (by kernel_rfl)) ?y46 ?z46; case y46 => (intro w; go_simp; (try (rw [if_neg (by omega)])); (try with_reducible rfl)))
    (try simp only [Act.put, List.setIfInBounds_toArray, List.set_cons_zero, List.set_cons_succ])
    refine rt_done (by kernel_rfl) ?_ _
    apply HK2
    go_wp2_with fail
    go_ret
    exact ⟨rfl, ⟨_, _, H1.out, HSG.out⟩, H2.out⟩
  · have hge := HLT.out (by omega)
    have HSG := Lib.hid (HS2.out (by omega))
    have hd : decide (0 < n - m) = true := decide_eq_true (by omega)
    have HD := Lib.hid hd
    have HNM := Lib.hid (show m ≤ n by omega)
    clear hnm hd
    (try simp only [Act.put, List.setIfInBounds_toArray, List.set_cons_zero, List.set_cons_succ])
    (refine rg_yes 9 ?v47 (by simp only [List.getElem?_toArray, List.getElem?_cons_succ, List.getElem?_cons_zero]; rfl) (by kernel_rfl) (by kernel_rfl) (by kernel_rfl) (by exact fun _ _ _ h => h) (by kernel_rfl) (by assumption) ?y47 ?z47; case y47 => (intro w hSw; (try dsimp only at hSw); go_simp; (try (rw [if_neg (by omega)])); (try with_reducible rfl)))
    (try simp only [Act.put, List.setIfInBounds_toArray, List.set_cons_zero, List.set_cons_succ])
    (refine rg_yes 10 ?v48 (by simp only [List.getElem?_toArray, List.getElem?_cons_succ, List.getElem?_cons_zero]; rfl) (by kernel_rfl) (by kernel_rfl) (by kernel_rfl) (by exact fun _ _ _ h => h) (by kernel_rfl) (by assumption) ?y48 ?z48; case y48 => (intro w hSw; (try dsimp only at hSw); go_simp; (try (rw [if_neg (by omega)])); (try with_reducible rfl)))
    (try simp only [Act.put, List.setIfInBounds_toArray, List.set_cons_zero, List.set_cons_succ])
    refine wpAnyH_done (by kernel_rfl) ?_ _
    apply HK1
    go_wp2_with fail
    rename_i HK2
    refine wp_region_till (k := 14) (S := fun w' => Below w.heap.size w w') (by kernel_rfl) ?_
    have hHeld : Below w.heap.size w w.drew.drew.drew := (Below.refl _ _).drew.drew.drew
    (refine rt_yes 0 ?v49 (by simp only [List.getElem?_toArray, List.getElem?_cons_succ, List.getElem?_cons_zero]; rfl) (by kernel_rfl) (by kernel_rfl) (by kernel_rfl) (by kernel_rfl) (by exact fun _ _ _ h => h) (by kernel_rfl) (by exact fun _ => hHeld) ?y49 ?z49; case y49 => (intro w; go_simp; (try (rw [if_neg (by omega)])); (try with_reducible rfl)))
    (try simp only [Act.put, List.setIfInBounds_toArray, List.set_cons_zero, List.set_cons_succ])
    (refine rt_yes 1 ?v50 (by simp only [List.getElem?_toArray, List.getElem?_cons_succ, List.getElem?_cons_zero]; rfl) (by kernel_rfl) (by kernel_rfl) (by kernel_rfl) (by kernel_rfl) (by exact fun _ _ _ h => h) (by kernel_rfl) (by exact fun _ => hHeld) ?y50 ?z50; case y50 => (intro w; go_simp; (try (rw [if_neg (by omega)])); (try with_reducible rfl)))
    (try simp only [Act.put, List.setIfInBounds_toArray, List.set_cons_zero, List.set_cons_succ])
    (refine rt_yes 2 ?v51 (by simp only [List.getElem?_toArray, List.getElem?_cons_succ, List.getElem?_cons_zero]; rfl) (by kernel_rfl) (by kernel_rfl) (by kernel_rfl) (by kernel_rfl) (by exact fun _ _ _ h => h) (by kernel_rfl) (by exact fun _ => hHeld) ?y51 ?z51; case y51 => (intro w; go_simp; (try (rw [if_neg (by omega)])); (try with_reducible rfl)))
    (try simp only [Act.put, List.setIfInBounds_toArray, List.set_cons_zero, List.set_cons_succ])
    (refine rt_yes 3 ?v52 (by simp only [List.getElem?_toArray, List.getElem?_cons_succ, List.getElem?_cons_zero]; rfl) (by kernel_rfl) (by kernel_rfl) (by kernel_rfl) (by kernel_rfl) (by exact fun _ _ _ h => h) (by kernel_rfl) (by exact fun _ => hHeld) ?y52 ?z52; case y52 => (intro w; go_simp; (try (rw [if_neg (by omega)])); (try with_reducible rfl)))
    (try simp only [Act.put, List.setIfInBounds_toArray, List.set_cons_zero, List.set_cons_succ])
    refine rt_load 4 _ (by simp only [List.getElem?_toArray, List.getElem?_cons_succ, List.getElem?_cons_zero]; rfl) (by kernel_rfl) (by kernel_rfl) (by kernel_rfl) (by kernel_rfl) (by kernel_rfl) (by kernel_rfl) (by exact fun _ _ _ h => h) (by kernel_rfl) hHeld (fun w' hS => (exec_load_at ((cell_kept (hS.block r hrl)).trans HR0.out) rfl rfl (fun w => by kernel_rfl))) ?_
    (try simp only [Act.put, List.setIfInBounds_toArray, List.set_cons_zero, List.set_cons_succ])
    (refine rt_yes 5 ?v53 (by simp only [List.getElem?_toArray, List.getElem?_cons_succ, List.getElem?_cons_zero]; rfl) (by kernel_rfl) (by kernel_rfl) (by kernel_rfl) (by kernel_rfl) (by exact fun _ _ _ h => h) (by kernel_rfl) (by exact fun _ => hHeld) ?y53 ?z53; case y53 => (intro w; go_simp; (try (rw [if_neg (by omega)])); (try with_reducible rfl)))
    (try simp only [Act.put, List.setIfInBounds_toArray, List.set_cons_zero, List.set_cons_succ])
    (refine rt_yes 6 ?v54 (by simp only [List.getElem?_toArray, List.getElem?_cons_succ, List.getElem?_cons_zero]; rfl) (by kernel_rfl) (by kernel_rfl) (by kernel_rfl) (by kernel_rfl) (by exact fun _ _ _ h => h) (by kernel_rfl) (by exact fun _ => hHeld) ?y54 ?z54; case y54 => (intro w; go_simp; (try (rw [if_neg (by omega)])); (try with_reducible rfl)))
    (try simp only [Act.put, List.setIfInBounds_toArray, List.set_cons_zero, List.set_cons_succ])
    (refine rt_yes 7 ?v55 (by simp only [List.getElem?_toArray, List.getElem?_cons_succ, List.getElem?_cons_zero]; rfl) (by kernel_rfl) (by kernel_rfl) (by kernel_rfl) (by kernel_rfl) (by exact fun _ _ _ h => h) (by kernel_rfl) (by exact fun _ => hHeld) ?y55 ?z55; case y55 => (intro w; go_simp; (try (rw [if_neg (by omega)])); (try with_reducible rfl)))
    (try simp only [Act.put, List.setIfInBounds_toArray, List.set_cons_zero, List.set_cons_succ])
    refine rt_load2 8 13 _ (by simp only [List.getElem?_toArray, List.getElem?_cons_succ, List.getElem?_cons_zero]; rfl) (by kernel_rfl) (by kernel_rfl) (by kernel_rfl) (by kernel_rfl) (by kernel_rfl) (by kernel_rfl) (by kernel_rfl) (by kernel_rfl) (by exact fun _ _ _ h => h) (by kernel_rfl) hHeld (fun w' hS => (exec_load_at ((cell_kept (hS.block r hrl)).trans HR2.out) rfl rfl (fun w => by kernel_rfl))) ?_
    (try simp only [Act.put, List.setIfInBounds_toArray, List.set_cons_zero, List.set_cons_succ])
    (refine rt_yes 9 ?v56 (by simp only [List.getElem?_toArray, List.getElem?_cons_succ, List.getElem?_cons_zero]; rfl) (by kernel_rfl) (by kernel_rfl) (by kernel_rfl) (by kernel_rfl) (by exact fun _ _ _ h => h) (by kernel_rfl) (by exact fun _ => hHeld) ?y56 ?z56; case y56 => (intro w; go_simp; (try (rw [if_neg (by omega)])); (try with_reducible rfl)))
    (try simp only [Act.put, List.setIfInBounds_toArray, List.set_cons_zero, List.set_cons_succ])
    (refine rt_yes 10 ?v57 (by simp only [List.getElem?_toArray, List.getElem?_cons_succ, List.getElem?_cons_zero]; rfl) (by kernel_rfl) (by kernel_rfl) (by kernel_rfl) (by kernel_rfl) (by exact fun _ _ _ h => h) (by kernel_rfl) (by exact fun _ => hHeld) ?y57 ?z57; case y57 => (intro w; go_simp; (try (rw [if_neg (by omega)])); (try with_reducible rfl)))
    (try simp only [Act.put, List.setIfInBounds_toArray, List.set_cons_zero, List.set_cons_succ])
    (refine rt_yes 11 ?v58 (by simp only [List.getElem?_toArray, List.getElem?_cons_succ, List.getElem?_cons_zero]; rfl) (by kernel_rfl) (by kernel_rfl) (by kernel_rfl) (by kernel_rfl) (by exact fun _ _ _ h => h) (by kernel_rfl) (by exact fun _ => hHeld) ?y58 ?z58; case y58 => (intro w; go_simp; (try (rw [if_neg (by omega)])); (try with_reducible rfl)))
    (try simp only [Act.put, List.setIfInBounds_toArray, List.set_cons_zero, List.set_cons_succ])
    refine rt_load2 12 13 _ (by simp only [List.getElem?_toArray, List.getElem?_cons_succ, List.getElem?_cons_zero]; rfl) (by kernel_rfl) (by kernel_rfl) (by kernel_rfl) (by kernel_rfl) (by kernel_rfl) (by kernel_rfl) (by kernel_rfl) (by kernel_rfl) (by exact fun _ _ _ h => h) (by kernel_rfl) hHeld (fun w' hS => (exec_load_at ((cell_kept (hS.block q hql)).trans HQ2.out) rfl rfl (fun w => by kernel_rfl))) ?_
    (try simp only [Act.put, List.setIfInBounds_toArray, List.set_cons_zero, List.set_cons_succ])
    refine rt_call 13 _ _ (by simp only [List.getElem?_toArray, List.getElem?_cons_succ, List.getElem?_cons_zero]; rfl) (by kernel_rfl) (by kernel_rfl) (fun w => by go_simp; exact ⟨rfl, rfl⟩) ?_
    refine (HMN2.out _ hHeld HNM.out).mono ?_
    rintro e w5 ⟨v, zs, rfl, hz, _, hzv, hb5⟩
    have hHeld5 : Below w.heap.size w w5 := hHeld.trans (hb5.mono hHeld.size)
    refine ⟨_, rfl, fun _ => hHeld5, ?_⟩
    (try simp only [Act.put, List.setIfInBounds_toArray, List.set_cons_zero, List.set_cons_succ])
    refine rt_call 14 _ _ (by simp only [List.getElem?_toArray, List.getElem?_cons_succ, List.getElem?_cons_zero]; rfl) (by kernel_rfl) (by kernel_rfl) (fun w => by go_simp; exact ⟨rfl, rfl⟩) ?_
    refine (HTO.out _ _ _ _ hHeld5 hz).mono ?_
    rintro e w6 ⟨rfl, h1, h2⟩
    refine ⟨_, rfl, till_past (by kernel_rfl), ?_⟩
    rw [hzv, HD.out, Bool.true_and] at h1
    have H1 := Lib.hid h1
    have H2 := Lib.hid (below_grown hHeld5 h2)
    clear h1 h2 hz hzv hb5 hHeld hHeld5
    (try simp only [Act.put, List.setIfInBounds_toArray, List.set_cons_zero, List.set_cons_succ])
    (refine rt_yes 15 ?v59 (by simp only [List.getElem?_toArray, List.getElem?_cons_succ, List.getElem?_cons_zero]; rfl) (by kernel_rfl) (by kernel_rfl) (by kernel_rfl) (by kernel_rfl) (by exact fun _ _ _ h => h) (by kernel_rfl) (by exact till_past (by kernel_rfl)) ?y59 ?z59; case y59 => (intro w; go_simp; (try (rw [if_neg (by omega)])); (try with_reducible rfl)))
    (try simp only [Act.put, List.setIfInBounds_toArray, List.set_cons_zero, List.set_cons_succ])
    refine rt_done (by kernel_rfl) ?_ _
    apply HK2
    go_wp2_with fail
    go_ret
    exact ⟨rfl, ⟨_, _, H1.out, HSG.out⟩, H2.out⟩
set_option maxHeartbeats 8000000 in
theorem sub_any (p q r : Nat) (x y : Value) (m n : Nat) (w : World) (hp : w.heap[p]? = some (.cells #[x, y] 171 (0, 0))) (hq : BigAt w q false m) (hr : BigAt w r false n) (hrp : r ≠ p) : Calls Tryz.prog 141 #[.pointer (some ⟨p, 0, none⟩), .pointer (some ⟨q, 0, none⟩), .pointer (some ⟨r, 0, none⟩)] w fun e w' => e = .returned (.pointer (some ⟨p, 0, none⟩)) ∧ (∃ s d, BigAt w' p s d ∧ (if s = true then -1 else if 0 < d then 1 else 0) = DG.cmpN m n) ∧ w.grownBy w' (some p) := by
  obtain ⟨v2, hr1, hv2⟩ := id hr
  have hr0 : w.cell? ⟨r, 0, none⟩ = some (.bool false) := by rw [cell_of_row _ _ _ _ _ _ hr1]; rfl
  have hr2 : w.cell? ⟨r, 1, none⟩ = some v2 := by rw [cell_of_row _ _ _ _ _ _ hr1]; rfl
  have hpl := lt_of_block hp
  have hrl := lt_of_block hr1
  have hadd : ∀ w1, Below w.heap.size w w1 → Calls Tryz.prog 118 #[.pointer (some ⟨p, 0, none⟩), .pointer (some ⟨q, 0, none⟩), .pointer (some ⟨w1.heap.size, 0, none⟩)] (w1.alloc (.cells #[.bool true, v2] 171)) fun e w' => e = .returned (.pointer (some ⟨p, 0, none⟩)) ∧ (∃ s d, BigAt w' p s d ∧ (if s = true then -1 else if 0 < d then 1 else 0) = DG.cmpN m n) ∧ w.grownBy w' (some p) := fun w1 h1 => by
    have hb : Below w.heap.size w (w1.alloc (.cells #[.bool true, v2] 171)) := h1.alloc h1.size _
    refine (addNeg_any p q w1.heap.size x y m n _ ((hb.block p hpl).trans hp) (hq.below hb) ⟨v2, heap_alloc_new w1 _, hv2.below hb⟩).mono ?_
    rintro e w' ⟨h1, h2, h3⟩
    exact ⟨h1, h2, below_grown hb h3⟩
  obtain ⟨bo, cb, rfl⟩ := hv2.slice
  have HADD := Lib.hid hadd
  have HR0 := Lib.hid hr0
  have HR2 := Lib.hid hr2
  clear hadd hq hr hr1 hv2 hp hr0 hr2
  generalize (DG.dig n).length = ln at *
  go_enter Tryz.func141, Tryz.ntmps141
  go_wp2_with fail
  rename_i HK
  refine wp_region_held_drew (S := fun w' => w'.cell? ⟨r, 0, none⟩ = some (.bool false) ∧ w'.cell? ⟨r, 1, none⟩ = some (.slice bo ln cb)) (by kernel_rfl) ⟨HR0.out, HR2.out⟩ (fun hHeld => ?_)
  (refine rg_yes 0 ?v60 (by simp only [List.getElem?_toArray, List.getElem?_cons_succ, List.getElem?_cons_zero]; rfl) (by kernel_rfl) (by kernel_rfl) (by kernel_rfl) (by exact fun _ _ _ h => h) (by kernel_rfl) (by assumption) ?y60 ?z60; case y60 => (intro w hSw; (try dsimp only at hSw); go_simp; (try (rw [if_neg (by omega)])); (try with_reducible rfl)))
  (try simp only [Act.put, List.setIfInBounds_toArray, List.set_cons_zero, List.set_cons_succ])
  (refine rg_yes 1 ?v61 (by simp only [List.getElem?_toArray, List.getElem?_cons_succ, List.getElem?_cons_zero]; rfl) (by kernel_rfl) (by kernel_rfl) (by kernel_rfl) (by exact fun _ _ _ h => h) (by kernel_rfl) (by assumption) ?y61 ?z61; case y61 => (intro w hSw; (try dsimp only at hSw); go_simp; (try (rw [if_neg (by omega)])); (try with_reducible rfl)))
  (try simp only [Act.put, List.setIfInBounds_toArray, List.set_cons_zero, List.set_cons_succ])
  (refine rg_yes 2 ?v62 (by simp only [List.getElem?_toArray, List.getElem?_cons_succ, List.getElem?_cons_zero]; rfl) (by kernel_rfl) (by kernel_rfl) (by kernel_rfl) (by exact fun _ _ _ h => h) (by kernel_rfl) (by assumption) ?y62 ?z62; case y62 => (intro w hSw; (try dsimp only at hSw); go_simp; (try (rw [if_neg (by omega)])); (try with_reducible rfl)))
  (try simp only [Act.put, List.setIfInBounds_toArray, List.set_cons_zero, List.set_cons_succ])
  (refine rg_yes 3 ?v63 (by simp only [List.getElem?_toArray, List.getElem?_cons_succ, List.getElem?_cons_zero]; rfl) (by kernel_rfl) (by kernel_rfl) (by kernel_rfl) (by exact fun _ _ _ h => h) (by kernel_rfl) (by assumption) ?y63 ?z63; case y63 => (intro w hSw; (try dsimp only at hSw); go_simp; (try (rw [if_neg (by omega)])); (try with_reducible rfl)))
  (try simp only [Act.put, List.setIfInBounds_toArray, List.set_cons_zero, List.set_cons_succ])
  (refine rg_yes 4 ?v64 (by simp only [List.getElem?_toArray, List.getElem?_cons_succ, List.getElem?_cons_zero]; rfl) (by kernel_rfl) (by kernel_rfl) (by kernel_rfl) (by exact fun _ _ _ h => h) (by kernel_rfl) (by assumption) ?y64 ?z64; case y64 => (intro w hSw; (try dsimp only at hSw); go_simp; (try (rw [if_neg (by omega)])); (try with_reducible rfl)))
  (try simp only [Act.put, List.setIfInBounds_toArray, List.set_cons_zero, List.set_cons_succ])
  refine rg_yes 5 _ (by simp only [List.getElem?_toArray, List.getElem?_cons_succ, List.getElem?_cons_zero]; rfl) (by kernel_rfl) (by kernel_rfl) (by kernel_rfl) (by exact fun _ _ _ h => h) (by kernel_rfl) (by assumption) (by exact fun w' hS => (exec_load_at hS.1 rfl rfl (fun w => by kernel_rfl))) ?_
  (try simp only [Act.put, List.setIfInBounds_toArray, List.set_cons_zero, List.set_cons_succ])
  (refine rg_yes 6 ?v65 (by simp only [List.getElem?_toArray, List.getElem?_cons_succ, List.getElem?_cons_zero]; rfl) (by kernel_rfl) (by kernel_rfl) (by kernel_rfl) (by exact fun _ _ _ h => h) (by kernel_rfl) (by assumption) ?y65 ?z65; case y65 => (intro w hSw; (try dsimp only at hSw); go_simp; (try (rw [if_neg (by omega)])); (try with_reducible rfl)))
  (try simp only [Act.put, List.setIfInBounds_toArray, List.set_cons_zero, List.set_cons_succ])
  (refine rg_yes 7 ?v66 (by simp only [List.getElem?_toArray, List.getElem?_cons_succ, List.getElem?_cons_zero]; rfl) (by kernel_rfl) (by kernel_rfl) (by kernel_rfl) (by exact fun _ _ _ h => h) (by kernel_rfl) (by assumption) ?y66 ?z66; case y66 => (intro w hSw; (try dsimp only at hSw); go_simp; (try (rw [if_neg (by omega)])); (try with_reducible rfl)))
  (try simp only [Act.put, List.setIfInBounds_toArray, List.set_cons_zero, List.set_cons_succ])
  (refine rg_yes 8 ?v67 (by simp only [List.getElem?_toArray, List.getElem?_cons_succ, List.getElem?_cons_zero]; rfl) (by kernel_rfl) (by kernel_rfl) (by kernel_rfl) (by exact fun _ _ _ h => h) (by kernel_rfl) (by assumption) ?y67 ?z67; case y67 => (intro w hSw; (try dsimp only at hSw); go_simp; (try (rw [if_neg (by omega)])); (try with_reducible rfl)))
  (try simp only [Act.put, List.setIfInBounds_toArray, List.set_cons_zero, List.set_cons_succ])
  (refine rg_yes 9 ?v68 (by simp only [List.getElem?_toArray, List.getElem?_cons_succ, List.getElem?_cons_zero]; rfl) (by kernel_rfl) (by kernel_rfl) (by kernel_rfl) (by exact fun _ _ _ h => h) (by kernel_rfl) (by assumption) ?y68 ?z68; case y68 => (intro w hSw; (try dsimp only at hSw); go_simp; (try (rw [if_neg (by omega)])); (try with_reducible rfl)))
  (try simp only [Act.put, List.setIfInBounds_toArray, List.set_cons_zero, List.set_cons_succ])
  refine rg_yes 10 _ (by simp only [List.getElem?_toArray, List.getElem?_cons_succ, List.getElem?_cons_zero]; rfl) (by kernel_rfl) (by kernel_rfl) (by kernel_rfl) (by exact fun _ _ _ h => h) (by kernel_rfl) (by assumption) (by exact fun w' hS => (exec_load_at hS.2 rfl rfl (fun w => by kernel_rfl))) ?_
  (try simp only [Act.put, List.setIfInBounds_toArray, List.set_cons_zero, List.set_cons_succ])
  (refine rg_yes 11 ?v69 (by simp only [List.getElem?_toArray, List.getElem?_cons_succ, List.getElem?_cons_zero]; rfl) (by kernel_rfl) (by kernel_rfl) (by kernel_rfl) (by exact fun _ _ _ h => h) (by kernel_rfl) (by assumption) ?y69 ?z69; case y69 => (intro w hSw; (try dsimp only at hSw); go_simp; (try (rw [if_neg (by omega)])); (try with_reducible rfl)))
  (try simp only [Act.put, List.setIfInBounds_toArray, List.set_cons_zero, List.set_cons_succ])
  refine rg_one 12 _ _ (by simp only [List.getElem?_toArray, List.getElem?_cons_succ, List.getElem?_cons_zero]; rfl) (by kernel_rfl) (by kernel_rfl) (by go_simp; first | exact ⟨rfl, rfl⟩ | rfl) ⟨(cell_kept (heap_alloc_old w.drew _ hrl)).trans HR0.out, (cell_kept (heap_alloc_old w.drew _ hrl)).trans HR2.out⟩ (fun hHeld => ?_)
  (try simp only [Act.put, List.setIfInBounds_toArray, List.set_cons_zero, List.set_cons_succ])
  refine rg_call 13 _ _ (by simp only [List.getElem?_toArray, List.getElem?_cons_succ, List.getElem?_cons_zero]; rfl) (by kernel_rfl) (by kernel_rfl) (fun w => by go_simp; exact ⟨rfl, rfl⟩) ?_
  refine (HADD.out _ (Below.refl _ _).drew).mono ?_
  rintro e w' ⟨rfl, h1, h2⟩
  have hk : w'.heap[r]? = w.heap[r]? := h2.block r hrl (fun e => hrp (by injection e))
  refine ⟨_, rfl, ⟨(cell_kept hk).trans HR0.out, (cell_kept hk).trans HR2.out⟩, fun hHeld2 => ?_⟩
  have H1 := Lib.hid h1
  have H2 := Lib.hid h2
  clear h1 h2 hk
  (try simp only [Act.put, List.setIfInBounds_toArray, List.set_cons_zero, List.set_cons_succ])
  (refine rg_yes 14 ?v70 (by simp only [List.getElem?_toArray, List.getElem?_cons_succ, List.getElem?_cons_zero]; rfl) (by kernel_rfl) (by kernel_rfl) (by kernel_rfl) (by exact fun _ _ _ h => h) (by kernel_rfl) (by assumption) ?y70 ?z70; case y70 => (intro w hSw; (try dsimp only at hSw); go_simp; (try (rw [if_neg (by omega)])); (try with_reducible rfl)))
  (try simp only [Act.put, List.setIfInBounds_toArray, List.set_cons_zero, List.set_cons_succ])
  refine wpAnyH_done (by kernel_rfl) ?_ _
  apply HK
  go_wp2_with fail
  go_ret
  exact ⟨rfl, H1.out, H2.out⟩
set_option maxHeartbeats 8000000 in
theorem cmp_any (q r : Nat) (m n : Nat) (w : World) (hq : BigAt w q false m) (hr : BigAt w r false n) : Calls Tryz.prog 115 #[.pointer (some ⟨q, 0, none⟩), .pointer (some ⟨r, 0, none⟩)] w fun e w' => e = .returned (.int .i64 (DG.cmpN m n)) ∧ Below w.heap.size w w' := by
  have hb : Below w.heap.size w (w.alloc (.cells #[.bool false, .slice none 0 0] 171)) := (Below.refl _ _).alloc (Nat.le_refl _) _
  have hsub : Calls Tryz.prog 141 #[.pointer (some ⟨w.heap.size, 0, none⟩), .pointer (some ⟨q, 0, none⟩), .pointer (some ⟨r, 0, none⟩)] (w.alloc (.cells #[.bool false, .slice none 0 0] 171)) fun e w' => e = .returned (.pointer (some ⟨w.heap.size, 0, none⟩)) ∧ Calls Tryz.prog 116 #[.pointer (some ⟨w.heap.size, 0, none⟩)] w' (fun e w'' => e = .returned (.int .i64 (DG.cmpN m n)) ∧ w'' = w') ∧ Below w.heap.size w w' := by
    refine (sub_any w.heap.size q r _ _ m n _ (heap_alloc_new w _) (hq.below hb) (hr.below hb) (Nat.ne_of_lt hr.lt)).mono ?_
    rintro e w' ⟨h1, ⟨s, d, h2, h3⟩, h4⟩
    have := sign_any _ s d w' h2
    rw [h3] at this
    exact ⟨h1, this, hb.grown h4 hb.size fun k hk => by injection hk with hk; omega⟩
  have HS := Lib.hid hsub
  generalize DG.cmpN m n = cmp at *
  clear hsub hq hr hb
  go_enter Tryz.func115, Tryz.ntmps115
  go_wp2_with fail
  refine HS.out.mono ?_
  rintro e w' ⟨rfl, h1, h2⟩
  have H1 := Lib.hid h1
  have H2 := Lib.hid h2
  clear h1 h2
  go_wp2_with fail
  refine H1.out.mono ?_
  rintro e w'' ⟨rfl, rfl⟩
  go_wp2_with fail
  go_ret
  exact ⟨rfl, H2.out⟩
end Go.Proofs.YtmepjcnpbjdlkaaGreatDoor
