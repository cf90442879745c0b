/- texts of this claim, laid together: CalM, CalR. -/
import Derived.Test.YtmepjcnpbjdlkaaGreatDoorQeCalA
import Derived.Test.YtmepjcnpbjdlkaaGreatDoorQeBuilder
import Derived.Test.YtmepjcnpbjdlkaaGreatDoorQeCoup
/- calendar.number, calendar.Months: by contract. -/
namespace Go.Proofs.YtmepjcnpbjdlkaaGreatDoor
set_option linter.unusedVariables false
set_option linter.unusedSimpArgs false
open Go.RowKit
attribute [local irreducible] Go.wpStill

theorem num_wrap (y a d : Int) (h1 : 1 ≤ y) (h2 : y ≤ 9999) (a0 : 0 ≤ a) (a1 : a ≤ 365) (h5 : 1 ≤ d) (h6 : d ≤ 31) :
    IntKind.i64.wrap (IntKind.i64.wrap (IntKind.i64.wrap (IntKind.i64.wrap (IntKind.i64.wrap (IntKind.i64.wrap (365 * (y - 1)) + IntKind.i64.wrap ((y - 1).tdiv 4)) - IntKind.i64.wrap ((y - 1).tdiv 100)) + IntKind.i64.wrap ((y - 1).tdiv 400)) + a) + d) = 365 * (y - 1) + (y - 1) / 4 - (y - 1) / 100 + (y - 1) / 400 + a + d := by
  have t4 : (y - 1).tdiv 4 = (y - 1) / 4 := Int.tdiv_eq_ediv_of_nonneg (by omega)
  have t100 : (y - 1).tdiv 100 = (y - 1) / 100 := Int.tdiv_eq_ediv_of_nonneg (by omega)
  have t400 : (y - 1).tdiv 400 = (y - 1) / 400 := Int.tdiv_eq_ediv_of_nonneg (by omega)
  rw [t4, t100, t400]
  rw [IntWalk.i64_in (365 * (y - 1)) (by omega), IntWalk.i64_in ((y - 1) / 4) (by omega), IntWalk.i64_in ((y - 1) / 100) (by omega), IntWalk.i64_in ((y - 1) / 400) (by omega)]
  rw [IntWalk.i64_in (365 * (y - 1) + (y - 1) / 4) (by omega), IntWalk.i64_in (365 * (y - 1) + (y - 1) / 4 - (y - 1) / 100) (by omega), IntWalk.i64_in (365 * (y - 1) + (y - 1) / 4 - (y - 1) / 100 + (y - 1) / 400) (by omega), IntWalk.i64_in (365 * (y - 1) + (y - 1) / 4 - (y - 1) / 100 + (y - 1) / 400 + a) (by omega), IntWalk.i64_in _ (by omega)]
set_option maxHeartbeats 1000000 in
theorem number_any (y m d : Int) (w : World) (h1 : 1 ≤ y) (h2 : y ≤ 9999) (h3 : 1 ≤ m) (h4 : m ≤ 12) (h5 : 1 ≤ d) (h6 : d ≤ 31) : Calls Tryz.prog 71 #[.agg #[.int .i64 y, .int .i64 m, .int .i64 d]] w (RetI (Cal.numOf y m d) w) := by
  have hA := fun w => ahead_any m w h3 (by omega)
  have hL := fun w => leap_any y w (by omega)
  have hb := Cal.aheadM_bd m
  have hN : Cal.numOf y m d = 365 * (y - 1) + (y - 1) / 4 - (y - 1) / 100 + (y - 1) / 400 + Cal.aheadM m + d + (if 2 < m then Cal.lpN y else 0) := by unfold Cal.numOf Cal.cum Cal.ys; omega
  rw [hN]
  clear hN
  generalize Cal.aheadM m = a at *
  have HA := Lib.hid hA
  have HL := Lib.hid hL
  unfold Cal.lpN
  clear hA hL
  have hrow := heap_alloc_new w (.cells #[.int .i64 y, .int .i64 m, .int .i64 d] 72)
  have HROW := Lib.hid hrow
  have HE := Lib.hid (num_wrap y a d h1 h2 hb.1 hb.2 h5 h6)
  clear hrow
  by_cases h2m : 2 < m
  · rw [if_pos h2m]
    have hgt : decide (2 < m) = true := decide_eq_true h2m
    cases hlp : Cal.lpB y
    · have HP := Lib.hid hlp
      clear hlp
      go_enter Tryz.func71, Tryz.ntmps71
      go_wp2_with fail
      rename_i HK
      refine wp_region_held_drew (S := fun w' => w'.heap[w.heap.size]? = some (.cells #[.int .i64 y, .int .i64 m, .int .i64 d] 72 (0, 0)) ∧ Below w.heap.size w w') (by kernel_rfl) ⟨HROW.out, ((Below.refl _ _).alloc (Nat.le_refl _) _).drew⟩ (fun hHeld => ?_)
      (refine rg_yes 0 ?v1 (by simp only [List.getElem?_toArray, List.getElem?_cons_succ, List.getElem?_cons_zero]; rfl) (by kernel_rfl) (by kernel_rfl) (by kernel_rfl) (by exact fun _ _ _ h => h) (by kernel_rfl) (by assumption) ?y1 ?z1; case y1 => (intro w hSw; (try dsimp only at hSw); go_simp; (try (rw [if_neg (by omega)])); (try with_reducible rfl)))
      (try simp only [Act.put, List.setIfInBounds_toArray, List.set_cons_zero, List.set_cons_succ])
      (refine rg_yes 1 ?v2 (by simp only [List.getElem?_toArray, List.getElem?_cons_succ, List.getElem?_cons_zero]; rfl) (by kernel_rfl) (by kernel_rfl) (by kernel_rfl) (by exact fun _ _ _ h => h) (by kernel_rfl) (by assumption) ?y2 ?z2; case y2 => (intro w hSw; (try dsimp only at hSw); go_simp; (try (rw [if_neg (by omega)])); (try with_reducible rfl)))
      (try simp only [Act.put, List.setIfInBounds_toArray, List.set_cons_zero, List.set_cons_succ])
      (refine rg_yes 2 ?v3 (by simp only [List.getElem?_toArray, List.getElem?_cons_succ, List.getElem?_cons_zero]; rfl) (by kernel_rfl) (by kernel_rfl) (by kernel_rfl) (by exact fun _ _ _ h => h) (by kernel_rfl) (by assumption) ?y3 ?z3; case y3 => (intro w hSw; (try dsimp only at hSw); go_simp; (try (rw [if_neg (by omega)])); (try with_reducible rfl)))
      (try simp only [Act.put, List.setIfInBounds_toArray, List.set_cons_zero, List.set_cons_succ])
      (refine rg_yes 3 ?v4 (by simp only [List.getElem?_toArray, List.getElem?_cons_succ, List.getElem?_cons_zero]; rfl) (by kernel_rfl) (by kernel_rfl) (by kernel_rfl) (by exact fun _ _ _ h => h) (by kernel_rfl) (by assumption) ?y4 ?z4; case y4 => (intro w hSw; (try dsimp only at hSw); go_simp; (try (rw [if_neg (by omega)])); (try with_reducible rfl)))
      (try simp only [Act.put, List.setIfInBounds_toArray, List.set_cons_zero, List.set_cons_succ])
      (refine rg_yes 4 ?v5 (by simp only [List.getElem?_toArray, List.getElem?_cons_succ, List.getElem?_cons_zero]; rfl) (by kernel_rfl) (by kernel_rfl) (by kernel_rfl) (by exact fun _ _ _ h => h) (by kernel_rfl) (by assumption) ?y5 ?z5; case y5 => (intro w hSw; (try dsimp only at hSw); go_simp; (try (rw [if_neg (by omega)])); (try with_reducible rfl)))
      (try simp only [Act.put, List.setIfInBounds_toArray, List.set_cons_zero, List.set_cons_succ])
      (refine rg_yes 5 ?v6 (by simp only [List.getElem?_toArray, List.getElem?_cons_succ, List.getElem?_cons_zero]; rfl) (by kernel_rfl) (by kernel_rfl) (by kernel_rfl) (by exact fun _ _ _ h => h) (by kernel_rfl) (by assumption) ?y6 ?z6; case y6 => (intro w hSw; (try dsimp only at hSw); go_simp; (try (rw [if_neg (by omega)])); (try with_reducible rfl)))
      (try simp only [Act.put, List.setIfInBounds_toArray, List.set_cons_zero, List.set_cons_succ])
      (refine rg_yes 6 ?v7 (by simp only [List.getElem?_toArray, List.getElem?_cons_succ, List.getElem?_cons_zero]; rfl) (by kernel_rfl) (by kernel_rfl) (by kernel_rfl) (by exact fun _ _ _ h => h) (by kernel_rfl) (by assumption) ?y7 ?z7; case y7 => (intro w hSw; (try dsimp only at hSw); go_simp; (try (rw [if_neg (by omega)])); (try with_reducible rfl)))
      (try simp only [Act.put, List.setIfInBounds_toArray, List.set_cons_zero, List.set_cons_succ])
      (refine rg_yes 7 ?v8 (by simp only [List.getElem?_toArray, List.getElem?_cons_succ, List.getElem?_cons_zero]; rfl) (by kernel_rfl) (by kernel_rfl) (by kernel_rfl) (by exact fun _ _ _ h => h) (by kernel_rfl) (by assumption) ?y8 ?z8; case y8 => (intro w hSw; (try dsimp only at hSw); go_simp; (try (rw [if_neg (by omega)])); (try with_reducible rfl)))
      (try simp only [Act.put, List.setIfInBounds_toArray, List.set_cons_zero, List.set_cons_succ])
      (refine rg_yes 8 ?v9 (by simp only [List.getElem?_toArray, List.getElem?_cons_succ, List.getElem?_cons_zero]; rfl) (by kernel_rfl) (by kernel_rfl) (by kernel_rfl) (by exact fun _ _ _ h => h) (by kernel_rfl) (by assumption) ?y9 ?z9; case y9 => (intro w hSw; (try dsimp only at hSw); go_simp; (try (rw [if_neg (by omega)])); (try with_reducible rfl)))
      (try simp only [Act.put, List.setIfInBounds_toArray, List.set_cons_zero, List.set_cons_succ])
      (refine rg_yes 9 ?v10 (by simp only [List.getElem?_toArray, List.getElem?_cons_succ, List.getElem?_cons_zero]; rfl) (by kernel_rfl) (by kernel_rfl) (by kernel_rfl) (by exact fun _ _ _ h => h) (by kernel_rfl) (by assumption) ?y10 ?z10; case y10 => (intro w hSw; (try dsimp only at hSw); go_simp; (try (rw [if_neg (by omega)])); (try with_reducible rfl)))
      (try simp only [Act.put, List.setIfInBounds_toArray, List.set_cons_zero, List.set_cons_succ])
      (refine rg_yes 10 ?v11 (by simp only [List.getElem?_toArray, List.getElem?_cons_succ, List.getElem?_cons_zero]; rfl) (by kernel_rfl) (by kernel_rfl) (by kernel_rfl) (by exact fun _ _ _ h => h) (by kernel_rfl) (by assumption) ?y11 ?z11; case y11 => (intro w hSw; (try dsimp only at hSw); go_simp; (try (rw [if_neg (by omega)])); (try with_reducible rfl)))
      (try simp only [Act.put, List.setIfInBounds_toArray, List.set_cons_zero, List.set_cons_succ])
      (refine rg_yes 11 ?v12 (by simp only [List.getElem?_toArray, List.getElem?_cons_succ, List.getElem?_cons_zero]; rfl) (by kernel_rfl) (by kernel_rfl) (by kernel_rfl) (by exact fun _ _ _ h => h) (by kernel_rfl) (by assumption) ?y12 ?z12; case y12 => (intro w hSw; (try dsimp only at hSw); go_simp; (try (rw [if_neg (by omega)])); (try with_reducible rfl)))
      (try simp only [Act.put, List.setIfInBounds_toArray, List.set_cons_zero, List.set_cons_succ])
      refine rg_yes 12 _ (by simp only [List.getElem?_toArray, List.getElem?_cons_succ, List.getElem?_cons_zero]; rfl) (by kernel_rfl) (by kernel_rfl) (by kernel_rfl) (by exact fun _ _ _ h => h) (by kernel_rfl) (by assumption) (by exact fun w' hS => (exec_load_one (v := .int .i64 m) (b := w.heap.size) hS.1 rfl rfl rfl (fun w => by kernel_rfl))) ?_
      (try simp only [Act.put, List.setIfInBounds_toArray, List.set_cons_zero, List.set_cons_succ])
      (refine rg_yes 15 ?v13 (by simp only [List.getElem?_toArray, List.getElem?_cons_succ, List.getElem?_cons_zero]; rfl) (by kernel_rfl) (by kernel_rfl) (by kernel_rfl) (by exact fun _ _ _ h => h) (by kernel_rfl) (by assumption) ?y13 ?z13; case y13 => (intro w hSw; (try dsimp only at hSw); go_simp; (try (rw [if_neg (by omega)])); (try with_reducible rfl)))
      (try simp only [Act.put, List.setIfInBounds_toArray, List.set_cons_zero, List.set_cons_succ])
      refine rg_yes 16 _ (by simp only [List.getElem?_toArray, List.getElem?_cons_succ, List.getElem?_cons_zero]; rfl) (by kernel_rfl) (by kernel_rfl) (by kernel_rfl) (by exact fun _ _ _ h => h) (by kernel_rfl) (by assumption) (by exact fun w' hS => (exec_load_one (v := .int .i64 d) (b := w.heap.size) hS.1 rfl rfl rfl (fun w => by kernel_rfl))) ?_
      (try simp only [Act.put, List.setIfInBounds_toArray, List.set_cons_zero, List.set_cons_succ])
      refine rg_call 13 _ _ (by simp only [List.getElem?_toArray, List.getElem?_cons_succ, List.getElem?_cons_zero]; rfl) (by kernel_rfl) (by kernel_rfl) (fun w => by go_simp; exact ⟨rfl, rfl⟩) ?_
      refine (HA.out _).mono ?_
      rintro e w1 ⟨rfl, hB1⟩
      refine ⟨_, rfl, ⟨rowAt_below hHeld.1 hB1, hHeld.2.trans (hB1.mono hHeld.2.size)⟩, fun hHeld => ?_⟩
      (refine rg_yes 14 ?v14 (by simp only [List.getElem?_toArray, List.getElem?_cons_succ, List.getElem?_cons_zero]; rfl) (by kernel_rfl) (by kernel_rfl) (by kernel_rfl) (by exact fun _ _ _ h => h) (by kernel_rfl) (by assumption) ?y14 ?z14; case y14 => (intro w hSw; (try dsimp only at hSw); go_simp; (try (rw [if_neg (by omega)])); (try with_reducible rfl)))
      (try simp only [Act.put, List.setIfInBounds_toArray, List.set_cons_zero, List.set_cons_succ])
      (refine rg_yes 17 ?v15 (by simp only [List.getElem?_toArray, List.getElem?_cons_succ, List.getElem?_cons_zero]; rfl) (by kernel_rfl) (by kernel_rfl) (by kernel_rfl) (by exact fun _ _ _ h => h) (by kernel_rfl) (by assumption) ?y15 ?z15; case y15 => (intro w hSw; (try dsimp only at hSw); go_simp; (try (rw [if_neg (by omega)])); (try with_reducible rfl)))
      (try simp only [Act.put, List.setIfInBounds_toArray, List.set_cons_zero, List.set_cons_succ])
      (refine rg_yes 18 ?v16 (by simp only [List.getElem?_toArray, List.getElem?_cons_succ, List.getElem?_cons_zero]; rfl) (by kernel_rfl) (by kernel_rfl) (by kernel_rfl) (by exact fun _ _ _ h => h) (by kernel_rfl) (by assumption) ?y16 ?z16; case y16 => (intro w hSw; (try dsimp only at hSw); go_simp; (try (rw [if_neg (by omega)])); (try with_reducible rfl)))
      (try simp only [Act.put, List.setIfInBounds_toArray, List.set_cons_zero, List.set_cons_succ])
      refine wpAnyH_done (by kernel_rfl) ?_ _
      rw [HE.out]
      apply HK
      obtain ⟨hr, hB⟩ := hHeld
      have hc0 : w1.cell? ⟨w.heap.size, 0, none⟩ = some (.int .i64 y) := by simp only [World.cell?, hr]; rfl
      have hc1 : w1.cell? ⟨w.heap.size, 1, none⟩ = some (.int .i64 m) := by simp only [World.cell?, hr]; rfl
      go_wp2_with fail
      refine (HL.out _).mono ?_
      rintro e w2 ⟨rfl, rfl⟩
      rw [HP.out]
      go_wp2_with fail
      go_ret
      exact ⟨by simp, hB⟩
    · have HP := Lib.hid hlp
      clear hlp
      go_enter Tryz.func71, Tryz.ntmps71
      go_wp2_with fail
      rename_i HK
      refine wp_region_held_drew (S := fun w' => w'.heap[w.heap.size]? = some (.cells #[.int .i64 y, .int .i64 m, .int .i64 d] 72 (0, 0)) ∧ Below w.heap.size w w') (by kernel_rfl) ⟨HROW.out, ((Below.refl _ _).alloc (Nat.le_refl _) _).drew⟩ (fun hHeld => ?_)
      (refine rg_yes 0 ?v17 (by simp only [List.getElem?_toArray, List.getElem?_cons_succ, List.getElem?_cons_zero]; rfl) (by kernel_rfl) (by kernel_rfl) (by kernel_rfl) (by exact fun _ _ _ h => h) (by kernel_rfl) (by assumption) ?y17 ?z17; case y17 => (intro w hSw; (try dsimp only at hSw); go_simp; (try (rw [if_neg (by omega)])); (try with_reducible rfl)))
      (try simp only [Act.put, List.setIfInBounds_toArray, List.set_cons_zero, List.set_cons_succ])
      (refine rg_yes 1 ?v18 (by simp only [List.getElem?_toArray, List.getElem?_cons_succ, List.getElem?_cons_zero]; rfl) (by kernel_rfl) (by kernel_rfl) (by kernel_rfl) (by exact fun _ _ _ h => h) (by kernel_rfl) (by assumption) ?y18 ?z18; case y18 => (intro w hSw; (try dsimp only at hSw); go_simp; (try (rw [if_neg (by omega)])); (try with_reducible rfl)))
      (try simp only [Act.put, List.setIfInBounds_toArray, List.set_cons_zero, List.set_cons_succ])
      (refine rg_yes 2 ?v19 (by simp only [List.getElem?_toArray, List.getElem?_cons_succ, List.getElem?_cons_zero]; rfl) (by kernel_rfl) (by kernel_rfl) (by kernel_rfl) (by exact fun _ _ _ h => h) (by kernel_rfl) (by assumption) ?y19 ?z19; case y19 => (intro w hSw; (try dsimp only at hSw); go_simp; (try (rw [if_neg (by omega)])); (try with_reducible rfl)))
      (try simp only [Act.put, List.setIfInBounds_toArray, List.set_cons_zero, List.set_cons_succ])
      (refine rg_yes 3 ?v20 (by simp only [List.getElem?_toArray, List.getElem?_cons_succ, List.getElem?_cons_zero]; rfl) (by kernel_rfl) (by kernel_rfl) (by kernel_rfl) (by exact fun _ _ _ h => h) (by kernel_rfl) (by assumption) ?y20 ?z20; case y20 => (intro w hSw; (try dsimp only at hSw); go_simp; (try (rw [if_neg (by omega)])); (try with_reducible rfl)))
      (try simp only [Act.put, List.setIfInBounds_toArray, List.set_cons_zero, List.set_cons_succ])
      (refine rg_yes 4 ?v21 (by simp only [List.getElem?_toArray, List.getElem?_cons_succ, List.getElem?_cons_zero]; rfl) (by kernel_rfl) (by kernel_rfl) (by kernel_rfl) (by exact fun _ _ _ h => h) (by kernel_rfl) (by assumption) ?y21 ?z21; case y21 => (intro w hSw; (try dsimp only at hSw); go_simp; (try (rw [if_neg (by omega)])); (try with_reducible rfl)))
      (try simp only [Act.put, List.setIfInBounds_toArray, List.set_cons_zero, List.set_cons_succ])
      (refine rg_yes 5 ?v22 (by simp only [List.getElem?_toArray, List.getElem?_cons_succ, List.getElem?_cons_zero]; rfl) (by kernel_rfl) (by kernel_rfl) (by kernel_rfl) (by exact fun _ _ _ h => h) (by kernel_rfl) (by assumption) ?y22 ?z22; case y22 => (intro w hSw; (try dsimp only at hSw); go_simp; (try (rw [if_neg (by omega)])); (try with_reducible rfl)))
      (try simp only [Act.put, List.setIfInBounds_toArray, List.set_cons_zero, List.set_cons_succ])
      (refine rg_yes 6 ?v23 (by simp only [List.getElem?_toArray, List.getElem?_cons_succ, List.getElem?_cons_zero]; rfl) (by kernel_rfl) (by kernel_rfl) (by kernel_rfl) (by exact fun _ _ _ h => h) (by kernel_rfl) (by assumption) ?y23 ?z23; case y23 => (intro w hSw; (try dsimp only at hSw); go_simp; (try (rw [if_neg (by omega)])); (try with_reducible rfl)))
      (try simp only [Act.put, List.setIfInBounds_toArray, List.set_cons_zero, List.set_cons_succ])
      (refine rg_yes 7 ?v24 (by simp only [List.getElem?_toArray, List.getElem?_cons_succ, List.getElem?_cons_zero]; rfl) (by kernel_rfl) (by kernel_rfl) (by kernel_rfl) (by exact fun _ _ _ h => h) (by kernel_rfl) (by assumption) ?y24 ?z24; case y24 => (intro w hSw; (try dsimp only at hSw); go_simp; (try (rw [if_neg (by omega)])); (try with_reducible rfl)))
      (try simp only [Act.put, List.setIfInBounds_toArray, List.set_cons_zero, List.set_cons_succ])
      (refine rg_yes 8 ?v25 (by simp only [List.getElem?_toArray, List.getElem?_cons_succ, List.getElem?_cons_zero]; rfl) (by kernel_rfl) (by kernel_rfl) (by kernel_rfl) (by exact fun _ _ _ h => h) (by kernel_rfl) (by assumption) ?y25 ?z25; case y25 => (intro w hSw; (try dsimp only at hSw); go_simp; (try (rw [if_neg (by omega)])); (try with_reducible rfl)))
      (try simp only [Act.put, List.setIfInBounds_toArray, List.set_cons_zero, List.set_cons_succ])
      (refine rg_yes 9 ?v26 (by simp only [List.getElem?_toArray, List.getElem?_cons_succ, List.getElem?_cons_zero]; rfl) (by kernel_rfl) (by kernel_rfl) (by kernel_rfl) (by exact fun _ _ _ h => h) (by kernel_rfl) (by assumption) ?y26 ?z26; case y26 => (intro w hSw; (try dsimp only at hSw); go_simp; (try (rw [if_neg (by omega)])); (try with_reducible rfl)))
      (try simp only [Act.put, List.setIfInBounds_toArray, List.set_cons_zero, List.set_cons_succ])
      (refine rg_yes 10 ?v27 (by simp only [List.getElem?_toArray, List.getElem?_cons_succ, List.getElem?_cons_zero]; rfl) (by kernel_rfl) (by kernel_rfl) (by kernel_rfl) (by exact fun _ _ _ h => h) (by kernel_rfl) (by assumption) ?y27 ?z27; case y27 => (intro w hSw; (try dsimp only at hSw); go_simp; (try (rw [if_neg (by omega)])); (try with_reducible rfl)))
      (try simp only [Act.put, List.setIfInBounds_toArray, List.set_cons_zero, List.set_cons_succ])
      (refine rg_yes 11 ?v28 (by simp only [List.getElem?_toArray, List.getElem?_cons_succ, List.getElem?_cons_zero]; rfl) (by kernel_rfl) (by kernel_rfl) (by kernel_rfl) (by exact fun _ _ _ h => h) (by kernel_rfl) (by assumption) ?y28 ?z28; case y28 => (intro w hSw; (try dsimp only at hSw); go_simp; (try (rw [if_neg (by omega)])); (try with_reducible rfl)))
      (try simp only [Act.put, List.setIfInBounds_toArray, List.set_cons_zero, List.set_cons_succ])
      refine rg_yes 12 _ (by simp only [List.getElem?_toArray, List.getElem?_cons_succ, List.getElem?_cons_zero]; rfl) (by kernel_rfl) (by kernel_rfl) (by kernel_rfl) (by exact fun _ _ _ h => h) (by kernel_rfl) (by assumption) (by exact fun w' hS => (exec_load_one (v := .int .i64 m) (b := w.heap.size) hS.1 rfl rfl rfl (fun w => by kernel_rfl))) ?_
      (try simp only [Act.put, List.setIfInBounds_toArray, List.set_cons_zero, List.set_cons_succ])
      (refine rg_yes 15 ?v29 (by simp only [List.getElem?_toArray, List.getElem?_cons_succ, List.getElem?_cons_zero]; rfl) (by kernel_rfl) (by kernel_rfl) (by kernel_rfl) (by exact fun _ _ _ h => h) (by kernel_rfl) (by assumption) ?y29 ?z29; case y29 => (intro w hSw; (try dsimp only at hSw); go_simp; (try (rw [if_neg (by omega)])); (try with_reducible rfl)))
      (try simp only [Act.put, List.setIfInBounds_toArray, List.set_cons_zero, List.set_cons_succ])
      refine rg_yes 16 _ (by simp only [List.getElem?_toArray, List.getElem?_cons_succ, List.getElem?_cons_zero]; rfl) (by kernel_rfl) (by kernel_rfl) (by kernel_rfl) (by exact fun _ _ _ h => h) (by kernel_rfl) (by assumption) (by exact fun w' hS => (exec_load_one (v := .int .i64 d) (b := w.heap.size) hS.1 rfl rfl rfl (fun w => by kernel_rfl))) ?_
      (try simp only [Act.put, List.setIfInBounds_toArray, List.set_cons_zero, List.set_cons_succ])
      refine rg_call 13 _ _ (by simp only [List.getElem?_toArray, List.getElem?_cons_succ, List.getElem?_cons_zero]; rfl) (by kernel_rfl) (by kernel_rfl) (fun w => by go_simp; exact ⟨rfl, rfl⟩) ?_
      refine (HA.out _).mono ?_
      rintro e w1 ⟨rfl, hB1⟩
      refine ⟨_, rfl, ⟨rowAt_below hHeld.1 hB1, hHeld.2.trans (hB1.mono hHeld.2.size)⟩, fun hHeld => ?_⟩
      (refine rg_yes 14 ?v30 (by simp only [List.getElem?_toArray, List.getElem?_cons_succ, List.getElem?_cons_zero]; rfl) (by kernel_rfl) (by kernel_rfl) (by kernel_rfl) (by exact fun _ _ _ h => h) (by kernel_rfl) (by assumption) ?y30 ?z30; case y30 => (intro w hSw; (try dsimp only at hSw); go_simp; (try (rw [if_neg (by omega)])); (try with_reducible rfl)))
      (try simp only [Act.put, List.setIfInBounds_toArray, List.set_cons_zero, List.set_cons_succ])
      (refine rg_yes 17 ?v31 (by simp only [List.getElem?_toArray, List.getElem?_cons_succ, List.getElem?_cons_zero]; rfl) (by kernel_rfl) (by kernel_rfl) (by kernel_rfl) (by exact fun _ _ _ h => h) (by kernel_rfl) (by assumption) ?y31 ?z31; case y31 => (intro w hSw; (try dsimp only at hSw); go_simp; (try (rw [if_neg (by omega)])); (try with_reducible rfl)))
      (try simp only [Act.put, List.setIfInBounds_toArray, List.set_cons_zero, List.set_cons_succ])
      (refine rg_yes 18 ?v32 (by simp only [List.getElem?_toArray, List.getElem?_cons_succ, List.getElem?_cons_zero]; rfl) (by kernel_rfl) (by kernel_rfl) (by kernel_rfl) (by exact fun _ _ _ h => h) (by kernel_rfl) (by assumption) ?y32 ?z32; case y32 => (intro w hSw; (try dsimp only at hSw); go_simp; (try (rw [if_neg (by omega)])); (try with_reducible rfl)))
      (try simp only [Act.put, List.setIfInBounds_toArray, List.set_cons_zero, List.set_cons_succ])
      refine wpAnyH_done (by kernel_rfl) ?_ _
      rw [HE.out]
      apply HK
      obtain ⟨hr, hB⟩ := hHeld
      have hc0 : w1.cell? ⟨w.heap.size, 0, none⟩ = some (.int .i64 y) := by simp only [World.cell?, hr]; rfl
      have hc1 : w1.cell? ⟨w.heap.size, 1, none⟩ = some (.int .i64 m) := by simp only [World.cell?, hr]; rfl
      go_wp2_with fail
      refine (HL.out _).mono ?_
      rintro e w2 ⟨rfl, rfl⟩
      rw [HP.out]
      go_wp2_with fail
      go_ret
      exact ⟨by simp, hB⟩
  · rw [if_neg h2m]
    have hgt : decide (2 < m) = false := decide_eq_false h2m
    go_enter Tryz.func71, Tryz.ntmps71
    go_wp2_with fail
    rename_i HK
    refine wp_region_held_drew (S := fun w' => w'.heap[w.heap.size]? = some (.cells #[.int .i64 y, .int .i64 m, .int .i64 d] 72 (0, 0)) ∧ Below w.heap.size w w') (by kernel_rfl) ⟨HROW.out, ((Below.refl _ _).alloc (Nat.le_refl _) _).drew⟩ (fun hHeld => ?_)
    (refine rg_yes 0 ?v33 (by simp only [List.getElem?_toArray, List.getElem?_cons_succ, List.getElem?_cons_zero]; rfl) (by kernel_rfl) (by kernel_rfl) (by kernel_rfl) (by exact fun _ _ _ h => h) (by kernel_rfl) (by assumption) ?y33 ?z33; case y33 => (intro w hSw; (try dsimp only at hSw); go_simp; (try (rw [if_neg (by omega)])); (try with_reducible rfl)))
    (try simp only [Act.put, List.setIfInBounds_toArray, List.set_cons_zero, List.set_cons_succ])
    (refine rg_yes 1 ?v34 (by simp only [List.getElem?_toArray, List.getElem?_cons_succ, List.getElem?_cons_zero]; rfl) (by kernel_rfl) (by kernel_rfl) (by kernel_rfl) (by exact fun _ _ _ h => h) (by kernel_rfl) (by assumption) ?y34 ?z34; case y34 => (intro w hSw; (try dsimp only at hSw); go_simp; (try (rw [if_neg (by omega)])); (try with_reducible rfl)))
    (try simp only [Act.put, List.setIfInBounds_toArray, List.set_cons_zero, List.set_cons_succ])
    (refine rg_yes 2 ?v35 (by simp only [List.getElem?_toArray, List.getElem?_cons_succ, List.getElem?_cons_zero]; rfl) (by kernel_rfl) (by kernel_rfl) (by kernel_rfl) (by exact fun _ _ _ h => h) (by kernel_rfl) (by assumption) ?y35 ?z35; case y35 => (intro w hSw; (try dsimp only at hSw); go_simp; (try (rw [if_neg (by omega)])); (try with_reducible rfl)))
    (try simp only [Act.put, List.setIfInBounds_toArray, List.set_cons_zero, List.set_cons_succ])
    (refine rg_yes 3 ?v36 (by simp only [List.getElem?_toArray, List.getElem?_cons_succ, List.getElem?_cons_zero]; rfl) (by kernel_rfl) (by kernel_rfl) (by kernel_rfl) (by exact fun _ _ _ h => h) (by kernel_rfl) (by assumption) ?y36 ?z36; case y36 => (intro w hSw; (try dsimp only at hSw); go_simp; (try (rw [if_neg (by omega)])); (try with_reducible rfl)))
    (try simp only [Act.put, List.setIfInBounds_toArray, List.set_cons_zero, List.set_cons_succ])
    (refine rg_yes 4 ?v37 (by simp only [List.getElem?_toArray, List.getElem?_cons_succ, List.getElem?_cons_zero]; rfl) (by kernel_rfl) (by kernel_rfl) (by kernel_rfl) (by exact fun _ _ _ h => h) (by kernel_rfl) (by assumption) ?y37 ?z37; case y37 => (intro w hSw; (try dsimp only at hSw); go_simp; (try (rw [if_neg (by omega)])); (try with_reducible rfl)))
    (try simp only [Act.put, List.setIfInBounds_toArray, List.set_cons_zero, List.set_cons_succ])
    (refine rg_yes 5 ?v38 (by simp only [List.getElem?_toArray, List.getElem?_cons_succ, List.getElem?_cons_zero]; rfl) (by kernel_rfl) (by kernel_rfl) (by kernel_rfl) (by exact fun _ _ _ h => h) (by kernel_rfl) (by assumption) ?y38 ?z38; case y38 => (intro w hSw; (try dsimp only at hSw); go_simp; (try (rw [if_neg (by omega)])); (try with_reducible rfl)))
    (try simp only [Act.put, List.setIfInBounds_toArray, List.set_cons_zero, List.set_cons_succ])
    (refine rg_yes 6 ?v39 (by simp only [List.getElem?_toArray, List.getElem?_cons_succ, List.getElem?_cons_zero]; rfl) (by kernel_rfl) (by kernel_rfl) (by kernel_rfl) (by exact fun _ _ _ h => h) (by kernel_rfl) (by assumption) ?y39 ?z39; case y39 => (intro w hSw; (try dsimp only at hSw); go_simp; (try (rw [if_neg (by omega)])); (try with_reducible rfl)))
    (try simp only [Act.put, List.setIfInBounds_toArray, List.set_cons_zero, List.set_cons_succ])
    (refine rg_yes 7 ?v40 (by simp only [List.getElem?_toArray, List.getElem?_cons_succ, List.getElem?_cons_zero]; rfl) (by kernel_rfl) (by kernel_rfl) (by kernel_rfl) (by exact fun _ _ _ h => h) (by kernel_rfl) (by assumption) ?y40 ?z40; case y40 => (intro w hSw; (try dsimp only at hSw); go_simp; (try (rw [if_neg (by omega)])); (try with_reducible rfl)))
    (try simp only [Act.put, List.setIfInBounds_toArray, List.set_cons_zero, List.set_cons_succ])
    (refine rg_yes 8 ?v41 (by simp only [List.getElem?_toArray, List.getElem?_cons_succ, List.getElem?_cons_zero]; rfl) (by kernel_rfl) (by kernel_rfl) (by kernel_rfl) (by exact fun _ _ _ h => h) (by kernel_rfl) (by assumption) ?y41 ?z41; case y41 => (intro w hSw; (try dsimp only at hSw); go_simp; (try (rw [if_neg (by omega)])); (try with_reducible rfl)))
    (try simp only [Act.put, List.setIfInBounds_toArray, List.set_cons_zero, List.set_cons_succ])
    (refine rg_yes 9 ?v42 (by simp only [List.getElem?_toArray, List.getElem?_cons_succ, List.getElem?_cons_zero]; rfl) (by kernel_rfl) (by kernel_rfl) (by kernel_rfl) (by exact fun _ _ _ h => h) (by kernel_rfl) (by assumption) ?y42 ?z42; case y42 => (intro w hSw; (try dsimp only at hSw); go_simp; (try (rw [if_neg (by omega)])); (try with_reducible rfl)))
    (try simp only [Act.put, List.setIfInBounds_toArray, List.set_cons_zero, List.set_cons_succ])
    (refine rg_yes 10 ?v43 (by simp only [List.getElem?_toArray, List.getElem?_cons_succ, List.getElem?_cons_zero]; rfl) (by kernel_rfl) (by kernel_rfl) (by kernel_rfl) (by exact fun _ _ _ h => h) (by kernel_rfl) (by assumption) ?y43 ?z43; case y43 => (intro w hSw; (try dsimp only at hSw); go_simp; (try (rw [if_neg (by omega)])); (try with_reducible rfl)))
    (try simp only [Act.put, List.setIfInBounds_toArray, List.set_cons_zero, List.set_cons_succ])
    (refine rg_yes 11 ?v44 (by simp only [List.getElem?_toArray, List.getElem?_cons_succ, List.getElem?_cons_zero]; rfl) (by kernel_rfl) (by kernel_rfl) (by kernel_rfl) (by exact fun _ _ _ h => h) (by kernel_rfl) (by assumption) ?y44 ?z44; case y44 => (intro w hSw; (try dsimp only at hSw); go_simp; (try (rw [if_neg (by omega)])); (try with_reducible rfl)))
    (try simp only [Act.put, List.setIfInBounds_toArray, List.set_cons_zero, List.set_cons_succ])
    refine rg_yes 12 _ (by simp only [List.getElem?_toArray, List.getElem?_cons_succ, List.getElem?_cons_zero]; rfl) (by kernel_rfl) (by kernel_rfl) (by kernel_rfl) (by exact fun _ _ _ h => h) (by kernel_rfl) (by assumption) (by exact fun w' hS => (exec_load_one (v := .int .i64 m) (b := w.heap.size) hS.1 rfl rfl rfl (fun w => by kernel_rfl))) ?_
    (try simp only [Act.put, List.setIfInBounds_toArray, List.set_cons_zero, List.set_cons_succ])
    (refine rg_yes 15 ?v45 (by simp only [List.getElem?_toArray, List.getElem?_cons_succ, List.getElem?_cons_zero]; rfl) (by kernel_rfl) (by kernel_rfl) (by kernel_rfl) (by exact fun _ _ _ h => h) (by kernel_rfl) (by assumption) ?y45 ?z45; case y45 => (intro w hSw; (try dsimp only at hSw); go_simp; (try (rw [if_neg (by omega)])); (try with_reducible rfl)))
    (try simp only [Act.put, List.setIfInBounds_toArray, List.set_cons_zero, List.set_cons_succ])
    refine rg_yes 16 _ (by simp only [List.getElem?_toArray, List.getElem?_cons_succ, List.getElem?_cons_zero]; rfl) (by kernel_rfl) (by kernel_rfl) (by kernel_rfl) (by exact fun _ _ _ h => h) (by kernel_rfl) (by assumption) (by exact fun w' hS => (exec_load_one (v := .int .i64 d) (b := w.heap.size) hS.1 rfl rfl rfl (fun w => by kernel_rfl))) ?_
    (try simp only [Act.put, List.setIfInBounds_toArray, List.set_cons_zero, List.set_cons_succ])
    refine rg_call 13 _ _ (by simp only [List.getElem?_toArray, List.getElem?_cons_succ, List.getElem?_cons_zero]; rfl) (by kernel_rfl) (by kernel_rfl) (fun w => by go_simp; exact ⟨rfl, rfl⟩) ?_
    refine (HA.out _).mono ?_
    rintro e w1 ⟨rfl, hB1⟩
    refine ⟨_, rfl, ⟨rowAt_below hHeld.1 hB1, hHeld.2.trans (hB1.mono hHeld.2.size)⟩, fun hHeld => ?_⟩
    (refine rg_yes 14 ?v46 (by simp only [List.getElem?_toArray, List.getElem?_cons_succ, List.getElem?_cons_zero]; rfl) (by kernel_rfl) (by kernel_rfl) (by kernel_rfl) (by exact fun _ _ _ h => h) (by kernel_rfl) (by assumption) ?y46 ?z46; case y46 => (intro w hSw; (try dsimp only at hSw); go_simp; (try (rw [if_neg (by omega)])); (try with_reducible rfl)))
    (try simp only [Act.put, List.setIfInBounds_toArray, List.set_cons_zero, List.set_cons_succ])
    (refine rg_yes 17 ?v47 (by simp only [List.getElem?_toArray, List.getElem?_cons_succ, List.getElem?_cons_zero]; rfl) (by kernel_rfl) (by kernel_rfl) (by kernel_rfl) (by exact fun _ _ _ h => h) (by kernel_rfl) (by assumption) ?y47 ?z47; case y47 => (intro w hSw; (try dsimp only at hSw); go_simp; (try (rw [if_neg (by omega)])); (try with_reducible rfl)))
    (try simp only [Act.put, List.setIfInBounds_toArray, List.set_cons_zero, List.set_cons_succ])
    (refine rg_yes 18 ?v48 (by simp only [List.getElem?_toArray, List.getElem?_cons_succ, List.getElem?_cons_zero]; rfl) (by kernel_rfl) (by kernel_rfl) (by kernel_rfl) (by exact fun _ _ _ h => h) (by kernel_rfl) (by assumption) ?y48 ?z48; case y48 => (intro w hSw; (try dsimp only at hSw); go_simp; (try (rw [if_neg (by omega)])); (try with_reducible rfl)))
    (try simp only [Act.put, List.setIfInBounds_toArray, List.set_cons_zero, List.set_cons_succ])
    refine wpAnyH_done (by kernel_rfl) ?_ _
    rw [HE.out]
    apply HK
    obtain ⟨hr, hB⟩ := hHeld
    have hc0 : w1.cell? ⟨w.heap.size, 0, none⟩ = some (.int .i64 y) := by simp only [World.cell?, hr]; rfl
    have hc1 : w1.cell? ⟨w.heap.size, 1, none⟩ = some (.int .i64 m) := by simp only [World.cell?, hr]; rfl
    go_wp2_with fail
    go_ret
    exact ⟨by simp, hB⟩
def MonthsP (n k : Int) (w : World) (e : Ending) (w' : World) : Prop := ∃ y m d : Int, Cal.Is n y m d ∧ Below w.heap.size w w' ∧ ((Cal.mon y m + k < 12 ∧ ∃ t x, e = .returned (.tuple #[.int .i64 0, .iface t x])) ∨ (12 ≤ Cal.mon y m + k ∧ e = .returned (.tuple #[.int .i64 (Cal.onM (Cal.mon y m + k) d), .nilIface])))
theorem noDay_any (w : World) : Calls Tryz.prog 68 #[] w (fun e w' => ∃ t x, e = .returned (.iface t x) ∧ w = w') := by
  go_enter Tryz.func68, Tryz.ntmps68
  go_wp2_with fail
  go_ret
  exact ⟨_, _, rfl, rfl⟩
/-- a number of a day, so many months ahead: too many ahead even of the calendar's last -/
theorem months_far (n k : Int) (w : World) (h : dayB n = true) (hk : k < -119988) (hk0 : -1000000000 ≤ k) : Calls Tryz.prog 25 #[.int .i64 n, .int .i64 k] w (fun e w' => Below w.heap.size w w' ∧ ∃ t x, e = .returned (.tuple #[.int .i64 0, .iface t x])) := by
  have hlt : decide (k < -119988) = true := decide_eq_true hk
  have H := Lib.hid h
  clear h
  go_enter Tryz.func25, Tryz.ntmps25
  go_wp2_with (refine (isDay_any n _).mono ?_; rintro e w1 ⟨rfl, rfl⟩; rw [H.out])
  refine (noDay_any _).mono ?_
  rintro e w2 ⟨t, x, rfl, rfl⟩
  go_wp2_with fail
  go_ret2
  exact ⟨Below.refl _ _, _, _, rfl⟩
set_option maxHeartbeats 4000000 in
theorem months_near (n k : Int) (w : World) (h : dayB n = true) (hk : -119988 ≤ k) (hk0 : k ≤ 0) : Calls Tryz.prog 25 #[.int .i64 n, .int .i64 k] w (MonthsP n k w) := by
  have hlt : decide (k < -119988) = false := decide_eq_false (by omega)
  have hgt : decide (119988 < k) = false := decide_eq_false (by omega)
  have hb : 1 ≤ n ∧ n ≤ 3652059 := by simpa [dayB] using h
  obtain ⟨n0, n1⟩ := hb
  have H := Lib.hid h
  clear h
  go_enter Tryz.func25, Tryz.ntmps25
  go_wp2_with (refine (isDay_any n _).mono ?_; rintro e w1 ⟨rfl, rfl⟩; rw [H.out])
  refine (date_any n _ n0 n1).mono ?_
  rintro e w1 ⟨y, m, d, rfl, hI, hB⟩
  have hI' := hI
  obtain ⟨y1, y2, m1, m2, d1, d2, -⟩ := hI'
  have hml := (Cal.mlen_bd y m m1 m2).2
  have hd31 : d ≤ 31 := by omega
  clear hml d2
  have hon := fun h0 => Cal.onM_is (M := Cal.mon y m + k) (d := d) h0 (by unfold Cal.mon; omega) d1
  have HON := Lib.hid hon
  clear hon
  have hM : 12 * y + m - 1 + k = Cal.mon y m + k := by unfold Cal.mon; omega
  obtain ⟨M, hMM⟩ : ∃ M, M = Cal.mon y m + k := ⟨_, rfl⟩
  rw [← hMM] at hM HON
  have hMb : M < 120000 := by omega
  have hg2 : decide (120000 ≤ 12 * y + m - 1 + k) = false := decide_eq_false (by omega)
  rcases Int.lt_or_le M 12 with hM12 | hM12
  · have hl2 : decide (12 * y + m - 1 + k < 12) = true := decide_eq_true (by omega)
    have HM := Lib.hid hM
    have HMM := Lib.hid hMM
    have HI := Lib.hid hI
    clear hM hMM hI
    go_wp2_with fail
    refine (noDay_any _).mono ?_
    rintro e w2 ⟨t, x, rfl, rfl⟩
    go_wp2_with fail
    go_ret2
    refine ⟨y, m, d, HI.out, ?_, .inl ⟨by rw [← HMM.out]; exact hM12, t, x, rfl⟩⟩
    exact hB.alloc hB.size _
  · have hl2 : decide (12 * y + m - 1 + k < 12) = false := decide_eq_false (by omega)
    have h120 : 12 ≤ 12 * y + m - 1 + k := by omega
    have h121 : 12 * y + m - 1 + k < 120000 := by omega
    have HM := Lib.hid hM
    have HMM := Lib.hid hMM
    have HI := Lib.hid hI
    clear hM hMM hI
    go_wp2_with fail
    rename_i HK
    rw [HM.out]
    have hY : 0 ≤ M / 12 ∧ 1 ≤ M % 12 + 1 ∧ M % 12 + 1 ≤ 12 := by omega
    obtain ⟨hY0, hY1, hY2⟩ := hY
    have hon := HON.out hM12
    have hY3 := hon.2.1
    have hY4 := hon.1
    have hP := Lib.hid hon
    clear hon h120 h121 hl2 hg2 hlt hgt
    have hrow := heap_alloc_new w1 (.cells #[.int .i64 (M / 12), .int .i64 (M % 12 + 1), .int .i64 d] 72)
    have hbw := hB.alloc hB.size (.cells #[.int .i64 (M / 12), .int .i64 (M % 12 + 1), .int .i64 d] 72)
    have hms := hB.size
    clear hB
    generalize hg : w1.heap.size = g at *
    generalize w1.alloc (.cells #[.int .i64 (M / 12), .int .i64 (M % 12 + 1), .int .i64 d] 72) = w4 at *
    clear hg
    generalize hYY : M / 12 = Y at *
    generalize hMo : M % 12 + 1 = Mo at *
    have hml2 := Cal.mlen_bd Y Mo hY1 hY2
    have HYY := Lib.hid hYY
    have HMo := Lib.hid hMo
    clear hYY hMo
    refine wp_region_till (k := 9) (S := fun w' => w'.heap[g]? = some (.cells #[.int .i64 Y, .int .i64 Mo, .int .i64 d] 72 (0, 0)) ∧ Below w.heap.size w w') (by kernel_rfl) ?_
    have hHeld : w4.drew.heap[g]? = some (.cells #[.int .i64 Y, .int .i64 Mo, .int .i64 d] 72 (0, 0)) ∧ Below w.heap.size w w4.drew := ⟨hrow, hbw.drew⟩
    clear hrow hbw
    (refine rt_yes 0 ?v49 (by simp only [List.getElem?_toArray, List.getElem?_cons_succ, List.getElem?_cons_zero]; rfl) (by kernel_rfl) (by kernel_rfl) (by kernel_rfl) (by kernel_rfl) (by exact fun _ _ _ h => h) (by kernel_rfl) (by exact fun _ => hHeld) ?y49 ?z49; case y49 => (intro w; go_simp; (try (rw [if_neg (by omega)])); (try with_reducible rfl)))
    (try simp only [Act.put, List.setIfInBounds_toArray, List.set_cons_zero, List.set_cons_succ])
    refine rt_load 1 _ (by simp only [List.getElem?_toArray, List.getElem?_cons_succ, List.getElem?_cons_zero]; rfl) (by kernel_rfl) (by kernel_rfl) (by kernel_rfl) (by kernel_rfl) (by kernel_rfl) (by kernel_rfl) (by exact fun _ _ _ h => h) (by kernel_rfl) hHeld (fun w' hS => (exec_load_one (v := .int .i64 d) (b := g) hS.1 rfl rfl rfl (fun w => by kernel_rfl))) ?_
    (try simp only [Act.put, List.setIfInBounds_toArray, List.set_cons_zero, List.set_cons_succ])
    (refine rt_yes 2 ?v50 (by simp only [List.getElem?_toArray, List.getElem?_cons_succ, List.getElem?_cons_zero]; rfl) (by kernel_rfl) (by kernel_rfl) (by kernel_rfl) (by kernel_rfl) (by exact fun _ _ _ h => h) (by kernel_rfl) (by exact fun _ => hHeld) ?y50 ?z50; case y50 => (intro w; go_simp; (try (rw [if_neg (by omega)])); (try with_reducible rfl)))
    (try simp only [Act.put, List.setIfInBounds_toArray, List.set_cons_zero, List.set_cons_succ])
    refine rt_load 3 _ (by simp only [List.getElem?_toArray, List.getElem?_cons_succ, List.getElem?_cons_zero]; rfl) (by kernel_rfl) (by kernel_rfl) (by kernel_rfl) (by kernel_rfl) (by kernel_rfl) (by kernel_rfl) (by exact fun _ _ _ h => h) (by kernel_rfl) hHeld (fun w' hS => (exec_load_one (v := .int .i64 Y) (b := g) hS.1 rfl rfl rfl (fun w => by kernel_rfl))) ?_
    (try simp only [Act.put, List.setIfInBounds_toArray, List.set_cons_zero, List.set_cons_succ])
    (refine rt_yes 4 ?v51 (by simp only [List.getElem?_toArray, List.getElem?_cons_succ, List.getElem?_cons_zero]; rfl) (by kernel_rfl) (by kernel_rfl) (by kernel_rfl) (by kernel_rfl) (by exact fun _ _ _ h => h) (by kernel_rfl) (by exact fun _ => hHeld) ?y51 ?z51; case y51 => (intro w; go_simp; (try (rw [if_neg (by omega)])); (try with_reducible rfl)))
    (try simp only [Act.put, List.setIfInBounds_toArray, List.set_cons_zero, List.set_cons_succ])
    refine rt_load 5 _ (by simp only [List.getElem?_toArray, List.getElem?_cons_succ, List.getElem?_cons_zero]; rfl) (by kernel_rfl) (by kernel_rfl) (by kernel_rfl) (by kernel_rfl) (by kernel_rfl) (by kernel_rfl) (by exact fun _ _ _ h => h) (by kernel_rfl) hHeld (fun w' hS => (exec_load_one (v := .int .i64 Mo) (b := g) hS.1 rfl rfl rfl (fun w => by kernel_rfl))) ?_
    (try simp only [Act.put, List.setIfInBounds_toArray, List.set_cons_zero, List.set_cons_succ])
    refine rt_call 6 _ _ (by simp only [List.getElem?_toArray, List.getElem?_cons_succ, List.getElem?_cons_zero]; rfl) (by kernel_rfl) (by kernel_rfl) (fun w => by go_simp; exact ⟨rfl, rfl⟩) ?_
    refine (length_any Y Mo _ hY0 hY1 hY2).mono ?_
    rintro e w5 ⟨rfl, hb5⟩
    have hHeld5 : w5.heap[g]? = some (.cells #[.int .i64 Y, .int .i64 Mo, .int .i64 d] 72 (0, 0)) ∧ Below w.heap.size w w5 := ⟨rowAt_below hHeld.1 hb5, hHeld.2.trans (hb5.mono hHeld.2.size)⟩
    replace hHeld := hHeld5
    clear hHeld5 hb5
    refine ⟨_, rfl, fun _ => hHeld, ?_⟩
    generalize Cal.mlen Y Mo = L at *
    (refine rt_yes 7 ?v52 (by simp only [List.getElem?_toArray, List.getElem?_cons_succ, List.getElem?_cons_zero]; rfl) (by kernel_rfl) (by kernel_rfl) (by kernel_rfl) (by kernel_rfl) (by exact fun _ _ _ h => h) (by kernel_rfl) (by exact fun _ => hHeld) ?y52 ?z52; case y52 => (intro w; go_simp; (try (rw [if_neg (by omega)])); (try with_reducible rfl)))
    (try simp only [Act.put, List.setIfInBounds_toArray, List.set_cons_zero, List.set_cons_succ])
    (refine rt_yes 8 ?v53 (by simp only [List.getElem?_toArray, List.getElem?_cons_succ, List.getElem?_cons_zero]; rfl) (by kernel_rfl) (by kernel_rfl) (by kernel_rfl) (by kernel_rfl) (by exact fun _ _ _ h => h) (by kernel_rfl) (by exact fun _ => hHeld) ?y53 ?z53; case y53 => (intro w; go_simp; (try (rw [if_neg (by omega)])); (try with_reducible rfl)))
    (try simp only [Act.put, List.setIfInBounds_toArray, List.set_cons_zero, List.set_cons_succ])
    have hc2 : w5.cell? ⟨g, 2, none⟩ = some (.int .i64 d) := by simp only [World.cell?, hHeld.1]; rfl
    have hz : ∀ o, w5.frozen? ⟨g, o, none⟩ = false := fun o => by simp [World.frozen?, hHeld.1]
    refine rt_skip 9 (w5.setCell ⟨g, 2, none⟩ (.int .i64 (min d L))) (by simp only [List.getElem?_toArray, List.getElem?_cons_succ, List.getElem?_cons_zero]; rfl) (by kernel_rfl) (by kernel_rfl) (by go_simp) (till_past (by kernel_rfl)) ?_
    (try simp only [Act.put, List.setIfInBounds_toArray, List.set_cons_zero, List.set_cons_succ])
    refine rt_done (by kernel_rfl) ?_ _
    have hmin : 1 ≤ min d L ∧ min d L ≤ 31 := by omega
    have h6 : (w5.setCell ⟨g, 2, none⟩ (.int .i64 (min d L))).heap[g]? = some (.cells #[.int .i64 Y, .int .i64 Mo, .int .i64 (min d L)] 72 (0, 0)) := setCell_row hHeld.1 2 _
    have hb6 := below_setCell_ge (p := ⟨g, 2, none⟩) hHeld.2 hms (.int .i64 (min d L))
    have HR := hP.out.2.2.2.2.2.2
    generalize min d L = D at *
    obtain ⟨hD0, hD1⟩ := hmin
    generalize w5.setCell ⟨g, 2, none⟩ (.int .i64 D) = w6 at *
    have H6 := Lib.hid h6
    have HR2 := Lib.hid HR
    clear h6 HR hHeld hc2 hz
    apply HK
    go_wp2_with (refine wpList_val (.agg #[.int .i64 Y, .int .i64 Mo, .int .i64 D]) (by kernel_rfl) (exec_load_row H6.out rfl rfl Tryz.underlying72 rfl (by kernel_rfl)) ?_)
    refine (number_any Y Mo D _ hY4 hY3 hY1 hY2 hD0 hD1).mono ?_
    rintro e w7 ⟨rfl, hb7⟩
    go_wp2_with fail
    go_ret2
    refine ⟨y, m, d, HI.out, hb6.trans (hb7.mono hb6.size), .inr ⟨by rw [← HMM.out]; exact hM12, ?_⟩⟩
    rw [← HMM.out, HR2.out]
    rfl
/-- months ahead of a day: the day, or there is none -/
theorem months_any (n k : Int) (w : World) (h : dayB n = true) (hk0 : k ≤ 0) (hk : -1000000000 ≤ k) : Calls Tryz.prog 25 #[.int .i64 n, .int .i64 k] w (MonthsP n k w) := by
  rcases Int.lt_or_le k (-119988) with hl | hl
  · have hb : 1 ≤ n ∧ n ≤ 3652059 := by simpa [dayB] using h
    obtain ⟨y, m, d, hI⟩ := Cal.is_ex hb.1 hb.2
    refine (months_far n k w h hl hk).mono ?_
    rintro e w' ⟨hB, t, x, rfl⟩
    obtain ⟨y1, y2, m1, m2, -⟩ := id hI
    exact ⟨y, m, d, hI, hB, .inl ⟨by unfold Cal.mon; omega, t, x, rfl⟩⟩
  · exact months_near n k w h hl hk0
end Go.Proofs.YtmepjcnpbjdlkaaGreatDoor
/- the document's own calendar: Leap, MonthDays, yearDays: by contract. -/
namespace Go.Proofs.YtmepjcnpbjdlkaaGreatDoor
set_option linter.unusedVariables false
set_option linter.unusedSimpArgs false
open Go.RowKit
attribute [local irreducible] Go.wpStill

theorem cells_of_row3 {w : World} {g : Nat} {x y z : Value} {t : TypeId} (h : w.heap[g]? = some (.cells #[x, y, z] t (0, 0))) : w.cell? ⟨g, 0, none⟩ = some x ∧ w.cell? ⟨g, 1, none⟩ = some y ∧ w.cell? ⟨g, 2, none⟩ = some z := by
  refine ⟨?_, ?_, ?_⟩ <;> (simp only [World.cell?, h]; rfl)
end Go.Proofs.YtmepjcnpbjdlkaaGreatDoor
