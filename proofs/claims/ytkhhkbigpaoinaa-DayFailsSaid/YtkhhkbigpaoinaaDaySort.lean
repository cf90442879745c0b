/- Entries compared by their day and number; a row of pointers to entries sorted: by contract. -/
import Derived.Test.YtkhhkbigpaoinaaDayLeave
import Derived.Test.YtkhhkbigpaoinaaSortR
namespace Go.Proofs.Ytkhhkbigpaoinaa
set_option linter.unusedVariables false
set_option linter.unusedSimpArgs false
open Go.RowKit Go.Sort Go.Shelf
attribute [local irreducible] Go.wpStill

set_option maxRecDepth 100000 in
set_option maxHeartbeats 2000000 in
theorem dueCmp_any (w : World) (b1 b2 : Nat) (i1 i2 : Int) (e1 e2 : EntV) (h1 : w.heap[b1]? = some (.cells (e1.cells i1) 76 (0, 0))) (h2 : w.heap[b2]? = some (.cells (e2.cells i2) 76 (0, 0))) :
    Calls Try.prog 43 #[.pointer (some ⟨b1, 0, none⟩), .pointer (some ⟨b2, 0, none⟩)] w fun e w' => e = .returned (.int .i64 (cmpK (e1.settle, i1) (e2.settle, i2))) ∧ ∃ q os', w' = grow (w.drewN q) os' := by
  obtain ⟨a, v1, f1, d1, n1⟩ := e1
  obtain ⟨c, v2, f2, d2, n2⟩ := e2
  have H1 := Lib.hid h1
  have H2 := Lib.hid h2
  have L1 := Lib.hid (lt_of_block h1)
  have L2 := Lib.hid (lt_of_block h2)
  clear h1 h2
  go_enter Try.func43, Try.ntmps43
  go_wp2_with fail
  rename_i HK
  refine wp_region_held_drew (S := fun w' => ∃ os, w' = grow w.drew os) (by kernel_rfl) ⟨#[], by simp⟩ (fun hHeld => ?_)
  (refine rg_yes 0 ?v1 (by simp only [List.getElem?_toArray, List.getElem?_cons_succ, List.getElem?_cons_zero]; rfl) (by kernel_rfl) (by kernel_rfl) (by kernel_rfl) (by exact fun _ _ _ h => h) (by kernel_rfl) (by assumption) ?y1 ?z1; case y1 => (intro w hSw; (try dsimp only at hSw); go_simp; (try (rw [if_neg (by omega)])); (try (rw [if_pos (by omega)])); (try with_reducible rfl)))
  (try simp only [Act.put, List.setIfInBounds_toArray, List.set_cons_zero, List.set_cons_succ])
  (refine rg_yes 1 ?v2 (by simp only [List.getElem?_toArray, List.getElem?_cons_succ, List.getElem?_cons_zero]; rfl) (by kernel_rfl) (by kernel_rfl) (by kernel_rfl) (by exact fun _ _ _ h => h) (by kernel_rfl) (by assumption) ?y2 ?z2; case y2 => (intro w hSw; (try dsimp only at hSw); go_simp; (try (rw [if_neg (by omega)])); (try (rw [if_pos (by omega)])); (try with_reducible rfl)))
  (try simp only [Act.put, List.setIfInBounds_toArray, List.set_cons_zero, List.set_cons_succ])
  (refine rg_yes 2 ?v3 (by simp only [List.getElem?_toArray, List.getElem?_cons_succ, List.getElem?_cons_zero]; rfl) (by kernel_rfl) (by kernel_rfl) (by kernel_rfl) (by exact fun _ _ _ h => h) (by kernel_rfl) (by assumption) ?y3 ?z3; case y3 => (intro w hSw; (try dsimp only at hSw); go_simp; (try (rw [if_neg (by omega)])); (try (rw [if_pos (by omega)])); (try with_reducible rfl)))
  (try simp only [Act.put, List.setIfInBounds_toArray, List.set_cons_zero, List.set_cons_succ])
  refine rg_yes 3 _ (by simp only [List.getElem?_toArray, List.getElem?_cons_succ, List.getElem?_cons_zero]; rfl) (by kernel_rfl) (by kernel_rfl) (by kernel_rfl) (by exact fun _ _ _ h => h) (by kernel_rfl) (by assumption) (by exact fun w' hS => (exec_load_one (off := 1) ((grow_block hS L1.out).trans H1.out) rfl rfl rfl (fun w => by kernel_rfl))) ?_
  (try simp only [Act.put, List.setIfInBounds_toArray, List.set_cons_zero, List.set_cons_succ])
  (refine rg_yes 4 ?v4 (by simp only [List.getElem?_toArray, List.getElem?_cons_succ, List.getElem?_cons_zero]; rfl) (by kernel_rfl) (by kernel_rfl) (by kernel_rfl) (by exact fun _ _ _ h => h) (by kernel_rfl) (by assumption) ?y4 ?z4; case y4 => (intro w hSw; (try dsimp only at hSw); go_simp; (try (rw [if_neg (by omega)])); (try (rw [if_pos (by omega)])); (try with_reducible rfl)))
  (try simp only [Act.put, List.setIfInBounds_toArray, List.set_cons_zero, List.set_cons_succ])
  (refine rg_yes 5 ?v5 (by simp only [List.getElem?_toArray, List.getElem?_cons_succ, List.getElem?_cons_zero]; rfl) (by kernel_rfl) (by kernel_rfl) (by kernel_rfl) (by exact fun _ _ _ h => h) (by kernel_rfl) (by assumption) ?y5 ?z5; case y5 => (intro w hSw; (try dsimp only at hSw); go_simp; (try (rw [if_neg (by omega)])); (try (rw [if_pos (by omega)])); (try with_reducible rfl)))
  (try simp only [Act.put, List.setIfInBounds_toArray, List.set_cons_zero, List.set_cons_succ])
  (refine rg_yes 6 ?v6 (by simp only [List.getElem?_toArray, List.getElem?_cons_succ, List.getElem?_cons_zero]; rfl) (by kernel_rfl) (by kernel_rfl) (by kernel_rfl) (by exact fun _ _ _ h => h) (by kernel_rfl) (by assumption) ?y6 ?z6; case y6 => (intro w hSw; (try dsimp only at hSw); go_simp; (try (rw [if_neg (by omega)])); (try (rw [if_pos (by omega)])); (try with_reducible rfl)))
  (try simp only [Act.put, List.setIfInBounds_toArray, List.set_cons_zero, List.set_cons_succ])
  refine rg_yes 7 _ (by simp only [List.getElem?_toArray, List.getElem?_cons_succ, List.getElem?_cons_zero]; rfl) (by kernel_rfl) (by kernel_rfl) (by kernel_rfl) (by exact fun _ _ _ h => h) (by kernel_rfl) (by assumption) (by exact fun w' hS => (exec_load_one (off := 1) ((grow_block hS L2.out).trans H2.out) rfl rfl rfl (fun w => by kernel_rfl))) ?_
  (try simp only [Act.put, List.setIfInBounds_toArray, List.set_cons_zero, List.set_cons_succ])
  (refine rg_yes 9 ?v7 (by simp only [List.getElem?_toArray, List.getElem?_cons_succ, List.getElem?_cons_zero]; rfl) (by kernel_rfl) (by kernel_rfl) (by kernel_rfl) (by exact fun _ _ _ h => h) (by kernel_rfl) (by assumption) ?y7 ?z7; case y7 => (intro w hSw; (try dsimp only at hSw); go_simp; (try (rw [if_neg (by omega)])); (try (rw [if_pos (by omega)])); (try with_reducible rfl)))
  (try simp only [Act.put, List.setIfInBounds_toArray, List.set_cons_zero, List.set_cons_succ])
  (refine rg_yes 10 ?v8 (by simp only [List.getElem?_toArray, List.getElem?_cons_succ, List.getElem?_cons_zero]; rfl) (by kernel_rfl) (by kernel_rfl) (by kernel_rfl) (by exact fun _ _ _ h => h) (by kernel_rfl) (by assumption) ?y8 ?z8; case y8 => (intro w hSw; (try dsimp only at hSw); go_simp; (try (rw [if_neg (by omega)])); (try (rw [if_pos (by omega)])); (try with_reducible rfl)))
  (try simp only [Act.put, List.setIfInBounds_toArray, List.set_cons_zero, List.set_cons_succ])
  (refine rg_yes 11 ?v9 (by simp only [List.getElem?_toArray, List.getElem?_cons_succ, List.getElem?_cons_zero]; rfl) (by kernel_rfl) (by kernel_rfl) (by kernel_rfl) (by exact fun _ _ _ h => h) (by kernel_rfl) (by assumption) ?y9 ?z9; case y9 => (intro w hSw; (try dsimp only at hSw); go_simp; (try (rw [if_neg (by omega)])); (try (rw [if_pos (by omega)])); (try with_reducible rfl)))
  (try simp only [Act.put, List.setIfInBounds_toArray, List.set_cons_zero, List.set_cons_succ])
  refine rg_yes 12 _ (by simp only [List.getElem?_toArray, List.getElem?_cons_succ, List.getElem?_cons_zero]; rfl) (by kernel_rfl) (by kernel_rfl) (by kernel_rfl) (by exact fun _ _ _ h => h) (by kernel_rfl) (by assumption) (by exact fun w' hS => (exec_load_one (off := 0) ((grow_block hS L1.out).trans H1.out) rfl rfl rfl (fun w => by kernel_rfl))) ?_
  (try simp only [Act.put, List.setIfInBounds_toArray, List.set_cons_zero, List.set_cons_succ])
  (refine rg_yes 13 ?v10 (by simp only [List.getElem?_toArray, List.getElem?_cons_succ, List.getElem?_cons_zero]; rfl) (by kernel_rfl) (by kernel_rfl) (by kernel_rfl) (by exact fun _ _ _ h => h) (by kernel_rfl) (by assumption) ?y10 ?z10; case y10 => (intro w hSw; (try dsimp only at hSw); go_simp; (try (rw [if_neg (by omega)])); (try (rw [if_pos (by omega)])); (try with_reducible rfl)))
  (try simp only [Act.put, List.setIfInBounds_toArray, List.set_cons_zero, List.set_cons_succ])
  (refine rg_yes 14 ?v11 (by simp only [List.getElem?_toArray, List.getElem?_cons_succ, List.getElem?_cons_zero]; rfl) (by kernel_rfl) (by kernel_rfl) (by kernel_rfl) (by exact fun _ _ _ h => h) (by kernel_rfl) (by assumption) ?y11 ?z11; case y11 => (intro w hSw; (try dsimp only at hSw); go_simp; (try (rw [if_neg (by omega)])); (try (rw [if_pos (by omega)])); (try with_reducible rfl)))
  (try simp only [Act.put, List.setIfInBounds_toArray, List.set_cons_zero, List.set_cons_succ])
  (refine rg_yes 15 ?v12 (by simp only [List.getElem?_toArray, List.getElem?_cons_succ, List.getElem?_cons_zero]; rfl) (by kernel_rfl) (by kernel_rfl) (by kernel_rfl) (by exact fun _ _ _ h => h) (by kernel_rfl) (by assumption) ?y12 ?z12; case y12 => (intro w hSw; (try dsimp only at hSw); go_simp; (try (rw [if_neg (by omega)])); (try (rw [if_pos (by omega)])); (try with_reducible rfl)))
  (try simp only [Act.put, List.setIfInBounds_toArray, List.set_cons_zero, List.set_cons_succ])
  refine rg_yes 16 _ (by simp only [List.getElem?_toArray, List.getElem?_cons_succ, List.getElem?_cons_zero]; rfl) (by kernel_rfl) (by kernel_rfl) (by kernel_rfl) (by exact fun _ _ _ h => h) (by kernel_rfl) (by assumption) (by exact fun w' hS => (exec_load_one (off := 0) ((grow_block hS L2.out).trans H2.out) rfl rfl rfl (fun w => by kernel_rfl))) ?_
  (try simp only [Act.put, List.setIfInBounds_toArray, List.set_cons_zero, List.set_cons_succ])
  refine rg_call 8 _ _ (by simp only [List.getElem?_toArray, List.getElem?_cons_succ, List.getElem?_cons_zero]; rfl) (by kernel_rfl) (by kernel_rfl) (fun w => by go_simp; exact ⟨rfl, rfl⟩) ?_
  refine (compare_any a c _).mono ?_
  rintro e w1 ⟨rfl, rfl⟩
  refine ⟨_, rfl, hHeld, fun hHeld => ?_⟩
  (try simp only [Act.put, List.setIfInBounds_toArray, List.set_cons_zero, List.set_cons_succ])
  refine rg_call 17 _ _ (by simp only [List.getElem?_toArray, List.getElem?_cons_succ, List.getElem?_cons_zero]; rfl) (by kernel_rfl) (by kernel_rfl) (fun w => by go_simp; exact ⟨rfl, rfl⟩) ?_
  refine (compare_any i1 i2 _).mono ?_
  rintro e w2 ⟨rfl, rfl⟩
  refine ⟨_, rfl, hHeld, fun hHeld => ?_⟩
  (try simp only [Act.put, List.setIfInBounds_toArray, List.set_cons_zero, List.set_cons_succ])
  refine rg_one 18 _ _ (by simp only [List.getElem?_toArray, List.getElem?_cons_succ, List.getElem?_cons_zero]; rfl) (by kernel_rfl) (by kernel_rfl) (by go_simp; first | exact ⟨rfl, rfl⟩ | rfl) ((grow_alloc hHeld _)) (fun hHeld => ?_)
  (try simp only [Act.put, List.setIfInBounds_toArray, List.set_cons_zero, List.set_cons_succ])
  refine rg_call 19 _ _ (by simp only [List.getElem?_toArray, List.getElem?_cons_succ, List.getElem?_cons_zero]; rfl) (by kernel_rfl) (by kernel_rfl) (fun w => by go_simp; exact ⟨rfl, rfl⟩) ?_
  refine (or2_any _ _ (cmpK (a, i1) (c, i2)) (fun h => by simp [cmpK, h]) (fun h => by simp [cmpK, h]) _ _ _ _ (heap_alloc_new _ _)).mono ?_
  rintro e w3 ⟨rfl, rfl⟩
  refine ⟨_, rfl, hHeld, fun hHeld => ?_⟩
  (try simp only [Act.put, List.setIfInBounds_toArray, List.set_cons_zero, List.set_cons_succ])
  (refine rg_yes 20 ?v13 (by simp only [List.getElem?_toArray, List.getElem?_cons_succ, List.getElem?_cons_zero]; rfl) (by kernel_rfl) (by kernel_rfl) (by kernel_rfl) (by exact fun _ _ _ h => h) (by kernel_rfl) (by assumption) ?y13 ?z13; case y13 => (intro w hSw; (try dsimp only at hSw); go_simp; (try (rw [if_neg (by omega)])); (try (rw [if_pos (by omega)])); (try with_reducible rfl)))
  (try simp only [Act.put, List.setIfInBounds_toArray, List.set_cons_zero, List.set_cons_succ])
  refine wpAnyH_done (by kernel_rfl) ?_ _
  apply HK
  go_wp2_with fail
  go_ret
  obtain ⟨os, e1⟩ := hHeld
  exact ⟨rfl, 1, os, by rw [e1]; rfl⟩
end Go.Proofs.Ytkhhkbigpaoinaa
