/- Keys compared and sorted: cmp.Compare, cmp.Or at two, the comparison of keys, slices.SortFunc at a row of keys: by contract. -/
import Derived.Test.YtkggmhcdoalhoaaLent
import Derived.Test.YtkggmhcdoalhoaaRecP
import Derived.Test.YtkggmhcdoalhoaaRegK
import Derived.Test.YtkggmhcdoalhoaaSo
namespace Go.Proofs.Ytkggmhcdoalhoaa
set_option linter.unusedVariables false
set_option linter.unusedSimpArgs false
open Go.RowKit Go.Sort Go.Shelf
attribute [local irreducible] Go.wpStill

def cmpI (x y : Int) : Int := if x < y then -1 else if y < x then 1 else 0
def cmpK (x y : Int × Int) : Int := if cmpI x.1 y.1 = 0 then cmpI x.2 y.2 else cmpI x.1 y.1
theorem isNaN_any (x : Int) (w : World) : Calls Try.prog 35 #[.int .i64 x] w fun e w' => e = .returned (.bool false) ∧ w' = w := by
  go_enter Try.func35, Try.ntmps35
  go_wp2_with fail
  go_ret
  exact ⟨ret_bool (by simp), rfl⟩
theorem compare_any (x y : Int) (w : World) : Calls Try.prog 28 #[.int .i64 x, .int .i64 y] w fun e w' => e = .returned (.int .i64 (cmpI x y)) ∧ w' = w := by
  go_enter Try.func28, Try.ntmps28
  go_wp2_with fail
  refine (isNaN_any x w).mono ?_
  rintro e w1 ⟨rfl, rfl⟩
  go_wp2_with fail
  refine (isNaN_any y w1).mono ?_
  rintro e w2 ⟨rfl, rfl⟩
  by_cases h1 : x < y
  · have d1 : decide (x < y) = true := decide_eq_true h1
    go_wp2_with fail
    go_ret
    exact ⟨ret_int (by unfold cmpI; rw [if_pos (by omega)]), rfl⟩
  · have d1 : decide (x < y) = false := decide_eq_false h1
    by_cases h2 : y < x
    · have d2 : decide (x > y) = true := decide_eq_true h2
      go_wp2_with fail
      go_ret
      exact ⟨ret_int (by unfold cmpI; rw [if_neg (by omega), if_pos (by omega)]), rfl⟩
    · have d2 : decide (x > y) = false := decide_eq_false h2
      go_wp2_with fail
      go_ret
      exact ⟨ret_int (by unfold cmpI; rw [if_neg (by omega), if_neg (by omega)]), rfl⟩
theorem or2_any (a b r : Int) (hr0 : a = 0 → r = b) (hr1 : a ≠ 0 → r = a) (w : World) (g : Nat) (t : TypeId) (fr : Nat × Nat) (h : w.heap[g]? = some (.cells #[.int .i64 a, .int .i64 b] t fr)) :
    Calls Try.prog 27 #[.slice (some ⟨g, 0, none⟩) 2 2] w fun e w' => e = .returned (.int .i64 r) ∧ w' = w := by
  have k0 : w.cell? ⟨g, 0, none⟩ = some (.int .i64 a) := by rw [cell_of_row _ _ _ _ _ _ h]; rfl
  have k1 : w.cell? ⟨g, 1, none⟩ = some (.int .i64 b) := by rw [cell_of_row _ _ _ _ _ _ h]; rfl
  have R0 := Lib.hid hr0
  have R1 := Lib.hid hr1
  have K0 := Lib.hid k0
  have K1 := Lib.hid k1
  clear h k0 k1 hr0 hr1
  go_enter Try.func27, Try.ntmps27
  go_wp2_with fail
  go_loopw [8] (fun iv wr => ∃ i : Nat, i ≤ 2 ∧ iv = .int .i64 i ∧ wr = w ∧ (1 ≤ i → a = 0) ∧ (2 ≤ i → b = 0)) (fun iv _ => 2 - (intOf iv).toNat)
  case atStart => exact ⟨0, by omega, rfl, rfl, by omega, by omega⟩
  case round =>
    obtain ⟨i, hi, rfl, rfl, ha, hb⟩ := hrel
    have hc : i = 0 ∨ i = 1 ∨ i = 2 := by omega
    have HA := Lib.hid ha
    have HB := Lib.hid hb
    clear ha hb
    rcases hc with rfl | rfl | rfl
    · have k0 := K0.out
      by_cases e : a = 0
      · have d1 : (a != 0) = false := by simp [e]
        go_wp2_with fail
        exact ⟨⟨1, by omega, rfl, by trivial, fun _ => e, by omega⟩, by simp [intOf]⟩
      · have d1 : (a != 0) = true := by simp [e]
        go_wp2_with fail
        go_ret
        exact ⟨ret_int (R1.out e).symm, rfl⟩
    · have k1 := K1.out
      have ea := HA.out (by omega)
      by_cases e : b = 0
      · have d1 : (b != 0) = false := by simp [e]
        go_wp2_with fail
        exact ⟨⟨2, by omega, rfl, by trivial, fun _ => ea, fun _ => e⟩, by simp [intOf]⟩
      · have d1 : (b != 0) = true := by simp [e]
        go_wp2_with fail
        go_ret
        exact ⟨ret_int (R0.out ea).symm, rfl⟩
    · go_wp2_with fail
      go_ret
      exact ⟨ret_int (by rw [R0.out (HA.out (by omega)), HB.out (by omega)]), rfl⟩
theorem grow_block {W w' : World} (h : ∃ os, w' = grow W.drew os) {g : Nat} (hg : g < W.heap.size) : w'.heap[g]? = W.heap[g]? := by
  obtain ⟨os, rfl⟩ := h
  show (W.heap ++ os)[g]? = _
  rw [Array.getElem?_append_left hg]
theorem grow_alloc {W w' : World} (h : ∃ os, w' = grow W.drew os) (o : Obj) : ∃ os, w'.alloc o = grow W.drew os := by
  obtain ⟨os, rfl⟩ := h
  exact ⟨_, by rw [alloc_eq_grow, grow_grow]⟩
set_option maxHeartbeats 1000000 in
theorem byKey_any (x y : keyT) (w : World) : Calls Try.prog 16 #[.agg (keyE.enc x).toArray, .agg (keyE.enc y).toArray] w fun e w' => e = .returned (.int .i64 (cmpK x y)) ∧ ∃ q os', w' = grow (w.drewN q) os' := by
  obtain ⟨a, b⟩ := x
  obtain ⟨c, d⟩ := y
  go_enter Try.func16, Try.ntmps16
  go_upto_region 1 with fail
  generalize hW : World.alloc (World.alloc w _) _ = W
  have h1 : W.heap[w.heap.size]? = some (.cells #[.int .i64 a, .int .i64 b] 34 (0, 0)) := by rw [← hW, heap_alloc_old _ _ (by simp), heap_alloc_new]
  have h2 : W.heap[w.heap.size + 1]? = some (.cells #[.int .i64 c, .int .i64 d] 34 (0, 0)) := by rw [← hW]; have := heap_alloc_new (w.alloc (.cells #[.int .i64 a, .int .i64 b] 34)) (.cells #[.int .i64 c, .int .i64 d] 34); simpa using this
  have hg : ∃ os, W = grow w os := ⟨_, by rw [← hW, alloc_eq_grow, alloc_eq_grow, grow_grow]⟩
  have H1 := Lib.hid h1
  have H2 := Lib.hid h2
  have HG := Lib.hid hg
  have L1 := Lib.hid (lt_of_block h1)
  have L2 := Lib.hid (lt_of_block h2)
  clear hW h1 h2 hg
  generalize w.heap.size = g at *
  go_wp2_with fail
  rename_i HK
  refine wp_region_held_drew (S := fun w' => ∃ os, w' = grow W.drew os) (by kernel_rfl) ⟨#[], by simp⟩ (fun hHeld => ?_)
  (refine rg_yes 0 ?v1 (by simp only [List.getElem?_toArray, List.getElem?_cons_succ, List.getElem?_cons_zero]; rfl) (by kernel_rfl) (by kernel_rfl) (by kernel_rfl) (by exact fun _ _ _ h => h) (by kernel_rfl) (by assumption) ?y1 ?z1; case y1 => (intro w hSw; (try dsimp only at hSw); go_simp; (try (rw [if_neg (by omega)])); (try with_reducible rfl)))
  (try simp only [Act.put, List.setIfInBounds_toArray, List.set_cons_zero, List.set_cons_succ])
  refine rg_yes 1 _ (by simp only [List.getElem?_toArray, List.getElem?_cons_succ, List.getElem?_cons_zero]; rfl) (by kernel_rfl) (by kernel_rfl) (by kernel_rfl) (by exact fun _ _ _ h => h) (by kernel_rfl) (by assumption) (by exact fun w' hS => (exec_load_one (off := 0) ((grow_block hS L1.out).trans H1.out) rfl rfl rfl (fun w => by kernel_rfl))) ?_
  (try simp only [Act.put, List.setIfInBounds_toArray, List.set_cons_zero, List.set_cons_succ])
  (refine rg_yes 2 ?v2 (by simp only [List.getElem?_toArray, List.getElem?_cons_succ, List.getElem?_cons_zero]; rfl) (by kernel_rfl) (by kernel_rfl) (by kernel_rfl) (by exact fun _ _ _ h => h) (by kernel_rfl) (by assumption) ?y2 ?z2; case y2 => (intro w hSw; (try dsimp only at hSw); go_simp; (try (rw [if_neg (by omega)])); (try with_reducible rfl)))
  (try simp only [Act.put, List.setIfInBounds_toArray, List.set_cons_zero, List.set_cons_succ])
  refine rg_yes 3 _ (by simp only [List.getElem?_toArray, List.getElem?_cons_succ, List.getElem?_cons_zero]; rfl) (by kernel_rfl) (by kernel_rfl) (by kernel_rfl) (by exact fun _ _ _ h => h) (by kernel_rfl) (by assumption) (by exact fun w' hS => (exec_load_one (off := 0) ((grow_block hS L2.out).trans H2.out) rfl rfl rfl (fun w => by kernel_rfl))) ?_
  (try simp only [Act.put, List.setIfInBounds_toArray, List.set_cons_zero, List.set_cons_succ])
  (refine rg_yes 5 ?v3 (by simp only [List.getElem?_toArray, List.getElem?_cons_succ, List.getElem?_cons_zero]; rfl) (by kernel_rfl) (by kernel_rfl) (by kernel_rfl) (by exact fun _ _ _ h => h) (by kernel_rfl) (by assumption) ?y3 ?z3; case y3 => (intro w hSw; (try dsimp only at hSw); go_simp; (try (rw [if_neg (by omega)])); (try with_reducible rfl)))
  (try simp only [Act.put, List.setIfInBounds_toArray, List.set_cons_zero, List.set_cons_succ])
  refine rg_yes 6 _ (by simp only [List.getElem?_toArray, List.getElem?_cons_succ, List.getElem?_cons_zero]; rfl) (by kernel_rfl) (by kernel_rfl) (by kernel_rfl) (by exact fun _ _ _ h => h) (by kernel_rfl) (by assumption) (by exact fun w' hS => (exec_load_one (off := 1) ((grow_block hS L1.out).trans H1.out) rfl rfl rfl (fun w => by kernel_rfl))) ?_
  (try simp only [Act.put, List.setIfInBounds_toArray, List.set_cons_zero, List.set_cons_succ])
  (refine rg_yes 7 ?v4 (by simp only [List.getElem?_toArray, List.getElem?_cons_succ, List.getElem?_cons_zero]; rfl) (by kernel_rfl) (by kernel_rfl) (by kernel_rfl) (by exact fun _ _ _ h => h) (by kernel_rfl) (by assumption) ?y4 ?z4; case y4 => (intro w hSw; (try dsimp only at hSw); go_simp; (try (rw [if_neg (by omega)])); (try with_reducible rfl)))
  (try simp only [Act.put, List.setIfInBounds_toArray, List.set_cons_zero, List.set_cons_succ])
  refine rg_yes 8 _ (by simp only [List.getElem?_toArray, List.getElem?_cons_succ, List.getElem?_cons_zero]; rfl) (by kernel_rfl) (by kernel_rfl) (by kernel_rfl) (by exact fun _ _ _ h => h) (by kernel_rfl) (by assumption) (by exact fun w' hS => (exec_load_one (off := 1) ((grow_block hS L2.out).trans H2.out) rfl rfl rfl (fun w => by kernel_rfl))) ?_
  (try simp only [Act.put, List.setIfInBounds_toArray, List.set_cons_zero, List.set_cons_succ])
  refine rg_call 4 _ _ (by simp only [List.getElem?_toArray, List.getElem?_cons_succ, List.getElem?_cons_zero]; rfl) (by kernel_rfl) (by kernel_rfl) (fun w => by go_simp; exact ⟨rfl, rfl⟩) ?_
  refine (compare_any a c _).mono ?_
  rintro e w1 ⟨rfl, rfl⟩
  refine ⟨_, rfl, hHeld, fun hHeld => ?_⟩
  (try simp only [Act.put, List.setIfInBounds_toArray, List.set_cons_zero, List.set_cons_succ])
  refine rg_call 9 _ _ (by simp only [List.getElem?_toArray, List.getElem?_cons_succ, List.getElem?_cons_zero]; rfl) (by kernel_rfl) (by kernel_rfl) (fun w => by go_simp; exact ⟨rfl, rfl⟩) ?_
  refine (compare_any b d _).mono ?_
  rintro e w2 ⟨rfl, rfl⟩
  refine ⟨_, rfl, hHeld, fun hHeld => ?_⟩
  (try simp only [Act.put, List.setIfInBounds_toArray, List.set_cons_zero, List.set_cons_succ])
  refine rg_one 10 _ _ (by simp only [List.getElem?_toArray, List.getElem?_cons_succ, List.getElem?_cons_zero]; rfl) (by kernel_rfl) (by kernel_rfl) (by go_simp; first | exact ⟨rfl, rfl⟩ | rfl) ((grow_alloc hHeld _)) (fun hHeld => ?_)
  (try simp only [Act.put, List.setIfInBounds_toArray, List.set_cons_zero, List.set_cons_succ])
  refine rg_call 11 _ _ (by simp only [List.getElem?_toArray, List.getElem?_cons_succ, List.getElem?_cons_zero]; rfl) (by kernel_rfl) (by kernel_rfl) (fun w => by go_simp; exact ⟨rfl, rfl⟩) ?_
  refine (or2_any _ _ (cmpK (a, b) (c, d)) (fun h => by simp [cmpK, h]) (fun h => by simp [cmpK, h]) _ _ _ _ (heap_alloc_new _ _)).mono ?_
  rintro e w3 ⟨rfl, rfl⟩
  refine ⟨_, rfl, hHeld, fun hHeld => ?_⟩
  (try simp only [Act.put, List.setIfInBounds_toArray, List.set_cons_zero, List.set_cons_succ])
  (refine rg_yes 12 ?v5 (by simp only [List.getElem?_toArray, List.getElem?_cons_succ, List.getElem?_cons_zero]; rfl) (by kernel_rfl) (by kernel_rfl) (by kernel_rfl) (by exact fun _ _ _ h => h) (by kernel_rfl) (by assumption) ?y5 ?z5; case y5 => (intro w hSw; (try dsimp only at hSw); go_simp; (try (rw [if_neg (by omega)])); (try with_reducible rfl)))
  (try simp only [Act.put, List.setIfInBounds_toArray, List.set_cons_zero, List.set_cons_succ])
  refine wpAnyH_done (by kernel_rfl) ?_ _
  apply HK
  go_wp2_with fail
  go_ret
  obtain ⟨os, e1⟩ := HG.out
  obtain ⟨os2, e2⟩ := hHeld
  subst e1
  exact ⟨rfl, 1, os ++ os2, by rw [e2]; show grow (grow w os).drew os2 = _; rw [drew_grow, grow_grow]; rfl⟩
end Go.Proofs.Ytkggmhcdoalhoaa
