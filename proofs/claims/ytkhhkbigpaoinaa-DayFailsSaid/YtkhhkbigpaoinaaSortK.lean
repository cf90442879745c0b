/- Keys compared and sorted: cmp.Compare, cmp.Or at two, the comparison of keys, slices.SortFunc at a row of keys: by contract. -/
import Derived.Test.YtkhhkbigpaoinaaLent
import Derived.Test.YtkhhkbigpaoinaaRecP
import Derived.Test.YtkhhkbigpaoinaaRegK
import Derived.Test.YtkhhkbigpaoinaaSo
namespace Go.Proofs.Ytkhhkbigpaoinaa
set_option linter.unusedVariables false
set_option linter.unusedSimpArgs false
open Go.RowKit Go.Sort Go.Shelf
attribute [local irreducible] Go.wpStill

def cmpI (x y : Int) : Int := if x < y then -1 else if y < x then 1 else 0
def cmpK (x y : Int × Int) : Int := if cmpI x.1 y.1 = 0 then cmpI x.2 y.2 else cmpI x.1 y.1
theorem isNaN_any (x : Int) (w : World) : Calls Try.prog 57 #[.int .i64 x] w fun e w' => e = .returned (.bool false) ∧ w' = w := by
  go_enter Try.func57, Try.ntmps57
  go_wp2_with fail
  go_ret
  exact ⟨ret_bool (by simp), rfl⟩
theorem compare_any (x y : Int) (w : World) : Calls Try.prog 45 #[.int .i64 x, .int .i64 y] w fun e w' => e = .returned (.int .i64 (cmpI x y)) ∧ w' = w := by
  go_enter Try.func45, Try.ntmps45
  go_wp2_with fail
  refine (isNaN_any x w).mono ?_
  rintro e w1 ⟨rfl, rfl⟩
  go_wp2_with fail
  refine (isNaN_any y w1).mono ?_
  rintro e w2 ⟨rfl, rfl⟩
  by_cases h1 : x < y
  · have d1 : decide (x < y) = true := decide_eq_true h1
    go_wp2_with fail
    go_ret
    exact ⟨ret_int (by unfold cmpI; rw [if_pos (by omega)]), rfl⟩
  · have d1 : decide (x < y) = false := decide_eq_false h1
    by_cases h2 : y < x
    · have d2 : decide (x > y) = true := decide_eq_true h2
      go_wp2_with fail
      go_ret
      exact ⟨ret_int (by unfold cmpI; rw [if_neg (by omega), if_pos (by omega)]), rfl⟩
    · have d2 : decide (x > y) = false := decide_eq_false h2
      go_wp2_with fail
      go_ret
      exact ⟨ret_int (by unfold cmpI; rw [if_neg (by omega), if_neg (by omega)]), rfl⟩
theorem or2_any (a b r : Int) (hr0 : a = 0 → r = b) (hr1 : a ≠ 0 → r = a) (w : World) (g : Nat) (t : TypeId) (fr : Nat × Nat) (h : w.heap[g]? = some (.cells #[.int .i64 a, .int .i64 b] t fr)) :
    Calls Try.prog 44 #[.slice (some ⟨g, 0, none⟩) 2 2] w fun e w' => e = .returned (.int .i64 r) ∧ w' = w := by
  have k0 : w.cell? ⟨g, 0, none⟩ = some (.int .i64 a) := by rw [cell_of_row _ _ _ _ _ _ h]; rfl
  have k1 : w.cell? ⟨g, 1, none⟩ = some (.int .i64 b) := by rw [cell_of_row _ _ _ _ _ _ h]; rfl
  have R0 := Lib.hid hr0
  have R1 := Lib.hid hr1
  have K0 := Lib.hid k0
  have K1 := Lib.hid k1
  clear h k0 k1 hr0 hr1
  go_enter Try.func44, Try.ntmps44
  go_wp2_with fail
  go_loopw [8] (fun iv wr => ∃ i : Nat, i ≤ 2 ∧ iv = .int .i64 i ∧ wr = w ∧ (1 ≤ i → a = 0) ∧ (2 ≤ i → b = 0)) (fun iv _ => 2 - (intOf iv).toNat)
  case atStart => exact ⟨0, by omega, rfl, rfl, by omega, by omega⟩
  case round =>
    obtain ⟨i, hi, rfl, rfl, ha, hb⟩ := hrel
    have hc : i = 0 ∨ i = 1 ∨ i = 2 := by omega
    have HA := Lib.hid ha
    have HB := Lib.hid hb
    clear ha hb
    rcases hc with rfl | rfl | rfl
    · have k0 := K0.out
      by_cases e : a = 0
      · have d1 : (a != 0) = false := by simp [e]
        go_wp2_with fail
        exact ⟨⟨1, by omega, rfl, by trivial, fun _ => e, by omega⟩, by simp [intOf]⟩
      · have d1 : (a != 0) = true := by simp [e]
        go_wp2_with fail
        go_ret
        exact ⟨ret_int (R1.out e).symm, rfl⟩
    · have k1 := K1.out
      have ea := HA.out (by omega)
      by_cases e : b = 0
      · have d1 : (b != 0) = false := by simp [e]
        go_wp2_with fail
        exact ⟨⟨2, by omega, rfl, by trivial, fun _ => ea, fun _ => e⟩, by simp [intOf]⟩
      · have d1 : (b != 0) = true := by simp [e]
        go_wp2_with fail
        go_ret
        exact ⟨ret_int (R0.out ea).symm, rfl⟩
    · go_wp2_with fail
      go_ret
      exact ⟨ret_int (by rw [R0.out (HA.out (by omega)), HB.out (by omega)]), rfl⟩
theorem grow_block {W w' : World} (h : ∃ os, w' = grow W.drew os) {g : Nat} (hg : g < W.heap.size) : w'.heap[g]? = W.heap[g]? := by
  obtain ⟨os, rfl⟩ := h
  show (W.heap ++ os)[g]? = _
  rw [Array.getElem?_append_left hg]
theorem grow_alloc {W w' : World} (h : ∃ os, w' = grow W.drew os) (o : Obj) : ∃ os, w'.alloc o = grow W.drew os := by
  obtain ⟨os, rfl⟩ := h
  exact ⟨_, by rw [alloc_eq_grow, grow_grow]⟩
end Go.Proofs.Ytkhhkbigpaoinaa
