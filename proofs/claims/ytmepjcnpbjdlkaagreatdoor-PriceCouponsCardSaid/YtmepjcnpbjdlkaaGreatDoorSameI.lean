/- SameInts of two lists that are the same: by contract. -/
import Derived.Test.YtmepjcnpbjdlkaaGreatDoorCoupC
namespace Go.Proofs.YtmepjcnpbjdlkaaGreatDoor
set_option linter.unusedVariables false
set_option linter.unusedSimpArgs false
open Go.RowKit
attribute [local irreducible] Go.wpStill

theorem ReadsE.cellAt {w : World} {ao : Option Addr} {n cap : Nat} {xs : List Int} (h : ReadsE intE w (.slice ao n cap) xs) {i : Nat} {x : Int} (hx : xs[i]? = some x) : ∃ g o, ao = some ⟨g, o, none⟩ ∧ w.cell? ⟨g, o + i, none⟩ = some (.int .i64 x) ∧ g < w.heap.size := by
  obtain ⟨g, o, rfl, hr⟩ := h.at hx
  refine ⟨g, o, rfl, ?_, rangeE_lt hr⟩
  have := hr 0 (.int .i64 x) rfl
  simpa using this
set_option maxHeartbeats 2000000 in
theorem sameInts_same (va vb : Value) (l : List Int) (w : World) (ha : ReadsE intE w va l) (hb : ReadsE intE w vb l) : Calls Tryz.prog 14 #[va, vb] w (fun e w' => e = .returned (.bool true) ∧ Below w.heap.size w w') := by
  have hll : l.length < 4611686018427387904 := ha.1
  obtain ⟨ao, ca, rfl⟩ := ha.slice
  obtain ⟨bo, cb, rfl⟩ := hb.slice
  have HA := Lib.hid ha
  have HB := Lib.hid hb
  clear ha hb
  go_enter Tryz.func14, Tryz.ntmps14
  go_wp2_with fail
  go_loopw [5] (fun iv wr => ∃ k : Nat, k ≤ l.length ∧ iv = .int .i64 k ∧ Below w.heap.size w wr) (fun iv _ => l.length - (intOf iv).toNat)
  case atStart => exact ⟨0, by omega, rfl, Below.refl _ _⟩
  case round =>
    obtain ⟨k, hk, rfl, hW⟩ := hrel
    by_cases hlt : k < l.length
    · obtain ⟨x, hx⟩ : ∃ x, l[k]? = some x := ⟨_, List.getElem?_eq_getElem hlt⟩
      obtain ⟨ga, oa, rfl, hca, hga⟩ := (HA.out.below hW).cellAt hx
      obtain ⟨gb, ob, rfl, hcb, hgb⟩ := (HB.out.below hW).cellAt hx
      have hdl : decide ((k : Int) < l.length) = true := decide_eq_true (by omega)
      have HX := Lib.hid hx
      have HCA := Lib.hid hca
      have HCB := Lib.hid hcb
      clear hx hca hcb
      go_wp2_with fail
      rename_i HK
      refine wp_region_held_drew (S := fun w' => Below wr.heap.size wr w') (by kernel_rfl) (Below.refl _ _).drew (fun hHeld => ?_)
      (refine rg_yes 0 ?v1 (by simp only [List.getElem?_toArray, List.getElem?_cons_succ, List.getElem?_cons_zero]; rfl) (by kernel_rfl) (by kernel_rfl) (by kernel_rfl) (by exact fun _ _ _ h => h) (by kernel_rfl) (by assumption) ?y1 ?z1; case y1 => (intro w hSw; (try dsimp only at hSw); go_simp; (try (rw [if_neg (by omega)])); (try with_reducible rfl)))
      (try simp only [Act.put, List.setIfInBounds_toArray, List.set_cons_zero, List.set_cons_succ])
      (refine rg_yes 1 ?v2 (by simp only [List.getElem?_toArray, List.getElem?_cons_succ, List.getElem?_cons_zero]; rfl) (by kernel_rfl) (by kernel_rfl) (by kernel_rfl) (by exact fun _ _ _ h => h) (by kernel_rfl) (by assumption) ?y2 ?z2; case y2 => (intro w hSw; (try dsimp only at hSw); go_simp; (try (rw [if_neg (by omega)])); (try with_reducible rfl)))
      (try simp only [Act.put, List.setIfInBounds_toArray, List.set_cons_zero, List.set_cons_succ])
      (refine rg_yes 2 ?v3 (by simp only [List.getElem?_toArray, List.getElem?_cons_succ, List.getElem?_cons_zero]; rfl) (by kernel_rfl) (by kernel_rfl) (by kernel_rfl) (by exact fun _ _ _ h => h) (by kernel_rfl) (by assumption) ?y3 ?z3; case y3 => (intro w hSw; (try dsimp only at hSw); go_simp; (try (rw [if_neg (by omega)])); (try with_reducible rfl)))
      (try simp only [Act.put, List.setIfInBounds_toArray, List.set_cons_zero, List.set_cons_succ])
      refine rg_yes 3 _ (by simp only [List.getElem?_toArray, List.getElem?_cons_succ, List.getElem?_cons_zero]; rfl) (by kernel_rfl) (by kernel_rfl) (by kernel_rfl) (by exact fun _ _ _ h => h) (by kernel_rfl) (by assumption) (by exact fun w' hS => (exec_load_at ((cell_kept (hS.block ga hga)).trans HCA.out) rfl rfl (fun w => by kernel_rfl))) ?_
      (try simp only [Act.put, List.setIfInBounds_toArray, List.set_cons_zero, List.set_cons_succ])
      (refine rg_yes 4 ?v4 (by simp only [List.getElem?_toArray, List.getElem?_cons_succ, List.getElem?_cons_zero]; rfl) (by kernel_rfl) (by kernel_rfl) (by kernel_rfl) (by exact fun _ _ _ h => h) (by kernel_rfl) (by assumption) ?y4 ?z4; case y4 => (intro w hSw; (try dsimp only at hSw); go_simp; (try (rw [if_neg (by omega)])); (try with_reducible rfl)))
      (try simp only [Act.put, List.setIfInBounds_toArray, List.set_cons_zero, List.set_cons_succ])
      (refine rg_yes 5 ?v5 (by simp only [List.getElem?_toArray, List.getElem?_cons_succ, List.getElem?_cons_zero]; rfl) (by kernel_rfl) (by kernel_rfl) (by kernel_rfl) (by exact fun _ _ _ h => h) (by kernel_rfl) (by assumption) ?y5 ?z5; case y5 => (intro w hSw; (try dsimp only at hSw); go_simp; (try (rw [if_neg (by omega)])); (try with_reducible rfl)))
      (try simp only [Act.put, List.setIfInBounds_toArray, List.set_cons_zero, List.set_cons_succ])
      (refine rg_yes 6 ?v6 (by simp only [List.getElem?_toArray, List.getElem?_cons_succ, List.getElem?_cons_zero]; rfl) (by kernel_rfl) (by kernel_rfl) (by kernel_rfl) (by exact fun _ _ _ h => h) (by kernel_rfl) (by assumption) ?y6 ?z6; case y6 => (intro w hSw; (try dsimp only at hSw); go_simp; (try (rw [if_neg (by omega)])); (try with_reducible rfl)))
      (try simp only [Act.put, List.setIfInBounds_toArray, List.set_cons_zero, List.set_cons_succ])
      refine rg_yes 7 _ (by simp only [List.getElem?_toArray, List.getElem?_cons_succ, List.getElem?_cons_zero]; rfl) (by kernel_rfl) (by kernel_rfl) (by kernel_rfl) (by exact fun _ _ _ h => h) (by kernel_rfl) (by assumption) (by exact fun w' hS => (exec_load_at ((cell_kept (hS.block gb hgb)).trans HCB.out) rfl rfl (fun w => by kernel_rfl))) ?_
      (try simp only [Act.put, List.setIfInBounds_toArray, List.set_cons_zero, List.set_cons_succ])
      refine rg_yes 8 _ (by simp only [List.getElem?_toArray, List.getElem?_cons_succ, List.getElem?_cons_zero]; rfl) (by kernel_rfl) (by kernel_rfl) (by kernel_rfl) (by exact fun _ _ _ h => h) (by kernel_rfl) (by assumption) (by exact fun w' hS => (exec_ne_int (b := false) rfl rfl rfl (by simp))) ?_
      (try simp only [Act.put, List.setIfInBounds_toArray, List.set_cons_zero, List.set_cons_succ])
      refine wpAnyH_done (by kernel_rfl) ?_ _
      apply HK
      go_wp2_with fail
      exact ⟨⟨k + 1, by omega, by go_num, hW.trans (hHeld.mono hW.size)⟩, by simp [intOf]; omega⟩
    · have hdl : decide ((k : Int) < l.length) = false := decide_eq_false (by omega)
      go_wp2_with fail
      go_ret
      exact ⟨rfl, hW⟩
end Go.Proofs.YtmepjcnpbjdlkaaGreatDoor
