/- SameMarks, SamePosition of two that are the same: by contract. -/
import Derived.Test.YtkggmhcdoalhoaaKept
namespace Go.Proofs.Ytkggmhcdoalhoaa
set_option linter.unusedVariables false
set_option linter.unusedSimpArgs false
open Go.RowKit
attribute [local irreducible] Go.wpStill

set_option maxHeartbeats 2000000 in
theorem sameMarks_any (v u : Value) (xs : List markT) (w : World) (hv : ReadsE markE w v xs) (h : ReadsE markE w u xs) :
    Calls Try.prog 29 #[v, u] w (FixB true w) := by
  obtain ⟨a1, c1, rfl⟩ := hv.slice
  obtain ⟨a2, c2, rfl⟩ := h.slice
  have hn : xs.length < 4611686018427387904 := h.1
  have HV := Lib.hid hv
  have HU := Lib.hid h
  clear hv h
  go_enter Try.func29, Try.ntmps29
  go_wp2_with fail
  go_loopw [5] (fun iv wr => ∃ i : Nat, i ≤ xs.length ∧ iv = .int .i64 i ∧ Below w.heap.size w wr) (fun iv _ => xs.length - (intOf iv).toNat)
  case atStart => exact ⟨0, by omega, rfl, Below.refl _ _⟩
  case round =>
    obtain ⟨i, hi, rfl, hW⟩ := hrel
    by_cases hlt : i < xs.length
    · obtain ⟨y, hy⟩ : ∃ y, xs[i]? = some y := ⟨_, List.getElem?_eq_getElem hlt⟩
      obtain ⟨g1, o1, rfl, hc1⟩ := (HV.out.below hW).at hy
      obtain ⟨g2, o2, rfl, hc2⟩ := (HU.out.below hW).at hy
      have heq := eqMarks y y
      simp only [decide_true] at heq
      have HE := Lib.hid heq
      have hdl : decide ((i : Int) < xs.length) = true := decide_eq_true (by omega)
      clear hy heq
      obtain ⟨a, b⟩ := y
      have HCA := Lib.hid hc1
      have HCB := Lib.hid hc2
      clear hc1 hc2
      go_wp2_with fail
      refine wp_region_still_tail 8 (by kernel_rfl) (by kernel_rfl) ?_
      simp only [List.take_succ_cons, List.take_zero, List.drop_succ_cons, List.drop_zero]
      refine (fun (Hst : wpStill _ _ (World.drew _) (fun a' => wpList _ _ _ _ a' (World.drew _)) _ _) => Hst) ?_
      (refine still_yes ?v1 (by kernel_rfl) ?y1 ?z1; case y1 => (go_simp; (try (rw [if_neg (by omega)])); (try (rw [if_pos (by omega)])); (try with_reducible rfl)))
      (try simp only [Act.put, List.setIfInBounds_toArray, List.set_cons_zero, List.set_cons_succ])
      (refine still_yes ?v2 (by kernel_rfl) ?y2 ?z2; case y2 => (go_simp; (try (rw [if_neg (by omega)])); (try (rw [if_pos (by omega)])); (try with_reducible rfl)))
      (try simp only [Act.put, List.setIfInBounds_toArray, List.set_cons_zero, List.set_cons_succ])
      (refine still_yes ?v3 (by kernel_rfl) ?y3 ?z3; case y3 => (go_simp; (try (rw [if_neg (by omega)])); (try (rw [if_pos (by omega)])); (try with_reducible rfl)))
      (try simp only [Act.put, List.setIfInBounds_toArray, List.set_cons_zero, List.set_cons_succ])
      refine still_yes _ (by kernel_rfl) (exec_load_mid HCA.out rfl rfl Try.underlying55 rfl (by kernel_rfl)) ?_
      (try simp only [Act.put, List.setIfInBounds_toArray, List.set_cons_zero, List.set_cons_succ])
      (refine still_yes ?v4 (by kernel_rfl) ?y4 ?z4; case y4 => (go_simp; (try (rw [if_neg (by omega)])); (try (rw [if_pos (by omega)])); (try with_reducible rfl)))
      (try simp only [Act.put, List.setIfInBounds_toArray, List.set_cons_zero, List.set_cons_succ])
      (refine still_yes ?v5 (by kernel_rfl) ?y5 ?z5; case y5 => (go_simp; (try (rw [if_neg (by omega)])); (try (rw [if_pos (by omega)])); (try with_reducible rfl)))
      (try simp only [Act.put, List.setIfInBounds_toArray, List.set_cons_zero, List.set_cons_succ])
      (refine still_yes ?v6 (by kernel_rfl) ?y6 ?z6; case y6 => (go_simp; (try (rw [if_neg (by omega)])); (try (rw [if_pos (by omega)])); (try with_reducible rfl)))
      (try simp only [Act.put, List.setIfInBounds_toArray, List.set_cons_zero, List.set_cons_succ])
      refine still_yes _ (by kernel_rfl) (exec_load_mid HCB.out rfl rfl Try.underlying55 rfl (by kernel_rfl)) ?_
      (try simp only [Act.put, List.setIfInBounds_toArray, List.set_cons_zero, List.set_cons_succ])
      refine wpStill_nil ?_
      refine wpList_val (.bool false) (by kernel_rfl) (exec_neq_val (r := true) rfl rfl rfl (by kernel_rfl) HE.out rfl) ?_
      (try simp only [Act.put, List.setIfInBounds_toArray, List.set_cons_zero, List.set_cons_succ])
      go_wp2_with fail
      exact ⟨⟨i + 1, by omega, by go_num, hW.drew⟩, by simp [intOf]; omega⟩
    · have hdl : decide ((i : Int) < xs.length) = false := decide_eq_false (by omega)
      go_wp2_with fail
      go_ret
      exact ⟨rfl, hW⟩
theorem samePosition_any (avail : Int) (v u : Value) (xs : List markT) (w : World) (hv : ReadsE markE w v xs) (h : ReadsE markE w u xs) :
    Calls Try.prog 17 #[.agg #[.int .i64 avail, v], .agg #[.int .i64 avail, u]] w (FixB true w) := by
  have HT := Lib.hid (fun w1 (hb : Below w.heap.size w w1) => sameMarks_any v u xs w1 (hv.below hb) (h.below hb))
  have HB := Lib.hid (((Below.refl w.heap.size w).alloc (Nat.le_refl _) (.cells #[.int .i64 avail, v] 40)).alloc (by simp) (.cells #[.int .i64 avail, u] 40))
  obtain ⟨a1, c1, rfl⟩ := hv.slice
  obtain ⟨a2, c2, rfl⟩ := h.slice
  clear h hv
  have e0 : (avail == avail) = true := by simp
  go_enter Try.func17, Try.ntmps17
  go_wp2_with fail
  refine (HT.out _ HB.out).mono ?_
  rintro e w5 ⟨rfl, hb⟩
  have HB5 := Lib.hid (HB.out.trans (hb.mono HB.out.size))
  clear hb
  go_wp2_with fail
  go_ret
  exact ⟨rfl, HB5.out⟩
end Go.Proofs.Ytkggmhcdoalhoaa
