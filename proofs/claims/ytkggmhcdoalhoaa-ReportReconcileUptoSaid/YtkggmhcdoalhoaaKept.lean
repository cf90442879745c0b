/- custodykit's Lent, KeptFull, Kept lists of legs and keys: by contract. -/
import Derived.Test.YtkggmhcdoalhoaaLent
namespace Go.Proofs.Ytkggmhcdoalhoaa
set_option linter.unusedVariables false
set_option linter.unusedSimpArgs false
open Go.RowKit
attribute [local irreducible] Go.wpStill marksE

theorem RowE.some {α : Type} {E : Enc α} {T : TypeId} {w : World} {B : Nat} {v : Value} {xs : List α} (a : RowE E T w B v xs) (h : 0 < xs.length) : ∃ g cap, v = .slice (some ⟨g, 0, none⟩) xs.length cap ∧ xs.length ≤ cap ∧ cap ≤ maxLen := by
  rcases a with ⟨_, rfl⟩ | ⟨g, cap, cur, hv, hg, hh, hn, hm, _⟩
  · simp at h
  · exact ⟨g, cap, hv, hn, hm⟩
set_option maxRecDepth 100000 in
set_option maxHeartbeats 2000000 in
theorem keptFullMarks_any (v u : Value) (xs : List markT) (w : World) (hv : ReadsE markE w v (xs ++ marksE (mkMarks 90) 16)) (h : ReadsE markE w u xs) :
    Calls Try.prog 18 #[v, u] w (FixB true w) := by
  have hl16 : (xs ++ marksE (mkMarks 90) 16).length = xs.length + 16 := by rw [List.length_append, marksE_len]
  have hat : ∀ i : Nat, xs.length ≤ i → i < xs.length + 16 → (xs ++ marksE (mkMarks 90) 16)[i]? = some (mkMarks 90 ((i : Int) - xs.length)) := fun i h1 h2 => by
    rw [List.getElem?_append_right h1, marksE_at _ _ _ (by omega), Int.ofNat_sub h1]
  have hat2 : ∀ i : Nat, i < xs.length → (xs ++ marksE (mkMarks 90) 16)[i]? = xs[i]? := fun i h1 => List.getElem?_append_left h1
  generalize xs ++ marksE (mkMarks 90) 16 = ys at hv hl16 hat hat2
  obtain ⟨a1, c1, rfl⟩ := hv.slice
  obtain ⟨a2, c2, rfl⟩ := h.slice
  have hn : xs.length < 4611686018427387904 := h.1
  have HAT := Lib.hid hat
  have HAT2 := Lib.hid hat2
  have HV := Lib.hid hv
  have HU := Lib.hid h
  rw [hl16]
  clear hat hat2 hv h hl16
  go_enter Try.func18, Try.ntmps18
  go_wp2_with fail
  go_loopw [5] (fun iv wr => ∃ i : Nat, i ≤ xs.length + 16 ∧ iv = .int .i64 i ∧ Below w.heap.size w wr) (fun iv _ => xs.length + 16 - (intOf iv).toNat)
  case atStart => exact ⟨0, by omega, rfl, Below.refl _ _⟩
  case round =>
    obtain ⟨i, hi, rfl, hW⟩ := hrel
    by_cases hlt : i < xs.length + 16
    · obtain ⟨y, hy⟩ : ∃ y, ys[i]? = some y := by
        by_cases hx : i < xs.length
        · exact ⟨_, (HAT2.out i hx).trans (List.getElem?_eq_getElem hx)⟩
        · exact ⟨_, HAT.out i (by omega) hlt⟩
      obtain ⟨g1, o1, rfl, hc1⟩ := (HV.out.below hW).at hy
      have HC1 := Lib.hid hc1
      clear hc1
      have hilen : (i : Int) - xs.length ≤ 16 := by omega
      go_wp2_with fail
      refine (markMarks_any ((i : Int) - xs.length) wr).mono ?_
      rintro e w5 ⟨rfl, hb5⟩
      have hW5 := hW.trans (hb5.mono hW.size)
      have HC5 : Hid (w5.rangeAt g1 (o1 + i * 2) (markE.enc y)) := by
        obtain ⟨g1', o1', hg, hc⟩ := (HV.out.below hW5).at hy
        injection hg with hg
        injection hg with e1 e2
        subst e1
        subst e2
        exact hc
      clear HC1
      have heq := eqMarks y y
      simp only [decide_true] at heq
      by_cases hx : i < xs.length
      · obtain ⟨g2, o2, rfl, hc2⟩ := (HU.out.below hW5).at ((HAT2.out i hx).symm.trans hy)
        have HE := Lib.hid heq
        have HC2 := Lib.hid hc2
        clear hy heq hc2
        obtain ⟨a, b⟩ := y
        generalize mkMarks 90 ((i : Int) - xs.length) = z
        obtain ⟨a2, b2⟩ := z
        have hcA : (w5.alloc (.cells #[.int .i64 a, .int .i64 b] 55)).rangeAt g1 (o1 + i * 2) [.int .i64 a, .int .i64 b] := fun j v hv => (cell_kept (heap_alloc_old _ _ (rangeE_lt HC5.out))).trans (HC5.out j v hv)
        have hcB : (w5.alloc (.cells #[.int .i64 a, .int .i64 b] 55)).rangeAt w5.heap.size 0 [.int .i64 a, .int .i64 b] := rangeAt_of_row (heap_alloc_new w5 _) 0 _ (fun j v hv => by simpa using hv)
        have hcC : (w5.alloc (.cells #[.int .i64 a2, .int .i64 b2] 55)).rangeAt g2 (o2 + i * 2) [.int .i64 a, .int .i64 b] := fun j v hv => (cell_kept (heap_alloc_old _ _ (rangeE_lt HC2.out))).trans (HC2.out j v hv)
        have hWA := hW5.alloc hW5.size (.cells #[.int .i64 a, .int .i64 b] 55)
        have HCC := Lib.hid hcC
        clear HC5 HC2 hb5 hW hcC
        go_wp2_with (refine wpList_val (.agg #[.int .i64 a, .int .i64 b]) (by kernel_rfl) (exec_load_mid HCC.out rfl rfl Try.underlying55 rfl (by kernel_rfl)) ?_)
        generalize hwa : w5.alloc (.cells #[.int .i64 a, .int .i64 b] 55) = wa at hcA hcB hWA ⊢
        have HCA := Lib.hid hcA
        have HCB := Lib.hid hcB
        clear hcA hcB hwa HCC
        refine wp_region_still_tail 5 (by kernel_rfl) (by kernel_rfl) ?_
        simp only [List.take_succ_cons, List.take_zero, List.drop_succ_cons, List.drop_zero]
        refine (fun (Hst : wpStill _ _ (World.drew _) (fun a' => wpList _ _ _ _ a' (World.drew _)) _ _) => Hst) ?_
        (refine still_yes ?v1 (by kernel_rfl) ?y1 ?z1; case y1 => (go_simp; (try (rw [if_neg (by omega)])); (try (rw [if_pos (by omega)])); (try with_reducible rfl)))
        (try simp only [Act.put, List.setIfInBounds_toArray, List.set_cons_zero, List.set_cons_succ])
        (refine still_yes ?v2 (by kernel_rfl) ?y2 ?z2; case y2 => (go_simp; (try (rw [if_neg (by omega)])); (try (rw [if_pos (by omega)])); (try with_reducible rfl)))
        (try simp only [Act.put, List.setIfInBounds_toArray, List.set_cons_zero, List.set_cons_succ])
        (refine still_yes ?v3 (by kernel_rfl) ?y3 ?z3; case y3 => (go_simp; (try (rw [if_neg (by omega)])); (try (rw [if_pos (by omega)])); (try with_reducible rfl)))
        (try simp only [Act.put, List.setIfInBounds_toArray, List.set_cons_zero, List.set_cons_succ])
        refine still_yes _ (by kernel_rfl) (exec_load_mid HCA.out rfl rfl Try.underlying55 rfl (by kernel_rfl)) ?_
        (try simp only [Act.put, List.setIfInBounds_toArray, List.set_cons_zero, List.set_cons_succ])
        refine still_yes _ (by kernel_rfl) (exec_load_mid HCB.out rfl rfl Try.underlying55 rfl (by kernel_rfl)) ?_
        (try simp only [Act.put, List.setIfInBounds_toArray, List.set_cons_zero, List.set_cons_succ])
        refine wpStill_nil ?_
        refine wpList_val (.bool false) (by kernel_rfl) (exec_neq_val (r := true) rfl rfl rfl (by kernel_rfl) HE.out rfl) ?_
        (try simp only [Act.put, List.setIfInBounds_toArray, List.set_cons_zero, List.set_cons_succ])
        go_wp2_with fail
        exact ⟨⟨i + 1, by omega, by go_num, hWA.drew⟩, by simp [intOf]; omega⟩
      · have he : mkMarks 90 ((i : Int) - xs.length) = y := by
          have := HAT.out i (by omega) hlt
          rw [hy] at this
          injection this with this
          exact this.symm
        rw [he]
        have HE := Lib.hid heq
        clear he hy heq
        obtain ⟨a, b⟩ := y
        have hcA : (w5.alloc (.cells #[.int .i64 a, .int .i64 b] 55)).rangeAt g1 (o1 + i * 2) [.int .i64 a, .int .i64 b] := fun j v hv => (cell_kept (heap_alloc_old _ _ (rangeE_lt HC5.out))).trans (HC5.out j v hv)
        have hcB : (w5.alloc (.cells #[.int .i64 a, .int .i64 b] 55)).rangeAt w5.heap.size 0 [.int .i64 a, .int .i64 b] := rangeAt_of_row (heap_alloc_new w5 _) 0 _ (fun j v hv => by simpa using hv)
        have hWA := hW5.alloc hW5.size (.cells #[.int .i64 a, .int .i64 b] 55)
        clear HC5 hb5 hW
        go_wp2_with fail
        generalize hwa : w5.alloc (.cells #[.int .i64 a, .int .i64 b] 55) = wa at hcA hcB hWA ⊢
        have HCA := Lib.hid hcA
        have HCB := Lib.hid hcB
        clear hcA hcB hwa
        refine wp_region_still_tail 5 (by kernel_rfl) (by kernel_rfl) ?_
        simp only [List.take_succ_cons, List.take_zero, List.drop_succ_cons, List.drop_zero]
        refine (fun (Hst : wpStill _ _ (World.drew _) (fun a' => wpList _ _ _ _ a' (World.drew _)) _ _) => Hst) ?_
        (refine still_yes ?v4 (by kernel_rfl) ?y4 ?z4; case y4 => (go_simp; (try (rw [if_neg (by omega)])); (try (rw [if_pos (by omega)])); (try with_reducible rfl)))
        (try simp only [Act.put, List.setIfInBounds_toArray, List.set_cons_zero, List.set_cons_succ])
        (refine still_yes ?v5 (by kernel_rfl) ?y5 ?z5; case y5 => (go_simp; (try (rw [if_neg (by omega)])); (try (rw [if_pos (by omega)])); (try with_reducible rfl)))
        (try simp only [Act.put, List.setIfInBounds_toArray, List.set_cons_zero, List.set_cons_succ])
        (refine still_yes ?v6 (by kernel_rfl) ?y6 ?z6; case y6 => (go_simp; (try (rw [if_neg (by omega)])); (try (rw [if_pos (by omega)])); (try with_reducible rfl)))
        (try simp only [Act.put, List.setIfInBounds_toArray, List.set_cons_zero, List.set_cons_succ])
        refine still_yes _ (by kernel_rfl) (exec_load_mid HCA.out rfl rfl Try.underlying55 rfl (by kernel_rfl)) ?_
        (try simp only [Act.put, List.setIfInBounds_toArray, List.set_cons_zero, List.set_cons_succ])
        refine still_yes _ (by kernel_rfl) (exec_load_mid HCB.out rfl rfl Try.underlying55 rfl (by kernel_rfl)) ?_
        (try simp only [Act.put, List.setIfInBounds_toArray, List.set_cons_zero, List.set_cons_succ])
        refine wpStill_nil ?_
        refine wpList_val (.bool false) (by kernel_rfl) (exec_neq_val (r := true) rfl rfl rfl (by kernel_rfl) HE.out rfl) ?_
        (try simp only [Act.put, List.setIfInBounds_toArray, List.set_cons_zero, List.set_cons_succ])
        go_wp2_with fail
        exact ⟨⟨i + 1, by omega, by go_num, hWA.drew⟩, by simp [intOf]; omega⟩
    · go_wp2_with fail
      go_ret
      exact ⟨rfl, hW⟩
end Go.Proofs.Ytkggmhcdoalhoaa
