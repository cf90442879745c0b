/- custodykit's Lent, KeptFull, Kept lists of legs and keys: by contract. -/
import Derived.Test.YtkhhkbigpaoinaaDoorLent
namespace Go.Proofs.YtkhhkbigpaoinaaDoor
set_option linter.unusedVariables false
set_option linter.unusedSimpArgs false
open Go.RowKit
attribute [local irreducible] Go.wpStill marksE

theorem RowE.some {α : Type} {E : Enc α} {T : TypeId} {w : World} {B : Nat} {v : Value} {xs : List α} (a : RowE E T w B v xs) (h : 0 < xs.length) : ∃ g cap, v = .slice (some ⟨g, 0, none⟩) xs.length cap ∧ xs.length ≤ cap ∧ cap ≤ maxLen := by
  rcases a with ⟨_, rfl⟩ | ⟨g, cap, cur, hv, hg, hh, hn, hm, _⟩
  · simp at h
  · exact ⟨g, cap, hv, hn, hm⟩
set_option maxRecDepth 100000 in
theorem lentLegs_any (v : Value) (xs : List legT) (w : World) (h : ReadsE legE w v xs) (hs : (xs.length + 16) * (8 * 5) ≤ 140737488355328) :
    Calls Tryd.prog 14 #[v] w (LentP legE 106 w xs (marksE (mkLegs 90) 16)) := by
  have hF := fullLegs_any v xs w h hs
  obtain ⟨ao, cap, rfl⟩ := h.slice
  have hn : xs.length ≤ 140737488355328 := by omega
  have hl16 : (xs ++ marksE (mkLegs 90) 16).length = xs.length + 16 := by rw [List.length_append, marksE_len]
  generalize marksE (mkLegs 90) 16 = ms at hF hl16 ⊢
  have HL := Lib.hid hl16
  clear hs h hl16
  go_enter Tryd.func14, Tryd.ntmps14
  go_wp2_with fail
  refine hF.mono ?_
  rintro e w5 ⟨v5, rfl, hR, hB⟩
  obtain ⟨g, c5, rfl, h1, h2⟩ := hR.some (by rw [HL.out]; omega)
  have h3 : xs.length ≤ c5 := by rw [HL.out] at h1; omega
  have HR := Lib.hid hR
  unfold maxLen at h2
  clear hR h1
  go_wp2_with fail
  go_ret
  exact ⟨_, rfl, ⟨g, c5, rfl, HR.out⟩, hB⟩
set_option maxRecDepth 100000 in
set_option maxHeartbeats 2000000 in
theorem keptFullLegs_any (v u : Value) (xs : List legT) (w : World) (hv : ReadsE legE w v (xs ++ marksE (mkLegs 90) 16)) (h : ReadsE legE w u xs) :
    Calls Tryd.prog 38 #[v, u] w (FixB true w) := by
  have hl16 : (xs ++ marksE (mkLegs 90) 16).length = xs.length + 16 := by rw [List.length_append, marksE_len]
  have hat : ∀ i : Nat, xs.length ≤ i → i < xs.length + 16 → (xs ++ marksE (mkLegs 90) 16)[i]? = some (mkLegs 90 ((i : Int) - xs.length)) := fun i h1 h2 => by
    rw [List.getElem?_append_right h1, marksE_at _ _ _ (by omega), Int.ofNat_sub h1]
  have hat2 : ∀ i : Nat, i < xs.length → (xs ++ marksE (mkLegs 90) 16)[i]? = xs[i]? := fun i h1 => List.getElem?_append_left h1
  generalize xs ++ marksE (mkLegs 90) 16 = ys at hv hl16 hat hat2
  obtain ⟨a1, c1, rfl⟩ := hv.slice
  obtain ⟨a2, c2, rfl⟩ := h.slice
  have hn : xs.length < 4611686018427387904 := h.1
  have HAT := Lib.hid hat
  have HAT2 := Lib.hid hat2
  have HV := Lib.hid hv
  have HU := Lib.hid h
  rw [hl16]
  clear hat hat2 hv h hl16
  go_enter Tryd.func38, Tryd.ntmps38
  go_wp2_with fail
  go_loopw [5] (fun iv wr => ∃ i : Nat, i ≤ xs.length + 16 ∧ iv = .int .i64 i ∧ Below w.heap.size w wr) (fun iv _ => xs.length + 16 - (intOf iv).toNat)
  case atStart => exact ⟨0, by omega, rfl, Below.refl _ _⟩
  case round =>
    obtain ⟨i, hi, rfl, hW⟩ := hrel
    by_cases hlt : i < xs.length + 16
    · obtain ⟨y, hy⟩ : ∃ y, ys[i]? = some y := by
        by_cases hx : i < xs.length
        · exact ⟨_, (HAT2.out i hx).trans (List.getElem?_eq_getElem hx)⟩
        · exact ⟨_, HAT.out i (by omega) hlt⟩
      obtain ⟨g1, o1, rfl, hc1⟩ := (HV.out.below hW).at hy
      have HC1 := Lib.hid hc1
      clear hc1
      have hilen : (i : Int) - xs.length ≤ 16 := by omega
      go_wp2_with fail
      refine (markLegs_any ((i : Int) - xs.length) wr).mono ?_
      rintro e w5 ⟨rfl, hb5⟩
      have hW5 := hW.trans (hb5.mono hW.size)
      have HC5 : Hid (w5.rangeAt g1 (o1 + i * 5) (legE.enc y)) := by
        obtain ⟨g1', o1', hg, hc⟩ := (HV.out.below hW5).at hy
        injection hg with hg
        injection hg with e1 e2
        subst e1
        subst e2
        exact hc
      clear HC1
      have heq := eqLegs y y
      simp only [decide_true] at heq
      by_cases hx : i < xs.length
      · obtain ⟨g2, o2, rfl, hc2⟩ := (HU.out.below hW5).at ((HAT2.out i hx).symm.trans hy)
        have HE := Lib.hid heq
        have HC2 := Lib.hid hc2
        clear hy heq hc2
        obtain ⟨a, b, c, d, e⟩ := y
        generalize mkLegs 90 ((i : Int) - xs.length) = z
        obtain ⟨a2, b2, c2, d2, e2⟩ := z
        have hcA : (w5.alloc (.cells #[.int .i64 a, .int .i64 b, .int .i64 c, .int .i64 d, .int .i64 e] 106)).rangeAt g1 (o1 + i * 5) [.int .i64 a, .int .i64 b, .int .i64 c, .int .i64 d, .int .i64 e] := fun j v hv => (cell_kept (heap_alloc_old _ _ (rangeE_lt HC5.out))).trans (HC5.out j v hv)
        have hcB : (w5.alloc (.cells #[.int .i64 a, .int .i64 b, .int .i64 c, .int .i64 d, .int .i64 e] 106)).rangeAt w5.heap.size 0 [.int .i64 a, .int .i64 b, .int .i64 c, .int .i64 d, .int .i64 e] := rangeAt_of_row (heap_alloc_new w5 _) 0 _ (fun j v hv => by simpa using hv)
        have hcC : (w5.alloc (.cells #[.int .i64 a2, .int .i64 b2, .int .i64 c2, .int .i64 d2, .int .i64 e2] 106)).rangeAt g2 (o2 + i * 5) [.int .i64 a, .int .i64 b, .int .i64 c, .int .i64 d, .int .i64 e] := fun j v hv => (cell_kept (heap_alloc_old _ _ (rangeE_lt HC2.out))).trans (HC2.out j v hv)
        have hWA := hW5.alloc hW5.size (.cells #[.int .i64 a, .int .i64 b, .int .i64 c, .int .i64 d, .int .i64 e] 106)
        have HCC := Lib.hid hcC
        clear HC5 HC2 hb5 hW hcC
        go_wp2_with (refine wpList_val (.agg #[.int .i64 a, .int .i64 b, .int .i64 c, .int .i64 d, .int .i64 e]) (by kernel_rfl) (exec_load_mid HCC.out rfl rfl Tryd.underlying106 rfl (by kernel_rfl)) ?_)
        generalize hwa : w5.alloc (.cells #[.int .i64 a, .int .i64 b, .int .i64 c, .int .i64 d, .int .i64 e] 106) = wa at hcA hcB hWA ⊢
        have HCA := Lib.hid hcA
        have HCB := Lib.hid hcB
        clear hcA hcB hwa HCC
        refine wp_region_still_tail 5 (by kernel_rfl) (by kernel_rfl) ?_
        simp only [List.take_succ_cons, List.take_zero, List.drop_succ_cons, List.drop_zero]
        refine (fun (Hst : wpStill _ _ (World.drew _) (fun a' => wpList _ _ _ _ a' (World.drew _)) _ _) => Hst) ?_
        (refine still_yes ?v1 (by kernel_rfl) ?y1 ?z1; case y1 => (go_simp; (try (rw [if_neg (by omega)])); (try (rw [if_pos (by omega)])); (try with_reducible rfl)))
        (try simp only [Act.put, List.setIfInBounds_toArray, List.set_cons_zero, List.set_cons_succ])
        (refine still_yes ?v2 (by kernel_rfl) ?y2 ?z2; case y2 => (go_simp; (try (rw [if_neg (by omega)])); (try (rw [if_pos (by omega)])); (try with_reducible rfl)))
        (try simp only [Act.put, List.setIfInBounds_toArray, List.set_cons_zero, List.set_cons_succ])
        (refine still_yes ?v3 (by kernel_rfl) ?y3 ?z3; case y3 => (go_simp; (try (rw [if_neg (by omega)])); (try (rw [if_pos (by omega)])); (try with_reducible rfl)))
        (try simp only [Act.put, List.setIfInBounds_toArray, List.set_cons_zero, List.set_cons_succ])
        refine still_yes _ (by kernel_rfl) (exec_load_mid HCA.out rfl rfl Tryd.underlying106 rfl (by kernel_rfl)) ?_
        (try simp only [Act.put, List.setIfInBounds_toArray, List.set_cons_zero, List.set_cons_succ])
        refine still_yes _ (by kernel_rfl) (exec_load_mid HCB.out rfl rfl Tryd.underlying106 rfl (by kernel_rfl)) ?_
        (try simp only [Act.put, List.setIfInBounds_toArray, List.set_cons_zero, List.set_cons_succ])
        refine wpStill_nil ?_
        refine wpList_val (.bool false) (by kernel_rfl) (exec_neq_val (r := true) rfl rfl rfl (by kernel_rfl) HE.out rfl) ?_
        (try simp only [Act.put, List.setIfInBounds_toArray, List.set_cons_zero, List.set_cons_succ])
        go_wp2_with fail
        exact ⟨⟨i + 1, by omega, by go_num, hWA.drew⟩, by simp [intOf]; omega⟩
      · have he : mkLegs 90 ((i : Int) - xs.length) = y := by
          have := HAT.out i (by omega) hlt
          rw [hy] at this
          injection this with this
          exact this.symm
        rw [he]
        have HE := Lib.hid heq
        clear he hy heq
        obtain ⟨a, b, c, d, e⟩ := y
        have hcA : (w5.alloc (.cells #[.int .i64 a, .int .i64 b, .int .i64 c, .int .i64 d, .int .i64 e] 106)).rangeAt g1 (o1 + i * 5) [.int .i64 a, .int .i64 b, .int .i64 c, .int .i64 d, .int .i64 e] := fun j v hv => (cell_kept (heap_alloc_old _ _ (rangeE_lt HC5.out))).trans (HC5.out j v hv)
        have hcB : (w5.alloc (.cells #[.int .i64 a, .int .i64 b, .int .i64 c, .int .i64 d, .int .i64 e] 106)).rangeAt w5.heap.size 0 [.int .i64 a, .int .i64 b, .int .i64 c, .int .i64 d, .int .i64 e] := rangeAt_of_row (heap_alloc_new w5 _) 0 _ (fun j v hv => by simpa using hv)
        have hWA := hW5.alloc hW5.size (.cells #[.int .i64 a, .int .i64 b, .int .i64 c, .int .i64 d, .int .i64 e] 106)
        clear HC5 hb5 hW
        go_wp2_with fail
        generalize hwa : w5.alloc (.cells #[.int .i64 a, .int .i64 b, .int .i64 c, .int .i64 d, .int .i64 e] 106) = wa at hcA hcB hWA ⊢
        have HCA := Lib.hid hcA
        have HCB := Lib.hid hcB
        clear hcA hcB hwa
        refine wp_region_still_tail 5 (by kernel_rfl) (by kernel_rfl) ?_
        simp only [List.take_succ_cons, List.take_zero, List.drop_succ_cons, List.drop_zero]
        refine (fun (Hst : wpStill _ _ (World.drew _) (fun a' => wpList _ _ _ _ a' (World.drew _)) _ _) => Hst) ?_
        (refine still_yes ?v4 (by kernel_rfl) ?y4 ?z4; case y4 => (go_simp; (try (rw [if_neg (by omega)])); (try (rw [if_pos (by omega)])); (try with_reducible rfl)))
        (try simp only [Act.put, List.setIfInBounds_toArray, List.set_cons_zero, List.set_cons_succ])
        (refine still_yes ?v5 (by kernel_rfl) ?y5 ?z5; case y5 => (go_simp; (try (rw [if_neg (by omega)])); (try (rw [if_pos (by omega)])); (try with_reducible rfl)))
        (try simp only [Act.put, List.setIfInBounds_toArray, List.set_cons_zero, List.set_cons_succ])
        (refine still_yes ?v6 (by kernel_rfl) ?y6 ?z6; case y6 => (go_simp; (try (rw [if_neg (by omega)])); (try (rw [if_pos (by omega)])); (try with_reducible rfl)))
        (try simp only [Act.put, List.setIfInBounds_toArray, List.set_cons_zero, List.set_cons_succ])
        refine still_yes _ (by kernel_rfl) (exec_load_mid HCA.out rfl rfl Tryd.underlying106 rfl (by kernel_rfl)) ?_
        (try simp only [Act.put, List.setIfInBounds_toArray, List.set_cons_zero, List.set_cons_succ])
        refine still_yes _ (by kernel_rfl) (exec_load_mid HCB.out rfl rfl Tryd.underlying106 rfl (by kernel_rfl)) ?_
        (try simp only [Act.put, List.setIfInBounds_toArray, List.set_cons_zero, List.set_cons_succ])
        refine wpStill_nil ?_
        refine wpList_val (.bool false) (by kernel_rfl) (exec_neq_val (r := true) rfl rfl rfl (by kernel_rfl) HE.out rfl) ?_
        (try simp only [Act.put, List.setIfInBounds_toArray, List.set_cons_zero, List.set_cons_succ])
        go_wp2_with fail
        exact ⟨⟨i + 1, by omega, by go_num, hWA.drew⟩, by simp [intOf]; omega⟩
    · go_wp2_with fail
      go_ret
      exact ⟨rfl, hW⟩
set_option maxRecDepth 100000 in
theorem keptLegs_any (v u : Value) (xs : List legT) (B : Nat) (w : World) (hx : xs.length + 16 < 4611686018427387904) (hv : LentV legE 106 w B v xs (marksE (mkLegs 90) 16)) (h : ReadsE legE w u xs) :
    Calls Tryd.prog 19 #[v, u] w (FixB true w) := by
  obtain ⟨g, cap, rfl, hr⟩ := hv
  have hn : xs.length < 4611686018427387904 := h.1
  have hl16 : (xs ++ marksE (mkLegs 90) 16).length = xs.length + 16 := by rw [List.length_append, marksE_len]
  have hK : xs.length + 16 < 4611686018427387904 → Calls Tryd.prog 38 #[.slice (some ⟨g, 0, none⟩) (xs.length + 16) cap, u] w (FixB true w) := fun hlt => by
    have := keptFullLegs_any _ u xs w (hr.reads (by rw [hl16]; exact hlt)) h
    rwa [hl16] at this
  have hcap : xs.length + 16 ≤ cap ∧ cap ≤ maxLen := by
    obtain ⟨g', c', e, h1, h2⟩ := hr.some (by rw [hl16]; omega)
    injection e with _ _ e
    subst e
    exact ⟨by rw [← hl16]; exact h1, h2⟩
  obtain ⟨hc1, hc2⟩ := hcap
  unfold maxLen at hc2
  obtain ⟨a2, c2, rfl⟩ := h.slice
  have HK := Lib.hid hK
  clear hr hl16 hK h
  go_enter Tryd.func19, Tryd.ntmps19
  go_wp2_with fail
  refine (HK.out hx).mono ?_
  rintro e w1 ⟨rfl, hB⟩
  go_wp2_with fail
  go_ret
  exact ⟨rfl, hB⟩
set_option maxRecDepth 100000 in
theorem lentKeys_any (v : Value) (xs : List keyT) (w : World) (h : ReadsE keyE w v xs) (hs : (xs.length + 16) * (8 * 2) ≤ 140737488355328) :
    Calls Tryd.prog 15 #[v] w (LentP keyE 109 w xs (marksE (mkKeys 90) 16)) := by
  have hF := fullKeys_any v xs w h hs
  obtain ⟨ao, cap, rfl⟩ := h.slice
  have hn : xs.length ≤ 140737488355328 := by omega
  have hl16 : (xs ++ marksE (mkKeys 90) 16).length = xs.length + 16 := by rw [List.length_append, marksE_len]
  generalize marksE (mkKeys 90) 16 = ms at hF hl16 ⊢
  have HL := Lib.hid hl16
  clear hs h hl16
  go_enter Tryd.func15, Tryd.ntmps15
  go_wp2_with fail
  refine hF.mono ?_
  rintro e w5 ⟨v5, rfl, hR, hB⟩
  obtain ⟨g, c5, rfl, h1, h2⟩ := hR.some (by rw [HL.out]; omega)
  have h3 : xs.length ≤ c5 := by rw [HL.out] at h1; omega
  have HR := Lib.hid hR
  unfold maxLen at h2
  clear hR h1
  go_wp2_with fail
  go_ret
  exact ⟨_, rfl, ⟨g, c5, rfl, HR.out⟩, hB⟩
set_option maxRecDepth 100000 in
set_option maxHeartbeats 2000000 in
theorem keptFullKeys_any (v u : Value) (xs : List keyT) (w : World) (hv : ReadsE keyE w v (xs ++ marksE (mkKeys 90) 16)) (h : ReadsE keyE w u xs) :
    Calls Tryd.prog 39 #[v, u] w (FixB true w) := by
  have hl16 : (xs ++ marksE (mkKeys 90) 16).length = xs.length + 16 := by rw [List.length_append, marksE_len]
  have hat : ∀ i : Nat, xs.length ≤ i → i < xs.length + 16 → (xs ++ marksE (mkKeys 90) 16)[i]? = some (mkKeys 90 ((i : Int) - xs.length)) := fun i h1 h2 => by
    rw [List.getElem?_append_right h1, marksE_at _ _ _ (by omega), Int.ofNat_sub h1]
  have hat2 : ∀ i : Nat, i < xs.length → (xs ++ marksE (mkKeys 90) 16)[i]? = xs[i]? := fun i h1 => List.getElem?_append_left h1
  generalize xs ++ marksE (mkKeys 90) 16 = ys at hv hl16 hat hat2
  obtain ⟨a1, c1, rfl⟩ := hv.slice
  obtain ⟨a2, c2, rfl⟩ := h.slice
  have hn : xs.length < 4611686018427387904 := h.1
  have HAT := Lib.hid hat
  have HAT2 := Lib.hid hat2
  have HV := Lib.hid hv
  have HU := Lib.hid h
  rw [hl16]
  clear hat hat2 hv h hl16
  go_enter Tryd.func39, Tryd.ntmps39
  go_wp2_with fail
  go_loopw [5] (fun iv wr => ∃ i : Nat, i ≤ xs.length + 16 ∧ iv = .int .i64 i ∧ Below w.heap.size w wr) (fun iv _ => xs.length + 16 - (intOf iv).toNat)
  case atStart => exact ⟨0, by omega, rfl, Below.refl _ _⟩
  case round =>
    obtain ⟨i, hi, rfl, hW⟩ := hrel
    by_cases hlt : i < xs.length + 16
    · obtain ⟨y, hy⟩ : ∃ y, ys[i]? = some y := by
        by_cases hx : i < xs.length
        · exact ⟨_, (HAT2.out i hx).trans (List.getElem?_eq_getElem hx)⟩
        · exact ⟨_, HAT.out i (by omega) hlt⟩
      obtain ⟨g1, o1, rfl, hc1⟩ := (HV.out.below hW).at hy
      have HC1 := Lib.hid hc1
      clear hc1
      have hilen : (i : Int) - xs.length ≤ 16 := by omega
      go_wp2_with fail
      refine (markKeys_any ((i : Int) - xs.length) wr).mono ?_
      rintro e w5 ⟨rfl, hb5⟩
      have hW5 := hW.trans (hb5.mono hW.size)
      have HC5 : Hid (w5.rangeAt g1 (o1 + i * 2) (keyE.enc y)) := by
        obtain ⟨g1', o1', hg, hc⟩ := (HV.out.below hW5).at hy
        injection hg with hg
        injection hg with e1 e2
        subst e1
        subst e2
        exact hc
      clear HC1
      have heq := eqKeys y y
      simp only [decide_true] at heq
      by_cases hx : i < xs.length
      · obtain ⟨g2, o2, rfl, hc2⟩ := (HU.out.below hW5).at ((HAT2.out i hx).symm.trans hy)
        have HE := Lib.hid heq
        have HC2 := Lib.hid hc2
        clear hy heq hc2
        obtain ⟨a, b⟩ := y
        generalize mkKeys 90 ((i : Int) - xs.length) = z
        obtain ⟨a2, b2⟩ := z
        have hcA : (w5.alloc (.cells #[.int .i64 a, .int .i64 b] 109)).rangeAt g1 (o1 + i * 2) [.int .i64 a, .int .i64 b] := fun j v hv => (cell_kept (heap_alloc_old _ _ (rangeE_lt HC5.out))).trans (HC5.out j v hv)
        have hcB : (w5.alloc (.cells #[.int .i64 a, .int .i64 b] 109)).rangeAt w5.heap.size 0 [.int .i64 a, .int .i64 b] := rangeAt_of_row (heap_alloc_new w5 _) 0 _ (fun j v hv => by simpa using hv)
        have hcC : (w5.alloc (.cells #[.int .i64 a2, .int .i64 b2] 109)).rangeAt g2 (o2 + i * 2) [.int .i64 a, .int .i64 b] := fun j v hv => (cell_kept (heap_alloc_old _ _ (rangeE_lt HC2.out))).trans (HC2.out j v hv)
        have hWA := hW5.alloc hW5.size (.cells #[.int .i64 a, .int .i64 b] 109)
        have HCC := Lib.hid hcC
        clear HC5 HC2 hb5 hW hcC
        go_wp2_with (refine wpList_val (.agg #[.int .i64 a, .int .i64 b]) (by kernel_rfl) (exec_load_mid HCC.out rfl rfl Tryd.underlying109 rfl (by kernel_rfl)) ?_)
        generalize hwa : w5.alloc (.cells #[.int .i64 a, .int .i64 b] 109) = wa at hcA hcB hWA ⊢
        have HCA := Lib.hid hcA
        have HCB := Lib.hid hcB
        clear hcA hcB hwa HCC
        refine wp_region_still_tail 5 (by kernel_rfl) (by kernel_rfl) ?_
        simp only [List.take_succ_cons, List.take_zero, List.drop_succ_cons, List.drop_zero]
        refine (fun (Hst : wpStill _ _ (World.drew _) (fun a' => wpList _ _ _ _ a' (World.drew _)) _ _) => Hst) ?_
        (refine still_yes ?v7 (by kernel_rfl) ?y7 ?z7; case y7 => (go_simp; (try (rw [if_neg (by omega)])); (try (rw [if_pos (by omega)])); (try with_reducible rfl)))
        (try simp only [Act.put, List.setIfInBounds_toArray, List.set_cons_zero, List.set_cons_succ])
        (refine still_yes ?v8 (by kernel_rfl) ?y8 ?z8; case y8 => (go_simp; (try (rw [if_neg (by omega)])); (try (rw [if_pos (by omega)])); (try with_reducible rfl)))
        (try simp only [Act.put, List.setIfInBounds_toArray, List.set_cons_zero, List.set_cons_succ])
        (refine still_yes ?v9 (by kernel_rfl) ?y9 ?z9; case y9 => (go_simp; (try (rw [if_neg (by omega)])); (try (rw [if_pos (by omega)])); (try with_reducible rfl)))
        (try simp only [Act.put, List.setIfInBounds_toArray, List.set_cons_zero, List.set_cons_succ])
        refine still_yes _ (by kernel_rfl) (exec_load_mid HCA.out rfl rfl Tryd.underlying109 rfl (by kernel_rfl)) ?_
        (try simp only [Act.put, List.setIfInBounds_toArray, List.set_cons_zero, List.set_cons_succ])
        refine still_yes _ (by kernel_rfl) (exec_load_mid HCB.out rfl rfl Tryd.underlying109 rfl (by kernel_rfl)) ?_
        (try simp only [Act.put, List.setIfInBounds_toArray, List.set_cons_zero, List.set_cons_succ])
        refine wpStill_nil ?_
        refine wpList_val (.bool false) (by kernel_rfl) (exec_neq_val (r := true) rfl rfl rfl (by kernel_rfl) HE.out rfl) ?_
        (try simp only [Act.put, List.setIfInBounds_toArray, List.set_cons_zero, List.set_cons_succ])
        go_wp2_with fail
        exact ⟨⟨i + 1, by omega, by go_num, hWA.drew⟩, by simp [intOf]; omega⟩
      · have he : mkKeys 90 ((i : Int) - xs.length) = y := by
          have := HAT.out i (by omega) hlt
          rw [hy] at this
          injection this with this
          exact this.symm
        rw [he]
        have HE := Lib.hid heq
        clear he hy heq
        obtain ⟨a, b⟩ := y
        have hcA : (w5.alloc (.cells #[.int .i64 a, .int .i64 b] 109)).rangeAt g1 (o1 + i * 2) [.int .i64 a, .int .i64 b] := fun j v hv => (cell_kept (heap_alloc_old _ _ (rangeE_lt HC5.out))).trans (HC5.out j v hv)
        have hcB : (w5.alloc (.cells #[.int .i64 a, .int .i64 b] 109)).rangeAt w5.heap.size 0 [.int .i64 a, .int .i64 b] := rangeAt_of_row (heap_alloc_new w5 _) 0 _ (fun j v hv => by simpa using hv)
        have hWA := hW5.alloc hW5.size (.cells #[.int .i64 a, .int .i64 b] 109)
        clear HC5 hb5 hW
        go_wp2_with fail
        generalize hwa : w5.alloc (.cells #[.int .i64 a, .int .i64 b] 109) = wa at hcA hcB hWA ⊢
        have HCA := Lib.hid hcA
        have HCB := Lib.hid hcB
        clear hcA hcB hwa
        refine wp_region_still_tail 5 (by kernel_rfl) (by kernel_rfl) ?_
        simp only [List.take_succ_cons, List.take_zero, List.drop_succ_cons, List.drop_zero]
        refine (fun (Hst : wpStill _ _ (World.drew _) (fun a' => wpList _ _ _ _ a' (World.drew _)) _ _) => Hst) ?_
        (refine still_yes ?v10 (by kernel_rfl) ?y10 ?z10; case y10 => (go_simp; (try (rw [if_neg (by omega)])); (try (rw [if_pos (by omega)])); (try with_reducible rfl)))
        (try simp only [Act.put, List.setIfInBounds_toArray, List.set_cons_zero, List.set_cons_succ])
        (refine still_yes ?v11 (by kernel_rfl) ?y11 ?z11; case y11 => (go_simp; (try (rw [if_neg (by omega)])); (try (rw [if_pos (by omega)])); (try with_reducible rfl)))
        (try simp only [Act.put, List.setIfInBounds_toArray, List.set_cons_zero, List.set_cons_succ])
        (refine still_yes ?v12 (by kernel_rfl) ?y12 ?z12; case y12 => (go_simp; (try (rw [if_neg (by omega)])); (try (rw [if_pos (by omega)])); (try with_reducible rfl)))
        (try simp only [Act.put, List.setIfInBounds_toArray, List.set_cons_zero, List.set_cons_succ])
        refine still_yes _ (by kernel_rfl) (exec_load_mid HCA.out rfl rfl Tryd.underlying109 rfl (by kernel_rfl)) ?_
        (try simp only [Act.put, List.setIfInBounds_toArray, List.set_cons_zero, List.set_cons_succ])
        refine still_yes _ (by kernel_rfl) (exec_load_mid HCB.out rfl rfl Tryd.underlying109 rfl (by kernel_rfl)) ?_
        (try simp only [Act.put, List.setIfInBounds_toArray, List.set_cons_zero, List.set_cons_succ])
        refine wpStill_nil ?_
        refine wpList_val (.bool false) (by kernel_rfl) (exec_neq_val (r := true) rfl rfl rfl (by kernel_rfl) HE.out rfl) ?_
        (try simp only [Act.put, List.setIfInBounds_toArray, List.set_cons_zero, List.set_cons_succ])
        go_wp2_with fail
        exact ⟨⟨i + 1, by omega, by go_num, hWA.drew⟩, by simp [intOf]; omega⟩
    · go_wp2_with fail
      go_ret
      exact ⟨rfl, hW⟩
set_option maxRecDepth 100000 in
theorem keptKeys_any (v u : Value) (xs : List keyT) (B : Nat) (w : World) (hx : xs.length + 16 < 4611686018427387904) (hv : LentV keyE 109 w B v xs (marksE (mkKeys 90) 16)) (h : ReadsE keyE w u xs) :
    Calls Tryd.prog 20 #[v, u] w (FixB true w) := by
  obtain ⟨g, cap, rfl, hr⟩ := hv
  have hn : xs.length < 4611686018427387904 := h.1
  have hl16 : (xs ++ marksE (mkKeys 90) 16).length = xs.length + 16 := by rw [List.length_append, marksE_len]
  have hK : xs.length + 16 < 4611686018427387904 → Calls Tryd.prog 39 #[.slice (some ⟨g, 0, none⟩) (xs.length + 16) cap, u] w (FixB true w) := fun hlt => by
    have := keptFullKeys_any _ u xs w (hr.reads (by rw [hl16]; exact hlt)) h
    rwa [hl16] at this
  have hcap : xs.length + 16 ≤ cap ∧ cap ≤ maxLen := by
    obtain ⟨g', c', e, h1, h2⟩ := hr.some (by rw [hl16]; omega)
    injection e with _ _ e
    subst e
    exact ⟨by rw [← hl16]; exact h1, h2⟩
  obtain ⟨hc1, hc2⟩ := hcap
  unfold maxLen at hc2
  obtain ⟨a2, c2, rfl⟩ := h.slice
  have HK := Lib.hid hK
  clear hr hl16 hK h
  go_enter Tryd.func20, Tryd.ntmps20
  go_wp2_with fail
  refine (HK.out hx).mono ?_
  rintro e w1 ⟨rfl, hB⟩
  go_wp2_with fail
  go_ret
  exact ⟨rfl, hB⟩
end Go.Proofs.YtkhhkbigpaoinaaDoor
