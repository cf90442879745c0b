/- prio: the law PrioPlay by contract. -/
import Derived.Test.YtffioombjejchaaPrioY
namespace Go.Proofs.Ytffioombjejchaa
set_option linter.unusedVariables false
set_option linter.unusedSimpArgs false
open Go.RowKit
attribute [local irreducible] Go.wpStill

set_option maxRecDepth 100000 in
set_option maxHeartbeats 4000000 in
theorem prioPlay_any (sv : Value) (fall : Bool) (xs : List StepT) (w : World) (hS : ReadsS w sv xs) : Calls Try.prog 6 #[sv, .bool fall] w (RetB true w) := by
  have hS1 := hS.kept (w' := w.alloc (.cells #[] 64)) (fun k hk => heap_alloc_old _ _ hk)
  obtain ⟨v2, w2, hrun, hI2, hg2⟩ := copy_steps hS1 w.heap.size (heap_alloc_new w _)
  have hS2 := hS1.kept (w' := w2) (fun k hk => hg2.block k hk (by simp))
  have hB2 : Below w.heap.size w w2 := ((Below.refl _ _).alloc (Nat.le_refl _) _).trans (grown_below hg2 (by simp) (fun k hk => by cases hk))
  obtain ⟨hl, ao, cap, rfl, hr⟩ := id hS
  have HI2 := Lib.hid hI2
  have HS2 := Lib.hid hS2
  have HB2 := Lib.hid hB2
  clear hS hr hS1 hI2 hg2 hS2 hB2
  go_enter Try.func6, Try.ntmps6
  go_wp2_with (refine wpList_val (w' := w2) v2 (by kernel_rfl) (exec_append2 rfl rfl rfl rfl ?_) ?_; focus (exact hrun))
  clear hrun
  refine (refPlay_any _ fall xs w2 HS2.out).mono ?_
  rintro e w3 ⟨v3, rfl, hR3, hB3⟩
  have hI3 := HI2.out.below hB3
  have hS3 := HS2.out.below hB3
  have hZ3 := HB2.out.trans (hB3.mono HB2.out.size)
  have hw3 := hZ3.size
  clear HI2 HS2 HB2 hB3
  go_wp2_with fail
  refine (play_any _ fall xs w3 hI3).mono ?_
  rintro e w4 ⟨v4, rfl, hR4, hB4⟩
  have hI4 := hI3.below hB4
  have hS4 := hS3.below hB4
  have hZ4 := hZ3.trans (hB4.mono hZ3.size)
  have hR34 := hR3.below hB4
  have hw4 := hZ4.size
  clear hI3 hS3 hZ3 hR3
  go_wp2_with fail
  refine (play_any _ fall xs w4 hI4).mono ?_
  rintro e w5 ⟨v5, rfl, hR5, hB5⟩
  have hI5 := hI4.below hB5
  have hS5 := hS4.below hB5
  have hZ5 := hZ4.trans (hB5.mono hZ4.size)
  have hR35 := hR34.below hB5
  have hR45 := hR4.below hB5
  have hlt4 : ∀ q, v4.ownBlock = some q → q < w4.heap.size := fun q hq => by
    obtain ⟨_, cs, hc⟩ := hR4.type hq
    exact lt_of_block hc
  have HLT4 := Lib.hid hlt4
  clear hI4 hS4 hZ4 hR34 hR4 hB4 hB5 hlt4
  have hpl : (playS fall xs xs.length).1.length = xs.length := playS_len fall xs xs.length
  have HPL := Lib.hid hpl
  generalize (playS fall xs xs.length).1 = out at hR35 hR45 hR5 HPL
  clear hpl
  go_wp2_with fail
  refine (sameTwos_any _ _ out out w5 (hR45.reads (by rw [HPL.out]; omega)) (hR35.reads (by rw [HPL.out]; omega))).mono ?_
  rintro e w6 ⟨rfl, hB6⟩
  rw [decide_eq_true rfl]
  go_wp2_with fail
  refine (sameTwos_any _ _ out out w6 ((hR5.below hB6).reads (by rw [HPL.out]; omega)) ((hR35.below hB6).reads (by rw [HPL.out]; omega))).mono ?_
  rintro e w7 ⟨rfl, hB7⟩
  rw [decide_eq_true rfl]
  have hI7 := (hI5.below hB6).below hB7
  have hS7 := (hS5.below hB6).below hB7
  have hR47 := (hR45.below hB6).below hB7
  have hR57 := (hR5.below hB6).below hB7
  have hZ7 := (hZ5.trans (hB6.mono hZ5.size)).trans (hB7.mono (Nat.le_trans hZ5.size hB6.size))
  clear hI5 hS5 hR35 hR45 hR5 hZ5 hB6 hB7
  obtain ⟨_, aI, cI, rfl, hrI⟩ := id hI7
  have HI7 := Lib.hid hI7
  have HS7 := Lib.hid hS7
  have HR4 := Lib.hid hR47
  have HR5 := Lib.hid hR57
  have HZ7 := Lib.hid hZ7
  clear hI7 hS7 hrI hR47 hR57 hZ7
  go_wp2_with fail
  go_loopw [9] (fun iv wr => ∃ i : Nat, i ≤ xs.length ∧ iv = .int .i64 i ∧ Below w7.heap.size w7 wr) (fun iv _ => xs.length - (intOf iv).toNat)
  case atStart => exact ⟨0, by omega, rfl, Below.refl _ _⟩
  case round =>
    obtain ⟨i, hi, rfl, hW⟩ := hrel
    by_cases hin : i < xs.length
    · obtain ⟨x, hx⟩ : ∃ x, xs[i]? = some x := ⟨_, List.getElem?_eq_getElem hin⟩
      obtain ⟨_, a1, c1, hva, hra⟩ := HI7.out.below hW
      injection hva with h1 h2 h3
      subst h1
      obtain ⟨g1, o1, rfl, hc1⟩ := hra i x hx
      obtain ⟨_, a2, c2, hva2, hra2⟩ := HS7.out.below hW
      injection hva2 with h4 h5 h6
      subst h4
      obtain ⟨g2, o2, rfl, hc2⟩ := hra2 i x hx
      clear h2 h3 h5 h6 hra hra2 hx
      go_wp2_with fail
      refine wp_region_still_tail 8 (by kernel_rfl) (by kernel_rfl) ?_
      simp only [List.take_succ_cons, List.take_zero, List.drop_succ_cons, List.drop_zero]
      refine (fun (Hst : wpStill _ _ (World.drew _) (fun a' => wpList _ _ _ _ a' (World.drew _)) _ _) => Hst) ?_
      (refine still_yes ?v1 (by kernel_rfl) ?y1 ?z1; case y1 => (go_simp; (try (rw [if_neg (by omega)])); (try (rw [if_pos (by omega)])); (try with_reducible rfl)))
      (try simp only [Act.put, List.setIfInBounds_toArray, List.set_cons_zero, List.set_cons_succ])
      (refine still_yes ?v2 (by kernel_rfl) ?y2 ?z2; case y2 => (go_simp; (try (rw [if_neg (by omega)])); (try (rw [if_pos (by omega)])); (try with_reducible rfl)))
      (try simp only [Act.put, List.setIfInBounds_toArray, List.set_cons_zero, List.set_cons_succ])
      (refine still_yes ?v3 (by kernel_rfl) ?y3 ?z3; case y3 => (go_simp; (try (rw [if_neg (by omega)])); (try (rw [if_pos (by omega)])); (try with_reducible rfl)))
      (try simp only [Act.put, List.setIfInBounds_toArray, List.set_cons_zero, List.set_cons_succ])
      refine still_yes _ (by kernel_rfl) (exec_load_mid hc1 rfl rfl Try.underlying64 rfl (by kernel_rfl)) ?_
      (try simp only [Act.put, List.setIfInBounds_toArray, List.set_cons_zero, List.set_cons_succ])
      (refine still_yes ?v4 (by kernel_rfl) ?y4 ?z4; case y4 => (go_simp; (try (rw [if_neg (by omega)])); (try (rw [if_pos (by omega)])); (try with_reducible rfl)))
      (try simp only [Act.put, List.setIfInBounds_toArray, List.set_cons_zero, List.set_cons_succ])
      (refine still_yes ?v5 (by kernel_rfl) ?y5 ?z5; case y5 => (go_simp; (try (rw [if_neg (by omega)])); (try (rw [if_pos (by omega)])); (try with_reducible rfl)))
      (try simp only [Act.put, List.setIfInBounds_toArray, List.set_cons_zero, List.set_cons_succ])
      (refine still_yes ?v6 (by kernel_rfl) ?y6 ?z6; case y6 => (go_simp; (try (rw [if_neg (by omega)])); (try (rw [if_pos (by omega)])); (try with_reducible rfl)))
      (try simp only [Act.put, List.setIfInBounds_toArray, List.set_cons_zero, List.set_cons_succ])
      refine still_yes _ (by kernel_rfl) (exec_load_mid hc2 rfl rfl Try.underlying64 rfl (by kernel_rfl)) ?_
      (try simp only [Act.put, List.setIfInBounds_toArray, List.set_cons_zero, List.set_cons_succ])
      refine wpStill_nil ?_
      refine wpList_val (.bool false) (by kernel_rfl) (exec_neq_val (r := true) rfl rfl rfl (by kernel_rfl) (fun w => by rw [eqTrip x x w, decide_eq_true rfl]) rfl) ?_
      (try simp only [Act.put, List.setIfInBounds_toArray, List.set_cons_zero, List.set_cons_succ])
      go_wp2_with fail
      exact ⟨⟨i + 1, by omega, by go_num, hW.drew⟩, by simp [intOf]; omega⟩
    · have hie : i = xs.length := by omega
      subst hie
      obtain ⟨a4, c4, rfl⟩ := HR4.out.slice
      obtain ⟨a5, c5, rfl⟩ := HR5.out.slice
      go_wp2_with fail
      have hk8 : ∀ k, k < wr.heap.size → (wr.alloc (.cells #[.slice a4 out.length c4, .slice a5 out.length c5] 29)).heap[k]? = wr.heap[k]? := fun k hk => heap_alloc_old _ _ hk
      have hN8 := heap_alloc_new wr (.cells #[.slice a4 out.length c4, .slice a5 out.length c5] 29)
      have hR48 := ((HR4.out.below hW).kept hk8).low (Nat.zero_le _)
      have hR58 := ((HR5.out.below hW).kept hk8).low (Nat.zero_le _)
      have hlw8 : ∀ k, k < wr.heap.size → k < (wr.alloc (.cells #[.slice a4 out.length c4, .slice a5 out.length c5] 29)).heap.size := fun k hk => by simp; omega
      have h4lt : ∀ q, (Value.slice a4 out.length c4).ownBlock = some q → q < wr.heap.size ∧ w.heap.size ≤ q := fun q hq => by
        obtain ⟨hq1, cs, hc⟩ := (HR4.out.below hW).type hq
        exact ⟨lt_of_block hc, by omega⟩
      have h5lt : ∀ q, (Value.slice a5 out.length c5).ownBlock = some q → q < wr.heap.size ∧ w4.heap.size ≤ q := fun q hq => by
        obtain ⟨hq1, cs, hc⟩ := (HR5.out.below hW).type hq
        exact ⟨lt_of_block hc, hq1⟩
      have hcase : ∀ j q, j < 2 → ((fun j : Nat => if j = 0 then Value.slice a4 out.length c4 else Value.slice a5 out.length c5) j).ownBlock = some q → q < wr.heap.size ∧ w.heap.size ≤ q ∧ (j = 0 ∧ q < w4.heap.size ∨ j = 1 ∧ w4.heap.size ≤ q) := fun j q hj h => by
        by_cases e : j = 0
        · simp only [e, if_pos] at h
          exact ⟨(h4lt q h).1, (h4lt q h).2, .inl ⟨e, HLT4.out q h⟩⟩
        · simp only [if_neg e] at h
          exact ⟨(h5lt q h).1, by have := (h5lt q h).2; omega, .inr ⟨by omega, (h5lt q h).2⟩⟩
      have hFam : Fam (wr.alloc (.cells #[.slice a4 out.length c4, .slice a5 out.length c5] 29)) 2 (fun j => if j = 0 then Value.slice a4 out.length c4 else Value.slice a5 out.length c5) (fun j => if j = 0 then Value.slice a4 out.length c4 else Value.slice a5 out.length c5) (fun _ => out) (fun _ => out.length) := by
        have hrow : ∀ j, j < 2 → RowT (wr.alloc (.cells #[.slice a4 out.length c4, .slice a5 out.length c5] 29)) 0 (if j = 0 then Value.slice a4 out.length c4 else Value.slice a5 out.length c5) out := fun j hj => by
          split
          · exact hR48
          · exact hR58
        refine ⟨hrow, fun _ _ => Nat.le_refl _, fun j hj => ?_, fun j q hj h => hlw8 q (hcase j q hj h).1, fun j j' q hj hj' h h' => ?_⟩
        · rw [List.take_length]
          exact (hrow j hj).reads (by rw [HPL.out]; omega)
        · have h1 := hcase j q hj (h.elim id id)
          have h2 := hcase j' q hj' (h'.elim id id)
          omega
      refine (apart_any wr.heap.size 2 2 (fun j => if j = 0 then Value.slice a4 out.length c4 else Value.slice a5 out.length c5) (fun _ => out.length) (fun _ => out) _ (by omega) (fun j hj => ?_) (by simp) (fun j q hj h => ?_) hFam (fun _ _ => rfl) (fun _ _ => by rw [HPL.out]; omega)).mono ?_
      · rw [cell_of_row _ _ _ _ _ _ hN8]
        rcases j with _ | _ | j
        · rfl
        · rfl
        · omega
      · have := (hcase j q hj h).1
        omega
      · rintro e w9 ⟨rfl, hW9⟩
        have hZ9 : Below w.heap.size w w9 := by
          have hz8 : Below w.heap.size w (wr.alloc (.cells #[.slice a4 out.length c4, .slice a5 out.length c5] 29)) := (HZ7.out.trans (hW.mono HZ7.out.size)).alloc (by have := HZ7.out.size; have := hW.size; omega) _
          refine hz8.trans ⟨hW9.os, hW9.tape, hW9.output, hW9.size, fun k hk => hW9.block k (by have := hz8.size; omega) fun ⟨j, hj, h⟩ => ?_⟩
          have := (hcase j k hj h).2.1
          omega
        have HZ9 := Lib.hid hZ9
        clear hFam hcase h5lt h4lt hR48 hR58 hN8 hk8 hlw8 hW9 hZ9
        go_wp2_with fail
        go_ret
        exact ⟨rfl, HZ9.out⟩
end Go.Proofs.Ytffioombjejchaa
