/- prio: the document's row: Push by contract; a copy of a row. -/
import Derived.Test.YtffioombjejchaaPrioT
namespace Go.Proofs.Ytffioombjejchaa
set_option linter.unusedVariables false
set_option linter.unusedSimpArgs false
open Go.RowKit
attribute [local irreducible] Go.wpStill

/-- a row copied: append([]T(nil), v...) -/
theorem RowT.copy {w : World} {B : Nat} {v : Value} {ps : List Pair} (a : RowT w B v ps) (hb : ps.length * 16 ≤ 140737488355328) :
    ∃ v' w2, (Builtin.append_ #[29, 29] 29 #[.slice none 0 0, v]).run Try.prog w = .ok v' w2 ∧ RowT w2 w.heap.size v' ps ∧ w.grownBy w2 none := by
  obtain ⟨i0, hi1, hi2, hi3, hi4⟩ := infoT
  rcases a with ⟨rfl, rfl⟩ | ⟨g, cap, cur, rfl, hg, hh, hn, hm, hs, ht⟩
  · exact ⟨.slice none 0 0, w, by go_simp, .inl ⟨rfl, rfl⟩, ⟨rfl, rfl, rfl, Nat.le_refl _, fun _ _ _ => rfl⟩⟩
  · obtain ⟨v', w2, hr, ho, hg2, _⟩ := run_append_own (P := Try.prog) w w.heap.size 29 29 25 i0 _ 2 16 Try.underlying29 hi1 hi2 hi3 hi4 rfl (by omega) (.slice none 0 0) 0 [] ⟨rfl, .inl ⟨rfl, rfl⟩⟩ ⟨g, 0, none⟩ ps.length cap (flatT ps) (flatT_length ps) (fun j u hu => by
        have hadd : (⟨g, 0, none⟩ : Addr).add j = ⟨g, j, none⟩ := by unfold Addr.add; split <;> simp_all
        rw [hadd, cell_of_row _ _ _ _ _ _ hh]
        rw [← ht, List.getElem?_take] at hu
        split at hu
        · simpa using hu
        · cases hu) flatT_one (by unfold maxLen; omega) (by omega) (Nat.le_refl _)
    exact ⟨v', w2, hr, RowT.of_own (by simpa using ho) (by simp), hg2⟩
theorem RowT.newBlock {w : World} {B : Nat} {v : Value} {ps : List Pair} (a : RowT w B v ps) : ∀ k, v.ownBlock = some k → B ≤ k := fun k hk => (a.type hk).1
def PushedR (w : World) (h : Nat) (fall : Bool) (ps : List Pair) (g : Option Nat) (e : Ending) (w' : World) : Prop := e = .returned (.tuple #[]) ∧ ∃ g', RowR w' h fall ps g' ∧ Tch w w' h g g'
set_option maxRecDepth 100000 in
set_option maxHeartbeats 2000000 in
theorem pushR (h : Nat) (fall : Bool) (ps : List Pair) (g : Option Nat) (x : Pair) (w : World) (hR : RowR w h fall ps g) (hb : (ps.length + 1) * 16 ≤ 140737488351232) :
    Calls Try.prog 15 #[.pointer (some ⟨h, 0, none⟩), pairV x] w (PushedR w h fall (ps ++ [x]) g) := by
  have hlt := hR.hlt
  have hB1 : Below w.heap.size w (w.alloc (.cells #[.int .i64 x.1, .int .i64 x.2] 25)) := (Below.refl _ _).alloc (Nat.le_refl _) _
  have hX1 := heap_alloc_new w (.cells #[.int .i64 x.1, .int .i64 x.2] 25)
  have HB1 := Lib.hid hB1
  have HX1 := Lib.hid hX1
  clear hB1 hX1
  simp only [pairV]
  go_enter Try.func15, Try.ntmps15
  go_wp2_with fail
  generalize w.alloc (.cells #[.int .i64 x.1, .int .i64 x.2] 25) = w1 at HB1 HX1 ⊢
  obtain ⟨sl, hg, hh, hT⟩ := hR.below HB1.out
  have hT2 : RowT (w1.drew.alloc (.cells #[.int .i64 x.1, .int .i64 x.2] 25)) 0 sl ps := hT.kept fun k hk => heap_alloc_old w1.drew _ hk
  obtain ⟨v', w2, hrun, hT3, hg3, hrow3, _⟩ := hT2.push2 (Nat.zero_le _) x w1.heap.size 1 (heap_alloc_new w1.drew _) (by omega)
  obtain ⟨ra, rc, rfl⟩ := hT3.slice
  have hgl : ∀ k, sl.ownBlock = some k → k < w.heap.size ∧ k ≠ h := fun k hk => by
    have := hR.glt (hg.symm.trans hk)
    exact ⟨this.1, this.2.1⟩
  have hsz1 : w.heap.size ≤ w1.heap.size := HB1.out.size
  refine wp_region_till (k := 10) (S := fun w' => w'.heap[h]? = some (.cells #[.bool fall, sl] 31 (0, 0)) ∧ w'.heap[w.heap.size]? = some (.cells #[.int .i64 x.1, .int .i64 x.2] 25 (0, 0))) (by kernel_rfl) ?_
  have hHeld : w1.drew.heap[h]? = some (.cells #[.bool fall, sl] 31 (0, 0)) ∧ w1.drew.heap[w.heap.size]? = some (.cells #[.int .i64 x.1, .int .i64 x.2] 25 (0, 0)) := ⟨hh, HX1.out⟩
  (refine rt_yes 0 ?v1 (by simp only [List.getElem?_toArray, List.getElem?_cons_succ, List.getElem?_cons_zero]; rfl) (by kernel_rfl) (by kernel_rfl) (by kernel_rfl) (by kernel_rfl) (by exact fun _ _ _ h => h) (by kernel_rfl) (by exact fun _ => hHeld) ?y1 ?z1; case y1 => (intro w; go_simp; (try (rw [if_neg (by omega)])); (try with_reducible rfl)))
  (try simp only [Act.put, List.setIfInBounds_toArray, List.set_cons_zero, List.set_cons_succ])
  (refine rt_yes 1 ?v2 (by simp only [List.getElem?_toArray, List.getElem?_cons_succ, List.getElem?_cons_zero]; rfl) (by kernel_rfl) (by kernel_rfl) (by kernel_rfl) (by kernel_rfl) (by exact fun _ _ _ h => h) (by kernel_rfl) (by exact fun _ => hHeld) ?y2 ?z2; case y2 => (intro w; go_simp; (try (rw [if_neg (by omega)])); (try with_reducible rfl)))
  (try simp only [Act.put, List.setIfInBounds_toArray, List.set_cons_zero, List.set_cons_succ])
  (refine rt_yes 2 ?v3 (by simp only [List.getElem?_toArray, List.getElem?_cons_succ, List.getElem?_cons_zero]; rfl) (by kernel_rfl) (by kernel_rfl) (by kernel_rfl) (by kernel_rfl) (by exact fun _ _ _ h => h) (by kernel_rfl) (by exact fun _ => hHeld) ?y3 ?z3; case y3 => (intro w; go_simp; (try (rw [if_neg (by omega)])); (try with_reducible rfl)))
  (try simp only [Act.put, List.setIfInBounds_toArray, List.set_cons_zero, List.set_cons_succ])
  (refine rt_yes 3 ?v4 (by simp only [List.getElem?_toArray, List.getElem?_cons_succ, List.getElem?_cons_zero]; rfl) (by kernel_rfl) (by kernel_rfl) (by kernel_rfl) (by kernel_rfl) (by exact fun _ _ _ h => h) (by kernel_rfl) (by exact fun _ => hHeld) ?y4 ?z4; case y4 => (intro w; go_simp; (try (rw [if_neg (by omega)])); (try with_reducible rfl)))
  (try simp only [Act.put, List.setIfInBounds_toArray, List.set_cons_zero, List.set_cons_succ])
  refine rt_load 4 _ (by simp only [List.getElem?_toArray, List.getElem?_cons_succ, List.getElem?_cons_zero]; rfl) (by kernel_rfl) (by kernel_rfl) (by kernel_rfl) (by kernel_rfl) (by kernel_rfl) (by kernel_rfl) (by exact fun _ _ _ h => h) (by kernel_rfl) hHeld (fun w' hS => (exec_load_one (v := sl) hS.1 rfl rfl rfl (fun w => by kernel_rfl))) ?_
  (try simp only [Act.put, List.setIfInBounds_toArray, List.set_cons_zero, List.set_cons_succ])
  refine rt_load 5 _ (by simp only [List.getElem?_toArray, List.getElem?_cons_succ, List.getElem?_cons_zero]; rfl) (by kernel_rfl) (by kernel_rfl) (by kernel_rfl) (by kernel_rfl) (by kernel_rfl) (by kernel_rfl) (by exact fun _ _ _ h => h) (by kernel_rfl) hHeld (fun w' hS => (exec_load_row hS.2 rfl rfl Try.underlying25 rfl (by kernel_rfl))) ?_
  (try simp only [Act.put, List.setIfInBounds_toArray, List.set_cons_zero, List.set_cons_succ])
  refine rt_one 6 _ _ (by simp only [List.getElem?_toArray, List.getElem?_cons_succ, List.getElem?_cons_zero]; rfl) (by kernel_rfl) (by kernel_rfl) (by go_simp; first | exact ⟨rfl, rfl⟩ | rfl) (fun _ => ⟨(heap_alloc_old _ _ (lt_of_block hHeld.1)).trans hHeld.1, (heap_alloc_old _ _ (lt_of_block hHeld.2)).trans hHeld.2⟩) ?_
  (try simp only [Act.put, List.setIfInBounds_toArray, List.set_cons_zero, List.set_cons_succ])
  have hHeld1 : (w1.drew.alloc (.cells #[.int .i64 x.1, .int .i64 x.2] 25)).heap[h]? = some (.cells #[.bool fall, sl] 31 (0, 0)) ∧ (w1.drew.alloc (.cells #[.int .i64 x.1, .int .i64 x.2] 25)).heap[w.heap.size]? = some (.cells #[.int .i64 x.1, .int .i64 x.2] 25 (0, 0)) := ⟨(heap_alloc_old _ _ (lt_of_block hHeld.1)).trans hHeld.1, (heap_alloc_old _ _ (lt_of_block hHeld.2)).trans hHeld.2⟩
  have hHeld2 : w2.heap[h]? = some (.cells #[.bool fall, sl] 31 (0, 0)) ∧ w2.heap[w.heap.size]? = some (.cells #[.int .i64 x.1, .int .i64 x.2] 25 (0, 0)) := ⟨(hg3.block h (lt_of_block hHeld1.1) (fun e => (hgl h e.symm).2 rfl)).trans hHeld1.1, (hg3.block _ (lt_of_block hHeld1.2) (fun e => by have := (hgl _ e.symm).1; omega)).trans hHeld1.2⟩
  refine rt_one 7 _ _ (by simp only [List.getElem?_toArray, List.getElem?_cons_succ, List.getElem?_cons_zero]; rfl) (by kernel_rfl) (by kernel_rfl) (exec_append rfl rfl rfl rfl hrun) (fun _ => hHeld2) ?_
  (try simp only [Act.put, List.setIfInBounds_toArray, List.set_cons_zero, List.set_cons_succ])
  replace hHeld := hHeld2
  (refine rt_yes 8 ?v5 (by simp only [List.getElem?_toArray, List.getElem?_cons_succ, List.getElem?_cons_zero]; rfl) (by kernel_rfl) (by kernel_rfl) (by kernel_rfl) (by kernel_rfl) (by exact fun _ _ _ h => h) (by kernel_rfl) (by exact fun _ => hHeld) ?y5 ?z5; case y5 => (intro w; go_simp; (try (rw [if_neg (by omega)])); (try with_reducible rfl)))
  (try simp only [Act.put, List.setIfInBounds_toArray, List.set_cons_zero, List.set_cons_succ])
  (refine rt_yes 9 ?v6 (by simp only [List.getElem?_toArray, List.getElem?_cons_succ, List.getElem?_cons_zero]; rfl) (by kernel_rfl) (by kernel_rfl) (by kernel_rfl) (by kernel_rfl) (by exact fun _ _ _ h => h) (by kernel_rfl) (by exact fun _ => hHeld) ?y6 ?z6; case y6 => (intro w; go_simp; (try (rw [if_neg (by omega)])); (try with_reducible rfl)))
  (try simp only [Act.put, List.setIfInBounds_toArray, List.set_cons_zero, List.set_cons_succ])
  have k1 : w2.cell? ⟨h, 1, none⟩ = some sl := by rw [cell_of_row _ _ _ _ _ _ hHeld2.1]; rfl
  have z1 : w2.frozen? ⟨h, 1, none⟩ = false := by simp [World.frozen?, hHeld2.1]
  refine rt_skip 10 (w2.setCell ⟨h, 1, none⟩ (.slice ra (ps ++ [x]).length rc)) (by simp only [List.getElem?_toArray, List.getElem?_cons_succ, List.getElem?_cons_zero]; rfl) (by kernel_rfl) (by kernel_rfl) (by go_simp) (till_past (by kernel_rfl)) ?_
  (try simp only [Act.put, List.setIfInBounds_toArray, List.set_cons_zero, List.set_cons_succ])
  refine rt_done (by kernel_rfl) ?_ _
  have hr3 := setCell_row hHeld2.1 1 (.slice ra (ps ++ [x]).length rc)
  have hk3 : ∀ k, k ≠ h → (w2.setCell ⟨h, 1, none⟩ (.slice ra (ps ++ [x]).length rc)).heap[k]? = w2.heap[k]? := fun k hk => Below.heap_setCell _ _ _ _ hk
  have hrow4 : ∀ k, (Value.slice ra (ps ++ [x]).length rc).ownBlock = some k → k ≠ h := fun k hk => by
    rcases hrow3 with h1 | h1
    · exact (hgl k (h1 ▸ hk)).2
    · have := h1 k hk
      have hs2 : (w1.drew.alloc (.cells #[.int .i64 x.1, .int .i64 x.2] 25)).heap.size = w1.heap.size + 1 := by simp
      omega
  have hT4 : RowT (w2.setCell ⟨h, 1, none⟩ (.slice ra (ps ++ [x]).length rc)) 0 (.slice ra (ps ++ [x]).length rc) (ps ++ [x]) := hT3.congr fun k cs _ hk => hk3 k (hrow4 k hk)
  have hTch : Tch w (w2.setCell ⟨h, 1, none⟩ (.slice ra (ps ++ [x]).length rc)) h g (Value.slice ra (ps ++ [x]).length rc).ownBlock := by
    have t1 := Tch.of_below HB1.out h g
    have t2 : Tch w1 (w1.drew.alloc (.cells #[.int .i64 x.1, .int .i64 x.2] 25)) h g g := Tch.of_below ((Below.refl _ _).drew.alloc (Nat.le_refl _) _) h g
    have t3 : Tch (w1.drew.alloc (.cells #[.int .i64 x.1, .int .i64 x.2] 25)) w2 h g (Value.slice ra (ps ++ [x]).length rc).ownBlock := Tch.of_grown (by rw [← hg]; exact hg3) h (by rw [← hg]; exact hrow3)
    exact t1.trans (t2.trans (t3.trans (Tch.setCell_h h 1 _ _)))
  have HQ : RowKit.Hid (PushedR w h fall (ps ++ [x]) g (.returned (.tuple #[])) (w2.setCell ⟨h, 1, none⟩ (.slice ra (ps ++ [x]).length rc))) := Lib.hid ⟨rfl, _, ⟨_, rfl, hr3, hT4⟩, hTch⟩
  generalize w2.setCell ⟨h, 1, none⟩ (.slice ra (ps ++ [x]).length rc) = w5 at HQ ⊢
  clear hHeld hHeld1 hHeld2 k1 z1 hrun hg3 hrow3 hr3 hk3 hT4 hTch hT3 hrow4
  go_wp2_with fail
  go_end0
  exact HQ.out
end Go.Proofs.Ytffioombjejchaa
