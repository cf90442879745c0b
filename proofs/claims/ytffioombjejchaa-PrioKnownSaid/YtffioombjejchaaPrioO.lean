/- prio: works by contract. -/
import Derived.Test.YtffioombjejchaaPrioN
namespace Go.Proofs.Ytffioombjejchaa
set_option linter.unusedVariables false
set_option linter.unusedSimpArgs false
open Go.RowKit

theorem Tch.big {w w' : World} {h : Nat} {r r' : Option Nat} (a : Tch w w' h r r') {B : Nat} {w0 : World} (hb : Below B w0 w) (hB : B ≤ w0.heap.size) (hh : B ≤ h) (hr : ∀ k, r = some k → B ≤ k) : Below B w0 w' ∧ ∀ k, r' = some k → B ≤ k := by
  have hs := hb.size
  refine ⟨hb.trans (a.below (by omega) hh hr), fun k hk => ?_⟩
  rcases a.row with h1 | h1
  · exact hr k (h1 ▸ hk)
  · have := h1 k hk; omega
/-- a row of pairs written out -/
theorem reads_lit {w : World} {g n : Nat} {cs : Array Value} {t : TypeId} {fr : Nat × Nat} (h : w.heap[g]? = some (.cells cs t fr)) (ps : List Pair) (hn : n = ps.length) (hl : ps.length < 4611686018427387904) (hc : cs.toList = flatT ps) : ReadsT w (.slice (some ⟨g, 0, none⟩) n n) ps := by
  subst hn
  refine ⟨hl, _, _, rfl, fun i p hp => ⟨g, rfl, fun j v hv => ?_⟩⟩
  obtain ⟨h1, h2⟩ := flatT_at ps i p hp
  rw [← hc] at h1 h2
  rw [cell_of_row _ _ _ _ _ _ h]
  rcases j with _ | _ | j <;> simp at hv h1 h2 ⊢
  · rw [← hv]; exact h1
  · rw [← hv]; exact h2
set_option maxRecDepth 100000 in
set_option maxHeartbeats 2000000 in
theorem works_any (w : World) : Calls Try.prog 26 #[] w (RetB true w) := by
  go_enter Try.func26, Try.ntmps26
  go_wp2_with fail
  refine (newP _ false w (.inl ⟨rfl, rfl⟩)).mono ?_
  rintro e w1 ⟨rfl, hA1, hB1, hs1⟩
  have hF1 : PP.first false PP.all [(5, 1), (3, 2), (5, 3)] = some 1 := by decide
  have hF2 : PP.first false PP.all [(5, 1), (5, 3)] = some 0 := by decide
  have hF3 : PP.sorted false [(5, 1), (5, 3)] = [(5, 1), (5, 3)] := by decide
  have HF1 := Lib.hid hF1
  have HF2 := Lib.hid hF2
  have HF3 := Lib.hid hF3
  clear hF1 hF2 hF3
  go_wp2_with fail
  refine (pushP (w.heap.size + 1) w.heap.size 0 false [] none (5, 1) _ hA1 (by omega)).mono ?_
  rintro e w2 ⟨r2, rfl, hA2, hT2⟩
  obtain ⟨hB2, hr2⟩ := hT2.big hB1 (Nat.le_refl _) (by omega) (fun k hk => by cases hk)
  go_wp2_with fail
  refine (pushP (w.heap.size + 1) w.heap.size 1 false _ r2 (3, 2) _ hA2 (by omega)).mono ?_
  rintro e w3 ⟨r3, rfl, hA3, hT3⟩
  obtain ⟨hB3, hr3⟩ := hT3.big hB2 (Nat.le_refl _) (by omega) hr2
  go_wp2_with fail
  refine (pushP (w.heap.size + 1) w.heap.size 2 false _ r3 (5, 3) _ hA3 (by omega)).mono ?_
  rintro e w4 ⟨r4, rfl, hA4, hT4⟩
  obtain ⟨hB4, hr4⟩ := hT4.big hB3 (Nat.le_refl _) (by omega) hr3
  clear hA1 hB1 hs1 hA2 hT2 hB2 hr2 hA3 hT3 hB3 hr3 hT4
  go_wp2_with fail
  refine (popP (w.heap.size + 1) w.heap.size 3 false _ r4 _ hA4 (by omega)).mono ?_
  rintro e w5 h5
  have e4 : ([] ++ [((5 : Int), (1 : Int))] ++ [(3, 2)] ++ [(5, 3)] : List Pair) = [(5, 1), (3, 2), (5, 3)] := rfl
  rw [e4, HF1.out] at h5
  obtain ⟨rfl, hA5, hT5⟩ := h5
  have e5 : ([(5, 1), (3, 2), (5, 3)] : List Pair).eraseIdx 1 = [(5, 1), (5, 3)] := rfl
  rw [e5] at hA5
  obtain ⟨hB5, hr5⟩ := hT5.big hB4 (Nat.le_refl _) (by omega) hr4
  clear hA4 hB4 hT5 hr5 e4 e5
  simp only [pairV, List.getD_cons_succ, List.getD_cons_zero]
  go_wp2_with fail
  have hA6 := hA5.kept (w' := w5.alloc (.cells #[.int .i64 3, .int .i64 2] 25)) (fun k hk => heap_alloc_old _ _ hk)
  have hB6 : Below w.heap.size w (w5.alloc (.cells #[.int .i64 3, .int .i64 2] 25)) := hB5.alloc hB5.size _
  have hR6 := heap_alloc_new w5 (.cells #[.int .i64 3, .int .i64 2] 25)
  generalize w5.alloc (.cells #[.int .i64 3, .int .i64 2] 25) = w6 at hA6 hB6 hR6 ⊢
  clear hA5 hB5
  generalize w5.heap.size = b1 at hR6 ⊢
  refine (peekP (w.heap.size + 1) w.heap.size 3 false _ r4 _ hA6 (by omega)).mono ?_
  rintro e w7 ⟨h7, hB7⟩
  rw [HF2.out] at h7
  simp only [pairV, List.getD_cons_succ, List.getD_cons_zero] at h7
  subst h7
  have hA7 := hA6.below hB7
  have hR7 := rowAt_below hR6 hB7
  replace hB7 := hB6.trans (hB7.mono hB6.size)
  clear hA6 hB6 hR6
  go_wp2_with fail
  have hA8 := hA7.kept (w' := w7.alloc (.cells #[.int .i64 5, .int .i64 1] 25)) (fun k hk => heap_alloc_old _ _ hk)
  have hB8 : Below w.heap.size w (w7.alloc (.cells #[.int .i64 5, .int .i64 1] 25)) := hB7.alloc hB7.size _
  have hR8 := (heap_alloc_old w7 (.cells #[.int .i64 5, .int .i64 1] 25) (lt_of_block hR7)).trans hR7
  have hS8 := heap_alloc_new w7 (.cells #[.int .i64 5, .int .i64 1] 25)
  generalize w7.alloc (.cells #[.int .i64 5, .int .i64 1] 25) = w8 at hA8 hB8 hR8 hS8 ⊢
  clear hA7 hB7 hR7
  generalize w7.heap.size = b2 at hS8 ⊢
  refine (sortedP (w.heap.size + 1) w.heap.size 3 false _ r4 _ hA8 (by omega)).mono ?_
  rintro e w9 ⟨sv, rfl, hO9, hB9⟩
  rw [HF3.out] at hO9
  have hA9 := hA8.below hB9
  have hR9 := rowAt_below hR8 hB9
  have hS9 := rowAt_below hS8 hB9
  have hT9 : ReadsT w9 sv [(5, 1), (5, 3)] := own_readsT hO9 rfl (by decide)
  replace hB9 := hB8.trans (hB9.mono hB8.size)
  clear hA8 hB8 hR8 hS8 hO9
  have c1 : w9.cell? ⟨b1, 0, none⟩ = some (.int .i64 3) := by rw [cell_of_row _ _ _ _ _ _ hR9]; rfl
  have c2 : w9.cell? ⟨b1, 1, none⟩ = some (.int .i64 2) := by rw [cell_of_row _ _ _ _ _ _ hR9]; rfl
  have c3 : w9.cell? ⟨b2, 0, none⟩ = some (.int .i64 5) := by rw [cell_of_row _ _ _ _ _ _ hS9]; rfl
  have c4 : w9.cell? ⟨b2, 1, none⟩ = some (.int .i64 1) := by rw [cell_of_row _ _ _ _ _ _ hS9]; rfl
  clear hR9 hS9
  have q1 : ∀ w, (Op.equalIn 10000 25 (.agg #[.int .i64 3, .int .i64 2]) (.agg #[.int .i64 3, .int .i64 2])).run Try.prog w = .ok true w := fun w => eqPair (3, 2) (3, 2) w
  have q2 : ∀ w, (Op.equalIn 10000 25 (.agg #[.int .i64 5, .int .i64 1]) (.agg #[.int .i64 5, .int .i64 1])).run Try.prog w = .ok true w := fun w => eqPair (5, 1) (5, 1) w
  go_wp2_with fail
  clear c1 c2 c3 c4
  have hX : ReadsT (w9.alloc (.cells #[.int .i64 5, .int .i64 1, .int .i64 5, .int .i64 3] 25)) (.slice (some ⟨w9.heap.size, 0, none⟩) 2 2) [(5, 1), (5, 3)] := reads_lit (heap_alloc_new w9 _) [(5, 1), (5, 3)] rfl (by decide) rfl
  have hA10 := hA9.kept (w' := w9.alloc (.cells #[.int .i64 5, .int .i64 1, .int .i64 5, .int .i64 3] 25)) (fun k hk => heap_alloc_old _ _ hk)
  have hT10 := hT9.kept (w' := w9.alloc (.cells #[.int .i64 5, .int .i64 1, .int .i64 5, .int .i64 3] 25)) (fun k hk => heap_alloc_old _ _ hk)
  have hB10 : Below w.heap.size w (w9.alloc (.cells #[.int .i64 5, .int .i64 1, .int .i64 5, .int .i64 3] 25)) := hB9.alloc hB9.size _
  refine (sameTwos_any _ _ _ _ _ hT10 hX).mono ?_
  rintro e w11 ⟨rfl, hB11⟩
  have hA11 := hA10.below hB11
  replace hB11 := hB10.trans (hB11.mono hB10.size)
  have ed : decide (([(5, 1), (5, 3)] : List Pair) = [(5, 1), (5, 3)]) = true := by decide
  rw [ed]
  clear ed hA9 hT9 hB9 hX hA10 hT10 hB10
  go_wp2_with fail
  refine (lenP (w.heap.size + 1) w.heap.size 3 false _ r4 _ hA11 (by omega)).mono ?_
  rintro e w12 ⟨rfl, rfl⟩
  have el : ([(5, 1), (5, 3)] : List Pair).length = 2 := rfl
  rw [el]
  go_wp2_with fail
  go_ret
  exact ⟨rfl, hB11⟩
end Go.Proofs.Ytffioombjejchaa
