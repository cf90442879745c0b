/- prio: Play by contract. -/
import Derived.Test.YtffioombjejchaaPrioV
import Derived.Laws.MakeOwn
namespace Go.Proofs.Ytffioombjejchaa
set_option linter.unusedVariables false
set_option linter.unusedSimpArgs false
open Go.RowKit
attribute [local irreducible] Go.wpStill

/-- a list of steps -/
def ReadsS (w : World) (v : Value) (xs : List StepT) : Prop :=
  xs.length * 24 ≤ 140737488351232 ∧ ∃ ao cap, v = .slice ao xs.length cap ∧ ∀ (i : Nat) (x : StepT), xs[i]? = some x → ∃ g o, ao = some ⟨g, o, none⟩ ∧ w.rangeAt g (o + i * 3) [.int .i64 x.1, .int .i64 x.2.1, .int .i64 x.2.2]
theorem ReadsS.kept {w w' : World} {v : Value} {xs : List StepT} (h : ReadsS w v xs) (hk : ∀ k, k < w.heap.size → w'.heap[k]? = w.heap[k]?) : ReadsS w' v xs := by
  obtain ⟨hl, ao, cap, hv, hr⟩ := h
  refine ⟨hl, ao, cap, hv, fun i x hx => ?_⟩
  obtain ⟨g, o, hg, hc⟩ := hr i x hx
  refine ⟨g, o, hg, fun j v hv => ?_⟩
  rw [← hc j v hv]
  simp only [World.cell?, hk g (rangeAt_lt hc)]
theorem ReadsS.below {w w' : World} {v : Value} {xs : List StepT} (h : ReadsS w v xs) (hb : Below w.heap.size w w') : ReadsS w' v xs := h.kept hb.block
/-- the answers of the first k steps, and what is there behind them -/
def playS (fall : Bool) (xs : List StepT) : Nat → List Pair × List Pair
  | 0 => ([], [])
  | k + 1 => ((playS fall xs k).1 ++ [(stepA fall (playS fall xs k).2 (xs.getD k default)).1], (stepA fall (playS fall xs k).2 (xs.getD k default)).2)
theorem playS_len (fall : Bool) (xs : List StepT) : ∀ k, (playS fall xs k).1.length = k
  | 0 => rfl
  | k + 1 => by simp [playS, playS_len fall xs k]
theorem stepA_len (fall : Bool) (ps : List Pair) (s : StepT) : (stepA fall ps s).2.length ≤ ps.length + 1 := by
  have h := fun b => List.length_eraseIdx_le ps b
  unfold stepA
  repeat (first | (split) | (simp only [List.length_append, List.length_cons, List.length_nil]; omega) | (have := h ‹_›; simp only; omega) | (simp only; omega))
theorem playS_held (fall : Bool) (xs : List StepT) : ∀ k, (playS fall xs k).2.length ≤ k
  | 0 => Nat.le_refl 0
  | k + 1 => by
    have h1 := playS_held fall xs k
    have h2 := stepA_len fall (playS fall xs k).2 (xs.getD k default)
    show (stepA fall (playS fall xs k).2 (xs.getD k default)).2.length ≤ k + 1
    omega
def PlayedP (w : World) (ps : List Pair) (e : Ending) (w' : World) : Prop := ∃ v, e = .returned v ∧ RowT w' w.heap.size v ps ∧ Below w.heap.size w w'
set_option maxRecDepth 100000 in
set_option maxHeartbeats 4000000 in
theorem play_any (sv : Value) (fall : Bool) (xs : List StepT) (w : World) (hS : ReadsS w sv xs) :
    Calls Try.prog 39 #[sv, .bool fall] w (PlayedP w (playS fall xs xs.length).1) := by
  obtain ⟨hl, ao, cap, rfl, hr⟩ := id hS
  have HS := Lib.hid hS
  have hB1 : Below w.heap.size w (w.alloc (.cells #[.bool fall] 4)) := (Below.refl _ _).alloc (Nat.le_refl _) _
  have hF1 := heap_alloc_new w (.cells #[.bool fall] 4)
  have hs1 : (w.alloc (.cells #[.bool fall] 4)).heap.size = w.heap.size + 1 := by simp
  have HB1 := Lib.hid hB1
  have HF1 := Lib.hid hF1
  have HS1 := Lib.hid hs1
  clear hS hr hB1 hF1 hs1
  go_enter Try.func39, Try.ntmps39
  go_wp2_with fail
  generalize w.alloc (.cells #[.bool fall] 4) = w1 at HB1 HF1 HS1 ⊢
  refine (newP _ fall w1 (.inr (.inr ⟨_, rfl, HF1.out⟩))).mono ?_
  rintro e w2 ⟨rfl, hA2, hB2, hs2⟩
  have hs1 := HS1.out
  obtain ⟨i0, hi1, hi2, hi3, hi4⟩ := infoT
  obtain ⟨w4, hmk, hown4, hg4⟩ := run_make_own (P := Try.prog) w2 w.heap.size 29 25 i0 _ 2 Try.underlying29 hi1 hi2 hi3 .i64 .i64 xs.length (by rw [hi4]; omega) (by unfold maxLen; omega) (by omega)
  have hA4 := hA2.kept (fun k hk => hg4.block k hk (by simp))
  have hB4 : Below w.heap.size w w4 := (HB1.out.trans (hB2.mono HB1.out.size)).trans (grown_below hg4 (by omega) (fun k hk => by cases hk))
  have hR4 : RowT w4 w.heap.size _ [] := RowT.of_own (ps := []) hown4 rfl
  have HA4 := Lib.hid hA4
  have HB4 := Lib.hid hB4
  have HR4 := Lib.hid hR4
  have HHS : w.heap.size ≤ w1.heap.size := by omega
  clear hA2 hB2 hown4 hg4 hs2 hA4 hB4 hR4 hs1
  go_wp2_with fail
  clear hmk HB1 HF1 HS1
  generalize w1.heap.size = c0 at HA4 HHS ⊢
  generalize Value.slice (some ⟨w2.heap.size, 0, none⟩) 0 xs.length = o4 at HR4 ⊢
  clear w2 w1
  go_loopw [6, 16] (fun ov iv wr => ∃ (k n : Nat) (r : Option Nat), k ≤ xs.length ∧ iv = .int .i64 k ∧ n ≤ k ∧ RowT wr w.heap.size ov (playS fall xs k).1 ∧ HeapP wr (c0 + 1) c0 fall (playS fall xs k).2 n r ∧ (∀ q, r = some q → w.heap.size ≤ q) ∧ Below w.heap.size w wr) (fun _ iv _ => xs.length - (intOf iv).toNat)
  case atStart => exact ⟨0, 0, none, by omega, rfl, Nat.le_refl 0, HR4.out, HA4.out, (fun q hq => by cases hq), HB4.out⟩
  case round =>
    clear HA4 HB4 HR4
    obtain ⟨k, n, r, hk, rfl, hn, hR, hA, hr, hB⟩ := hrel
    by_cases hkl : k < xs.length
    · obtain ⟨x, hx⟩ : ∃ x, xs[k]? = some x := ⟨_, List.getElem?_eq_getElem hkl⟩
      obtain ⟨_, ao', cap', hva, hra⟩ := HS.out.below hB
      injection hva with h1 h2 h3
      subst h1
      obtain ⟨g, o, rfl, hca⟩ := hra k x hx
      have hgd : xs.getD k default = x := by rw [List.getD_eq_getElem?_getD, hx]; rfl
      have e0 := hca 0 _ rfl
      have e1 := hca 1 _ rfl
      have e2 := hca 2 _ rfl
      simp only [Nat.add_zero] at e0
      have hst : playS fall xs (k + 1) = ((playS fall xs k).1 ++ [(stepA fall (playS fall xs k).2 x).1], (stepA fall (playS fall xs k).2 x).2) := by rw [playS, hgd]
      have HST := Lib.hid hst
      have hpl := playS_len fall xs k
      have HPL := Lib.hid hpl
      clear h2 h3 hra hx hgd hca hst hpl
      go_wp2_with fail
      refine (step_any (c0 + 1) c0 n fall (playS fall xs k).2 r x _ (hA.kept (fun k hk => heap_alloc_old _ _ hk)) (by omega)).mono ?_
      rintro e w5 ⟨rfl, n5, r5, hn5, hA5, hT5⟩
      obtain ⟨hB5, hr5⟩ := hT5.big (hB.alloc hB.size _) (Nat.le_refl _) (by omega) hr
      have hR5 := (hR.kept (fun k hk => heap_alloc_old _ _ hk)).beside (hA.kept (fun k hk => heap_alloc_old _ _ hk)) hT5
      clear hA hR hB hT5 e0 e1 e2
      simp only [pairV]
      have hR5' := hR5.kept (w' := w5.alloc (.cells #[.int .i64 (stepA fall (playS fall xs k).2 x).1.1, .int .i64 (stepA fall (playS fall xs k).2 x).1.2] 25)) (fun k hk => heap_alloc_old _ _ hk)
      have hs5 := hB5.size
      obtain ⟨v6, w6, hrun, hR6, hg6, _, _⟩ := hR5'.push2 (by simp; omega) (stepA fall (playS fall xs k).2 x).1 w5.heap.size 1 (heap_alloc_new w5 _) (by rw [HPL.out]; omega)
      go_wp2_with (refine wpList_val v6 (by kernel_rfl) (exec_append2 rfl rfl rfl rfl hrun) ?_)
      exact ⟨⟨k + 1, n5, r5, by omega, by go_num, by omega, by rw [HST.out]; exact hR6, by rw [HST.out]; exact (hA5.kept (fun k hk => heap_alloc_old _ _ hk)).grown hg6 (fun g hg => (hR5'.type hg).2), hr5, (hB5.alloc hs5 _).trans (grown_below hg6 (by simp; omega) (fun k hk => (hR5'.type hk).1))⟩, by simp [intOf]; omega⟩
    · have hke : k = xs.length := by omega
      subst hke
      go_wp2_with fail
      go_ret
      exact ⟨_, rfl, hR, hB⟩
end Go.Proofs.Ytffioombjejchaa
