/- prio: a step of Play in plain Lean; step by contract. Printed by gen_priov.py. -/
import Derived.Test.YtffioombjejchaaPrioU
import Derived.Test.YtffioombjejchaaPrioO
namespace Go.Proofs.Ytffioombjejchaa
set_option linter.unusedVariables false
set_option linter.unusedSimpArgs false
open Go.RowKit
attribute [local irreducible] Go.wpStill

abbrev StepT := Int × Int × Int
/-- the answer of a step, and what is there behind it -/
def stepA (fall : Bool) (ps : List Pair) (s : StepT) : Pair × List Pair :=
  if s.1 = 0 then (match PP.first fall PP.all ps with | none => ((-1, -1), ps) | some b => (ps.getD b default, ps.eraseIdx b))
  else if s.1 = 1 then ((s.2.1, s.2.2), ps ++ [(s.2.1, s.2.2)])
  else if s.1 = 2 then (match PP.first fall PP.all ps with | none => ((-1, -1), ps) | some b => (ps.getD b default, ps))
  else if s.1 = 3 then (match PP.first fall (askR false s.2.1) ps with | none => ((-1, -1), ps) | some b => (ps.getD b default, ps.eraseIdx b))
  else if s.1 = 4 then (((ps.length : Int), 0), ps)
  else ((-1, -1), ps)
def tripV (s : StepT) : Value := .agg #[.int .i64 s.1, .int .i64 s.2.1, .int .i64 s.2.2]
def SteppedP (w : World) (h c : Nat) (fall : Bool) (q : Pair × List Pair) (n : Nat) (r : Option Nat) (e : Ending) (w' : World) : Prop :=
  e = .returned (pairV q.1) ∧ ∃ n' r', n' ≤ n + 1 ∧ HeapP w' h c fall q.2 n' r' ∧ Tch w w' h r r'
theorem grown_of_store {w7 w8 : World} {b : Nat} (hs : w8.heap.size = w7.heap.size) (hbl : ∀ B W, Below B W w7 → B ≤ b → Below B W w8) (hot : ∀ k, k ≠ b → w8.heap[k]? = w7.heap[k]?) : w7.grownBy w8 (some b) := by
  have h0 := hbl 0 w7 (Below.refl 0 w7) (Nat.zero_le _)
  exact ⟨h0.os, h0.tape, h0.output, by omega, fun k _ hk => hot k (fun e => hk (by rw [e]))⟩
theorem HeapP.stored {w7 w8 : World} {h c n b : Nat} {fall : Bool} {ps : List Pair} {r : Option Nat} (a : HeapP w7 h c fall ps n r) {cs : Array Value} (hb : w7.heap[b]? = some (.cells cs 25 (0, 0))) (hs : w8.heap.size = w7.heap.size) (hbl : ∀ B W, Below B W w7 → B ≤ b → Below B W w8) (hot : ∀ k, k ≠ b → w8.heap[k]? = w7.heap[k]?) : HeapP w8 h c fall ps n r :=
  a.grown (grown_of_store hs hbl hot) fun g hg => by
    injection hg with hg
    exact ⟨cs, hg ▸ hb⟩
set_option maxRecDepth 100000 in
theorem step1_any (b : Nat) (s : StepT) (x : Pair) (w : World) (hS : w.heap[b]? = some (.cells #[.int .i64 s.1, .int .i64 s.2.1, .int .i64 s.2.2] 64 (0, 0))) :
    Calls Try.prog 54 #[.agg #[.int .i64 x.1, .int .i64 x.2], .pointer (some ⟨b, 0, none⟩)] w (RetB (askR false s.2.1 x) w) := by
  have c1 : w.cell? ⟨b, 1, none⟩ = some (.int .i64 s.2.1) := by rw [cell_of_row _ _ _ _ _ _ hS]; rfl
  have l1 := lt_of_block hS
  clear hS
  go_enter Try.func54, Try.ntmps54
  go_wp2_with fail
  go_ret
  refine ⟨?_, (Below.refl _ _).alloc (Nat.le_refl _) _⟩
  unfold askR
  rw [Bool.false_or]
  congr 2
theorem asks_step (b : Nat) (s : StepT) (w : World) (hS : w.heap[b]? = some (.cells #[.int .i64 s.1, .int .i64 s.2.1, .int .i64 s.2.2] 64 (0, 0))) :
    Asks (.func (.func 54) #[] #[.pointer (some ⟨b, 0, none⟩)]) (askR false s.2.1) w :=
  ⟨_, _, rfl, fun args w => by go_simp, fun w' x hb => step1_any b s x w' (rowAt_below hS hb)⟩
set_option maxRecDepth 100000 in
set_option maxHeartbeats 4000000 in
theorem step_any (h c n : Nat) (fall : Bool) (ps : List Pair) (r : Option Nat) (s : StepT) (w : World) (hA : HeapP w h c fall ps n r) (hb : (n + 1) * 24 ≤ 140737488351232) :
    Calls Try.prog 50 #[.pointer (some ⟨h, 0, none⟩), tripV s] w (SteppedP w h c fall (stepA fall ps s) n r) := by
  obtain ⟨hS1, hZ1, hX1, hk1, hb1⟩ := three_new (Below.refl w.heap.size w) (Nat.le_refl _) #[.int .i64 s.1, .int .i64 s.2.1, .int .i64 s.2.2] #[.int .i64 0, .int .i64 0] #[.int .i64 0, .int .i64 0] 64 25 25
  have hA1 := hA.kept hk1
  have hT1 := Tch.of_below hb1 h r
  obtain ⟨s0, s1, s2⟩ := s
  simp only at hS1 hZ1 hX1 hA1 hT1
  have HS1 := Lib.hid hS1
  have HZ1 := Lib.hid hZ1
  have HX1 := Lib.hid hX1
  have HT1 := Lib.hid hT1
  clear hS1 hZ1 hX1 hT1 hk1 hb1
  simp only [tripV]

  by_cases k0 : s0 = 0
  · subst k0
    cases ho : PP.first fall PP.all ps with
    | none =>
      have hst : stepA fall ps (0, s1, s2) = ((-1, -1), ps) := by simp [stepA, ho]
      have HST := Lib.hid hst
      have HO := Lib.hid ho
      clear hst ho
      go_enter Try.func50, Try.ntmps50
      go_wp2_with fail
      generalize ((w.alloc (.cells #[.int .i64 0, .int .i64 s1, .int .i64 s2] 64)).alloc (.cells #[.int .i64 0, .int .i64 0] 25)).alloc (.cells #[.int .i64 0, .int .i64 0] 25) = w1 at HS1 HZ1 HX1 HT1 hA1 ⊢
      refine (popP h c n fall ps r w1 hA1 (by omega)).mono ?_
      rintro e w2 h2
      rw [HO.out] at h2
      obtain ⟨rfl, hb2⟩ := h2
      have hA2 := hA1.below hb2
      have hT2 := Tch.of_below hb2 h r
      have hX2 := hA1.other hT2 HX1.out (by decide) (by decide)
      have hZ2 := hA1.other hT2 HZ1.out (by decide) (by decide)
      have hT2' := HT1.out.trans hT2
      have HX2 := Lib.hid hX2
      have HZ2 := Lib.hid hZ2
      have HT2 := Lib.hid hT2'
      clear hX2 hZ2 hT2 hT2' hb2
      simp only [pairV, zeroP]
      go_wp2_with (first
        | (refine wpList_store_any rfl 25 _ _ rfl (w.heap.size + 2) _ rfl rfl 25 _ HX2.out (by kernel_rfl) rfl (by simp [Value.oneCell']) ?_; intro w3 hr3 hs3 hbl3 hot3; have x0 : w3.cell? ⟨w.heap.size + 2, 0, none⟩ = some (.int .i64 0) := (by rw [cell_of_row _ _ _ _ _ _ hr3]; rfl); have x1 : w3.cell? ⟨w.heap.size + 2, 1, none⟩ = some (.int .i64 0) := (by rw [cell_of_row _ _ _ _ _ _ hr3]; rfl))
        | (refine wpList_store_any rfl 25 _ _ rfl (w.heap.size + 1) _ rfl rfl 25 _ ((hot3 (w.heap.size + 1) (by omega)).trans HZ2.out) (by kernel_rfl) rfl (by simp [Value.oneCell']) ?_; intro w4 hr4 hs4 hbl4 hot4))
      have hAe := (hA2.stored HX2.out hs3 hbl3 hot3)
      have hTe := HT2.out.store_new (Nat.le_add_right _ 2) hs3 hbl3 hot3
      have hZe := (hot3 (w.heap.size + 1) (by omega)).trans HZ2.out
      have hAf := hAe.stored hZe hs4 hbl4 hot4
      have hTf := hTe.store_new (Nat.le_add_right _ 1) hs4 hbl4 hot4
      exact bodyPost_ret (v := .agg #[.int .i64 (-1), .int .i64 (-1)]) (results_cell_row rfl _ _ (w.heap.size + 1) 25 _ (0, 0) _ rfl hr4 Try.underlying25 rfl (by kernel_rfl)) rfl (by unfold SteppedP; rw [HST.out]; exact ⟨rfl, n, _, by omega, hAf, hTf⟩)
    | some b =>
      have hst : stepA fall ps (0, s1, s2) = (ps.getD b default, ps.eraseIdx b) := by simp [stepA, ho]
      have HST := Lib.hid hst
      have HO := Lib.hid ho
      clear hst ho
      go_enter Try.func50, Try.ntmps50
      go_wp2_with fail
      generalize ((w.alloc (.cells #[.int .i64 0, .int .i64 s1, .int .i64 s2] 64)).alloc (.cells #[.int .i64 0, .int .i64 0] 25)).alloc (.cells #[.int .i64 0, .int .i64 0] 25) = w1 at HS1 HZ1 HX1 HT1 hA1 ⊢
      refine (popP h c n fall ps r w1 hA1 (by omega)).mono ?_
      rintro e w2 h2
      rw [HO.out] at h2
      obtain ⟨rfl, hA2, hT2⟩ := h2
      have hX2 := hA1.other hT2 HX1.out (by decide) (by decide)
      have hZ2 := hA1.other hT2 HZ1.out (by decide) (by decide)
      have hT2' := HT1.out.trans hT2
      have HX2 := Lib.hid hX2
      have HZ2 := Lib.hid hZ2
      have HT2 := Lib.hid hT2'
      clear hX2 hZ2 hT2 hT2'
      simp only [pairV, zeroP]
      go_wp2_with (first
        | (refine wpList_store_any rfl 25 _ _ rfl (w.heap.size + 2) _ rfl rfl 25 _ HX2.out (by kernel_rfl) rfl (by simp [Value.oneCell']) ?_; intro w3 hr3 hs3 hbl3 hot3; have x0 : w3.cell? ⟨w.heap.size + 2, 0, none⟩ = some (.int .i64 (ps.getD b default).1) := (by rw [cell_of_row _ _ _ _ _ _ hr3]; rfl); have x1 : w3.cell? ⟨w.heap.size + 2, 1, none⟩ = some (.int .i64 (ps.getD b default).2) := (by rw [cell_of_row _ _ _ _ _ _ hr3]; rfl))
        | (refine wpList_store_any rfl 25 _ _ rfl (w.heap.size + 1) _ rfl rfl 25 _ ((hot3 (w.heap.size + 1) (by omega)).trans HZ2.out) (by kernel_rfl) rfl (by simp [Value.oneCell']) ?_; intro w4 hr4 hs4 hbl4 hot4))
      have hAe := (hA2.stored HX2.out hs3 hbl3 hot3)
      have hTe := HT2.out.store_new (Nat.le_add_right _ 2) hs3 hbl3 hot3
      have hZe := (hot3 (w.heap.size + 1) (by omega)).trans HZ2.out
      have hAf := hAe.stored hZe hs4 hbl4 hot4
      have hTf := hTe.store_new (Nat.le_add_right _ 1) hs4 hbl4 hot4
      exact bodyPost_ret (v := pairV (ps.getD b default)) (results_cell_row rfl _ _ (w.heap.size + 1) 25 _ (0, 0) _ rfl hr4 Try.underlying25 rfl (by kernel_rfl)) rfl (by unfold SteppedP; rw [HST.out]; exact ⟨rfl, n, _, by omega, hAf, hTf⟩)
  by_cases k1 : s0 = 1
  · subst k1
    have hst : stepA fall ps (1, s1, s2) = ((s1, s2), ps ++ [(s1, s2)]) := by simp [stepA]
    have HST := Lib.hid hst
    clear hst
    go_enter Try.func50, Try.ntmps50
    go_wp2_with fail
    clear HS1 HZ1 HX1 HT1 hA1
    obtain ⟨hS1, hZ1, hX1, hk1, hb1⟩ := three_new (Below.refl w.heap.size w) (Nat.le_refl _) #[.int .i64 1, .int .i64 s1, .int .i64 s2] #[.int .i64 0, .int .i64 0] #[.int .i64 s1, .int .i64 s2] 64 25 25
    have hA1 := hA.kept hk1
    have hT1 := Tch.of_below hb1 h r
    generalize ((w.alloc (.cells #[.int .i64 1, .int .i64 s1, .int .i64 s2] 64)).alloc (.cells #[.int .i64 0, .int .i64 0] 25)).alloc (.cells #[.int .i64 s1, .int .i64 s2] 25) = w1 at hZ1 hX1 hT1 hA1 ⊢
    clear hS1 hk1 hb1
    refine (pushP h c n fall ps r (s1, s2) w1 hA1 (by omega)).mono ?_
    rintro e w2 ⟨r2, rfl, hA2, hT2⟩
    have hX2 := hA1.other hT2 hX1 (by decide) (by decide)
    have hZ2 := hA1.other hT2 hZ1 (by decide) (by decide)
    have hT2' := hT1.trans hT2
    have HX2 := Lib.hid hX2
    have HZ2 := Lib.hid hZ2
    have HT2 := Lib.hid hT2'
    have x0 : w2.cell? ⟨w.heap.size + 2, 0, none⟩ = some (.int .i64 s1) := by rw [cell_of_row _ _ _ _ _ _ HX2.out]; rfl
    have x1 : w2.cell? ⟨w.heap.size + 2, 1, none⟩ = some (.int .i64 s2) := by rw [cell_of_row _ _ _ _ _ _ HX2.out]; rfl
    clear hX1 hZ1 hT1 hX2 hZ2 hT2 hT2' 
    go_wp2_with ((refine wpList_store_any rfl 25 _ _ rfl (w.heap.size + 1) _ rfl rfl 25 _ HZ2.out (by kernel_rfl) rfl (by simp [Value.oneCell']) ?_; intro w4 hr4 hs4 hbl4 hot4))
    have hAe := hA2
    have hTe := HT2.out
    have hZe := HZ2.out
    have hAf := hAe.stored hZe hs4 hbl4 hot4
    have hTf := hTe.store_new (Nat.le_add_right _ 1) hs4 hbl4 hot4
    exact bodyPost_ret (v := pairV (s1, s2)) (results_cell_row rfl _ _ (w.heap.size + 1) 25 _ (0, 0) _ rfl hr4 Try.underlying25 rfl (by kernel_rfl)) rfl (by unfold SteppedP; rw [HST.out]; exact ⟨rfl, n + 1, _, by omega, hAf, hTf⟩)
  by_cases k2 : s0 = 2
  · subst k2
    cases ho : PP.first fall PP.all ps with
    | none =>
      have hst : stepA fall ps (2, s1, s2) = ((-1, -1), ps) := by simp [stepA, ho]
      have HST := Lib.hid hst
      have HO := Lib.hid ho
      clear hst ho
      go_enter Try.func50, Try.ntmps50
      go_wp2_with fail
      generalize ((w.alloc (.cells #[.int .i64 2, .int .i64 s1, .int .i64 s2] 64)).alloc (.cells #[.int .i64 0, .int .i64 0] 25)).alloc (.cells #[.int .i64 0, .int .i64 0] 25) = w1 at HS1 HZ1 HX1 HT1 hA1 ⊢
      refine (peekP h c n fall ps r w1 hA1 (by omega)).mono ?_
      rintro e w2 ⟨he, hb2⟩
      rw [HO.out] at he
      subst he
      have hA2 := hA1.below hb2
      have hT2 := Tch.of_below hb2 h r
      have hX2 := rowAt_below HX1.out hb2
      have hZ2 := rowAt_below HZ1.out hb2
      have hT2' := HT1.out.trans hT2
      have HX2 := Lib.hid hX2
      have HZ2 := Lib.hid hZ2
      have HT2 := Lib.hid hT2'
      clear hX2 hZ2 hT2 hT2' hb2
      simp only [pairV, zeroP]
      go_wp2_with (first
        | (refine wpList_store_any rfl 25 _ _ rfl (w.heap.size + 2) _ rfl rfl 25 _ HX2.out (by kernel_rfl) rfl (by simp [Value.oneCell']) ?_; intro w3 hr3 hs3 hbl3 hot3; have x0 : w3.cell? ⟨w.heap.size + 2, 0, none⟩ = some (.int .i64 0) := (by rw [cell_of_row _ _ _ _ _ _ hr3]; rfl); have x1 : w3.cell? ⟨w.heap.size + 2, 1, none⟩ = some (.int .i64 0) := (by rw [cell_of_row _ _ _ _ _ _ hr3]; rfl))
        | (refine wpList_store_any rfl 25 _ _ rfl (w.heap.size + 1) _ rfl rfl 25 _ ((hot3 (w.heap.size + 1) (by omega)).trans HZ2.out) (by kernel_rfl) rfl (by simp [Value.oneCell']) ?_; intro w4 hr4 hs4 hbl4 hot4))
      have hAe := (hA2.stored HX2.out hs3 hbl3 hot3)
      have hTe := HT2.out.store_new (Nat.le_add_right _ 2) hs3 hbl3 hot3
      have hZe := (hot3 (w.heap.size + 1) (by omega)).trans HZ2.out
      have hAf := hAe.stored hZe hs4 hbl4 hot4
      have hTf := hTe.store_new (Nat.le_add_right _ 1) hs4 hbl4 hot4
      exact bodyPost_ret (v := .agg #[.int .i64 (-1), .int .i64 (-1)]) (results_cell_row rfl _ _ (w.heap.size + 1) 25 _ (0, 0) _ rfl hr4 Try.underlying25 rfl (by kernel_rfl)) rfl (by unfold SteppedP; rw [HST.out]; exact ⟨rfl, n, _, by omega, hAf, hTf⟩)
    | some b =>
      have hst : stepA fall ps (2, s1, s2) = (ps.getD b default, ps) := by simp [stepA, ho]
      have HST := Lib.hid hst
      have HO := Lib.hid ho
      clear hst ho
      go_enter Try.func50, Try.ntmps50
      go_wp2_with fail
      generalize ((w.alloc (.cells #[.int .i64 2, .int .i64 s1, .int .i64 s2] 64)).alloc (.cells #[.int .i64 0, .int .i64 0] 25)).alloc (.cells #[.int .i64 0, .int .i64 0] 25) = w1 at HS1 HZ1 HX1 HT1 hA1 ⊢
      refine (peekP h c n fall ps r w1 hA1 (by omega)).mono ?_
      rintro e w2 ⟨he, hb2⟩
      rw [HO.out] at he
      subst he
      have hA2 := hA1.below hb2
      have hT2 := Tch.of_below hb2 h r
      have hX2 := rowAt_below HX1.out hb2
      have hZ2 := rowAt_below HZ1.out hb2
      have hT2' := HT1.out.trans hT2
      have HX2 := Lib.hid hX2
      have HZ2 := Lib.hid hZ2
      have HT2 := Lib.hid hT2'
      clear hX2 hZ2 hT2 hT2' hb2
      simp only [pairV, zeroP]
      go_wp2_with (first
        | (refine wpList_store_any rfl 25 _ _ rfl (w.heap.size + 2) _ rfl rfl 25 _ HX2.out (by kernel_rfl) rfl (by simp [Value.oneCell']) ?_; intro w3 hr3 hs3 hbl3 hot3; have x0 : w3.cell? ⟨w.heap.size + 2, 0, none⟩ = some (.int .i64 (ps.getD b default).1) := (by rw [cell_of_row _ _ _ _ _ _ hr3]; rfl); have x1 : w3.cell? ⟨w.heap.size + 2, 1, none⟩ = some (.int .i64 (ps.getD b default).2) := (by rw [cell_of_row _ _ _ _ _ _ hr3]; rfl))
        | (refine wpList_store_any rfl 25 _ _ rfl (w.heap.size + 1) _ rfl rfl 25 _ ((hot3 (w.heap.size + 1) (by omega)).trans HZ2.out) (by kernel_rfl) rfl (by simp [Value.oneCell']) ?_; intro w4 hr4 hs4 hbl4 hot4))
      have hAe := (hA2.stored HX2.out hs3 hbl3 hot3)
      have hTe := HT2.out.store_new (Nat.le_add_right _ 2) hs3 hbl3 hot3
      have hZe := (hot3 (w.heap.size + 1) (by omega)).trans HZ2.out
      have hAf := hAe.stored hZe hs4 hbl4 hot4
      have hTf := hTe.store_new (Nat.le_add_right _ 1) hs4 hbl4 hot4
      exact bodyPost_ret (v := pairV (ps.getD b default)) (results_cell_row rfl _ _ (w.heap.size + 1) 25 _ (0, 0) _ rfl hr4 Try.underlying25 rfl (by kernel_rfl)) rfl (by unfold SteppedP; rw [HST.out]; exact ⟨rfl, n, _, by omega, hAf, hTf⟩)
  by_cases k3 : s0 = 3
  · subst k3
    cases ho : PP.first fall (askR false s1) ps with
    | none =>
      have hst : stepA fall ps (3, s1, s2) = ((-1, -1), ps) := by simp [stepA, ho]
      have HST := Lib.hid hst
      have HO := Lib.hid ho
      clear hst ho
      go_enter Try.func50, Try.ntmps50
      go_wp2_with fail
      generalize ((w.alloc (.cells #[.int .i64 3, .int .i64 s1, .int .i64 s2] 64)).alloc (.cells #[.int .i64 0, .int .i64 0] 25)).alloc (.cells #[.int .i64 0, .int .i64 0] 25) = w1 at HS1 HZ1 HX1 HT1 hA1 ⊢
      refine (removeP h c n fall (askR false s1) _ ps r w1 hA1 (by omega) (asks_step w.heap.size (3, s1, s2) w1 HS1.out)).mono ?_
      rintro e w2 h2
      rw [HO.out] at h2
      obtain ⟨rfl, hb2⟩ := h2
      have hA2 := hA1.below hb2
      have hT2 := Tch.of_below hb2 h r
      have hX2 := hA1.other hT2 HX1.out (by decide) (by decide)
      have hZ2 := hA1.other hT2 HZ1.out (by decide) (by decide)
      have hT2' := HT1.out.trans hT2
      have HX2 := Lib.hid hX2
      have HZ2 := Lib.hid hZ2
      have HT2 := Lib.hid hT2'
      clear hX2 hZ2 hT2 hT2' hb2
      simp only [pairV, zeroP]
      go_wp2_with (first
        | (refine wpList_store_any rfl 25 _ _ rfl (w.heap.size + 2) _ rfl rfl 25 _ HX2.out (by kernel_rfl) rfl (by simp [Value.oneCell']) ?_; intro w3 hr3 hs3 hbl3 hot3; have x0 : w3.cell? ⟨w.heap.size + 2, 0, none⟩ = some (.int .i64 0) := (by rw [cell_of_row _ _ _ _ _ _ hr3]; rfl); have x1 : w3.cell? ⟨w.heap.size + 2, 1, none⟩ = some (.int .i64 0) := (by rw [cell_of_row _ _ _ _ _ _ hr3]; rfl))
        | (refine wpList_store_any rfl 25 _ _ rfl (w.heap.size + 1) _ rfl rfl 25 _ ((hot3 (w.heap.size + 1) (by omega)).trans HZ2.out) (by kernel_rfl) rfl (by simp [Value.oneCell']) ?_; intro w4 hr4 hs4 hbl4 hot4))
      have hAe := (hA2.stored HX2.out hs3 hbl3 hot3)
      have hTe := HT2.out.store_new (Nat.le_add_right _ 2) hs3 hbl3 hot3
      have hZe := (hot3 (w.heap.size + 1) (by omega)).trans HZ2.out
      have hAf := hAe.stored hZe hs4 hbl4 hot4
      have hTf := hTe.store_new (Nat.le_add_right _ 1) hs4 hbl4 hot4
      exact bodyPost_ret (v := .agg #[.int .i64 (-1), .int .i64 (-1)]) (results_cell_row rfl _ _ (w.heap.size + 1) 25 _ (0, 0) _ rfl hr4 Try.underlying25 rfl (by kernel_rfl)) rfl (by unfold SteppedP; rw [HST.out]; exact ⟨rfl, n, _, by omega, hAf, hTf⟩)
    | some b =>
      have hst : stepA fall ps (3, s1, s2) = (ps.getD b default, ps.eraseIdx b) := by simp [stepA, ho]
      have HST := Lib.hid hst
      have HO := Lib.hid ho
      clear hst ho
      go_enter Try.func50, Try.ntmps50
      go_wp2_with fail
      generalize ((w.alloc (.cells #[.int .i64 3, .int .i64 s1, .int .i64 s2] 64)).alloc (.cells #[.int .i64 0, .int .i64 0] 25)).alloc (.cells #[.int .i64 0, .int .i64 0] 25) = w1 at HS1 HZ1 HX1 HT1 hA1 ⊢
      refine (removeP h c n fall (askR false s1) _ ps r w1 hA1 (by omega) (asks_step w.heap.size (3, s1, s2) w1 HS1.out)).mono ?_
      rintro e w2 h2
      rw [HO.out] at h2
      obtain ⟨rfl, hA2, hT2⟩ := h2
      have hX2 := hA1.other hT2 HX1.out (by decide) (by decide)
      have hZ2 := hA1.other hT2 HZ1.out (by decide) (by decide)
      have hT2' := HT1.out.trans hT2
      have HX2 := Lib.hid hX2
      have HZ2 := Lib.hid hZ2
      have HT2 := Lib.hid hT2'
      clear hX2 hZ2 hT2 hT2'
      simp only [pairV, zeroP]
      go_wp2_with (first
        | (refine wpList_store_any rfl 25 _ _ rfl (w.heap.size + 2) _ rfl rfl 25 _ HX2.out (by kernel_rfl) rfl (by simp [Value.oneCell']) ?_; intro w3 hr3 hs3 hbl3 hot3; have x0 : w3.cell? ⟨w.heap.size + 2, 0, none⟩ = some (.int .i64 (ps.getD b default).1) := (by rw [cell_of_row _ _ _ _ _ _ hr3]; rfl); have x1 : w3.cell? ⟨w.heap.size + 2, 1, none⟩ = some (.int .i64 (ps.getD b default).2) := (by rw [cell_of_row _ _ _ _ _ _ hr3]; rfl))
        | (refine wpList_store_any rfl 25 _ _ rfl (w.heap.size + 1) _ rfl rfl 25 _ ((hot3 (w.heap.size + 1) (by omega)).trans HZ2.out) (by kernel_rfl) rfl (by simp [Value.oneCell']) ?_; intro w4 hr4 hs4 hbl4 hot4))
      have hAe := (hA2.stored HX2.out hs3 hbl3 hot3)
      have hTe := HT2.out.store_new (Nat.le_add_right _ 2) hs3 hbl3 hot3
      have hZe := (hot3 (w.heap.size + 1) (by omega)).trans HZ2.out
      have hAf := hAe.stored hZe hs4 hbl4 hot4
      have hTf := hTe.store_new (Nat.le_add_right _ 1) hs4 hbl4 hot4
      exact bodyPost_ret (v := pairV (ps.getD b default)) (results_cell_row rfl _ _ (w.heap.size + 1) 25 _ (0, 0) _ rfl hr4 Try.underlying25 rfl (by kernel_rfl)) rfl (by unfold SteppedP; rw [HST.out]; exact ⟨rfl, n, _, by omega, hAf, hTf⟩)
  by_cases k4 : s0 = 4
  · subst k4
    have hst : stepA fall ps (4, s1, s2) = (((ps.length : Int), 0), ps) := by simp [stepA]
    have HST := Lib.hid hst
    clear hst
    go_enter Try.func50, Try.ntmps50
    go_wp2_with fail
    generalize ((w.alloc (.cells #[.int .i64 4, .int .i64 s1, .int .i64 s2] 64)).alloc (.cells #[.int .i64 0, .int .i64 0] 25)).alloc (.cells #[.int .i64 0, .int .i64 0] 25) = w1 at HS1 HZ1 HX1 HT1 hA1 ⊢
    refine (lenP h c n fall ps r w1 hA1 (by omega)).mono ?_
    rintro e w2 ⟨rfl, rfl⟩
    go_wp2_with (first
      | (refine wpList_store_any rfl 25 _ _ rfl (w.heap.size + 2) _ rfl rfl 25 _ HX1.out (by kernel_rfl) rfl (by simp [Value.oneCell']) ?_; intro w3 hr3 hs3 hbl3 hot3; have x0 : w3.cell? ⟨w.heap.size + 2, 0, none⟩ = some (.int .i64 ps.length) := (by rw [cell_of_row _ _ _ _ _ _ hr3]; rfl); have x1 : w3.cell? ⟨w.heap.size + 2, 1, none⟩ = some (.int .i64 0) := (by rw [cell_of_row _ _ _ _ _ _ hr3]; rfl))
      | (refine wpList_store_any rfl 25 _ _ rfl (w.heap.size + 1) _ rfl rfl 25 _ ((hot3 (w.heap.size + 1) (by omega)).trans HZ1.out) (by kernel_rfl) rfl (by simp [Value.oneCell']) ?_; intro w4 hr4 hs4 hbl4 hot4))
    have hAe := (hA1.stored HX1.out hs3 hbl3 hot3)
    have hTe := HT1.out.store_new (Nat.le_add_right _ 2) hs3 hbl3 hot3
    have hZe := (hot3 (w.heap.size + 1) (by omega)).trans HZ1.out
    have hAf := hAe.stored hZe hs4 hbl4 hot4
    have hTf := hTe.store_new (Nat.le_add_right _ 1) hs4 hbl4 hot4
    exact bodyPost_ret (v := pairV ((ps.length : Int), 0)) (results_cell_row rfl _ _ (w.heap.size + 1) 25 _ (0, 0) _ rfl hr4 Try.underlying25 rfl (by kernel_rfl)) rfl (by unfold SteppedP; rw [HST.out]; exact ⟨rfl, n, _, by omega, hAf, hTf⟩)
  have hst : stepA fall ps (s0, s1, s2) = ((-1, -1), ps) := by simp [stepA, k0, k1, k2, k3, k4]
  have HST := Lib.hid hst
  have b0 : (s0 == 0) = false := by simpa using k0
  have b1 : (s0 == 1) = false := by simpa using k1
  have b2 : (s0 == 2) = false := by simpa using k2
  have b3 : (s0 == 3) = false := by simpa using k3
  have b4 : (s0 == 4) = false := by simpa using k4
  clear hst k0 k1 k2 k3 k4
  go_enter Try.func50, Try.ntmps50
  go_wp2_with fail
  clear HS1 HZ1 HX1 HT1 hA1
  obtain ⟨hS1, hZ1, hX1, hk1, hb1⟩ := three_new (Below.refl w.heap.size w) (Nat.le_refl _) #[.int .i64 s0, .int .i64 s1, .int .i64 s2] #[.int .i64 (-1), .int .i64 (-1)] #[.int .i64 0, .int .i64 0] 64 25 25
  exact bodyPost_ret (v := .agg #[.int .i64 (-1), .int .i64 (-1)]) (results_cell_row rfl _ _ (w.heap.size + 1) 25 _ (0, 0) _ rfl hZ1 Try.underlying25 rfl (by kernel_rfl)) rfl (by unfold SteppedP; rw [HST.out]; exact ⟨rfl, n, r, by omega, hA.kept hk1, Tch.of_below hb1 h r⟩)
end Go.Proofs.Ytffioombjejchaa
