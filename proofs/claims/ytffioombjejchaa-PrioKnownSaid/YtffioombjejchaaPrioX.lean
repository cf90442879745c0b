/- prio: the document's Play by contract. Printed by gen_priox.py. -/
import Derived.Test.YtffioombjejchaaPrioW
namespace Go.Proofs.Ytffioombjejchaa
set_option linter.unusedVariables false
set_option linter.unusedSimpArgs false
open Go.RowKit
attribute [local irreducible] Go.wpStill

/-- what stands between two steps of the document's Play: the row at h, the answers ov, the answer of this step at b -/
structure MidR (w w7 : World) (B h : Nat) (fall : Bool) (ps outs : List Pair) (g : Option Nat) (ov : Value) (b : Nat) (x : Pair) : Prop where
  ans : w7.heap[b]? = some (.cells #[.int .i64 x.1, .int .i64 x.2] 25 (0, 0))
  row : RowR w7 h fall ps g
  low : ∀ q, g = some q → B ≤ q
  out : RowT w7 B ov outs
  apart : ∀ q, g = some q → ov.ownBlock = some q → False
  ag : g = some b → False
  ao : ov.ownBlock = some b → False
  ab : B ≤ b
  hb : B ≤ h
  bel : Below B w w7
theorem MidR.ne {w w7 : World} {B h b : Nat} {fall : Bool} {ps outs : List Pair} {g : Option Nat} {ov : Value} {x : Pair} (a : MidR w w7 B h fall ps outs g ov b x) : b ≠ h := fun e => by
  obtain ⟨sl, _, h2, _⟩ := a.row
  have h1 := a.ans
  rw [e, h2] at h1
  injection h1 with h1
  injection h1 with _ h1
  exact absurd h1 (by decide)
theorem RowT.ne_row {w : World} {B h : Nat} {fall : Bool} {ps outs : List Pair} {g : Option Nat} {ov : Value} (hR : RowR w h fall ps g) (ho : RowT w B ov outs) : ov.ownBlock = some h → False := fun e => by
  obtain ⟨sl, _, h2, _⟩ := hR
  obtain ⟨_, cs, hc⟩ := ho.type e
  rw [h2] at hc
  injection hc with hc
  injection hc with _ hc
  exact absurd hc (by decide)
theorem MidR.tch {w w7 w8 : World} {B h b : Nat} {fall : Bool} {ps ps' outs : List Pair} {g g' : Option Nat} {ov : Value} {x : Pair} (a : MidR w w7 B h fall ps outs g ov b x) (hR : RowR w8 h fall ps' g') (hT : Tch w7 w8 h g g') : MidR w w8 B h fall ps' outs g' ov b x := by
  have hs := a.bel.size
  have hl := lt_of_block a.ans
  have hout : RowT w8 B ov outs := a.out.congr fun k cs hk ho => hT.block k (lt_of_block hk) (fun e => RowT.ne_row a.row a.out (e ▸ ho)) (fun e => a.apart k e.symm ho)
  have hk : ∀ q, g' = some q → g = some q ∨ w7.heap.size ≤ q := fun q hq => by
    rcases hT.row with h1 | h1
    · exact .inl (h1 ▸ hq)
    · exact .inr (h1 q hq)
  have hBw : B ≤ w7.heap.size := Nat.le_trans a.ab (Nat.le_of_lt hl)
  refine ⟨(hT.block b hl a.ne (fun e => a.ag e.symm)).trans a.ans, hR, fun q hq => ?_, hout, fun q hq ho => ?_, fun hq => ?_, a.ao, a.ab, a.hb, a.bel.trans (hT.below hBw a.hb a.low)⟩
  · rcases hk q hq with h1 | h1
    · exact a.low q h1
    · omega
  · rcases hk q hq with h1 | h1
    · exact a.apart q h1 ho
    · obtain ⟨_, cs, hc⟩ := a.out.type ho
      have := lt_of_block hc
      omega
  · rcases hk b hq with h1 | h1
    · exact a.ag h1
    · omega
theorem MidR.below {w w7 w8 : World} {B h b : Nat} {fall : Bool} {ps outs : List Pair} {g : Option Nat} {ov : Value} {x : Pair} (a : MidR w w7 B h fall ps outs g ov b x) (hb : Below w7.heap.size w7 w8) : MidR w w8 B h fall ps outs g ov b x :=
  a.tch (a.row.below hb) (Tch.of_below hb h g)
theorem MidR.store {w w7 w8 : World} {B h b : Nat} {fall : Bool} {ps outs : List Pair} {g : Option Nat} {ov : Value} {x y : Pair} (a : MidR w w7 B h fall ps outs g ov b x) (hr : w8.heap[b]? = some (.cells #[.int .i64 y.1, .int .i64 y.2] 25 (0, 0))) (hbl : ∀ B W, Below B W w7 → B ≤ b → Below B W w8) (hot : ∀ k, k ≠ b → w8.heap[k]? = w7.heap[k]?) : MidR w w8 B h fall ps outs g ov b y :=
  ⟨hr, a.row.touch hot (Ne.symm a.ne) a.ag, a.low, a.out.congr fun k cs _ ho => hot k (fun e => a.ao (e ▸ ho)), a.apart, a.ag, a.ao, a.ab, a.hb, hbl _ _ a.bel a.ab⟩
theorem RowR.grown {w w' : World} {h : Nat} {fall : Bool} {ps : List Pair} {g row : Option Nat} (a : RowR w h fall ps g) (hg : w.grownBy w' row) (h1 : row = some h → False) (h2 : ∀ q, g = some q → row = some q → False) : RowR w' h fall ps g := by
  obtain ⟨sl, e, hh, hT⟩ := a
  exact ⟨sl, e, (hg.block h (lt_of_block hh) (fun e => h1 e.symm)).trans hh, hT.congr fun k cs hk ho => hg.block k (lt_of_block hk) (fun e' => h2 k (e ▸ ho) e'.symm)⟩
theorem cellTwo (w : World) (o1 o2 : Obj) {k j : Nat} (hk : k < w.heap.size) : ((w.alloc o1).alloc o2).cell? ⟨k, j, none⟩ = w.cell? ⟨k, j, none⟩ := by
  simp only [World.cell?]
  rw [heap_alloc_old _ _ (by simp; omega), heap_alloc_old _ _ hk]
set_option maxRecDepth 100000 in
set_option maxHeartbeats 1000000 in
theorem refPlay_any (sv : Value) (fall : Bool) (xs : List StepT) (w : World) (hS : ReadsS w sv xs) :
    Calls Try.prog 38 #[sv, .bool fall] w (PlayedP w (playS fall xs xs.length).1) := by
  obtain ⟨hl, ao, cap, rfl, hr⟩ := id hS
  have HS := Lib.hid hS
  clear hS hr
  go_enter Try.func38, Try.ntmps38
  go_wp2_with fail
  have hR1 : RowR (w.alloc (.cells #[.bool fall, .slice none 0 0] 31)) w.heap.size fall [] none := ⟨_, rfl, heap_alloc_new w _, .inl ⟨rfl, rfl⟩⟩
  have hB1 : Below w.heap.size w (w.alloc (.cells #[.bool fall, .slice none 0 0] 31)) := (Below.refl _ _).alloc (Nat.le_refl _) _
  generalize w.alloc (.cells #[.bool fall, .slice none 0 0] 31) = w1 at hR1 hB1 ⊢
  go_loopw [6, 7] (fun ov iv wr => ∃ (k : Nat) (g : Option Nat), k ≤ xs.length ∧ iv = .int .i64 k ∧ RowT wr w.heap.size ov (playS fall xs k).1 ∧ RowR wr w.heap.size fall (playS fall xs k).2 g ∧ (∀ q, g = some q → w.heap.size ≤ q) ∧ (∀ q, g = some q → ov.ownBlock = some q → False) ∧ Below w.heap.size w wr) (fun _ iv _ => xs.length - (intOf iv).toNat)
  case atStart => exact ⟨0, none, by omega, rfl, .inl ⟨rfl, rfl⟩, hR1, (fun q hq => by cases hq), (fun q hq => by cases hq), hB1⟩
  case round =>
    clear hR1 hB1
    obtain ⟨k, g, hk, rfl, hR, hA, hlow, hap, hB⟩ := hrel
    by_cases hkl : k < xs.length
    · obtain ⟨x, hx⟩ : ∃ x, xs[k]? = some x := ⟨_, List.getElem?_eq_getElem hkl⟩
      obtain ⟨_, ao', cap', hva, hra⟩ := HS.out.below hB
      injection hva with h1 h2 h3
      subst h1
      obtain ⟨go, o, rfl, hca⟩ := hra k x hx
      have hgd : xs.getD k default = x := by rw [List.getD_eq_getElem?_getD, hx]; rfl
      obtain ⟨s0, s1, s2⟩ := x
      have e0 := hca 0 _ rfl
      have e1 := hca 1 _ rfl
      have e2 := hca 2 _ rfl
      simp only [Nat.add_zero] at e0 e1 e2
      have hst : playS fall xs (k + 1) = ((playS fall xs k).1 ++ [(stepA fall (playS fall xs k).2 (s0, s1, s2)).1], (stepA fall (playS fall xs k).2 (s0, s1, s2)).2) := by rw [playS, hgd]
      have HST := Lib.hid hst
      have hpl := playS_len fall xs k
      have HPL := Lib.hid hpl
      have hph := playS_held fall xs k
      clear h2 h3 hra hx hgd hca hst hpl
      generalize playS fall xs k = Q at HST HPL hph hR hA
      obtain ⟨outs, ps⟩ := Q
      simp only at HST HPL hph hR hA
      have hsz := hB.size
      have hsz' : w.heap.size < wr.heap.size := hA.hlt
      have hMk : ∀ y : Pair, MidR w ((wr.alloc (.cells #[.int .i64 s0, .int .i64 s1, .int .i64 s2] 64)).alloc (.cells #[.int .i64 y.1, .int .i64 y.2] 25)) w.heap.size w.heap.size fall ps outs g u6 (wr.heap.size + 1) y := by
        intro y
        have hk1 : ∀ k, k < wr.heap.size → ((wr.alloc (.cells #[.int .i64 s0, .int .i64 s1, .int .i64 s2] 64)).alloc (.cells #[.int .i64 y.1, .int .i64 y.2] 25)).heap[k]? = wr.heap[k]? := fun k hk => by rw [heap_alloc_old _ _ (by simp; omega), heap_alloc_old _ _ hk]
        exact ⟨heap_alloc2_new wr _ _, hA.kept hk1, hlow, hR.kept hk1, hap, fun e => by have := (hA.glt e).1; omega, fun e => by
          obtain ⟨_, cs, hc⟩ := hR.type e
          have := lt_of_block hc
          omega, by omega, Nat.le_refl _, (hB.alloc hsz _).alloc (by simp; omega) _⟩
      have hM := hMk (-1, -1)
      have hSb := heap_alloc2_old wr (.cells #[.int .i64 s0, .int .i64 s1, .int .i64 s2] 64) (.cells #[.int .i64 (-1), .int .i64 (-1)] 25)
      clear hR hA hlow hap hB
      by_cases k0 : s0 = 0
      · subst k0
        cases ho : PP.first fall PP.all ps with
        | none =>
          have hsta : stepA fall ps (0, s1, s2) = ((-1, -1), ps) := by simp [stepA, ho]
          rw [hsta] at HST
          have HO := Lib.hid ho
          clear hsta ho
          go_wp2_with fail
          clear hMk
          generalize (wr.alloc (.cells #[.int .i64 0, .int .i64 s1, .int .i64 s2] 64)).alloc (.cells #[.int .i64 (-1), .int .i64 (-1)] 25) = w1 at hM hSb ⊢
          refine (popR w.heap.size fall 0 ps g w1 hM.row (by omega)).mono ?_
          rintro e w2 h2
          have hask : askR true 0 = PP.all := rfl
          rw [hask] at h2
          clear hask
          rw [HO.out] at h2
          obtain ⟨rfl, hb2⟩ := h2
          have hM2 := hM.below hb2
          clear hb2
          clear hM hSb e0 e1 e2
          simp only [pairV, zeroP]
          have hMt := hM2.below ((Below.refl _ _).alloc (Nat.le_refl _) (.cells #[.int .i64 0, .int .i64 0] 25))
          clear hM2
          have HMt := Lib.hid hMt
          have hM8 := hMt.below ((Below.refl _ _).alloc (Nat.le_refl _) (.cells #[.int .i64 (-1, -1).1, .int .i64 (-1, -1).2] 25))
          obtain ⟨v8, w8, hrun, hR8, hg8, hrow8, _⟩ := hM8.out.push2 hM8.bel.size (-1, -1) (w2.heap.size + 1) 1 (heap_alloc2_new w2 _ _) (by rw [HPL.out]; omega)
          simp only at hrun
          have HM8 := Lib.hid hM8
          clear hMt hM8
          go_wp2_with (first
            | (refine wpList_val _ (by kernel_rfl) (exec_load_row HMt.out.ans rfl rfl Try.underlying25 rfl (by kernel_rfl)) ?_)
            | (refine wpList_val (w' := w8) v8 (by kernel_rfl) (exec_append2 rfl rfl rfl rfl ?_) ?_; focus (exact hrun)))
          refine ⟨⟨k + 1, _, by omega, by go_num, by rw [HST.out]; exact hR8, by rw [HST.out]; exact HM8.out.row.grown hg8 (RowT.ne_row HM8.out.row HM8.out.out) (fun q hq ho => HM8.out.apart q hq ho), HM8.out.low, fun q hq ho => ?_, HM8.out.bel.trans (grown_below hg8 (by have := HM8.out.bel.size; omega) (fun k hk => (HM8.out.out.type hk).1))⟩, by simp [intOf]; omega⟩
          rcases hrow8 with h1 | h1
          · exact HM8.out.apart q hq (h1 ▸ ho)
          · have := h1 q ho
            have := (HM8.out.row.glt hq).1
            omega
        | some b =>
          have hsta : stepA fall ps (0, s1, s2) = (ps.getD b default, ps.eraseIdx b) := by simp [stepA, ho]
          rw [hsta] at HST
          have HO := Lib.hid ho
          clear hsta ho
          go_wp2_with fail
          clear hMk
          generalize (wr.alloc (.cells #[.int .i64 0, .int .i64 s1, .int .i64 s2] 64)).alloc (.cells #[.int .i64 (-1), .int .i64 (-1)] 25) = w1 at hM hSb ⊢
          refine (popR w.heap.size fall 0 ps g w1 hM.row (by omega)).mono ?_
          rintro e w2 h2
          have hask : askR true 0 = PP.all := rfl
          rw [hask] at h2
          clear hask
          rw [HO.out] at h2
          obtain ⟨he, g2, hR2, hT2, _⟩ := h2
          generalize ps.getD b default = y at he HST
          subst he
          have hM2 := hM.tch hR2 hT2
          clear hR2 hT2
          clear hM hSb e0 e1 e2
          simp only [pairV, zeroP]
          have hM3 := hM2.below ((Below.refl _ _).alloc (Nat.le_refl _) (.cells #[.int .i64 y.1, .int .i64 y.2] 25))
          have HM3 := Lib.hid hM3
          clear hM3 hM2
          go_wp2_with (first
            | (refine wpList_store_any rfl 25 _ _ rfl (wr.heap.size + 1) _ rfl rfl 25 _ HM3.out.ans (by kernel_rfl) rfl (by simp [Value.oneCell']) ?_; intro w4 hr4 hs4 hbl4 hot4; have hMt := HM3.out.store (y := y) hr4 hbl4 hot4; clear hr4 hs4 hbl4 hot4; have HMt := Lib.hid hMt; have hM8 := hMt.below ((Below.refl _ _).alloc (Nat.le_refl _) (.cells #[.int .i64 y.1, .int .i64 y.2] 25)); obtain ⟨v8, w8, hrun, hR8, hg8, hrow8, _⟩ := hM8.out.push2 hM8.bel.size y _ 1 (heap_alloc_new _ _) (by rw [HPL.out]; omega); have HM8 := Lib.hid hM8; clear hMt hM8)
            | (refine wpList_val _ (by kernel_rfl) (exec_load_row HMt.out.ans rfl rfl Try.underlying25 rfl (by kernel_rfl)) ?_)
            | (refine wpList_val (w' := w8) v8 (by kernel_rfl) (exec_append2 rfl rfl rfl rfl ?_) ?_; focus (exact hrun)))
          refine ⟨⟨k + 1, _, by omega, by go_num, by rw [HST.out]; exact hR8, by rw [HST.out]; exact HM8.out.row.grown hg8 (RowT.ne_row HM8.out.row HM8.out.out) (fun q hq ho => HM8.out.apart q hq ho), HM8.out.low, fun q hq ho => ?_, HM8.out.bel.trans (grown_below hg8 (by have := HM8.out.bel.size; omega) (fun k hk => (HM8.out.out.type hk).1))⟩, by simp [intOf]; omega⟩
          rcases hrow8 with h1 | h1
          · exact HM8.out.apart q hq (h1 ▸ ho)
          · have := h1 q ho
            have := (HM8.out.row.glt hq).1
            omega
      by_cases k1 : s0 = 1
      · subst k1
        have hsta : stepA fall ps (1, s1, s2) = ((s1, s2), ps ++ [(s1, s2)]) := by simp [stepA]
        rw [hsta] at HST
        clear hsta hM hSb k0
        have hM := hMk (s1, s2)
        go_wp2_with fail
        clear hMk
        generalize (wr.alloc (.cells #[.int .i64 1, .int .i64 s1, .int .i64 s2] 64)).alloc (.cells #[.int .i64 s1, .int .i64 s2] 25) = w1 at hM ⊢
        refine (pushR w.heap.size fall ps g (s1, s2) w1 hM.row (by omega)).mono ?_
        rintro e w2 ⟨rfl, g2, hR2, hT2⟩
        have hMt := hM.tch hR2 hT2
        clear hR2 hT2 hM e0 e1 e2
        have HMt := Lib.hid hMt
        have hM8 := hMt.below ((Below.refl _ _).alloc (Nat.le_refl _) (.cells #[.int .i64 (s1, s2).1, .int .i64 (s1, s2).2] 25))
        obtain ⟨v8, w8, hrun, hR8, hg8, hrow8, _⟩ := hM8.out.push2 hM8.bel.size (s1, s2) _ 1 (heap_alloc_new _ _) (by rw [HPL.out]; omega)
        simp only at hrun
        have HM8 := Lib.hid hM8
        clear hMt hM8
        go_wp2_with (first
          | (refine wpList_val _ (by kernel_rfl) (exec_load_row HMt.out.ans rfl rfl Try.underlying25 rfl (by kernel_rfl)) ?_)
          | (refine wpList_val (w' := w8) v8 (by kernel_rfl) (exec_append2 rfl rfl rfl rfl ?_) ?_; focus (exact hrun)))
        refine ⟨⟨k + 1, _, by omega, by go_num, by rw [HST.out]; exact hR8, by rw [HST.out]; exact HM8.out.row.grown hg8 (RowT.ne_row HM8.out.row HM8.out.out) (fun q hq ho => HM8.out.apart q hq ho), HM8.out.low, fun q hq ho => ?_, HM8.out.bel.trans (grown_below hg8 (by have := HM8.out.bel.size; omega) (fun k hk => (HM8.out.out.type hk).1))⟩, by simp [intOf]; omega⟩
        rcases hrow8 with h1 | h1
        · exact HM8.out.apart q hq (h1 ▸ ho)
        · have := h1 q ho
          have := (HM8.out.row.glt hq).1
          omega
      by_cases k2 : s0 = 2
      · subst k2
        cases ho : PP.first fall PP.all ps with
        | none =>
          have hsta : stepA fall ps (2, s1, s2) = ((-1, -1), ps) := by simp [stepA, ho]
          rw [hsta] at HST
          have HO := Lib.hid ho
          clear hsta ho
          go_wp2_with fail
          clear hMk
          generalize (wr.alloc (.cells #[.int .i64 2, .int .i64 s1, .int .i64 s2] 64)).alloc (.cells #[.int .i64 (-1), .int .i64 (-1)] 25) = w1 at hM hSb ⊢
          refine (peekR w.heap.size fall ps g w1 hM.row (by omega)).mono ?_
          rintro e w2 ⟨he, hb2⟩
          have hask : askR true 0 = PP.all := rfl
          rw [hask, HO.out] at he
          subst he
          have hM2 := hM.below hb2
          clear hb2 hask
          clear hM hSb e0 e1 e2
          simp only [pairV, zeroP]
          have hMt := hM2.below ((Below.refl _ _).alloc (Nat.le_refl _) (.cells #[.int .i64 0, .int .i64 0] 25))
          clear hM2
          have HMt := Lib.hid hMt
          have hM8 := hMt.below ((Below.refl _ _).alloc (Nat.le_refl _) (.cells #[.int .i64 (-1, -1).1, .int .i64 (-1, -1).2] 25))
          obtain ⟨v8, w8, hrun, hR8, hg8, hrow8, _⟩ := hM8.out.push2 hM8.bel.size (-1, -1) (w2.heap.size + 1) 1 (heap_alloc2_new w2 _ _) (by rw [HPL.out]; omega)
          simp only at hrun
          have HM8 := Lib.hid hM8
          clear hMt hM8
          go_wp2_with (first
            | (refine wpList_val _ (by kernel_rfl) (exec_load_row HMt.out.ans rfl rfl Try.underlying25 rfl (by kernel_rfl)) ?_)
            | (refine wpList_val (w' := w8) v8 (by kernel_rfl) (exec_append2 rfl rfl rfl rfl ?_) ?_; focus (exact hrun)))
          refine ⟨⟨k + 1, _, by omega, by go_num, by rw [HST.out]; exact hR8, by rw [HST.out]; exact HM8.out.row.grown hg8 (RowT.ne_row HM8.out.row HM8.out.out) (fun q hq ho => HM8.out.apart q hq ho), HM8.out.low, fun q hq ho => ?_, HM8.out.bel.trans (grown_below hg8 (by have := HM8.out.bel.size; omega) (fun k hk => (HM8.out.out.type hk).1))⟩, by simp [intOf]; omega⟩
          rcases hrow8 with h1 | h1
          · exact HM8.out.apart q hq (h1 ▸ ho)
          · have := h1 q ho
            have := (HM8.out.row.glt hq).1
            omega
        | some b =>
          have hsta : stepA fall ps (2, s1, s2) = (ps.getD b default, ps) := by simp [stepA, ho]
          rw [hsta] at HST
          have HO := Lib.hid ho
          clear hsta ho
          go_wp2_with fail
          clear hMk
          generalize (wr.alloc (.cells #[.int .i64 2, .int .i64 s1, .int .i64 s2] 64)).alloc (.cells #[.int .i64 (-1), .int .i64 (-1)] 25) = w1 at hM hSb ⊢
          refine (peekR w.heap.size fall ps g w1 hM.row (by omega)).mono ?_
          rintro e w2 ⟨he, hb2⟩
          have hask : askR true 0 = PP.all := rfl
          rw [hask, HO.out] at he
          simp only at he
          generalize ps.getD b default = y at he HST
          subst he
          have hM2 := hM.below hb2
          clear hb2 hask
          clear hM hSb e0 e1 e2
          simp only [pairV, zeroP]
          have hM3 := hM2.below ((Below.refl _ _).alloc (Nat.le_refl _) (.cells #[.int .i64 y.1, .int .i64 y.2] 25))
          have HM3 := Lib.hid hM3
          clear hM3 hM2
          go_wp2_with (first
            | (refine wpList_store_any rfl 25 _ _ rfl (wr.heap.size + 1) _ rfl rfl 25 _ HM3.out.ans (by kernel_rfl) rfl (by simp [Value.oneCell']) ?_; intro w4 hr4 hs4 hbl4 hot4; have hMt := HM3.out.store (y := y) hr4 hbl4 hot4; clear hr4 hs4 hbl4 hot4; have HMt := Lib.hid hMt; have hM8 := hMt.below ((Below.refl _ _).alloc (Nat.le_refl _) (.cells #[.int .i64 y.1, .int .i64 y.2] 25)); obtain ⟨v8, w8, hrun, hR8, hg8, hrow8, _⟩ := hM8.out.push2 hM8.bel.size y _ 1 (heap_alloc_new _ _) (by rw [HPL.out]; omega); have HM8 := Lib.hid hM8; clear hMt hM8)
            | (refine wpList_val _ (by kernel_rfl) (exec_load_row HMt.out.ans rfl rfl Try.underlying25 rfl (by kernel_rfl)) ?_)
            | (refine wpList_val (w' := w8) v8 (by kernel_rfl) (exec_append2 rfl rfl rfl rfl ?_) ?_; focus (exact hrun)))
          refine ⟨⟨k + 1, _, by omega, by go_num, by rw [HST.out]; exact hR8, by rw [HST.out]; exact HM8.out.row.grown hg8 (RowT.ne_row HM8.out.row HM8.out.out) (fun q hq ho => HM8.out.apart q hq ho), HM8.out.low, fun q hq ho => ?_, HM8.out.bel.trans (grown_below hg8 (by have := HM8.out.bel.size; omega) (fun k hk => (HM8.out.out.type hk).1))⟩, by simp [intOf]; omega⟩
          rcases hrow8 with h1 | h1
          · exact HM8.out.apart q hq (h1 ▸ ho)
          · have := h1 q ho
            have := (HM8.out.row.glt hq).1
            omega
      by_cases k3 : s0 = 3
      · subst k3
        cases ho : PP.first fall (askR false s1) ps with
        | none =>
          have hsta : stepA fall ps (3, s1, s2) = ((-1, -1), ps) := by simp [stepA, ho]
          rw [hsta] at HST
          have HO := Lib.hid ho
          clear hsta ho
          go_wp2_with fail
          clear hMk
          generalize (wr.alloc (.cells #[.int .i64 3, .int .i64 s1, .int .i64 s2] 64)).alloc (.cells #[.int .i64 (-1), .int .i64 (-1)] 25) = w1 at hM hSb ⊢
          refine (removeR w.heap.size fall s1 ps g w1 hM.row (by omega)).mono ?_
          rintro e w2 h2
          rw [HO.out] at h2
          obtain ⟨rfl, hb2⟩ := h2
          have hM2 := hM.below hb2
          clear hb2
          clear hM hSb e0 e1 e2
          simp only [pairV, zeroP]
          have hMt := hM2.below ((Below.refl _ _).alloc (Nat.le_refl _) (.cells #[.int .i64 0, .int .i64 0] 25))
          clear hM2
          have HMt := Lib.hid hMt
          have hM8 := hMt.below ((Below.refl _ _).alloc (Nat.le_refl _) (.cells #[.int .i64 (-1, -1).1, .int .i64 (-1, -1).2] 25))
          obtain ⟨v8, w8, hrun, hR8, hg8, hrow8, _⟩ := hM8.out.push2 hM8.bel.size (-1, -1) (w2.heap.size + 1) 1 (heap_alloc2_new w2 _ _) (by rw [HPL.out]; omega)
          simp only at hrun
          have HM8 := Lib.hid hM8
          clear hMt hM8
          go_wp2_with (first
            | (refine wpList_val _ (by kernel_rfl) (exec_load_row HMt.out.ans rfl rfl Try.underlying25 rfl (by kernel_rfl)) ?_)
            | (refine wpList_val (w' := w8) v8 (by kernel_rfl) (exec_append2 rfl rfl rfl rfl ?_) ?_; focus (exact hrun)))
          refine ⟨⟨k + 1, _, by omega, by go_num, by rw [HST.out]; exact hR8, by rw [HST.out]; exact HM8.out.row.grown hg8 (RowT.ne_row HM8.out.row HM8.out.out) (fun q hq ho => HM8.out.apart q hq ho), HM8.out.low, fun q hq ho => ?_, HM8.out.bel.trans (grown_below hg8 (by have := HM8.out.bel.size; omega) (fun k hk => (HM8.out.out.type hk).1))⟩, by simp [intOf]; omega⟩
          rcases hrow8 with h1 | h1
          · exact HM8.out.apart q hq (h1 ▸ ho)
          · have := h1 q ho
            have := (HM8.out.row.glt hq).1
            omega
        | some b =>
          have hsta : stepA fall ps (3, s1, s2) = (ps.getD b default, ps.eraseIdx b) := by simp [stepA, ho]
          rw [hsta] at HST
          have HO := Lib.hid ho
          clear hsta ho
          go_wp2_with fail
          clear hMk
          generalize (wr.alloc (.cells #[.int .i64 3, .int .i64 s1, .int .i64 s2] 64)).alloc (.cells #[.int .i64 (-1), .int .i64 (-1)] 25) = w1 at hM hSb ⊢
          refine (removeR w.heap.size fall s1 ps g w1 hM.row (by omega)).mono ?_
          rintro e w2 h2
          rw [HO.out] at h2
          obtain ⟨he, g2, hR2, hT2, _⟩ := h2
          generalize ps.getD b default = y at he HST
          subst he
          have hM2 := hM.tch hR2 hT2
          clear hR2 hT2
          clear hM hSb e0 e1 e2
          simp only [pairV, zeroP]
          have hM3 := hM2.below ((Below.refl _ _).alloc (Nat.le_refl _) (.cells #[.int .i64 y.1, .int .i64 y.2] 25))
          have HM3 := Lib.hid hM3
          clear hM3 hM2
          go_wp2_with (first
            | (refine wpList_store_any rfl 25 _ _ rfl (wr.heap.size + 1) _ rfl rfl 25 _ HM3.out.ans (by kernel_rfl) rfl (by simp [Value.oneCell']) ?_; intro w4 hr4 hs4 hbl4 hot4; have hMt := HM3.out.store (y := y) hr4 hbl4 hot4; clear hr4 hs4 hbl4 hot4; have HMt := Lib.hid hMt; have hM8 := hMt.below ((Below.refl _ _).alloc (Nat.le_refl _) (.cells #[.int .i64 y.1, .int .i64 y.2] 25)); obtain ⟨v8, w8, hrun, hR8, hg8, hrow8, _⟩ := hM8.out.push2 hM8.bel.size y _ 1 (heap_alloc_new _ _) (by rw [HPL.out]; omega); have HM8 := Lib.hid hM8; clear hMt hM8)
            | (refine wpList_val _ (by kernel_rfl) (exec_load_row HMt.out.ans rfl rfl Try.underlying25 rfl (by kernel_rfl)) ?_)
            | (refine wpList_val (w' := w8) v8 (by kernel_rfl) (exec_append2 rfl rfl rfl rfl ?_) ?_; focus (exact hrun)))
          refine ⟨⟨k + 1, _, by omega, by go_num, by rw [HST.out]; exact hR8, by rw [HST.out]; exact HM8.out.row.grown hg8 (RowT.ne_row HM8.out.row HM8.out.out) (fun q hq ho => HM8.out.apart q hq ho), HM8.out.low, fun q hq ho => ?_, HM8.out.bel.trans (grown_below hg8 (by have := HM8.out.bel.size; omega) (fun k hk => (HM8.out.out.type hk).1))⟩, by simp [intOf]; omega⟩
          rcases hrow8 with h1 | h1
          · exact HM8.out.apart q hq (h1 ▸ ho)
          · have := h1 q ho
            have := (HM8.out.row.glt hq).1
            omega
      by_cases k4 : s0 = 4
      · subst k4
        have hsta : stepA fall ps (4, s1, s2) = (((ps.length : Int), 0), ps) := by simp [stepA]
        rw [hsta] at HST
        clear hsta hSb
        have hMt := hMk ((ps.length : Int), 0)
        obtain ⟨sl, _, hh, hTr⟩ := hM.row
        obtain ⟨ra, rc, rfl⟩ := hTr.slice
        have c1 := cell_of_row _ _ 1 _ _ _ hh
        have c2 : wr.cell? ⟨w.heap.size, 1, none⟩ = some (.slice ra ps.length rc) := by
          rw [show wr.cell? ⟨w.heap.size, 1, none⟩ = _ from (cellTwo wr _ _ hsz').symm]
          exact c1
        clear c1 hh hTr hM hMk
        have HMt := Lib.hid hMt
        have hM8 := hMt.below ((Below.refl _ _).alloc (Nat.le_refl _) (.cells #[.int .i64 ((ps.length : Int), 0).1, .int .i64 ((ps.length : Int), 0).2] 25))
        obtain ⟨v8, w8, hrun, hR8, hg8, hrow8, _⟩ := hM8.out.push2 hM8.bel.size ((ps.length : Int), 0) (wr.heap.size + 2) 1 (three_new (Below.refl 0 wr) (Nat.zero_le _) _ _ _ _ _ _).2.2.1 (by rw [HPL.out]; omega)
        simp only at hrun
        have HM8 := Lib.hid hM8
        clear hMt hM8
        go_wp2_with (first
          | (refine wpList_val _ (by kernel_rfl) (exec_load_row HMt.out.ans rfl rfl Try.underlying25 rfl (by kernel_rfl)) ?_)
          | (refine wpList_val (w' := w8) v8 (by kernel_rfl) (exec_append2 rfl rfl rfl rfl ?_) ?_; focus (exact hrun)))
        refine ⟨⟨k + 1, _, by omega, by go_num, by rw [HST.out]; exact hR8, by rw [HST.out]; exact HM8.out.row.grown hg8 (RowT.ne_row HM8.out.row HM8.out.out) (fun q hq ho => HM8.out.apart q hq ho), HM8.out.low, fun q hq ho => ?_, HM8.out.bel.trans (grown_below hg8 (by have := HM8.out.bel.size; omega) (fun k hk => (HM8.out.out.type hk).1))⟩, by simp [intOf]; omega⟩
        rcases hrow8 with h1 | h1
        · exact HM8.out.apart q hq (h1 ▸ ho)
        · have := h1 q ho
          have := (HM8.out.row.glt hq).1
          omega
      have hsta : stepA fall ps (s0, s1, s2) = ((-1, -1), ps) := by simp [stepA, k0, k1, k2, k3, k4]
      rw [hsta] at HST
      have hMt := hM
      have b0 : (s0 == 0) = false := by simpa using k0
      have b1 : (s0 == 1) = false := by simpa using k1
      have b2 : (s0 == 2) = false := by simpa using k2
      have b3 : (s0 == 3) = false := by simpa using k3
      have b4 : (s0 == 4) = false := by simpa using k4
      clear hsta hSb hM hMk k0 k1 k2 k3 k4
      have HMt := Lib.hid hMt
      have hM8 := hMt.below ((Below.refl _ _).alloc (Nat.le_refl _) (.cells #[.int .i64 (-1, -1).1, .int .i64 (-1, -1).2] 25))
      obtain ⟨v8, w8, hrun, hR8, hg8, hrow8, _⟩ := hM8.out.push2 hM8.bel.size (-1, -1) (wr.heap.size + 2) 1 (three_new (Below.refl 0 wr) (Nat.zero_le _) _ _ _ _ _ _).2.2.1 (by rw [HPL.out]; omega)
      simp only at hrun
      have HM8 := Lib.hid hM8
      clear hMt hM8
      go_wp2_with (first
        | (refine wpList_val _ (by kernel_rfl) (exec_load_row HMt.out.ans rfl rfl Try.underlying25 rfl (by kernel_rfl)) ?_)
        | (refine wpList_val (w' := w8) v8 (by kernel_rfl) (exec_append2 rfl rfl rfl rfl ?_) ?_; focus (exact hrun)))
      refine ⟨⟨k + 1, _, by omega, by go_num, by rw [HST.out]; exact hR8, by rw [HST.out]; exact HM8.out.row.grown hg8 (RowT.ne_row HM8.out.row HM8.out.out) (fun q hq ho => HM8.out.apart q hq ho), HM8.out.low, fun q hq ho => ?_, HM8.out.bel.trans (grown_below hg8 (by have := HM8.out.bel.size; omega) (fun k hk => (HM8.out.out.type hk).1))⟩, by simp [intOf]; omega⟩
      rcases hrow8 with h1 | h1
      · exact HM8.out.apart q hq (h1 ▸ ho)
      · have := h1 q ho
        have := (HM8.out.row.glt hq).1
        omega
    · have hke : k = xs.length := by omega
      subst hke
      go_wp2_with fail
      go_ret
      exact ⟨_, rfl, hR, hB⟩
end Go.Proofs.Ytffioombjejchaa
