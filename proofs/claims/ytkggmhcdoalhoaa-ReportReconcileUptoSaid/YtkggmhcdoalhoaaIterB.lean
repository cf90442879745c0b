/- slices.AppendSeq, slices.Collect, slices.SortedFunc over the keys of a map: by contract (after the kit's own proof at elements of one cell). -/
import Derived.Test.YtkggmhcdoalhoaaIter
namespace Go.Proofs.Ytkggmhcdoalhoaa
set_option linter.unusedVariables false
set_option linter.unusedSimpArgs false
open Go.RowKit Go.Maps Go.Sort Go.Shelf

theorem keysGiveBrk (F : Fence) (n : Nat) (h10 : F.fn 26) (hro : F.round = none) (hn : 1 ≤ n) (Bm b nn : Nat) (f : keyT → Option Value) (w : World) (hBm : Bm < w.heap.size)
    (hm : w.cell? ⟨Bm, 0, none⟩ = some (.map (some b))) (hown : MapAt keyKey w b nn f) :
    SeqGives F n Try.prog 26 #[.pointer (some ⟨Bm, 0, none⟩)] encK (keyS f) nn w := fun l J W hW hJ hY h0 =>
  keysBrk_in F n h10 hro hn l Bm b nn f J hY W hJ ((hW.cell (p := ⟨Bm, 0, none⟩) hBm).trans hm) (hown.block keyKey (hW.block _ hown.lt)) h0
theorem keysBrk_any (b : Nat) (w : World) : CallsIn Fence.wide 5 Try.prog 15 #[.map (some b)] w fun e w' => e = .returned (.func (.func 26) #[] #[.pointer (some ⟨w.heap.size, 0, none⟩)]) ∧ w' = w.alloc (.cells #[.map (some b)] 43) := by
  refine callsIn_of_wp Try.func15 rfl trivial ?_ rfl
  simp only [Try.ntmps15, List.size_toArray, List.length_cons, List.length_nil, Nat.reduceAdd, Nat.reduceSub, Array.replicate_succ, Array.replicate_zero, List.push_toArray, List.append_toArray, List.nil_append, List.cons_append]
  gi_wp2
  go_ret
  exact ⟨rfl, rfl⟩

/-- The loop's record: AppendSeq's temporaries as they stood at the entering: 's' boxed in block Bs; sv: the iterator's value. -/
def apRec (assign body : Code) (fn : FuncId) (sv : Value) (Bs D : Nat) (st : LoopState) (pend : Option Code) : Loop :=
  { state := st, pending := pend, fn, tmps := #[.slice none 0 0, sv, .pointer (some ⟨Bs, 0, none⟩), undef, .slice none 0 0, undef, sv, undef, undef, undef, undef, undef, undef], params := #[7], assign := assign, body := body, defers := D }
structure ApAt (assign body : Code) (w0 : World) (fn : FuncId) (sv : Value) (Bs l D : Nat) (ss : List keyT) (W : World) : Prop where
  box : ∃ v, W.heap[Bs]? = some (.cells #[v] 30 (0, 0)) ∧ W.ownsRow w0.heap.size 34 2 v ss.length (flatE keyE ss)
  L : W.heap[l]? = some (.loop (apRec assign body fn sv Bs D .ready none))
  K : W.heap[D]? = some (.deferred (some []))
  below : Below w0.heap.size w0 W
theorem ap_abides (assign body : Code) (w0 : World) (fn : FuncId) (sv : Value) (Bs l D B : Nat) (hB : w0.heap.size ≤ B) : AbidesFrom B (ApAt assign body w0 fn sv Bs l D) := fun s W W' row h hg hrow => by
  have hrow' : ∀ r, row = some r → ∃ o : Obj, W.heap[r]? = some o ∧ o.isWalk = true := fun r e => (hrow r e).2
  obtain ⟨v, hv, hr⟩ := h.box
  exact ⟨⟨v, (grownBy_keeps hg hrow' hv rfl).trans hv, ownsRow_abides_a hr hg hrow'⟩, (grownBy_keeps hg hrow' h.L rfl).trans h.L, (grownBy_keeps hg hrow' h.K rfl).trans h.K,
    h.below.grown hg h.below.size (fun k e => Nat.le_trans hB (hrow k e).1)⟩

set_option maxRecDepth 100000 in
set_option maxHeartbeats 4000000 in
theorem appendSeq_in (F : Fence) (n : Nat) (h11 : F.fn 32) (hro : F.round = none) (hn : 2 ≤ n) (g : Nat) (lb : Array Value) (hFg : F.fn g) (eg : ∀ args w, (callFunc g args).run Try.prog w = .ok (.enter g args) w)
    (S : List keyT → Prop) (N : Nat) (hN : N ≤ maxLen) (hNb : N * 16 ≤ 140737488355328) (w : World) (hseq : SeqGives F (n - 1) Try.prog g lb encK S N w) :
    CallsIn F n Try.prog 32 #[.slice none 0 0, .func (.func g) #[] lb] w fun e w' => ∃ (v : Value) (ss : List keyT), e = .returned v ∧ S ss ∧ w'.ownsRow w.heap.size 34 2 v ss.length (flatE keyE ss) ∧ Below w.heap.size w w' := by
  have h1 : 1 ≤ n := by omega
  refine callsIn_of_wp_marks Try.func32 rfl h11 ?_ hro
  simp only [Try.ntmps32, List.size_toArray, List.length_cons, List.length_nil, Nat.reduceAdd, Nat.reduceSub, Array.replicate_succ, Array.replicate_zero, List.push_toArray, List.append_toArray, List.nil_append, List.cons_append]
  gi_wp2
  refine wpIn_rangeFunc ?_
  intro fn hfn
  rw [hro]
  obtain ⟨W0, hW0⟩ : ∃ W0, w.alloc (.cells #[.slice none 0 0] 30) = W0 := ⟨_, rfl⟩
  have hs0 : W0.heap.size = w.heap.size + 1 := by rw [← hW0]; simp
  have hv0 : W0.heap[w.heap.size]? = some (.cells #[.slice none 0 0] 30 (0, 0)) := by rw [← hW0]; exact World.alloc_heap_new w _
  have hb0 : Below w.heap.size w W0 := by rw [← hW0]; exact (Below.refl _ w).alloc (Nat.le_refl _) _
  rw [hW0]
  generalize hA : Code.region 2 _ false = asg
  generalize hB : Code.block 1 _ = bdy
  have hyld : ∀ (ss : List keyT) (x : keyT) (W : World), ApAt asg bdy w fn (.func (.func g) #[] lb) w.heap.size (W0.heap.size + 1) W0.heap.size ss W → ss.length < N →
      YieldAt F (n - 1 - 1) Try.prog (W0.heap.size + 1) #[encK x] W fun e W' => e = .returned (.bool true) ∧ ApAt asg bdy w fn (.func (.func g) #[] lb) w.heap.size (W0.heap.size + 1) W0.heap.size (ss ++ [x]) W' ∧ KeepsWalks W W' := by
    clear hv0 hb0 hW0 hseq
    have hBl : w.heap.size ≠ W0.heap.size + 1 := by omega
    have hDl : W0.heap.size ≠ W0.heap.size + 1 := by omega
    have hDB : W0.heap.size ≠ w.heap.size := by omega
    have h0B : w.heap.size ≤ w.heap.size := Nat.le_refl _
    have h0l : w.heap.size ≤ W0.heap.size + 1 := by omega
    clear hs0
    generalize W0.heap.size + 1 = l at *
    generalize hD : W0.heap.size = D at *
    generalize hBs : w.heap.size = Bs at *
    generalize hsv : Value.func (Fn.func g) #[] lb = sv at *
    intro ss x W h hlen
    obtain ⟨i0, hi, hz0, hz1, hz2⟩ := info_parts (show (Try.prog.info? 34).map (fun i => (i.zero, i.size, i.bytes)) = some (some (.agg #[.int .i64 0, .int .i64 0]), 2, 16) by kernel_rfl)
    obtain ⟨v, hv, hrow⟩ := h.box
    rw [hBs] at hrow
    have hne : ∀ cur, Obj.cells #[v] 30 (0, 0) ≠ .cells cur 34 (0, 0) := fun cur e => by cases e
    refine ⟨fn, #[.slice none 0 0, sv, .pointer (some ⟨Bs, 0, none⟩), undef, .slice none 0 0, undef, sv, encK x, undef, undef, undef, undef, undef], asg, bdy, by simpa [apRec] using run_yield (P := Try.prog) (args := #[encK x]) h.L rfl, roundIn_of_wpIn hfn ?_⟩
    obtain ⟨xa, xb⟩ := x
    have hl : l < W.heap.size := (Array.getElem?_eq_some_iff.1 h.L).1
    have hBlt0 : Bs < W.heap.size := (Array.getElem?_eq_some_iff.1 hv).1
    have hDlt0 : D < W.heap.size := (Array.getElem?_eq_some_iff.1 h.K).1
    obtain ⟨W1, hW1⟩ : ∃ W1, W.alloc (.cells #[.int .i64 xa, .int .i64 xb] 34) = W1 := ⟨_, rfl⟩
    have hx1 : W1.heap[W.heap.size]? = some (.cells #[.int .i64 xa, .int .i64 xb] 34 (0, 0)) := by rw [← hW1]; exact heap_alloc_new W _
    have hv1 : W1.heap[Bs]? = some (.cells #[v] 30 (0, 0)) := by rw [← hW1]; exact (heap_alloc_old _ _ hBlt0).trans hv
    have hK1 : W1.heap[D]? = some (.deferred (some [])) := by rw [← hW1]; exact (heap_alloc_old _ _ hDlt0).trans h.K
    have hL1 : W1.heap[l]? = some (.loop (apRec asg bdy fn sv Bs D .ready none)) := by rw [← hW1]; exact (heap_alloc_old _ _ hl).trans h.L
    have hrow1 : W1.ownsRow Bs 34 2 v ss.length (flatE keyE ss) := by rw [← hW1]; exact hrow.alloc _
    have hb0 : Below Bs w W := by have hb := h.below; rw [hBs] at hb; exact hb
    have hBw : Bs ≤ W.heap.size := by omega
    have hb1 : Below Bs w W1 := by rw [← hW1]; exact hb0.alloc hBw _
    have hk1 : KeepsWalks W W1 := by rw [← hW1]; exact KeepsWalks.alloc _ _
    have hs1 : W1.heap.size = W.heap.size + 1 := by rw [← hW1]; simp
    have hbr := run_beginRound (P := Try.prog) hL1 rfl
    obtain ⟨W2, hW2⟩ : ∃ W2, W1.putObj l (.loop { apRec asg bdy fn sv Bs D .ready none with state := .busy }) = W2 := ⟨_, rfl⟩
    rw [hW2] at hbr
    have hg2 : W1.grownBy W2 (some l) := by rw [← hW2]; exact grownBy_putObj_a _ _ _
    have hk2 : KeepsWalks W1 W2 := by rw [← hW2]; exact KeepsWalks.putObj _ hL1 rfl
    have hx2 : W2.heap[W.heap.size]? = some (.cells #[.int .i64 xa, .int .i64 xb] 34 (0, 0)) := by rw [← hW2]; exact (World.putObj_heap_other (by omega)).trans hx1
    have hv2 : W2.heap[Bs]? = some (.cells #[v] 30 (0, 0)) := by rw [← hW2]; exact (World.putObj_heap_other hBl).trans hv1
    have hK2 : W2.heap[D]? = some (.deferred (some [])) := by rw [← hW2]; exact (World.putObj_heap_other hDl).trans hK1
    have hL2 : W2.heap[l]? = some (.loop { apRec asg bdy fn sv Bs D .ready none with state := .busy }) := by rw [← hW2]; exact World.putObj_heap_same (by omega)
    have hrow2 : W2.ownsRow Bs 34 2 v ss.length (flatE keyE ss) := hrow1.kept hg2 (ownsRow_ne_a hrow1 hL1 (fun cur e => by cases e))
    have hb2 : Below Bs w W2 := hb1.grown hg2 (by rw [hs1]; omega) (fun k e => by cases e; exact h0l)
    obtain ⟨hc2, hf2⟩ := cell_of_box_a hv2
    have hBlt : Bs < W2.heap.size := (Array.getElem?_eq_some_iff.1 hv2).1
    have hl2 : l < W2.heap.size := (Array.getElem?_eq_some_iff.1 hL2).1
    have hDlt : D < W2.heap.size := (Array.getElem?_eq_some_iff.1 hK2).1
    have hXlt : W.heap.size < W2.heap.size := (Array.getElem?_eq_some_iff.1 hx2).1
    have ne_of : ∀ {j : Nat} {o : Obj}, W2.heap[j]? = some o → (∀ cur, o ≠ .cells cur 34 (0, 0)) → some j ≠ v.ownBlock := fun hj hno => by
      rcases ownsRow_ne_a hrow2 hj hno with e | e
      · rw [e]; simp
      · exact fun e' => e e'.symm
    have hs2 : W1.heap.size ≤ W2.heap.size := hk2.size
    have hxa : W2.cell? ⟨W.heap.size, 0, none⟩ = some (.int .i64 xa) := by rw [cell_of_row _ _ _ _ _ _ hx2]; rfl
    have hxb : W2.cell? ⟨W.heap.size, 1, none⟩ = some (.int .i64 xb) := by rw [cell_of_row _ _ _ _ _ _ hx2]; rfl
    clear hW2
    unfold encK
    rw [← hA]
    gi_wp2_with gi_round_op_a
    have HB := Lib.hid hB
    clear hA hx1 hv1 hK1 hL1 hrow1 hs1 hbr hv hrow h hW1 hx2
    generalize W.heap.size = X at *
    have hW2A := heap_alloc_new W2 (.cells #[.int .i64 xa, .int .i64 xb] 34)
    rw [← HB.out]
    gi_wp2_with (first
      | (gi_at_builtin; refine wpListIn_append_own _ rfl _ _ 30 rfl Bs 34 i0 (.agg #[.int .i64 0, .int .i64 0]) 2 16 Try.underlying30 hi hz0 hz1 hz2 rfl (by decide) _ _ _ rfl (hrow2.alloc _) ⟨W2.heap.size, 0, none⟩ 1 1 [.int .i64 xa, .int .i64 xb] rfl rfl (fun j u hj => by rw [addr_add]; exact rangeAt_of_row hW2A 0 [.int .i64 xa, .int .i64 xb] (fun j v h => by simpa using h) j u hj) (by simp [Value.oneCell']) (by omega) (by omega) (by have := hb2.size; simp; omega) ?_; intro v' w3 hown' hg3 hnil3
         have hv3 : w3.heap[Bs]? = some (.cells #[v] 30 (0, 0)) := (hg3.block Bs (by simp; omega) (ne_of hv2 (fun cur e => by cases e))).trans ((Below.heap_alloc _ _ Bs hBlt).trans hv2)
         obtain ⟨hc3, hf3⟩ := cell_of_box_a hv3
         obtain ⟨g', cap', cur', rfl, hbase', hgb', hr1, hr2, hr3, hr4⟩ : ∃ g' cap' cur', v' = .slice (some ⟨g', 0, none⟩) (ss.length + 1) cap' ∧ Bs ≤ g' ∧ w3.heap[g']? = some (.cells cur' 34 (0, 0)) ∧ ss.length + 1 ≤ cap' ∧ cap' ≤ maxLen ∧ cur'.size = cap' * 2 ∧ cur'.toList.take ((ss.length + 1) * 2) = flatE keyE ss ++ [.int .i64 xa, .int .i64 xb] := by
           rcases hown'.2 with ⟨_, h0⟩ | h'
           · exact absurd h0 (by omega)
           · exact h'
         go_frame)
      | gi_round_op_a)
    have hg3' : (W2.alloc (.cells #[.int .i64 xa, .int .i64 xb] 34)).grownBy w3 v.ownBlock := hg3
    have hL3 : w3.heap[l]? = some (.loop { apRec asg bdy fn sv Bs D .ready none with state := .busy }) := (hg3'.block l (by simp; omega) (ne_of hL2 (fun cur e => by cases e))).trans ((Below.heap_alloc _ _ l hl2).trans hL2)
    have hK3 : w3.heap[D]? = some (.deferred (some [])) := (hg3'.block D (by simp; omega) (ne_of hK2 (fun cur e => by cases e))).trans ((Below.heap_alloc _ _ D hDlt).trans hK2)
    obtain ⟨w4, hw4⟩ : ∃ w4, w3.setCell ⟨Bs, 0, none⟩ (.slice (some ⟨g', 0, none⟩) (ss.length + 1) cap') = w4 := ⟨_, rfl⟩
    rw [hw4]
    have hg4 : w3.grownBy w4 (some Bs) := by rw [← hw4]; exact grownBy_setCell0_a _ _ _
    have hv4 : w4.heap[Bs]? = some (.cells #[.slice (some ⟨g', 0, none⟩) (ss.length + 1) cap'] 30 (0, 0)) := by rw [← hw4]; exact heap_setCell_box_a _ hv3
    have hL4 : w4.heap[l]? = some (.loop { apRec asg bdy fn sv Bs D .ready none with state := .busy }) := (hg4.block l (Array.getElem?_eq_some_iff.1 hL3).1 (fun e => hBl (by cases e; rfl))).trans hL3
    have hK4 : w4.heap[D]? = some (.deferred (some [])) := (hg4.block D (Array.getElem?_eq_some_iff.1 hK3).1 (fun e => hDB (by cases e; rfl))).trans hK3
    have hrow4 := hown'.kept hg4 (ownsRow_ne_a hown' hv3 (fun cur e => by cases e))
    have hl4 : l < w4.heap.size := (Array.getElem?_eq_some_iff.1 hL4).1
    have hb3 : Below Bs w w3 := (hb2.alloc (by omega) _).grown hg3' (by simp; omega) (fun k e => (hrow2.lt k e).1)
    have hb4 : Below Bs w w4 := hb3.grown hg4 (by have := hg3'.size; simp at this; omega) (fun k e => by cases e; exact h0B)
    have hk4 : KeepsWalks W w4 := ((((hk1.trans hk2).trans (KeepsWalks.alloc _ _)).trans (KeepsWalks.of_grownBy hg3' (ownsRow_not_walk_a (hrow2.alloc _)))).trans (by rw [← hw4]; exact KeepsWalks.setCell _ _ _))
    clear hw4
    refine ⟨_, _, run_endRound none hL4, rfl, ⟨⟨_, (World.putObj_heap_other hBl).trans hv4, ?_⟩, World.putObj_heap_same hl4, (World.putObj_heap_other hDl).trans hK4, ?_⟩, hk4.trans (KeepsWalks.putObj _ hL4 rfl)⟩
    · have := hrow4.kept (grownBy_putObj_a w4 l (.loop { { apRec asg bdy fn sv Bs D .ready none with state := .busy } with state := if (none : Option Code).isNone then .ready else .done, pending := none })) (ownsRow_ne_a hrow4 hL4 (fun cur e => by cases e))
      rw [hBs, flatE_append, List.length_append]
      exact this
    · rw [hBs]; exact hb4.grown (grownBy_putObj_a _ _ _) (by omega) (fun k e => by cases e; exact h0l)
  obtain ⟨W1, hW1⟩ : ∃ W1, (W0.alloc (.deferred (some []))).alloc (.loop (apRec asg bdy fn (.func (.func g) #[] lb) w.heap.size W0.heap.size .ready none)) = W1 := ⟨_, rfl⟩
  have hold : ∀ k, k < W0.heap.size → W1.heap[k]? = W0.heap[k]? := fun k hk => by
    rw [← hW1]; exact (Below.heap_alloc _ _ k (by simp; omega)).trans (Below.heap_alloc _ _ k hk)
  have hb1 : Below w.heap.size w W1 := by rw [← hW1]; exact (hb0.alloc hb0.size _).alloc (by have := hb0.size; simp; omega) _
  have hs1 : W1.heap.size = W0.heap.size + 2 := by rw [← hW1]; simp
  have hM : ApAt asg bdy w fn (.func (.func g) #[] lb) w.heap.size (W0.heap.size + 1) W0.heap.size [] W1 :=
    ⟨⟨_, (hold w.heap.size (by omega)).trans hv0, ⟨rfl, .inl ⟨rfl, rfl⟩⟩⟩,
      by rw [← hW1]; have := World.alloc_heap_new (W0.alloc (.deferred (some []))) (.loop (apRec asg bdy fn (.func (.func g) #[] lb) w.heap.size W0.heap.size .ready none)); rwa [World.size_alloc] at this,
      by rw [← hW1]; exact (Below.heap_alloc _ _ _ (by simp)).trans (World.alloc_heap_new W0 _), hb1⟩
  clear hA hB
  refine ⟨W0.heap.size + 1, [{ target := .collected W0.heap.size, args := #[] }], W1, { target := .fn (.func g) lb, args := #[.func (.yield (W0.heap.size + 1)) #[] #[]] }, W1, g,
    #[.func (.yield (W0.heap.size + 1)) #[] #[]] ++ lb, W1, ?_, ?_, ?_, ?_, fun _ => h1, ?_⟩
  · rw [← hW1]; exact run_enterLoop_outer _ _ _ _ _
  · simp [resolve, go_sem]
  · intro f' hf'; simp [Target.leads] at hf'; subst hf'; exact hFg
  · simp [invoke, go_sem, eg]
  · refine (hseq (W0.heap.size + 1) (ApAt asg bdy w fn (.func (.func g) #[] lb) w.heap.size (W0.heap.size + 1) W0.heap.size) W1 hb1 (ap_abides _ _ _ _ _ _ _ _ _ hb1.size)
      (fun pre x W hJ hl => hyld pre x W hJ hl) hM).mono ?_
    rintro e W2 ⟨⟨v0, rfl⟩, ss, hS, h2⟩
    obtain ⟨v, hv, hrow⟩ := h2.box
    have hend := run_endLoop (P := Try.prog) h2.L (by simp [apRec])
    obtain ⟨W3, hW3⟩ : ∃ W3, W2.putObj (W0.heap.size + 1) (.loop { apRec asg bdy fn (.func (.func g) #[] lb) w.heap.size W0.heap.size .ready none with state := .exhausted }) = W3 := ⟨_, rfl⟩
    rw [hW3] at hend
    have hg3 : W2.grownBy W3 (some (W0.heap.size + 1)) := by rw [← hW3]; exact grownBy_putObj_a _ _ _
    have hv3 : W3.heap[w.heap.size]? = some (.cells #[v] 30 (0, 0)) := by rw [← hW3]; exact (World.putObj_heap_other (by omega)).trans hv
    have hK3 : W3.heap[W0.heap.size]? = some (.deferred (some [])) := by rw [← hW3]; exact (World.putObj_heap_other (by omega)).trans h2.K
    have hrow3 := hrow.kept hg3 (ownsRow_ne_a hrow h2.L (fun cur e => by cases e))
    have hb3 : Below w.heap.size w W3 := h2.below.grown hg3 h2.below.size (fun k e => by cases e; omega)
    obtain ⟨hc3, hf3⟩ := cell_of_box_a hv3
    clear hW3
    refine ⟨none, W3, hend, ?_⟩
    gi_wp2
    rw [← hs0]
    refine ⟨by simp, .inl ⟨_, _, rfl, run_takeDeferred hK3, ?_⟩⟩
    exact ⟨_, results_tmp rfl _ _ _, v, ss, rfl, hS, hrow3.kept (grownBy_putObj_a _ _ _) (ownsRow_ne_a hrow3 hK3 (fun cur e => by cases e)), hb3.grown (grownBy_putObj_a _ _ _) hb3.size (fun k e => by cases e; omega)⟩
theorem collect_in (F : Fence) (n : Nat) (h8 : F.fn 24) (h11 : F.fn 32) (hro : F.round = none) (hn : 3 ≤ n) (g : Nat) (lb : Array Value) (hFg : F.fn g) (eg : ∀ args w, (callFunc g args).run Try.prog w = .ok (.enter g args) w)
    (S : List keyT → Prop) (N : Nat) (hN : N ≤ maxLen) (hNb : N * 16 ≤ 140737488355328) (w : World) (hseq : SeqGives F (n - 1 - 1) Try.prog g lb encK S N w) :
    CallsIn F n Try.prog 24 #[.func (.func g) #[] lb] w fun e w' => ∃ (v : Value) (ss : List keyT), e = .returned v ∧ S ss ∧ w'.ownsRow w.heap.size 34 2 v ss.length (flatE keyE ss) ∧ Below w.heap.size w w' := by
  have h1 : 1 ≤ n := by omega
  refine callsIn_of_wp Try.func24 rfl h8 ?_ hro
  simp only [Try.ntmps24, List.size_toArray, List.length_cons, List.length_nil, Nat.reduceAdd, Nat.reduceSub, Array.replicate_succ, Array.replicate_zero, List.push_toArray, List.append_toArray, List.nil_append, List.cons_append]
  gi_wp2_with (gi_at_call 32; refine (appendSeq_in F (n - 1) h11 hro (by omega) g lb hFg eg S N hN hNb _ hseq).mono ?_; rintro e w' ⟨v, ss, rfl, hS, hrow, hb⟩)
  go_ret
  exact ⟨v, ss, rfl, hS, hrow, hb⟩
theorem sortedFunc_byKey (n : Nat) (hn : 4 ≤ n) (g : Nat) (lb : Array Value) (eg : ∀ args w, (callFunc g args).run Try.prog w = .ok (.enter g args) w)
    (f : keyT → Option Value) (N : Nat) (hN : N < 4611686018427387904) (hNb : N * 16 ≤ 140737488355328) (w : World) (hseq : SeqGives Fence.wide (n - 1 - 1 - 1) Try.prog g lb encK (keyS f) N w) :
    CallsIn Fence.wide n Try.prog 14 #[.func (.func g) #[] lb, .func (.func 16) #[] #[]] w fun e w' => ∃ (v : Value) (ks : List keyT), e = .returned v ∧ ks.Pairwise (fun x y => befK x y = true) ∧ (∀ x, x ∈ ks ↔ keyGood x ∧ (f x).isSome = true) ∧ ks.length ≤ N ∧ RowE keyE 34 w' w.heap.size v ks ∧ Below w.heap.size w w' := by
  have h1 : 1 ≤ n := by omega
  refine callsIn_of_wp Try.func14 rfl trivial ?_ rfl
  simp only [Try.ntmps14, List.size_toArray, List.length_cons, List.length_nil, Nat.reduceAdd, Nat.reduceSub, Array.replicate_succ, Array.replicate_zero, List.push_toArray, List.append_toArray, List.nil_append, List.cons_append]
  have hNm : N ≤ maxLen := by unfold maxLen; omega
  have hfC : Fence.wide.fn 24 := trivial
  have hfS : Fence.wide.fn 25 := trivial
  gi_wp2_with (gi_at_call 24; refine (collect_in Fence.wide (n - 1) trivial trivial rfl (by omega) g lb trivial eg _ N hNm hNb _ hseq.bounded).mono ?_; rintro e W ⟨v, ss, rfl, ⟨⟨hnd, hmem⟩, hlen⟩, hrow, hb⟩)
  have hr : RowE keyE 34 W w.heap.size v ss := RowE.of_own hrow rfl
  have hs := callsIn_wide (n := n - 1) |>.2 (sort_byKey hr (by omega))
  gi_wp2_with (gi_at_call 25; refine hs.mono ?_; rintro e w' ⟨rfl, hR, hg⟩)
  go_ret
  refine ⟨v, sortL ss, rfl, sortL_rise hnd, fun x => by rw [(sortL_perm ss).mem_iff]; exact hmem x, by rw [(sortL_perm ss).length_eq]; exact hlen, hR, hb.grown hg hb.size (fun k e => (hr.type e).1)⟩
end Go.Proofs.Ytkggmhcdoalhoaa
