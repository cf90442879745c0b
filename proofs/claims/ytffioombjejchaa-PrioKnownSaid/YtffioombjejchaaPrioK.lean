/- prio: Sorted by contract. -/
import Derived.Test.YtffioombjejchaaPrioJ
import Derived.Laws.MakeOwn
namespace Go.Proofs.Ytffioombjejchaa
set_option linter.unusedVariables false
set_option linter.unusedSimpArgs false
open Go.RowKit

theorem LessAt.up {w : World} {h h2 c : Nat} {fall : Bool} (a : LessAt w h c fall) (hh : h ≤ h2) : LessAt w h2 c fall := by
  refine ⟨by have := a.1; omega, ?_⟩
  rcases a.2 with h1 | h1 | ⟨c2, h0, h1, h2'⟩
  · exact .inl h1
  · exact .inr (.inl h1)
  · exact .inr (.inr ⟨c2, by omega, h1, h2'⟩)
/-- the entries copied into a row of their own -/
theorem copy_row {w : World} {h c : Nat} {fall : Bool} {es : List (Pair × Int)} {came : Int} {sl : Value} (a : Live w h c fall es came sl) (hb : es.length * 24 ≤ 140737488355328) :
    ∃ v' w2, (Builtin.append_ #[70, 70] 70 #[.slice none 0 0, sl]).run Try.prog w = .ok v' w2 ∧ w2.ownsRow w.heap.size 68 3 v' es.length (flatP es) ∧ w.grownBy w2 none := by
  obtain ⟨i0, hi1, hi2, hi3, hi4⟩ := infoE
  rcases a.2.2.2 with ⟨rfl, h0⟩ | ⟨g, cap, cur, rfl, hg, hh, hn, hm, hs, ht⟩
  · have he : es = [] := List.length_eq_zero_iff.1 h0
    subst he
    exact ⟨.slice none 0 0, w, by go_simp, ⟨rfl, .inl ⟨rfl, rfl⟩⟩, ⟨rfl, rfl, rfl, Nat.le_refl _, fun _ _ _ => rfl⟩⟩
  · obtain ⟨v', w2, hr, ho, hg2, _⟩ := run_append_own (P := Try.prog) w w.heap.size 70 70 68 i0 _ 3 24 Try.underlying70 hi1 hi2 hi3 hi4 rfl (by omega) (.slice none 0 0) 0 [] ⟨rfl, .inl ⟨rfl, rfl⟩⟩ ⟨g, 0, none⟩ es.length cap (flatP es) (flatP_length es) (a.2.2.cells rfl) (fun u hu => by
        simp only [flatP, List.mem_flatMap] at hu
        obtain ⟨e, _, hu⟩ := hu
        simp [encP] at hu
        rcases hu with rfl | rfl | rfl <;> rfl) (by unfold maxLen; omega) (by omega) (Nat.le_refl _)
    refine ⟨v', w2, hr, by simpa using ho, hg2⟩
def flatT (ps : List Pair) : List Value := ps.flatMap fun p => [.int .i64 p.1, .int .i64 p.2]
theorem flatT_length (ps : List Pair) : (flatT ps).length = ps.length * 2 := by
  induction ps with
  | nil => rfl
  | cons p ps ih => simp only [flatT, List.flatMap_cons, List.length_append, List.length_cons] at *; rw [ih]; simp; omega
theorem flatT_snoc (ps : List Pair) (p : Pair) : flatT (ps ++ [p]) = flatT ps ++ [.int .i64 p.1, .int .i64 p.2] := by simp [flatT]
/-- entries in order -/
def InOrder (fall : Bool) : List (Pair × Int) → Prop
  | [] => True
  | a :: l => (∀ b, b ∈ l → HP.le (aheadP fall) a b) ∧ InOrder fall l
theorem InOrder.snoc {fall : Bool} {l : List (Pair × Int)} {a : Pair × Int} (h : InOrder fall l) (ha : ∀ b, b ∈ l → HP.le (aheadP fall) b a) : InOrder fall (l ++ [a]) := by
  induction l with
  | nil => exact ⟨fun b hb => by simp at hb, trivial⟩
  | cons x l ih =>
    refine ⟨fun b hb => ?_, ih h.2 fun b hb => ha b (by simp [hb])⟩
    rcases List.mem_append.1 hb with hb | hb
    · exact h.1 b hb
    · simp at hb; subst hb; exact ha x (by simp)
/-- a heap stands behind an append to a row of pairs -/
theorem HeapAt.grown {w w' : World} {h c : Nat} {fall : Bool} {es : List (Pair × Int)} {came : Int} {r row : Option Nat} (a : HeapAt w h c fall es came r) (hg : w.grownBy w' row) (hrow : ∀ g, row = some g → ∃ cs, w.heap[g]? = some (.cells cs 25 (0, 0))) : HeapAt w' h c fall es came r := by
  obtain ⟨sl, hr, hL, hH⟩ := a
  have key : ∀ (k : Nat) (cs : Array Value) (t : TypeId), w.heap[k]? = some (.cells cs t (0, 0)) → t ≠ 25 → w'.heap[k]? = w.heap[k]? := fun k cs t hk ht => hg.block k (lt_of_block hk) fun e => by
    obtain ⟨ds, hd⟩ := hrow k e.symm
    rw [hk] at hd
    injection hd with hd
    injection hd with _ hd
    exact ht hd
  refine ⟨sl, hr, ⟨⟨hL.1.1, ?_⟩, (key h _ _ hL.2.1 (by decide)).trans hL.2.1, hL.2.2.1, ?_⟩, hH⟩
  · rcases hL.1.2 with ⟨h1, h2⟩ | ⟨h1, h2⟩ | ⟨c2, h0, h1, h2⟩
    · exact .inl ⟨(key c _ _ h1 (by decide)).trans h1, h2⟩
    · exact .inr (.inl ⟨(key c _ _ h1 (by decide)).trans h1, h2⟩)
    · exact .inr (.inr ⟨c2, h0, (key c _ _ h1 (by decide)).trans h1, (key c2 _ _ h2 (by decide)).trans h2⟩)
  · rcases hL.2.2.2 with h1 | ⟨g, cap, cur, h1, hb, hh, hr'⟩
    · exact .inl h1
    · exact .inr ⟨g, cap, cur, h1, hb, (key g _ _ hh (by decide)).trans hh, hr'⟩
theorem HeapAt.kept {w w' : World} {h c : Nat} {fall : Bool} {es : List (Pair × Int)} {came : Int} {r : Option Nat} (a : HeapAt w h c fall es came r) (hk : ∀ k, k < w.heap.size → w'.heap[k]? = w.heap[k]?) : HeapAt w' h c fall es came r := by
  obtain ⟨sl, hr, hL, hH⟩ := a
  exact ⟨sl, hr, hL.kept hk, hH⟩
theorem exec_append2 {P : Program} {w w' : World} {a : Act} {o : Oper} {s x : Operand} {t ty : TypeId} {v u v' : Value} (ho : o.op = .call { callee := .builtin .append, args := #[s, x], argTypes := #[t, t] }) (hs : a.eval s = v) (hx : a.eval x = u) (hty : o.type = ty) (hr : (Builtin.append_ #[t, t] ty #[v, u]).run P w = .ok v' w') : (execOp a.eval o).run P w = .ok (.value v') w' := exec_append ho hs hx hty hr
theorem infoT : ∃ i, Try.prog.info? 25 = some i ∧ i.zero = some (.agg #[.int .i64 0, .int .i64 0]) ∧ i.size = 2 ∧ i.bytes = 16 := by
  have : (Try.prog.info? 25).map (fun i => (i.zero, i.size, i.bytes)) = some (some (.agg #[.int .i64 0, .int .i64 0]), 2, 16) := by kernel_rfl
  obtain ⟨i, h1, h2⟩ := Option.map_eq_some_iff.1 this
  simp at h2
  exact ⟨i, h1, h2.1, h2.2.1, h2.2.2⟩
def sliceLen : Value → Nat | .slice _ n _ => n | _ => 0
theorem own_len {w : World} {B : Nat} {e : TypeId} {size : Nat} {v : Value} {n : Nat} {xs : List Value} (h : w.ownsRow B e size v n xs) : sliceLen v = n := by
  rcases h.2 with ⟨rfl, rfl⟩ | ⟨g, cap, cur, rfl, _⟩ <;> rfl
theorem own_type {w : World} {B : Nat} {e : TypeId} {size : Nat} {v : Value} {n : Nat} {xs : List Value} (h : w.ownsRow B e size v n xs) {g : Nat} (hg : v.ownBlock = some g) : ∃ cs, w.heap[g]? = some (.cells cs e (0, 0)) := by
  rcases h.2 with ⟨rfl, _⟩ | ⟨g', cap, cur, rfl, _, hh, _⟩
  · cases hg
  · injection hg with hg
    exact ⟨cur, hg ▸ hh⟩
/-- a row of pairs stands behind what a heap does -/
theorem own_tch {w w' : World} {B : Nat} {v : Value} {n : Nat} {xs : List Value} (ho : w.ownsRow B 25 2 v n xs) {h c : Nat} {fall : Bool} {es : List (Pair × Int)} {came : Int} {r r' : Option Nat} (hA : HeapAt w h c fall es came r) (hT : Tch w w' h r r') : w'.ownsRow B 25 2 v n xs := by
  refine World.ownsRow_congr ho fun k hk => ?_
  obtain ⟨cs, hc⟩ := own_type ho hk
  obtain ⟨sl, hr, hL, _⟩ := hA
  refine hT.block k (lt_of_block hc) (fun e => ?_) (fun e => ?_)
  · subst e
    rw [hL.2.1] at hc
    injection hc with hc
    injection hc with _ hc
    exact absurd hc (by decide)
  · obtain ⟨cur, hd⟩ := hL.own (hr.trans e.symm)
    exact row_ne hc hd (by decide) rfl
def SortedPost (w : World) (fall : Bool) (es : List (Pair × Int)) (e : Ending) (w' : World) : Prop :=
  ∃ v L, e = .returned v ∧ w'.ownsRow w.heap.size 25 2 v (L.map (·.1)).length (flatT (L.map (·.1))) ∧ Below w.heap.size w w' ∧ L.Perm es ∧ InOrder fall L
/-- what the loop of Sorted keeps -/
def SortInv (fall : Bool) (es L es1 : List (Pair × Int)) : Prop := (L ++ es1).Perm es ∧ InOrder fall L ∧ ∀ a, a ∈ L → ∀ b, b ∈ es1 → HP.le (aheadP fall) a b
theorem SortInv.step {fall : Bool} {es L es1 es2 : List (Pair × Int)} (h : SortInv fall es L es1) (hH : HP.HO (aheadP fall) es1) (hn : 0 < es1.length) (hp : es1.Perm (HP.at' es1 0 :: es2)) : SortInv fall es (L ++ [HP.at' es1 0]) es2 := by
  have hmem : HP.at' es1 0 ∈ es1 := by rw [HP.at_get hn]; exact List.getElem_mem hn
  refine ⟨?_, h.2.1.snoc fun b hb => h.2.2 b hb _ hmem, fun a ha b hb => ?_⟩
  · rw [List.append_assoc]
    exact (List.Perm.append_left L hp.symm).trans h.1
  · have hb1 : b ∈ es1 := hp.mem_iff.2 (List.mem_cons_of_mem _ hb)
    rcases List.mem_append.1 ha with ha | ha
    · exact h.2.2 a ha b hb1
    · simp at ha
      subst ha
      obtain ⟨j, hj, rfl⟩ := List.mem_iff_getElem.1 hb1
      have := hH.first (aheadP_ord fall) (aheadP_refl fall) j j (Nat.le_refl j) hj
      rwa [HP.at_get hj] at this
set_option maxRecDepth 100000 in
set_option maxHeartbeats 2000000 in
theorem sorted_any (h c : Nat) (fall : Bool) (es : List (Pair × Int)) (came : Int) (r : Option Nat) (w : World) (hA : HeapAt w h c fall es came r) (hb : es.length * 24 ≤ 140737488351232) :
    Calls Try.prog 22 #[.pointer (some ⟨h, 0, none⟩)] w (SortedPost w fall es) := by
  obtain ⟨sl, hr, hL, hH⟩ := hA
  have hhl := hL.hlt
  have hLd : Live w.drew h c fall es came sl := hL
  obtain ⟨v', w2, hrun, hown2, hg2⟩ := copy_row hLd (by omega)
  have hrow2 : w2.heap[h]? = some (.cells #[.func (.func 40) #[] #[.pointer (some ⟨c, 0, none⟩)], sl, .int .i64 came] 72 (0, 0)) := (hg2.block h hhl (by simp)).trans hL.2.1
  obtain ⟨ao, n', cap', rfl⟩ : ∃ ao n' cap', v' = .slice ao n' cap' := by
    rcases hown2.2 with ⟨h1, _⟩ | ⟨g, cp, cur, h1, _⟩ <;> exact ⟨_, _, _, h1⟩
  have HH := Lib.hid hH
  clear hH
  go_enter Try.func22, Try.ntmps22
  go_wp2_with fail
  refine wp_region_held_drew (S := fun w' => w'.heap[h]? = some (.cells #[.func (.func 40) #[] #[.pointer (some ⟨c, 0, none⟩)], sl, .int .i64 came] 72 (0, 0))) (by kernel_rfl) hL.2.1 (fun hHeld => ?_)
  (refine rg_yes 0 ?v1 (by simp only [List.getElem?_toArray, List.getElem?_cons_succ, List.getElem?_cons_zero]; rfl) (by kernel_rfl) (by kernel_rfl) (by kernel_rfl) (by exact fun _ _ _ h => h) (by kernel_rfl) (by assumption) ?y1 ?z1; case y1 => (intro w hSw; (try dsimp only at hSw); go_simp; (try (rw [if_neg (by omega)])); (try with_reducible rfl)))
  (try simp only [Act.put, List.setIfInBounds_toArray, List.set_cons_zero, List.set_cons_succ])
  (refine rg_yes 1 ?v2 (by simp only [List.getElem?_toArray, List.getElem?_cons_succ, List.getElem?_cons_zero]; rfl) (by kernel_rfl) (by kernel_rfl) (by kernel_rfl) (by exact fun _ _ _ h => h) (by kernel_rfl) (by assumption) ?y2 ?z2; case y2 => (intro w hSw; (try dsimp only at hSw); go_simp; (try (rw [if_neg (by omega)])); (try with_reducible rfl)))
  (try simp only [Act.put, List.setIfInBounds_toArray, List.set_cons_zero, List.set_cons_succ])
  (refine rg_yes 2 ?v3 (by simp only [List.getElem?_toArray, List.getElem?_cons_succ, List.getElem?_cons_zero]; rfl) (by kernel_rfl) (by kernel_rfl) (by kernel_rfl) (by exact fun _ _ _ h => h) (by kernel_rfl) (by assumption) ?y3 ?z3; case y3 => (intro w hSw; (try dsimp only at hSw); go_simp; (try (rw [if_neg (by omega)])); (try with_reducible rfl)))
  (try simp only [Act.put, List.setIfInBounds_toArray, List.set_cons_zero, List.set_cons_succ])
  refine rg_yes 3 _ (by simp only [List.getElem?_toArray, List.getElem?_cons_succ, List.getElem?_cons_zero]; rfl) (by kernel_rfl) (by kernel_rfl) (by kernel_rfl) (by exact fun _ _ _ h => h) (by kernel_rfl) (by assumption) (by exact fun w' hS => (exec_load_one (v := .func (.func 40) #[] #[.pointer (some ⟨c, 0, none⟩)]) hS rfl rfl rfl (fun w => by kernel_rfl))) ?_
  (try simp only [Act.put, List.setIfInBounds_toArray, List.set_cons_zero, List.set_cons_succ])
  (refine rg_yes 4 ?v4 (by simp only [List.getElem?_toArray, List.getElem?_cons_succ, List.getElem?_cons_zero]; rfl) (by kernel_rfl) (by kernel_rfl) (by kernel_rfl) (by exact fun _ _ _ h => h) (by kernel_rfl) (by assumption) ?y4 ?z4; case y4 => (intro w hSw; (try dsimp only at hSw); go_simp; (try (rw [if_neg (by omega)])); (try with_reducible rfl)))
  (try simp only [Act.put, List.setIfInBounds_toArray, List.set_cons_zero, List.set_cons_succ])
  (refine rg_yes 5 ?v5 (by simp only [List.getElem?_toArray, List.getElem?_cons_succ, List.getElem?_cons_zero]; rfl) (by kernel_rfl) (by kernel_rfl) (by kernel_rfl) (by exact fun _ _ _ h => h) (by kernel_rfl) (by assumption) ?y5 ?z5; case y5 => (intro w hSw; (try dsimp only at hSw); go_simp; (try (rw [if_neg (by omega)])); (try with_reducible rfl)))
  (try simp only [Act.put, List.setIfInBounds_toArray, List.set_cons_zero, List.set_cons_succ])
  (refine rg_yes 6 ?v6 (by simp only [List.getElem?_toArray, List.getElem?_cons_succ, List.getElem?_cons_zero]; rfl) (by kernel_rfl) (by kernel_rfl) (by kernel_rfl) (by exact fun _ _ _ h => h) (by kernel_rfl) (by assumption) ?y6 ?z6; case y6 => (intro w hSw; (try dsimp only at hSw); go_simp; (try (rw [if_neg (by omega)])); (try with_reducible rfl)))
  (try simp only [Act.put, List.setIfInBounds_toArray, List.set_cons_zero, List.set_cons_succ])
  refine rg_yes 7 _ (by simp only [List.getElem?_toArray, List.getElem?_cons_succ, List.getElem?_cons_zero]; rfl) (by kernel_rfl) (by kernel_rfl) (by kernel_rfl) (by exact fun _ _ _ h => h) (by kernel_rfl) (by assumption) (by exact fun w' hS => (exec_load_one (v := sl) hS rfl rfl rfl (fun w => by kernel_rfl))) ?_
  (try simp only [Act.put, List.setIfInBounds_toArray, List.set_cons_zero, List.set_cons_succ])
  refine rg_one 8 _ _ (by simp only [List.getElem?_toArray, List.getElem?_cons_succ, List.getElem?_cons_zero]; rfl) (by kernel_rfl) (by kernel_rfl) (exec_append2 rfl rfl rfl rfl hrun) hrow2 (fun hHeld => ?_)
  (try simp only [Act.put, List.setIfInBounds_toArray, List.set_cons_zero, List.set_cons_succ])
  (refine rg_yes 9 ?v7 (by simp only [List.getElem?_toArray, List.getElem?_cons_succ, List.getElem?_cons_zero]; rfl) (by kernel_rfl) (by kernel_rfl) (by kernel_rfl) (by exact fun _ _ _ h => h) (by kernel_rfl) (by assumption) ?y7 ?z7; case y7 => (intro w hSw; (try dsimp only at hSw); go_simp; (try (rw [if_neg (by omega)])); (try with_reducible rfl)))
  (try simp only [Act.put, List.setIfInBounds_toArray, List.set_cons_zero, List.set_cons_succ])
  refine rg_one 10 _ _ (by simp only [List.getElem?_toArray, List.getElem?_cons_succ, List.getElem?_cons_zero]; rfl) (by kernel_rfl) (by kernel_rfl) (by go_simp; first | exact ⟨rfl, rfl⟩ | rfl) ((heap_alloc_old _ _ (lt_of_block hHeld)).trans hHeld) (fun hHeld => ?_)
  (try simp only [Act.put, List.setIfInBounds_toArray, List.set_cons_zero, List.set_cons_succ])
  (refine rg_yes 11 ?v8 (by simp only [List.getElem?_toArray, List.getElem?_cons_succ, List.getElem?_cons_zero]; rfl) (by kernel_rfl) (by kernel_rfl) (by kernel_rfl) (by exact fun _ _ _ h => h) (by kernel_rfl) (by assumption) ?y8 ?z8; case y8 => (intro w hSw; (try dsimp only at hSw); go_simp; (try (rw [if_neg (by omega)])); (try with_reducible rfl)))
  (try simp only [Act.put, List.setIfInBounds_toArray, List.set_cons_zero, List.set_cons_succ])
  refine wpAnyH_done (by kernel_rfl) ?_ _
  have hb2 : Below w.heap.size w w2 := ⟨hg2.os, hg2.tape, hg2.output, hg2.size, fun k hk => hg2.block k hk (by simp)⟩
  have hb3 : Below w.heap.size w (w2.alloc (.cells #[.func (.func 40) #[] #[.pointer (some ⟨c, 0, none⟩)], .slice ao n' cap', .int .i64 0] 72)) := hb2.alloc hb2.size _
  have hL3 : HeapAt (w2.alloc (.cells #[.func (.func 40) #[] #[.pointer (some ⟨c, 0, none⟩)], .slice ao n' cap', .int .i64 0] 72)) w2.heap.size c fall es 0 (Value.slice ao n' cap').ownBlock := by
    refine ⟨_, rfl, ⟨(hL.1.kept fun k hk v t _ hv => ?_).up (Nat.le_trans (Nat.le_of_lt hhl) hb2.size), heap_alloc_new w2 _, ?_⟩, HH.out⟩
    · exact hb3.block k (lt_of_block hv)
    · obtain ⟨h1, h2⟩ := hown2
      refine ⟨h1, ?_⟩
      rcases h2 with h2 | ⟨g, cp, cur, h2, h3, h4, h5⟩
      · exact .inl h2
      · exact .inr ⟨g, cp, cur, h2, Nat.zero_le _, (heap_alloc_old w2 _ (lt_of_block h4)).trans h4, h5⟩
  have hr3 : ∀ k, (Value.slice ao n' cap').ownBlock = some k → w.heap.size ≤ k := fun k hk => (hown2.lt k hk).1
  have hh3 : w.heap.size ≤ w2.heap.size := hb2.size
  have hL3' : Live (w2.alloc (.cells #[.func (.func 40) #[] #[.pointer (some ⟨c, 0, none⟩)], .slice ao n' cap', .int .i64 0] 72)) h c fall es came sl := hL.kept fun k hk => hb3.block k hk
  generalize w2.alloc (.cells #[.func (.func 40) #[] #[.pointer (some ⟨c, 0, none⟩)], .slice ao n' cap', .int .i64 0] 72) = w3 at hb3 hL3 hL3' ⊢
  generalize w2.heap.size = h2 at hL3 hh3 ⊢
  generalize (Value.slice ao n' cap').ownBlock = r3 at hL3 hr3
  clear hrun hown2 hg2 hrow2 hHeld hb2 hLd
  obtain ⟨i0, hi1, hi2, hi3, hi4⟩ := infoT
  obtain ⟨w4, hmk, hown4, hg4⟩ := run_make_own (P := Try.prog) w3 w.heap.size 29 25 i0 _ 2 Try.underlying29 hi1 hi2 hi3 .i64 .i64 es.length (by rw [hi4]; omega) (by unfold maxLen; omega) hb3.size
  have c1 : w3.cell? ⟨h, 1, none⟩ = some sl := by rw [cell_of_row _ _ _ _ _ _ hL3'.2.1]; rfl
  have hl4 : HeapAt w4 h2 c fall es 0 r3 := hL3.kept fun k hk => hg4.block k hk (by simp)
  have hb4 : Below w.heap.size w w4 := hb3.trans ⟨hg4.os, hg4.tape, hg4.output, hg4.size, fun k hk => hg4.block k (Nat.lt_of_lt_of_le hk hb3.size) (by simp)⟩
  have hI : SortInv fall es [] es := ⟨.refl _, trivial, fun a ha => by cases ha⟩
  have hbl : es.length ≤ 140737488351232 := by omega
  rcases hL3'.len_val with ⟨he, rfl⟩ | ⟨gs, caps, rfl⟩
  · have he0 : es.length = 0 := by rw [he]; rfl
    have hmk0 : (Instr.makeSlice 29 (.int .i64 0) (.int .i64 0)).run Try.prog w3 = .ok (.slice (some ⟨w3.heap.size, 0, none⟩) 0 es.length) w4 := by
      have := hmk
      conv at this => lhs; rw [he0]
      exact this
    rw [he] at hl4
    have HHE := Lib.hid he
    clear hmk he he0
    go_wp2_with fail
    refine wp_loop_rounds 1 ?_
    rw [rounds_succ]
    go_wp2_with fail
    refine (len_any h2 c fall [] 0 r3 _ hl4 (by simp)).mono ?_
    rintro e w5 ⟨rfl, rfl⟩
    go_wp2_with fail
    go_ret
    refine ⟨_, [], rfl, ?_, hb4, by rw [HHE.out], trivial⟩
    exact hown4
  · go_wp2_with fail
    go_loopw [4, 5, 6] (fun ov _ _ wr => ∃ (L es1 : List (Pair × Int)) (r1 : Option Nat), SortInv fall es L es1 ∧ HeapAt wr h2 c fall es1 0 r1 ∧ (∀ k, r1 = some k → w.heap.size ≤ k) ∧ wr.ownsRow w.heap.size 25 2 ov (L.map (·.1)).length (flatT (L.map (·.1))) ∧ Below w.heap.size w wr) (fun ov _ _ _ => es.length - sliceLen ov)
    case atStart => exact ⟨[], es, r3, hI, hl4, hr3, hown4, hb4⟩
    case round =>
      obtain ⟨L, es1, r1, hS, hA1, hr1, ho1, hB1⟩ := hrel
      have hln : L.length + es1.length = es.length := by have := hS.1.length_eq; simpa using this
      have HLN := Lib.hid hln
      have hb1 : es1.length ≤ 140737488351232 := by omega
      clear hln
      go_wp2_with fail
      refine (len_any h2 c fall es1 0 r1 _ hA1 hb1).mono ?_
      rintro e w5 ⟨rfl, rfl⟩
      by_cases hn : 0 < es1.length
      · go_wp2_with fail
        refine (pop_some h2 c fall es1 0 r1 _ hA1 hn hb1).mono ?_
        rintro e w6 ⟨es2, rfl, hA6, hP6, hT6⟩
        have hH1 : HP.HO (aheadP fall) es1 := by obtain ⟨_, _, _, h9⟩ := hA1; exact h9
        have ho6 := own_tch ho1 hA1 hT6
        have hB6 := hB1.trans (hT6.below hB1.size hh3 hr1)
        have hS6 := hS.step hH1 hn hP6
        have hl1 := own_len ho1
        have hsl : L.length < es.length := by have := HLN.out; omega
        have HS6 := Lib.hid hS6
        have HHT := Lib.hid hT6
        clear hS hA1 hT6 hP6 hS6 hB1 ho1
        have hoA := (ho6.alloc (.cells #[.int .i64 (HP.at' es1 0).1.1, .int .i64 (HP.at' es1 0).1.2] 25)).alloc (.cells #[.int .i64 (HP.at' es1 0).1.1, .int .i64 (HP.at' es1 0).1.2] 25)
        have hAA := hA6.kept (w' := (w6.alloc (.cells #[.int .i64 (HP.at' es1 0).1.1, .int .i64 (HP.at' es1 0).1.2] 25)).alloc (.cells #[.int .i64 (HP.at' es1 0).1.1, .int .i64 (HP.at' es1 0).1.2] 25)) (fun k hk => by rw [heap_alloc_old _ _ (by simp; omega), heap_alloc_old _ _ hk])
        have hBA : Below w.heap.size w ((w6.alloc (.cells #[.int .i64 (HP.at' es1 0).1.1, .int .i64 (HP.at' es1 0).1.2] 25)).alloc (.cells #[.int .i64 (HP.at' es1 0).1.1, .int .i64 (HP.at' es1 0).1.2] 25)) := (hB6.alloc hB6.size _).alloc (by have := hB6.size; simp; omega) _
        have hcell : ((w6.alloc (.cells #[.int .i64 (HP.at' es1 0).1.1, .int .i64 (HP.at' es1 0).1.2] 25)).alloc (.cells #[.int .i64 (HP.at' es1 0).1.1, .int .i64 (HP.at' es1 0).1.2] 25)).heap[w6.heap.size + 1]? = some (.cells #[.int .i64 (HP.at' es1 0).1.1, .int .i64 (HP.at' es1 0).1.2] 25 (0, 0)) := heap_alloc2_new w6 _ _
        have HOA := Lib.hid hoA
        have HAA := Lib.hid hAA
        have HBA := Lib.hid hBA
        have HCE := Lib.hid hcell
        clear hoA hAA hBA hcell
        go_wp2_with (at_builtin; refine wpList_append_own _ rfl _ _ 29 rfl w.heap.size 25 i0 _ 2 16 Try.underlying29 hi1 hi2 hi3 hi4 rfl (by decide) _ _ _ rfl HOA.out ⟨w6.heap.size + 1, 0, none⟩ 1 1 [.int .i64 (HP.at' es1 0).1.1, .int .i64 (HP.at' es1 0).1.2] rfl rfl ?c1 ?c2 ?c3 ?c4 ?c5 ?_)
        case c1 =>
          intro j u hj
          have e1 : (⟨w6.heap.size + 1, 0, none⟩ : Addr).add j = ⟨w6.heap.size + 1, j, none⟩ := by unfold Addr.add; split <;> simp_all
          rw [e1, cell_of_row _ _ _ _ _ _ HCE.out]
          rcases j with _ | _ | j <;> simp at hj ⊢ <;> exact hj
        case c2 => intro u hu; simp at hu; rcases hu with rfl | rfl <;> rfl
        case c3 => simp only [List.length_map]; unfold maxLen; omega
        case c4 => simp only [List.length_map]; omega
        case c5 => exact HBA.out.size
        intro v8 w8 ho8 hg8 _
        have hA8 := HAA.out.grown hg8 (fun g hg => own_type HOA.out hg)
        have hB8 := HBA.out.grown hg8 HBA.out.size (fun k hk => (HOA.out.lt k hk).1)
        have hl8 := own_len ho8
        have HO8 := Lib.hid ho8
        have HL8 := Lib.hid hl8
        clear ho8 hl8 hg8
        go_wp2_with fail
        refine ⟨⟨L ++ [HP.at' es1 0], es2, r1, HS6.out, hA8, hr1, ?_, hB8⟩, ?_⟩
        · have := HO8.out
          rw [List.map_append, List.length_append]
          simp only [List.map_cons, List.map_nil, List.length_cons, List.length_nil, List.length_map, Nat.zero_add]
          rw [flatT_snoc]
          exact this
        · have h8 := HL8.out
          simp only [List.length_map] at h8 hl1
          show es.length - sliceLen v8 < es.length - sliceLen u4
          omega
      · have he1 : es1 = [] := List.length_eq_zero_iff.1 (by omega)
        have hPL := hS.1
        rw [he1, List.append_nil] at hPL
        have HPL := Lib.hid hPL
        have HOR := Lib.hid hS.2.1
        clear hPL hS he1
        go_wp2_with fail
        go_ret
        exact ⟨u4, L, rfl, ho1, hB1, HPL.out, HOR.out⟩
end Go.Proofs.Ytffioombjejchaa
