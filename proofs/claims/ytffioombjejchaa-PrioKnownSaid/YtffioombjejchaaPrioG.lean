/- prio: an append to a row of one's own, with the word on the row; Push by contract. -/
import Derived.Test.YtffioombjejchaaPrioF
import Derived.ArgAppend
import Derived.Test.YtffioombjejchaaRegK
namespace Go.Proofs.Ytffioombjejchaa
set_option linter.unusedVariables false
set_option linter.unusedSimpArgs false
open Go.RowKit
attribute [local irreducible] Go.wpStill

/-- append to a row of one's own: the row is the same one or a new one -/
theorem append_own {P : Program} (w : World) (base : Nat) (t ty e : TypeId) (i : TypeInfo) (z : Value) (size bytes : Nat) (ht : P.underlying t = some (.slice e)) (hi : P.info? e = some i) (hz : i.zero = some z)
    (hsize : i.size = size) (hby : i.bytes = bytes) (hzs : z.cells.size = size) (hsz : 0 < size) (v : Value) (n : Nat) (xs : List Value) (hown : w.ownsRow base e size v n xs)
    (a : Addr) (m c : Nat) (news : List Value) (hl : news.length = m * size) (hnews : ∀ j u, news[j]? = some u → w.cell? (a.add j) = some u) (h1 : ∀ u ∈ news, u.oneCell' = true)
    (h63 : n + m ≤ maxLen) (hbytes : (n + m) * bytes ≤ 140737488355328) (hbase : base ≤ w.heap.size) :
    ∃ v' w', (Builtin.append_ #[t, t] ty #[v, .slice (some a) m c]).run P w = .ok v' w' ∧ w'.ownsRow base e size v' (n + m) (xs ++ news) ∧ w.grownBy w' v.ownBlock ∧ (v'.ownBlock = v.ownBlock ∨ ∀ k, v'.ownBlock = some k → w.heap.size ≤ k) := by
  obtain ⟨v', w', hr, ho, hg, _⟩ := run_append_own (P := P) w base t ty e i z size bytes ht hi hz hsize hby hzs hsz v n xs hown a m c news hl hnews h1 h63 hbytes hbase
  refine ⟨v', w', hr, ho, hg, ?_⟩
  rcases hown.2 with ⟨rfl, rfl⟩ | ⟨g, cap, cur, rfl, hb, hh, hn, hm, hs, htk⟩
  · obtain ⟨v2, w2, hr2, ho2, _⟩ := run_append_own (P := P) w w.heap.size t ty e i z size bytes ht hi hz hsize hby hzs hsz (.slice none 0 0) 0 xs ⟨hown.1, .inl ⟨rfl, rfl⟩⟩ a m c news hl hnews h1 h63 hbytes (Nat.le_refl _)
    rw [hr] at hr2
    injection hr2 with e1 e2
    subst e1
    subst e2
    exact .inr fun k hk => (ho2.lt k hk).1
  · by_cases hc : n + m ≤ cap
    · have hr2 := run_append_room (P := P) w t ty e i ht hi g n cap cur hh a m c news (by rw [hsize]; exact hl) hnews h1 hc (by rw [hs, hsize, hl, ← Nat.add_mul]; exact Nat.mul_le_mul_right _ hc)
      rw [hr] at hr2
      injection hr2 with e1 e2
      rw [e1]
      exact .inl rfl
    · obtain ⟨v2, w2, hr2, ho2, _⟩ := run_append_arg_grows (P := P) w t ty e i z size bytes ht hi hz hsize hby hzs hsz ⟨g, 0, none⟩ n cap xs hown.1 (hown.cells rfl) a m c news hl hnews (by omega) h63 hbytes
      rw [hr] at hr2
      injection hr2 with e1 e2
      subst e1
      subst e2
      exact .inr fun k hk => (ho2.lt k hk).1
theorem World.ownsRow_congr {w w' : World} {base : Nat} {e : TypeId} {size : Nat} {v : Value} {n : Nat} {xs : List Value} (h : w.ownsRow base e size v n xs) (hk : ∀ k, v.ownBlock = some k → w'.heap[k]? = w.heap[k]?) : w'.ownsRow base e size v n xs := by
  refine ⟨h.1, ?_⟩
  rcases h.2 with h1 | ⟨g, cap, cur, rfl, hb, hh, hr⟩
  · exact .inl h1
  · exact .inr ⟨g, cap, cur, rfl, hb, (hk g rfl).trans hh, hr⟩
theorem exec_load_one {P : Program} {w : World} {a : Act} {o : Oper} {x : Operand} {b off : Nat} {v : Value} {T t : TypeId} {cs : Array Value} {fr : Nat × Nat} (hg : w.heap[b]? = some (.cells cs t fr)) (hv : cs[off]? = some v) (ho : o.op = .load T x) (hx : a.eval x = .pointer (some ⟨b, off, none⟩)) (hT : ∀ w, (isAgg T).run P w = .ok false w) : (execOp a.eval o).run P w = .ok (.value v) w := by
  have hc : w.cell? ⟨b, off, none⟩ = some v := by rw [cell_of_row _ _ _ _ _ _ hg]; exact hv
  unfold execOp
  simp only [ho, hx]
  simp [go_sem, hc, hT]
theorem exec_append {P : Program} {w w' : World} {a : Act} {o : Oper} {s x : Operand} {t ty : TypeId} {v u v' : Value} (ho : o.op = .call { callee := .builtin .append, args := #[s, x], argTypes := #[t, t] }) (hs : a.eval s = v) (hx : a.eval x = u) (hty : o.type = ty) (hr : (Builtin.append_ #[t, t] ty #[v, u]).run P w = .ok v' w') : (execOp a.eval o).run P w = .ok (.value v') w' := by
  subst hty
  unfold execOp
  simp only [ho, resolve, invoke, builtin, Sem.run_bind, Sem.run_pure, Result.andThen_ok, List.map_toArray, List.map_cons, List.map_nil, hs, hx, hr]
theorem infoE : ∃ i, Try.prog.info? 68 = some i ∧ i.zero = some (.agg #[.int .i64 0, .int .i64 0, .int .i64 0]) ∧ i.size = 3 ∧ i.bytes = 24 := by
  have : (Try.prog.info? 68).map (fun i => (i.zero, i.size, i.bytes)) = some (some (.agg #[.int .i64 0, .int .i64 0, .int .i64 0]), 3, 24) := by kernel_rfl
  obtain ⟨i, h1, h2⟩ := Option.map_eq_some_iff.1 this
  simp at h2
  exact ⟨i, h1, h2.1, h2.2.1, h2.2.2⟩

/-- a heap of pairs, in order; r: the block of its row -/
def HeapAt (w : World) (h c : Nat) (fall : Bool) (es : List (Pair × Int)) (came : Int) (r : Option Nat) : Prop := ∃ sl, sl.ownBlock = r ∧ Live w h c fall es came sl ∧ HP.HO (aheadP fall) es
def PushPost (w : World) (h c : Nat) (fall : Bool) (es : List (Pair × Int)) (came : Int) (r : Option Nat) (x : Pair) (e : Ending) (w' : World) : Prop :=
  ∃ es' r', e = .returned (.tuple #[]) ∧ HeapAt w' h c fall es' (came + 1) r' ∧ es'.Perm (es ++ [(x, came)]) ∧ Tch w w' h r r'

set_option maxRecDepth 100000 in
set_option maxHeartbeats 2000000 in
theorem push_any (h c : Nat) (fall : Bool) (es : List (Pair × Int)) (came : Int) (r : Option Nat) (x : Pair) (w : World) (hA : HeapAt w h c fall es came r) (hb : (es.length + 1) * 24 ≤ 140737488355328) (hc0 : 0 ≤ came) (hc1 : came ≤ 140737488355328) :
    Calls Try.prog 14 #[.pointer (some ⟨h, 0, none⟩), .agg #[.int .i64 x.1, .int .i64 x.2]] w (PushPost w h c fall es came r x) := by
  obtain ⟨sl, hr, hL, hH⟩ := hA
  have hhl := hL.hlt
  obtain ⟨i0, hi1, hi2, hi3, hi4⟩ := infoE
  have hw1b : Below w.heap.size w (w.alloc (.cells #[.int .i64 x.1, .int .i64 x.2] 25)) := (Below.refl _ _).alloc (Nat.le_refl _) _
  have hw1r := heap_alloc_new w (.cells #[.int .i64 x.1, .int .i64 x.2] 25)
  have hw1s : (w.alloc (.cells #[.int .i64 x.1, .int .i64 x.2] 25)).heap.size = w.heap.size + 1 := by simp
  have HB := Lib.hid hw1b
  have HR := Lib.hid hw1r
  have HS := Lib.hid hw1s
  clear hw1b hw1r hw1s
  go_enter Try.func14, Try.ntmps14
  go_wp2_with fail
  have hL1 := hL.below HB.out
  generalize w.alloc (.cells #[.int .i64 x.1, .int .i64 x.2] 25) = w1 at HB HR HS hL1 ⊢
  have hown : (w1.drew.alloc (.cells #[.int .i64 x.1, .int .i64 x.2, .int .i64 came] 68)).ownsRow 0 68 3 sl es.length (flatP es) := hL1.2.2.alloc _
  obtain ⟨v', w2, hrun, hown2, hg2, hrow2⟩ := append_own (P := Try.prog) (w1.drew.alloc (.cells #[.int .i64 x.1, .int .i64 x.2, .int .i64 came] 68)) 0 70 70 68 i0 _ 3 24 Try.underlying70 hi1 hi2 hi3 hi4 rfl (by omega) sl es.length (flatP es) hown ⟨w1.heap.size, 0, none⟩ 1 1 (encP (x, came)) rfl (fun j u hj => by
      have : (⟨w1.heap.size, 0, none⟩ : Addr).add j = ⟨w1.heap.size, j, none⟩ := by unfold Addr.add; split <;> simp_all
      rw [this, cell_of_row _ _ _ _ _ _ (show (w1.drew.alloc (.cells #[.int .i64 x.1, .int .i64 x.2, .int .i64 came] 68)).heap[w1.heap.size]? = _ from heap_alloc_new w1.drew _)]
      simpa [encP] using hj) (by intro u hu; simp [encP] at hu; rcases hu with rfl | rfl | rfl <;> rfl) (by unfold maxLen; omega) (by omega) (Nat.zero_le _)
  obtain ⟨g', cap', rfl, hgg'⟩ : ∃ g' cap', v' = .slice (some ⟨g', 0, none⟩) (es.length + 1) cap' ∧ ∃ cur, w2.heap[g']? = some (.cells cur 68 (0, 0)) := by
    rcases hown2.2 with ⟨_, h0⟩ | ⟨g', cap', cur, rfl, hg, hh, _⟩
    · omega
    · exact ⟨g', cap', rfl, cur, hh⟩
  have hne : h ≠ w.heap.size := by omega
  have hrow : ∀ g, sl.ownBlock = some g → h ≠ g ∧ g < w.heap.size := fun g hg => by obtain ⟨cur, hc⟩ := hL.own hg; exact ⟨row_ne hL.2.1 hc (by decide), lt_of_block hc⟩
  refine wp_region_till (k := 15) (S := fun w' => w'.heap[h]? = some (.cells #[.func (.func 40) #[] #[.pointer (some ⟨c, 0, none⟩)], sl, .int .i64 came] 72 (0, 0)) ∧ w'.heap[w.heap.size]? = some (.cells #[.int .i64 x.1, .int .i64 x.2] 25 (0, 0))) (by kernel_rfl) ?_
  have hHeld : w1.drew.heap[h]? = some (.cells #[.func (.func 40) #[] #[.pointer (some ⟨c, 0, none⟩)], sl, .int .i64 came] 72 (0, 0)) ∧ w1.drew.heap[w.heap.size]? = some (.cells #[.int .i64 x.1, .int .i64 x.2] 25 (0, 0)) := ⟨hL1.2.1, HR.out⟩
  (refine rt_yes 0 ?v1 (by simp only [List.getElem?_toArray, List.getElem?_cons_succ, List.getElem?_cons_zero]; rfl) (by kernel_rfl) (by kernel_rfl) (by kernel_rfl) (by kernel_rfl) (by exact fun _ _ _ h => h) (by kernel_rfl) (by exact fun _ => hHeld) ?y1 ?z1; case y1 => (intro w; go_simp; (try (rw [if_neg (by omega)])); (try with_reducible rfl)))
  (try simp only [Act.put, List.setIfInBounds_toArray, List.set_cons_zero, List.set_cons_succ])
  (refine rt_yes 1 ?v2 (by simp only [List.getElem?_toArray, List.getElem?_cons_succ, List.getElem?_cons_zero]; rfl) (by kernel_rfl) (by kernel_rfl) (by kernel_rfl) (by kernel_rfl) (by exact fun _ _ _ h => h) (by kernel_rfl) (by exact fun _ => hHeld) ?y2 ?z2; case y2 => (intro w; go_simp; (try (rw [if_neg (by omega)])); (try with_reducible rfl)))
  (try simp only [Act.put, List.setIfInBounds_toArray, List.set_cons_zero, List.set_cons_succ])
  (refine rt_yes 2 ?v3 (by simp only [List.getElem?_toArray, List.getElem?_cons_succ, List.getElem?_cons_zero]; rfl) (by kernel_rfl) (by kernel_rfl) (by kernel_rfl) (by kernel_rfl) (by exact fun _ _ _ h => h) (by kernel_rfl) (by exact fun _ => hHeld) ?y3 ?z3; case y3 => (intro w; go_simp; (try (rw [if_neg (by omega)])); (try with_reducible rfl)))
  (try simp only [Act.put, List.setIfInBounds_toArray, List.set_cons_zero, List.set_cons_succ])
  (refine rt_yes 3 ?v4 (by simp only [List.getElem?_toArray, List.getElem?_cons_succ, List.getElem?_cons_zero]; rfl) (by kernel_rfl) (by kernel_rfl) (by kernel_rfl) (by kernel_rfl) (by exact fun _ _ _ h => h) (by kernel_rfl) (by exact fun _ => hHeld) ?y4 ?z4; case y4 => (intro w; go_simp; (try (rw [if_neg (by omega)])); (try with_reducible rfl)))
  (try simp only [Act.put, List.setIfInBounds_toArray, List.set_cons_zero, List.set_cons_succ])
  refine rt_load 4 _ (by simp only [List.getElem?_toArray, List.getElem?_cons_succ, List.getElem?_cons_zero]; rfl) (by kernel_rfl) (by kernel_rfl) (by kernel_rfl) (by kernel_rfl) (by kernel_rfl) (by kernel_rfl) (by exact fun _ _ _ h => h) (by kernel_rfl) hHeld (fun w' hS => (exec_load_one hS.1 rfl rfl rfl (fun w => by kernel_rfl))) ?_
  (try simp only [Act.put, List.setIfInBounds_toArray, List.set_cons_zero, List.set_cons_succ])
  refine rt_load 5 _ (by simp only [List.getElem?_toArray, List.getElem?_cons_succ, List.getElem?_cons_zero]; rfl) (by kernel_rfl) (by kernel_rfl) (by kernel_rfl) (by kernel_rfl) (by kernel_rfl) (by kernel_rfl) (by exact fun _ _ _ h => h) (by kernel_rfl) hHeld (fun w' hS => (exec_load_row hS.2 rfl rfl Try.underlying25 rfl (by kernel_rfl))) ?_
  (try simp only [Act.put, List.setIfInBounds_toArray, List.set_cons_zero, List.set_cons_succ])
  (refine rt_yes 6 ?v5 (by simp only [List.getElem?_toArray, List.getElem?_cons_succ, List.getElem?_cons_zero]; rfl) (by kernel_rfl) (by kernel_rfl) (by kernel_rfl) (by kernel_rfl) (by exact fun _ _ _ h => h) (by kernel_rfl) (by exact fun _ => hHeld) ?y5 ?z5; case y5 => (intro w; go_simp; (try (rw [if_neg (by omega)])); (try with_reducible rfl)))
  (try simp only [Act.put, List.setIfInBounds_toArray, List.set_cons_zero, List.set_cons_succ])
  (refine rt_yes 7 ?v6 (by simp only [List.getElem?_toArray, List.getElem?_cons_succ, List.getElem?_cons_zero]; rfl) (by kernel_rfl) (by kernel_rfl) (by kernel_rfl) (by kernel_rfl) (by exact fun _ _ _ h => h) (by kernel_rfl) (by exact fun _ => hHeld) ?y6 ?z6; case y6 => (intro w; go_simp; (try (rw [if_neg (by omega)])); (try with_reducible rfl)))
  (try simp only [Act.put, List.setIfInBounds_toArray, List.set_cons_zero, List.set_cons_succ])
  (refine rt_yes 8 ?v7 (by simp only [List.getElem?_toArray, List.getElem?_cons_succ, List.getElem?_cons_zero]; rfl) (by kernel_rfl) (by kernel_rfl) (by kernel_rfl) (by kernel_rfl) (by exact fun _ _ _ h => h) (by kernel_rfl) (by exact fun _ => hHeld) ?y7 ?z7; case y7 => (intro w; go_simp; (try (rw [if_neg (by omega)])); (try with_reducible rfl)))
  (try simp only [Act.put, List.setIfInBounds_toArray, List.set_cons_zero, List.set_cons_succ])
  refine rt_load 9 _ (by simp only [List.getElem?_toArray, List.getElem?_cons_succ, List.getElem?_cons_zero]; rfl) (by kernel_rfl) (by kernel_rfl) (by kernel_rfl) (by kernel_rfl) (by kernel_rfl) (by kernel_rfl) (by exact fun _ _ _ h => h) (by kernel_rfl) hHeld (fun w' hS => (exec_load_one hS.1 rfl rfl rfl (fun w => by kernel_rfl))) ?_
  (try simp only [Act.put, List.setIfInBounds_toArray, List.set_cons_zero, List.set_cons_succ])
  (refine rt_yes 10 ?v8 (by simp only [List.getElem?_toArray, List.getElem?_cons_succ, List.getElem?_cons_zero]; rfl) (by kernel_rfl) (by kernel_rfl) (by kernel_rfl) (by kernel_rfl) (by exact fun _ _ _ h => h) (by kernel_rfl) (by exact fun _ => hHeld) ?y8 ?z8; case y8 => (intro w; go_simp; (try (rw [if_neg (by omega)])); (try with_reducible rfl)))
  (try simp only [Act.put, List.setIfInBounds_toArray, List.set_cons_zero, List.set_cons_succ])
  refine rt_one 11 _ _ (by simp only [List.getElem?_toArray, List.getElem?_cons_succ, List.getElem?_cons_zero]; rfl) (by kernel_rfl) (by kernel_rfl) (by go_simp; first | exact ⟨rfl, rfl⟩ | rfl) (fun _ => ⟨(heap_alloc_old _ _ (lt_of_block hHeld.1)).trans hHeld.1, (heap_alloc_old _ _ (lt_of_block hHeld.2)).trans hHeld.2⟩) ?_
  (try simp only [Act.put, List.setIfInBounds_toArray, List.set_cons_zero, List.set_cons_succ])
  have hHeld1 : (w1.drew.alloc (.cells #[.int .i64 x.1, .int .i64 x.2, .int .i64 came] 68)).heap[h]? = some (.cells #[.func (.func 40) #[] #[.pointer (some ⟨c, 0, none⟩)], sl, .int .i64 came] 72 (0, 0)) ∧ (w1.drew.alloc (.cells #[.int .i64 x.1, .int .i64 x.2, .int .i64 came] 68)).heap[w.heap.size]? = some (.cells #[.int .i64 x.1, .int .i64 x.2] 25 (0, 0)) := ⟨(heap_alloc_old _ _ (lt_of_block hHeld.1)).trans hHeld.1, (heap_alloc_old _ _ (lt_of_block hHeld.2)).trans hHeld.2⟩
  have hHeld2 : w2.heap[h]? = some (.cells #[.func (.func 40) #[] #[.pointer (some ⟨c, 0, none⟩)], sl, .int .i64 came] 72 (0, 0)) ∧ w2.heap[w.heap.size]? = some (.cells #[.int .i64 x.1, .int .i64 x.2] 25 (0, 0)) := ⟨(hg2.block h (lt_of_block hHeld1.1) (fun e => (hrow h e.symm).1 rfl)).trans hHeld1.1, (hg2.block _ (lt_of_block hHeld1.2) (fun e => by have := hrow _ e.symm; omega)).trans hHeld1.2⟩
  refine rt_one 12 _ _ (by simp only [List.getElem?_toArray, List.getElem?_cons_succ, List.getElem?_cons_zero]; rfl) (by kernel_rfl) (by kernel_rfl) (exec_append rfl rfl rfl rfl hrun) (fun _ => hHeld2) ?_
  (try simp only [Act.put, List.setIfInBounds_toArray, List.set_cons_zero, List.set_cons_succ])
  replace hHeld := hHeld2
  (refine rt_yes 13 ?v9 (by simp only [List.getElem?_toArray, List.getElem?_cons_succ, List.getElem?_cons_zero]; rfl) (by kernel_rfl) (by kernel_rfl) (by kernel_rfl) (by kernel_rfl) (by exact fun _ _ _ h => h) (by kernel_rfl) (by exact fun _ => hHeld) ?y9 ?z9; case y9 => (intro w; go_simp; (try (rw [if_neg (by omega)])); (try with_reducible rfl)))
  (try simp only [Act.put, List.setIfInBounds_toArray, List.set_cons_zero, List.set_cons_succ])
  (refine rt_yes 14 ?v10 (by simp only [List.getElem?_toArray, List.getElem?_cons_succ, List.getElem?_cons_zero]; rfl) (by kernel_rfl) (by kernel_rfl) (by kernel_rfl) (by kernel_rfl) (by exact fun _ _ _ h => h) (by kernel_rfl) (by exact fun _ => hHeld) ?y10 ?z10; case y10 => (intro w; go_simp; (try (rw [if_neg (by omega)])); (try with_reducible rfl)))
  (try simp only [Act.put, List.setIfInBounds_toArray, List.set_cons_zero, List.set_cons_succ])
  have k1 : w2.cell? ⟨h, 1, none⟩ = some sl := by rw [cell_of_row _ _ _ _ _ _ hHeld2.1]; rfl
  have z1 : w2.frozen? ⟨h, 1, none⟩ = false := by simp [World.frozen?, hHeld2.1]
  refine rt_skip 15 (w2.setCell ⟨h, 1, none⟩ (.slice (some ⟨g', 0, none⟩) (es.length + 1) cap')) (by simp only [List.getElem?_toArray, List.getElem?_cons_succ, List.getElem?_cons_zero]; rfl) (by kernel_rfl) (by kernel_rfl) (by go_simp) (till_past (by kernel_rfl)) ?_
  (try simp only [Act.put, List.setIfInBounds_toArray, List.set_cons_zero, List.set_cons_succ])
  refine rt_done (by kernel_rfl) ?_ _
  have hgg : h ≠ g' := row_ne hHeld2.1 hgg'.choose_spec (by decide)
  have hr3 := setCell_row hHeld2.1 1 (.slice (some ⟨g', 0, none⟩) (es.length + 1) cap')
  have hk3 : ∀ k, k ≠ h → (w2.setCell ⟨h, 1, none⟩ (.slice (some ⟨g', 0, none⟩) (es.length + 1) cap')).heap[k]? = w2.heap[k]? := fun k hk => Below.heap_setCell _ _ _ _ hk
  have hT3 : Tch w (w2.setCell ⟨h, 1, none⟩ (.slice (some ⟨g', 0, none⟩) (es.length + 1) cap')) h r (some g') := by
    have t1 := Tch.of_below HB.out h r
    have t2 : Tch w1 (w1.drew.alloc (.cells #[.int .i64 x.1, .int .i64 x.2, .int .i64 came] 68)) h r r := Tch.of_below ((Below.refl _ _).drew.alloc (Nat.le_refl _) _) h r
    have t3 : Tch (w1.drew.alloc (.cells #[.int .i64 x.1, .int .i64 x.2, .int .i64 came] 68)) w2 h r (some g') := Tch.of_grown (by rw [← hr]; exact hg2) h (by rw [← hr]; exact hrow2)
    exact t1.trans (t2.trans (t3.trans (Tch.setCell_h h 1 _ _)))
  have hown3 := World.ownsRow_congr hown2 (w' := w2.setCell ⟨h, 1, none⟩ (.slice (some ⟨g', 0, none⟩) (es.length + 1) cap')) (fun k hk => hk3 k (by injection hk with hk; simp at hk; omega))
  generalize w2.setCell ⟨h, 1, none⟩ (.slice (some ⟨g', 0, none⟩) (es.length + 1) cap') = w3 at hr3 hk3 hT3 hown3 ⊢
  clear hHeld hHeld1 hHeld2 k1 z1 hrun hg2 hrow2 hown hown2
  have d2 : w3.cell? ⟨h, 2, none⟩ = some (.int .i64 came) := by rw [cell_of_row _ _ _ _ _ _ hr3]; rfl
  have z2 : w3.frozen? ⟨h, 2, none⟩ = false := by simp [World.frozen?, hr3]
  have d1 : w3.cell? ⟨h, 1, none⟩ = some (.slice (some ⟨g', 0, none⟩) (es.length + 1) cap') := by rw [cell_of_row _ _ _ _ _ _ hr3]; rfl
  have hT4 := hT3.trans (Tch.setCell_h (w := w3) h 2 (.int .i64 (came + 1)) (some g'))
  have hlen4 : (es ++ [(x, came)]).length = es.length + 1 := by simp
  have hL4 : Live (w3.setCell ⟨h, 2, none⟩ (.int .i64 (came + 1))) h c fall (es ++ [(x, came)]) (came + 1) (.slice (some ⟨g', 0, none⟩) (es.length + 1) cap') := by
    refine ⟨hL.1.kept fun k hk v t ht hv => hT4.block k (lt_of_block hv) (by omega) (fun e => ?_), ?_, ?_⟩
    · obtain ⟨cur, hc⟩ := hL.own (hr.trans e.symm)
      exact row_ne hv hc ht rfl
    · rw [setCell_row hr3 2 _]; rfl
    · have h5 := World.ownsRow_congr hown3 (w' := w3.setCell ⟨h, 2, none⟩ (.int .i64 (came + 1))) (fun k hk => Below.heap_setCell _ _ _ _ (by injection hk with hk; simp at hk; show k ≠ h; omega))
      rw [hlen4, flatP_append, flatP_one]
      exact h5
  have hQ : HP.Loose (aheadP fall) (es ++ [(x, came)]) es.length := (HP.HO.push hH (x, came)).loose
  have HL4 := Lib.hid hL4
  have HT4 := Lib.hid hT4
  have HLEN := Lib.hid hlen4
  clear hL4 hT4 hlen4 hk3 hT3 hown3 hr3
  go_wp2_with fail
  refine (up_any h c g' cap' (es.length + 1) fall (es ++ [(x, came)]) (came + 1) es.length _ HL4.out (by rw [HLEN.out]; omega) HLEN.out.symm (by rw [HLEN.out]; omega) hQ).mono ?_
  rintro e w5 ⟨es5, rfl, hL5, hP5, hT5, hU5⟩
  go_wp2_with fail
  go_end0
  refine ⟨es5, some g', rfl, ⟨_, rfl, hL5, ?_⟩, hP5, HT4.out.trans hT5⟩
  rcases hU5 with ⟨rfl, hU⟩ | hU
  · exact HP.rising_ho (HP.HO.push hH (x, came)) hU
  · exact hU
end Go.Proofs.Ytffioombjejchaa
