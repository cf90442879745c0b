/- prio: Pick and the function that PrioHeaps asks, by contract. -/
import Derived.Test.YtffioombjejchaaHeapsA
namespace Go.Proofs.Ytffioombjejchaa
set_option linter.unusedVariables false
set_option linter.unusedSimpArgs false
open Go.RowKit
attribute [local irreducible] Go.wpStill

section
variable {P : Program} {md : Region.Mode} {ops : Array Oper} {Q : Exit → Act → World → Prop} {S : World → Prop} {k : Nat}
/-- two operations may come up -/
theorem rt_both {oi oj : Oper} (i j : Nat) {fuel : Nat} {listed : Array Bool} {a : Act} {w : World} (hi : ops[i]? = some oi) (hj : ops[j]? = some oj)
    (hr : Region.ready md ops listed = [i, j]) (hwi : Region.wanted oi (yielded ops a.tmps) = true) (hwj : Region.wanted oj (yielded ops a.tmps) = true)
    (h1 : Oper.wp P oi a w (fun a' w' => TillK S k (listed.setIfInBounds i true) w' ∧ wpTill P md ops Q S k fuel (listed.setIfInBounds i true) a' w') Q)
    (h2 : Oper.wp P oj a w (fun a' w' => TillK S k (listed.setIfInBounds j true) w' ∧ wpTill P md ops Q S k fuel (listed.setIfInBounds j true) a' w') Q) : wpTill P md ops Q S k (fuel + 1) listed a w := by
  refine ⟨fun h0 => (by rw [hr] at h0; cases h0), fun x hx => ?_⟩
  rw [hr] at hx
  simp only [List.mem_cons, List.not_mem_nil, or_false] at hx
  unfold Go.wpOp
  rcases hx with rfl | rfl
  · simp only [hi, hwi, if_true]; exact .inl h1
  · simp only [hj, hwj, if_true]; exact .inl h2
theorem op_call {oi : Oper} {Q' : Act → World → Prop} (f : Nat) (args : Array Value) {a : Act} {w : World} (hex : ∀ w, (execOp a.eval oi).run P w = .ok (.enter f args) w)
    (h : Calls P f args w fun e w' => ∃ v, e = .returned v ∧ Q' (a.put oi.dst v) w') : Oper.wp P oi a w Q' Q := by
  unfold Oper.wp
  rw [hex w]
  refine h.mono ?_
  rintro e w' ⟨v, rfl, h1⟩
  exact h1
theorem op_one {oi : Oper} {Q' : Act → World → Prop} (v : Value) {a : Act} {w : World} (w' : World) (hex : (execOp a.eval oi).run P w = .ok (.value v) w') (h : Q' (a.put oi.dst v) w') : Oper.wp P oi a w Q' Q := by
  unfold Oper.wp
  rw [hex]
  exact h
end
set_option maxRecDepth 100000 in
theorem pick_any (a : Int) (w : World) : Calls Try.prog 11 #[.int .i64 a, .int .i64 2] w fun e w' => (∃ n : Nat, n < 2 ∧ e = .returned (.int .i64 n)) ∧ Below w.heap.size w w' := by
  have h3 : a.tmod 2 = -1 ∨ a.tmod 2 = 0 ∨ a.tmod 2 = 1 := by
    have h1 := Int.tmod_lt_of_pos a (show (0 : Int) < 2 by decide)
    have h2 := Int.lt_tmod_of_pos a (show (0 : Int) < 2 by decide)
    omega
  rcases h3 with h | h | h
  all_goals
    go_enter Try.func11, Try.ntmps11
    go_wp2_with fail
    go_ret
  · exact ⟨⟨1, by omega, rfl⟩, Below.refl _ _⟩
  · exact ⟨⟨0, by omega, rfl⟩, Below.refl _ _⟩
  · exact ⟨⟨1, by omega, rfl⟩, Below.refl _ _⟩
set_option maxRecDepth 100000 in
theorem ph1_any (b : Nat) (z : Int) (x : Pair) (w : World) (hS : w.heap[b]? = some (.cells #[.int .i64 z] 3 (0, 0))) :
    Calls Try.prog 19 #[.agg #[.int .i64 x.1, .int .i64 x.2], .pointer (some ⟨b, 0, none⟩)] w (RetB (askR false z x) w) := by
  have c1 : w.cell? ⟨b, 0, none⟩ = some (.int .i64 z) := by rw [cell_of_row _ _ _ _ _ _ hS]; rfl
  have l1 := lt_of_block hS
  clear hS
  go_enter Try.func19, Try.ntmps19
  go_wp2_with fail
  go_ret
  refine ⟨?_, (Below.refl _ _).alloc (Nat.le_refl _) _⟩
  unfold askR
  rw [Bool.false_or]
  congr 2
theorem asks_ph (b : Nat) (z : Int) (w : World) (hS : w.heap[b]? = some (.cells #[.int .i64 z] 3 (0, 0))) :
    Asks (.func (.func 19) #[] #[.pointer (some ⟨b, 0, none⟩)]) (askR false z) w :=
  ⟨_, _, rfl, fun args w => by go_simp, fun w' x hb => ph1_any b z x w' (rowAt_below hS hb)⟩
/-- what stands at the beginning of a round: the two tables, and the heaps and rows -/
def Tabs (w : World) (bH bR : Nat) (H Q : Nat → Nat) : Prop :=
  w.heap[bH]? = some (.cells #[.pointer (some ⟨H 0, 0, none⟩), .pointer (some ⟨H 1, 0, none⟩)] 27 (0, 0)) ∧ w.heap[bR]? = some (.cells #[.pointer (some ⟨Q 0, 0, none⟩), .pointer (some ⟨Q 1, 0, none⟩)] 32 (0, 0))
theorem Tabs.below {w w' : World} {bH bR : Nat} {H Q : Nat → Nat} (a : Tabs w bH bR H Q) (hb : Below w.heap.size w w') : Tabs w' bH bR H Q := ⟨rowAt_below a.1 hb, rowAt_below a.2 hb⟩
theorem Tabs.heap {w w' : World} {bH bR h c n : Nat} {fall : Bool} {ps : List Pair} {r r' : Option Nat} {H Q : Nat → Nat} (a : Tabs w bH bR H Q) (hA : HeapP w h c fall ps n r) (T : Tch w w' h r r') : Tabs w' bH bR H Q := ⟨hA.other T a.1 (by decide) (by decide), hA.other T a.2 (by decide) (by decide)⟩
theorem Tabs.row {w w' : World} {bH bR h : Nat} {fall : Bool} {ps : List Pair} {g g' : Option Nat} {H Q : Nat → Nat} (a : Tabs w bH bR H Q) (hA : RowR w h fall ps g) (T : Tch w w' h g g') : Tabs w' bH bR H Q := ⟨hA.other T a.1 (by decide) (by decide), hA.other T a.2 (by decide) (by decide)⟩
theorem Tabs.grown {w w' : World} {bH bR : Nat} {H Q : Nat → Nat} {row : Option Nat} (a : Tabs w bH bR H Q) (hg : w.grownBy w' row) (hr : ∀ q, row = some q → ∃ cs t, w.heap[q]? = some (.cells cs t (0, 0)) ∧ t ≠ 27 ∧ t ≠ 32) : Tabs w' bH bR H Q := by
  refine ⟨(hg.block bH (lt_of_block a.1) (fun e => ?_)).trans a.1, (hg.block bR (lt_of_block a.2) (fun e => ?_)).trans a.2⟩
  · obtain ⟨cs, t, h1, h2, _⟩ := hr bH e.symm
    rw [a.1] at h1
    injection h1 with h1
    injection h1 with _ h1
    exact h2 h1.symm
  · obtain ⟨cs, t, h1, _, h2⟩ := hr bR e.symm
    rw [a.2] at h1
    injection h1 with h1
    injection h1 with _ h1
    exact h2 h1.symm
theorem Tabs.stored {w w' : World} {bH bR b : Nat} {H Q : Nat → Nat} (a : Tabs w bH bR H Q) {cs0 : Array Value} (hb0 : w.heap[b]? = some (.cells cs0 25 (0, 0))) (hg : w.grownBy w' (some b)) : Tabs w' bH bR H Q :=
  a.grown hg fun q hq => ⟨cs0, 25, by injection hq with hq; subst hq; exact hb0, by decide, by decide⟩
theorem RowR.pairOther {w w' : World} {h k : Nat} {fall : Bool} {ps : List Pair} {g g' : Option Nat} (a : RowR w h fall ps g) (T : Tch w w' h g g') {cs : Array Value} (hk : w.heap[k]? = some (.cells cs 25 (0, 0))) (hg : g = some k → False) : w'.heap[k]? = some (.cells cs 25 (0, 0)) := by
  refine (T.block k (lt_of_block hk) (fun e => ?_) (fun e => hg e.symm)).trans hk
  obtain ⟨sl, _, hh, _⟩ := a
  subst e
  rw [hh] at hk
  injection hk with hk
  injection hk with _ hk
  exact absurd hk (by decide)
theorem upd_le {m : Nat → Nat} {k n m' : Nat} (h : ∀ n, n < 2 → m n ≤ k) (h' : m' ≤ k + 1) : ∀ j, j < 2 → upd m n m' j ≤ k + 1 := fun j hj => by
  by_cases e : j = n
  · subst e; rw [upd_same]; exact h'
  · rw [upd_other _ _ e]; have := h j hj; omega
theorem Tabs.cellH {w : World} {bH bR : Nat} {H Q : Nat → Nat} (a : Tabs w bH bR H Q) {n : Nat} (hn : n < 2) : w.cell? ⟨bH, n, none⟩ = some (.pointer (some ⟨H n, 0, none⟩)) := by
  rw [cell_of_row _ _ _ _ _ _ a.1]
  rcases n with _ | _ | n
  · rfl
  · rfl
  · omega
theorem Tabs.cellR {w : World} {bH bR : Nat} {H Q : Nat → Nat} (a : Tabs w bH bR H Q) {n : Nat} (hn : n < 2) : w.cell? ⟨bR, n, none⟩ = some (.pointer (some ⟨Q n, 0, none⟩)) := by
  rw [cell_of_row _ _ _ _ _ _ a.2]
  rcases n with _ | _ | n
  · rfl
  · rfl
  · omega
theorem peekH {w w' : World} {ps : List Pair} {fall : Bool} {e : Ending} (h : e = .returned (match PP.first fall PP.all ps with | none => .tuple #[zeroP, .bool false] | some b => .tuple #[pairV (ps.getD b default), .bool true]) ∧ Below w.heap.size w w') :
    e = .returned (.tuple #[pairV (peekF fall ps).1, .bool (peekF fall ps).2]) ∧ Below w.heap.size w w' := by
  refine ⟨h.1.trans ?_, h.2⟩
  unfold peekF
  cases PP.first fall PP.all ps <;> rfl
end Go.Proofs.Ytffioombjejchaa
