/- arrays and structs in blocks of their own: a whole store, a whole load, equality with oneself. -/
import Derived.Test.YtkhhkbigpaoinaaBase
import Derived.ChangeKeysEq
import Derived.Deep.MidRow
namespace Go.Proofs.Ytkhhkbigpaoinaa
set_option linter.unusedVariables false
set_option linter.unusedSimpArgs false
open Go.RowKit

theorem eqItems_refl {P : Program} (w : World) (d : Nat) {e : TypeId} (he : P.plainKey e = true) (hc : P.cellsOf e = 1) (xs : Array Value) : ∀ (is : List Nat),
    (∀ i, i ∈ is → ∃ v, xs[i]? = some v ∧ ∀ w, (Op.equalIn d e v v).run P w = .ok true w) → (Op.eqItems d e (P.cellsOf e) xs xs is).run P w = .ok true w
  | [], h => by simp [Op.eqItems]
  | i :: is, h => by
    obtain ⟨v, hv, hq⟩ := h i (by simp)
    have ih := eqItems_refl w d he hc xs is (fun j hj => h j (by simp [hj]))
    have e1 := run_part_plain (P := P) w he (off := i * P.cellsOf e) (v := v) (by rw [hc, Nat.mul_one]; exact hv)
    simp only [Op.eqItems, Sem.run_bind, e1, hq, Result.andThen_ok, Bool.not_true, Bool.false_eq_true, if_false, ih]
theorem eqArr_refl {P : Program} (d : Nat) {t e : TypeId} {n : Nat} {i : TypeInfo} (xs : Array Value) (hu : P.underlying t = some (.array n e)) (hi : P.info? e = some i) (he : P.plainKey e = true) (hc : P.cellsOf e = 1)
    (h : ∀ i, i < n → ∃ v, xs[i]? = some v ∧ ∀ w, (Op.equalIn d e v v).run P w = .ok true w) (w : World) : (Op.equalIn (d + 1) t (.agg xs) (.agg xs)).run P w = .ok true w := by
  rw [run_equalIn_array w d xs xs hu hi]
  exact eqItems_refl w d he hc xs _ (fun i hi => h i (List.mem_range.1 hi))

theorem load_of_row {w : World} {g : Nat} {cs : Array Value} {t : TypeId} {fr : Nat × Nat} {T : TypeId} {d : TypeDesc} (h : w.heap[g]? = some (.cells cs t fr)) (hu : Try.prog.underlying T = some d) (hd : d.isRow = true) (hi : (Try.prog.info? T).map (·.size) = some cs.size) :
    (Instr.loadAt T (.pointer (some ⟨g, 0, none⟩))).run Try.prog w = .ok (.agg cs) w := by
  have := run_loadAt_mid (P := Try.prog) w g 0 T cs.toList d (fun j v hv => by
    rw [Nat.zero_add, cell_of_row _ _ _ _ _ _ h]
    simpa using hv) hu hd (by simpa using hi)
  simpa using this
theorem loadVar_of_row {w : World} {g : Nat} {cs : Array Value} {t : TypeId} {fr : Nat × Nat} {T : TypeId} {d : TypeDesc} (h : w.heap[g]? = some (.cells cs t fr)) (hu : Try.prog.underlying T = some d) (hd : d.isRow = true) (hi : (Try.prog.info? T).map (·.size) = some cs.size) :
    (loadVar T ⟨g, 0, none⟩).run Try.prog w = .ok (.agg cs) w := by
  have := run_loadVar_mid (P := Try.prog) w g 0 T cs.toList d (fun j v hv => by
    rw [Nat.zero_add, cell_of_row _ _ _ _ _ _ h]
    simpa using hv) hu hd (by simpa using hi)
  simpa using this
theorem exec_load_row {w : World} {a : Act} {o : Oper} {x : Operand} {g : Nat} {cs : Array Value} {t : TypeId} {fr : Nat × Nat} {T : TypeId} {d : TypeDesc} (h : w.heap[g]? = some (.cells cs t fr)) (ho : o.op = .load T x) (hx : a.eval x = .pointer (some ⟨g, 0, none⟩)) (hu : Try.prog.underlying T = some d) (hd : d.isRow = true) (hi : (Try.prog.info? T).map (·.size) = some cs.size) :
    (execOp a.eval o).run Try.prog w = .ok (.value (.agg cs)) w := by
  unfold execOp
  simp only [ho, hx, Instr.loadAt, Instr.sureAddr, Sem.run_bind, Sem.run_pure, Result.andThen_ok, loadVar_of_row h hu hd hi]
theorem exec_neq_same {w : World} {a : Act} {o : Oper} {x y : Operand} {cs : Array Value} {T T2 : TypeId} (ho : o.op = .binOp .neq T x y T2) (hx : a.eval x = .agg cs) (hy : a.eval y = .agg cs) (hg : Try.prog.eqGuardType Try.prog.depth T = false)
    (he : ∀ w, (Op.equalIn 10000 T (.agg cs) (.agg cs)).run Try.prog w = .ok true w) : (execOp a.eval o).run Try.prog w = .ok (.value (.bool false)) w := by
  unfold execOp
  simp [ho, hx, hy, Sem.run_bind, Sem.run_pure, Result.andThen_ok, run_eqGuard_agg, hg, run_neq_struct, he]
theorem exec_neq_val {w : World} {a : Act} {o : Oper} {x y : Operand} {cs ds : Array Value} {T T2 : TypeId} {r b : Bool} (ho : o.op = .binOp .neq T x y T2) (hx : a.eval x = .agg cs) (hy : a.eval y = .agg ds) (hg : Try.prog.eqGuardType Try.prog.depth T = false)
    (he : ∀ w, (Op.equalIn 10000 T (.agg cs) (.agg ds)).run Try.prog w = .ok r w) (hb : (!r) = b) : (execOp a.eval o).run Try.prog w = .ok (.value (.bool b)) w := by
  subst hb
  unfold execOp
  simp [ho, hx, hy, Sem.run_bind, Sem.run_pure, Result.andThen_ok, run_eqGuard_agg, hg, run_neq_struct, he]
theorem rowAt_below {w w' : World} {g : Nat} {cs : Array Value} {t : TypeId} {fr : Nat × Nat} (h : w.heap[g]? = some (.cells cs t fr)) (hb : Below w.heap.size w w') : w'.heap[g]? = some (.cells cs t fr) := blk_below hb h (lt_of_block h)

/-- a whole store; the world behind it by what is known of it alone -/
theorem wpList_store_any {ops : Array Oper} {rest : List Oper} {o : Oper} {a : Act} {w : World} {Q : Exit → Act → World → Prop} (hgd : o.guard = none) (ty : TypeId) (x y : Operand) (ho : o.op = .store ty x y)
    (g : Nat) (cells : Array Value) (hx : a.eval x = .pointer (some ⟨g, 0, none⟩)) (hy : a.eval y = .agg cells)
    (t : TypeId) (old : Array Value) (hg : w.heap[g]? = some (.cells old t (0, 0))) (hi : (Try.prog.info? ty).map (·.size) = some cells.size)
    (hold : old.size = cells.size) (h1 : cells.all (·.oneCell') = true)
    (h : ∀ w3, w3.heap[g]? = some (.cells cells t (0, 0)) → w3.heap.size = w.heap.size → (∀ B W, Below B W w → B ≤ g → Below B W w3) → (∀ k, k ≠ g → w3.heap[k]? = w.heap[k]?) → wpList Try.prog ops Q rest (a.put o.dst undef) w3) : wpList Try.prog ops Q (o :: rest) a w :=
  wpList_store_row hgd ty x y ho g cells hx hy t old hg hi hold h1 (h _ (setRow_heap _ _ _ _ _ _ hg) (by simp) (fun B W hb hle => below_setRow hb hle _) (fun k hk => setRow_other w g k cells hk))
end Go.Proofs.Ytkhhkbigpaoinaa
