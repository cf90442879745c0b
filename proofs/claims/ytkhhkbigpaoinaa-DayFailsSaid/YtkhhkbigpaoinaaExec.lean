/- operations carried out, one by one; regions that read and then do one thing. -/
import Derived.Test.YtkhhkbigpaoinaaRegK
import Derived.BigQuiet
import Derived.BigRegion
import Derived.Deep.DeepCutAuto
import Derived.StillTailTactics
import Derived.IntWalk
namespace Go.Proofs.Ytkhhkbigpaoinaa
set_option linter.unusedVariables false
set_option linter.unusedSimpArgs false
open Go.RowKit

section
variable {ops : Array Oper} {Q : Exit → Act → World → Prop}
theorem still_yes {P : Program} {o : Oper} {rest : List Oper} {a : Act} {w : World} {Q : Act → Prop} (v : Value) (hw : Region.wanted o (yielded ops a.tmps) = true) (hy : (execOp a.eval o).run P w = .ok (.value v) w)
    (h : wpStill P ops w Q rest (a.put o.dst v)) : wpStill P ops w Q (o :: rest) a := by
  refine wpStill_step (fun K hK => ?_)
  rw [if_pos hw]
  unfold Oper.still
  rw [hy]
  exact ⟨rfl, hK _ h⟩
theorem still_no {P : Program} {o : Oper} {rest : List Oper} {a : Act} {w : World} {Q : Act → Prop} (hw : Region.wanted o (yielded ops a.tmps) = false)
    (h : wpStill P ops w Q rest (a.put o.dst undef)) : wpStill P ops w Q (o :: rest) a := by
  refine wpStill_step (fun K hK => ?_)
  rw [if_neg (by rw [hw]; exact Bool.false_ne_true)]
  exact hK _ h
end
theorem exec_lss_int {P : Program} {w : World} {a : Act} {o : Oper} {x y : Operand} {k : IntKind} {i j : Int} {b : Bool} {T T2 : TypeId} (ho : o.op = .binOp .lss T x y T2) (hx : a.eval x = .int k i) (hy : a.eval y = .int k j) (h : decide (i < j) = b) : (execOp a.eval o).run P w = .ok (.value (.bool b)) w := by
  subst h
  unfold execOp
  simp only [ho, hx, hy]
  simp [go_sem]
theorem exec_load_one {P : Program} {w : World} {a : Act} {o : Oper} {x : Operand} {b off : Nat} {v : Value} {T t : TypeId} {cs : Array Value} {fr : Nat × Nat} (hg : w.heap[b]? = some (.cells cs t fr)) (hv : cs[off]? = some v) (ho : o.op = .load T x) (hx : a.eval x = .pointer (some ⟨b, off, none⟩)) (hT : ∀ w, (isAgg T).run P w = .ok false w) : (execOp a.eval o).run P w = .ok (.value v) w := by
  have hc : w.cell? ⟨b, off, none⟩ = some v := by rw [cell_of_row _ _ _ _ _ _ hg]; exact hv
  unfold execOp
  simp only [ho, hx]
  simp [go_sem, hc, hT]
theorem exec_append {P : Program} {w w' : World} {a : Act} {o : Oper} {s x : Operand} {t ty : TypeId} {v u v' : Value} (ho : o.op = .call { callee := .builtin .append, args := #[s, x], argTypes := #[t, t] }) (hs : a.eval s = v) (hx : a.eval x = u) (hty : o.type = ty) (hr : (Builtin.append_ #[t, t] ty #[v, u]).run P w = .ok v' w') : (execOp a.eval o).run P w = .ok (.value v') w' := by
  subst hty
  unfold execOp
  simp only [ho, resolve, invoke, builtin, Sem.run_bind, Sem.run_pure, Result.andThen_ok, List.map_toArray, List.map_cons, List.map_nil, hs, hx, hr]
theorem exec_load_mid {P : Program} {w : World} {a : Act} {o : Oper} {x : Operand} {b off : Nat} {cs : List Value} {T : TypeId} {d : TypeDesc} (hc : w.rangeAt b off cs) (ho : o.op = .load T x) (hx : a.eval x = .pointer (some ⟨b, off, none⟩)) (hu : P.underlying T = some d) (hd : d.isRow = true) (hi : (P.info? T).map (·.size) = some cs.length) : (execOp a.eval o).run P w = .ok (.value (.agg cs.toArray)) w := by
  unfold execOp
  simp only [ho, hx, Instr.loadAt, Instr.sureAddr, Sem.run_bind, Sem.run_pure, Result.andThen_ok, run_loadVar_mid w b off T cs d hc hu hd hi]
theorem rangeAt_of_row {w : World} {b : Nat} {cs : Array Value} {t : TypeId} {fr : Nat × Nat} (h : w.heap[b]? = some (.cells cs t fr)) (off : Nat) (l : List Value) (hl : ∀ j v, l[j]? = some v → cs[off + j]? = some v) : w.rangeAt b off l := fun j v hv => by
  rw [cell_of_row _ _ _ _ _ _ h]; exact hl j v hv
theorem exec_append2 {P : Program} {w w' : World} {a : Act} {o : Oper} {s x : Operand} {t ty : TypeId} {v u v' : Value} (ho : o.op = .call { callee := .builtin .append, args := #[s, x], argTypes := #[t, t] }) (hs : a.eval s = v) (hx : a.eval x = u) (hty : o.type = ty) (hr : (Builtin.append_ #[t, t] ty #[v, u]).run P w = .ok v' w') : (execOp a.eval o).run P w = .ok (.value v') w' := exec_append ho hs hx hty hr
section
variable {P : Program} {md : Region.Mode} {ops : Array Oper} {Q : Exit → Act → World → Prop} {S : World → Prop} {k : Nat}
/-- a call under a condition that holds till operation k has come up -/
theorem rt_call {oi : Oper} (i f : Nat) (args : Array Value) {fuel : Nat} {listed : Array Bool} {a : Act} {w : World} (hi : ops[i]? = some oi)
    (hr : Region.ready md ops listed = [i]) (hw : Region.wanted oi (yielded ops a.tmps) = true) (hex : ∀ w, (execOp a.eval oi).run P w = .ok (.enter f args) w)
    (h : Calls P f args w fun e w' => ∃ v, e = .returned v ∧ TillK S k (listed.setIfInBounds i true) w' ∧ wpTill P md ops Q S k fuel (listed.setIfInBounds i true) (a.put oi.dst v) w') : wpTill P md ops Q S k (fuel + 1) listed a w := by
  refine rt_wp i hi hr hw ?_
  unfold Oper.wp
  rw [hex w]
  refine h.mono ?_
  rintro e w' ⟨v, rfl, h1, h2⟩
  exact ⟨h1, h2⟩
end
theorem exec_load_at {P : Program} {w : World} {a : Act} {o : Oper} {x : Operand} {b off : Nat} {v : Value} {T : TypeId} (hc : w.cell? ⟨b, off, none⟩ = some v) (ho : o.op = .load T x) (hx : a.eval x = .pointer (some ⟨b, off, none⟩)) (hT : ∀ w, (isAgg T).run P w = .ok false w) : (execOp a.eval o).run P w = .ok (.value v) w := by
  unfold execOp
  simp only [ho, hx]
  simp [go_sem, hc, hT]
theorem all_one {l : List Value} (h : l.all (·.oneCell') = true) : ∀ u ∈ l, u.oneCell' = true := List.all_eq_true.1 h
theorem cell_kept {w w' : World} {b j : Nat} (h : w'.heap[b]? = w.heap[b]?) : w'.cell? ⟨b, j, none⟩ = w.cell? ⟨b, j, none⟩ := by simp only [World.cell?, h]
end Go.Proofs.Ytkhhkbigpaoinaa
