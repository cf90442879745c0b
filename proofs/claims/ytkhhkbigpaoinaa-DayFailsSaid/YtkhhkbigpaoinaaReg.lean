/- a region that draws its order, walked operation by operation under a condition on the world. -/
import Derived.Test.YtkhhkbigpaoinaaArr
import Derived.Deep.RegionHeld3
namespace Go.Proofs.Ytkhhkbigpaoinaa
set_option linter.unusedVariables false
set_option linter.unusedSimpArgs false
open Go.RowKit

section
variable {P : Program} {md : Region.Mode} {ops : Array Oper} {Q : Exit → Act → World → Prop} {S : World → Prop}
/-- an operation whose guard is false is passed by -/
theorem rg_no {oi : Oper} (i : Nat) {fuel : Nat} {listed : Array Bool} {a : Act} {w : World} (hi : ops[i]? = some oi)
    (hs : Region.noSelect ops = true) (hf : Region.free md ops listed i = true) (hr : (Region.ready md ops listed).contains i = true)
    (hQ : ∀ c a w, Q (.panic c) (a.put oi.dst undef) w → Q (.panic c) a w) (hw : Region.wanted oi (yielded ops a.tmps) = false) (hS : S w)
    (h : wpAnyH P md ops Q S fuel (listed.setIfInBounds i true) (a.put oi.dst undef) w) : wpAnyH P md ops Q S (fuel + 1) listed a w :=
  wpAnyH_take hi hs hf hr hQ (.inr ⟨hw, rfl⟩) hS h
/-- an operation that yields in whatever world -/
theorem rg_yes {oi : Oper} (i : Nat) (v : Value) {fuel : Nat} {listed : Array Bool} {a : Act} {w : World} (hi : ops[i]? = some oi)
    (hs : Region.noSelect ops = true) (hf : Region.free md ops listed i = true) (hr : (Region.ready md ops listed).contains i = true)
    (hQ : ∀ c a w, Q (.panic c) (a.put oi.dst v) w → Q (.panic c) a w) (hw : Region.wanted oi (yielded ops a.tmps) = true) (hS : S w) (hy : ∀ w, S w → (execOp a.eval oi).run P w = .ok (.value v) w)
    (h : wpAnyH P md ops Q S fuel (listed.setIfInBounds i true) (a.put oi.dst v) w) : wpAnyH P md ops Q S (fuel + 1) listed a w :=
  wpAnyH_take hi hs hf hr hQ (.inl ⟨hw, hy⟩) hS h
theorem exec_eq_int {w : World} {a : Act} {o : Oper} {x y : Operand} {k : IntKind} {i j : Int} {b : Bool} {T T2 : TypeId} (ho : o.op = .binOp .eql T x y T2) (hx : a.eval x = .int k i) (hy : a.eval y = .int k j) (h : (i == j) = b) : (execOp a.eval o).run P w = .ok (.value (.bool b)) w := by
  subst h
  unfold execOp
  simp only [ho, hx, hy]
  simp [go_sem]
theorem exec_ne_int {w : World} {a : Act} {o : Oper} {x y : Operand} {k : IntKind} {i j : Int} {b : Bool} {T T2 : TypeId} (ho : o.op = .binOp .neq T x y T2) (hx : a.eval x = .int k i) (hy : a.eval y = .int k j) (h : (i != j) = b) : (execOp a.eval o).run P w = .ok (.value (.bool b)) w := by
  subst h
  unfold execOp
  simp only [ho, hx, hy]
  simp [go_sem]
theorem exec_add_u8 {w : World} {a : Act} {o : Oper} {x y : Operand} {i j k : Int} {T T2 : TypeId} (ho : o.op = .binOp .add T x y T2) (hx : a.eval x = .int .u8 i) (hy : a.eval y = .int .u8 j) (h : IntKind.u8.wrap (i + j) = k) : (execOp a.eval o).run P w = .ok (.value (.int .u8 k)) w := by
  subst h
  unfold execOp
  simp only [ho, hx, hy]
  simp [go_sem]
/-- a call, the one operation that may come up -/
theorem rg_call {oi : Oper} (i f : Nat) (args : Array Value) {fuel : Nat} {listed : Array Bool} {a : Act} {w : World} (hi : ops[i]? = some oi)
    (hr : Region.ready md ops listed = [i]) (hw : Region.wanted oi (yielded ops a.tmps) = true) (hex : ∀ w, (execOp a.eval oi).run P w = .ok (.enter f args) w)
    (h : Calls P f args w fun e w' => ∃ v, e = .returned v ∧ S w' ∧ (S w' → wpAnyH P md ops Q S fuel (listed.setIfInBounds i true) (a.put oi.dst v) w')) : wpAnyH P md ops Q S (fuel + 1) listed a w := by
  refine wpAnyH_all hr (by simp) (fun j hj => ?_)
  obtain rfl : j = i := by simpa using hj
  unfold Go.wpOp
  simp only [hi, hw, if_true]
  left
  unfold Oper.wp
  rw [hex w]
  refine h.mono ?_
  rintro e w' ⟨v, rfl, h1, h2⟩
  exact ⟨h1, h2 h1⟩
/-- an operation that makes memory, the one that may come up -/
theorem rg_one {oi : Oper} (i : Nat) (v : Value) {fuel : Nat} {listed : Array Bool} {a : Act} {w : World} (w' : World) (hi : ops[i]? = some oi)
    (hr : Region.ready md ops listed = [i]) (hw : Region.wanted oi (yielded ops a.tmps) = true) (hex : (execOp a.eval oi).run P w = .ok (.value v) w')
    (hS : S w') (h : S w' → wpAnyH P md ops Q S fuel (listed.setIfInBounds i true) (a.put oi.dst v) w') : wpAnyH P md ops Q S (fuel + 1) listed a w := by
  refine wpAnyH_all hr (by simp) (fun j hj => ?_)
  obtain rfl : j = i := by simpa using hj
  unfold Go.wpOp
  simp only [hi, hw, if_true]
  left
  unfold Oper.wp
  rw [hex]
  exact ⟨hS, h hS⟩
/-- in a region that does not draw: an operation that is carried out and yields -/
theorem wpList_val {o : Oper} {rest : List Oper} {a : Act} {w w' : World} (v : Value) (hw : Region.wanted o (yielded ops a.tmps) = true) (hex : (execOp a.eval o).run P w = .ok (.value v) w')
    (h : wpList P ops Q rest (a.put o.dst v) w') : wpList P ops Q (o :: rest) a w :=
  wpList_step fun K hK => by
    rw [if_pos hw]
    unfold Oper.wp
    rw [hex]
    exact hK _ _ h
end
end Go.Proofs.Ytkhhkbigpaoinaa
