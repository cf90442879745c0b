/- texts of this claim, laid together: Base, Arr, Reg, RegK, Exec, RegL. -/
import Derived.Test.YtmepjcnpbjdlkaaGreatDoorProg
import Derived.WalkKit
import Derived.WalkSpells
import Derived.WalkLawsBesides
import Derived.Lib.Hide
import Derived.ChangeKeysEq
import Derived.Deep.MidRow
import Derived.Deep.RegionHeld3
import Derived.BigQuiet
import Derived.BigRegion
import Derived.Deep.DeepCutAuto
import Derived.StillTailTactics
import Derived.IntWalk
/- Plain words that this seat's walks share: no claim of its own. -/
namespace Go.Proofs.YtmepjcnpbjdlkaaGreatDoor
set_option linter.unusedVariables false
set_option linter.unusedSimpArgs false
open Go.RowKit

theorem below_setRow {B : Nat} {a w : World} (h : Below B a w) {g : Nat} (hg : B ≤ g) (cs : Array Value) : Below B a (w.setRow g cs) :=
  h.trans ⟨rfl, rfl, rfl, by simp, fun k hk => setRow_other w g k cs (by omega)⟩
theorem blk_below {B : Nat} {w w' : World} (h : Below B w w') {g : Nat} {o : Obj} (hg : w.heap[g]? = some o) (hB : g < B) : w'.heap[g]? = some o := by rw [h.block g hB]; exact hg
theorem bcell {W w1 : World} (hb : Below W.heap.size W w1) : (∀ b o, b < W.heap.size → w1.cell? ⟨b, o, none⟩ = W.cell? ⟨b, o, none⟩) ∧ (∀ b o, b < W.heap.size → w1.frozen? ⟨b, o, none⟩ = W.frozen? ⟨b, o, none⟩) :=
  ⟨fun b o h => hb.cell (p := ⟨b, o, none⟩) h, fun b o h => hb.frozen (p := ⟨b, o, none⟩) h⟩
theorem byte_at (s : ByteArray) (k : Nat) (h : k < s.size) : s.data.toList.getD k 0 = s[k] := by
  have e : s[k] = s.data[k] := rfl
  have h' : k < s.data.toList.length := by simpa using h
  rw [e, List.getD_eq_getElem?_getD, List.getElem?_eq_getElem h']
  simp
theorem len_str (s : ByteArray) : s.data.toList.length = s.size := by simp

theorem results_cell_row_tmp {P : Program} {fn : Func} {p u : Tmp} {ty : TypeId} (h : fn.results = #[.cell p ty, .tmp u]) (tmps : Array Value) (w : World) (g : Nat) (t : TypeId) (cs : Array Value) (fr : Nat × Nat) (d : TypeDesc)
    (hp : tmps.getD p undef = .pointer (some ⟨g, 0, none⟩)) (hg : w.heap[g]? = some (.cells cs t fr))
    (hu : P.underlying ty = some d) (hd : (match d with | .struct _ | .array _ _ => true | _ => false) = true) (hi : (P.info? ty).map (·.size) = some cs.size) :
    (results fn tmps).run P w = .ok (.tuple #[.agg cs, tmps.getD u undef]) w := by
  rw [results_cell_tmp h, hp]
  simp [asAddr, run_loadVar_row w g t ty cs fr d hg hu hd hi, Result.andThen]

end Go.Proofs.YtmepjcnpbjdlkaaGreatDoor
/- arrays and structs in blocks of their own: a whole store, a whole load, equality with oneself. -/
namespace Go.Proofs.YtmepjcnpbjdlkaaGreatDoor
set_option linter.unusedVariables false
set_option linter.unusedSimpArgs false
open Go.RowKit

theorem loadVar_of_row {w : World} {g : Nat} {cs : Array Value} {t : TypeId} {fr : Nat × Nat} {T : TypeId} {d : TypeDesc} (h : w.heap[g]? = some (.cells cs t fr)) (hu : Tryz.prog.underlying T = some d) (hd : d.isRow = true) (hi : (Tryz.prog.info? T).map (·.size) = some cs.size) :
    (loadVar T ⟨g, 0, none⟩).run Tryz.prog w = .ok (.agg cs) w := by
  have := run_loadVar_mid (P := Tryz.prog) w g 0 T cs.toList d (fun j v hv => by
    rw [Nat.zero_add, cell_of_row _ _ _ _ _ _ h]
    simpa using hv) hu hd (by simpa using hi)
  simpa using this
theorem exec_load_row {w : World} {a : Act} {o : Oper} {x : Operand} {g : Nat} {cs : Array Value} {t : TypeId} {fr : Nat × Nat} {T : TypeId} {d : TypeDesc} (h : w.heap[g]? = some (.cells cs t fr)) (ho : o.op = .load T x) (hx : a.eval x = .pointer (some ⟨g, 0, none⟩)) (hu : Tryz.prog.underlying T = some d) (hd : d.isRow = true) (hi : (Tryz.prog.info? T).map (·.size) = some cs.size) :
    (execOp a.eval o).run Tryz.prog w = .ok (.value (.agg cs)) w := by
  unfold execOp
  simp only [ho, hx, Instr.loadAt, Instr.sureAddr, Sem.run_bind, Sem.run_pure, Result.andThen_ok, loadVar_of_row h hu hd hi]
theorem exec_neq_val {w : World} {a : Act} {o : Oper} {x y : Operand} {cs ds : Array Value} {T T2 : TypeId} {r b : Bool} (ho : o.op = .binOp .neq T x y T2) (hx : a.eval x = .agg cs) (hy : a.eval y = .agg ds) (hg : Tryz.prog.eqGuardType Tryz.prog.depth T = false)
    (he : ∀ w, (Op.equalIn 10000 T (.agg cs) (.agg ds)).run Tryz.prog w = .ok r w) (hb : (!r) = b) : (execOp a.eval o).run Tryz.prog w = .ok (.value (.bool b)) w := by
  subst hb
  unfold execOp
  simp [ho, hx, hy, Sem.run_bind, Sem.run_pure, Result.andThen_ok, run_eqGuard_agg, hg, run_neq_struct, he]
theorem rowAt_below {w w' : World} {g : Nat} {cs : Array Value} {t : TypeId} {fr : Nat × Nat} (h : w.heap[g]? = some (.cells cs t fr)) (hb : Below w.heap.size w w') : w'.heap[g]? = some (.cells cs t fr) := blk_below hb h (lt_of_block h)

/-- a whole store; the world behind it by what is known of it alone -/
theorem wpList_store_any {ops : Array Oper} {rest : List Oper} {o : Oper} {a : Act} {w : World} {Q : Exit → Act → World → Prop} (hgd : o.guard = none) (ty : TypeId) (x y : Operand) (ho : o.op = .store ty x y)
    (g : Nat) (cells : Array Value) (hx : a.eval x = .pointer (some ⟨g, 0, none⟩)) (hy : a.eval y = .agg cells)
    (t : TypeId) (old : Array Value) (hg : w.heap[g]? = some (.cells old t (0, 0))) (hi : (Tryz.prog.info? ty).map (·.size) = some cells.size)
    (hold : old.size = cells.size) (h1 : cells.all (·.oneCell') = true)
    (h : ∀ w3, w3.heap[g]? = some (.cells cells t (0, 0)) → w3.heap.size = w.heap.size → (∀ B W, Below B W w → B ≤ g → Below B W w3) → (∀ k, k ≠ g → w3.heap[k]? = w.heap[k]?) → wpList Tryz.prog ops Q rest (a.put o.dst undef) w3) : wpList Tryz.prog ops Q (o :: rest) a w :=
  wpList_store_row hgd ty x y ho g cells hx hy t old hg hi hold h1 (h _ (setRow_heap _ _ _ _ _ _ hg) (by simp) (fun B W hb hle => below_setRow hb hle _) (fun k hk => setRow_other w g k cells hk))
end Go.Proofs.YtmepjcnpbjdlkaaGreatDoor
/- a region that draws its order, walked operation by operation under a condition on the world. -/
namespace Go.Proofs.YtmepjcnpbjdlkaaGreatDoor
set_option linter.unusedVariables false
set_option linter.unusedSimpArgs false
open Go.RowKit

section
variable {P : Program} {md : Region.Mode} {ops : Array Oper} {Q : Exit → Act → World → Prop} {S : World → Prop}
/-- an operation that yields in whatever world -/
theorem rg_yes {oi : Oper} (i : Nat) (v : Value) {fuel : Nat} {listed : Array Bool} {a : Act} {w : World} (hi : ops[i]? = some oi)
    (hs : Region.noSelect ops = true) (hf : Region.free md ops listed i = true) (hr : (Region.ready md ops listed).contains i = true)
    (hQ : ∀ c a w, Q (.panic c) (a.put oi.dst v) w → Q (.panic c) a w) (hw : Region.wanted oi (yielded ops a.tmps) = true) (hS : S w) (hy : ∀ w, S w → (execOp a.eval oi).run P w = .ok (.value v) w)
    (h : wpAnyH P md ops Q S fuel (listed.setIfInBounds i true) (a.put oi.dst v) w) : wpAnyH P md ops Q S (fuel + 1) listed a w :=
  wpAnyH_take hi hs hf hr hQ (.inl ⟨hw, hy⟩) hS h
/-- a call, the one operation that may come up -/
theorem rg_call {oi : Oper} (i f : Nat) (args : Array Value) {fuel : Nat} {listed : Array Bool} {a : Act} {w : World} (hi : ops[i]? = some oi)
    (hr : Region.ready md ops listed = [i]) (hw : Region.wanted oi (yielded ops a.tmps) = true) (hex : ∀ w, (execOp a.eval oi).run P w = .ok (.enter f args) w)
    (h : Calls P f args w fun e w' => ∃ v, e = .returned v ∧ S w' ∧ (S w' → wpAnyH P md ops Q S fuel (listed.setIfInBounds i true) (a.put oi.dst v) w')) : wpAnyH P md ops Q S (fuel + 1) listed a w := by
  refine wpAnyH_all hr (by simp) (fun j hj => ?_)
  obtain rfl : j = i := by simpa using hj
  unfold Go.wpOp
  simp only [hi, hw, if_true]
  left
  unfold Oper.wp
  rw [hex w]
  refine h.mono ?_
  rintro e w' ⟨v, rfl, h1, h2⟩
  exact ⟨h1, h2 h1⟩
/-- an operation that makes memory, the one that may come up -/
theorem rg_one {oi : Oper} (i : Nat) (v : Value) {fuel : Nat} {listed : Array Bool} {a : Act} {w : World} (w' : World) (hi : ops[i]? = some oi)
    (hr : Region.ready md ops listed = [i]) (hw : Region.wanted oi (yielded ops a.tmps) = true) (hex : (execOp a.eval oi).run P w = .ok (.value v) w')
    (hS : S w') (h : S w' → wpAnyH P md ops Q S fuel (listed.setIfInBounds i true) (a.put oi.dst v) w') : wpAnyH P md ops Q S (fuel + 1) listed a w := by
  refine wpAnyH_all hr (by simp) (fun j hj => ?_)
  obtain rfl : j = i := by simpa using hj
  unfold Go.wpOp
  simp only [hi, hw, if_true]
  left
  unfold Oper.wp
  rw [hex]
  exact ⟨hS, h hS⟩
/-- in a region that does not draw: an operation that is carried out and yields -/
theorem wpList_val {o : Oper} {rest : List Oper} {a : Act} {w w' : World} (v : Value) (hw : Region.wanted o (yielded ops a.tmps) = true) (hex : (execOp a.eval o).run P w = .ok (.value v) w')
    (h : wpList P ops Q rest (a.put o.dst v) w') : wpList P ops Q (o :: rest) a w :=
  wpList_step fun K hK => by
    rw [if_pos hw]
    unfold Oper.wp
    rw [hex]
    exact hK _ _ h
end
end Go.Proofs.YtmepjcnpbjdlkaaGreatDoor
/- a region that draws its order and ends in a store: a condition on the world that holds till operation k has come up. -/
namespace Go.Proofs.YtmepjcnpbjdlkaaGreatDoor
set_option linter.unusedVariables false
set_option linter.unusedSimpArgs false
open Go.RowKit

section
variable {P : Program} {md : Region.Mode} {ops : Array Oper} {Q : Exit → Act → World → Prop} {S : World → Prop} {k : Nat}
/-- S holds as long as k has not come up -/
def TillK (S : World → Prop) (k : Nat) (listed : Array Bool) (w : World) : Prop := listed.getD k true = false → S w
/-- whatever comes up next, till k has come up S holds behind it -/
def wpTill (P : Program) (md : Region.Mode) (ops : Array Oper) (Q : Exit → Act → World → Prop) (S : World → Prop) (k : Nat) : Nat → Array Bool → Act → World → Prop
  | 0, listed, a, w => Region.ready md ops listed = [] ∧ Q .normal a w
  | f + 1, listed, a, w => (Region.ready md ops listed = [] → Q .normal a w) ∧
    ∀ i ∈ Region.ready md ops listed, wpOp P ops Q i (fun a' w' => TillK S k (listed.setIfInBounds i true) w' ∧ wpTill P md ops Q S k f (listed.setIfInBounds i true) a' w') a w
theorem wpAny_of_till : ∀ (f : Nat) (listed : Array Bool) (a : Act) (w : World), wpTill P md ops Q S k f listed a w → wpAny P md ops Q f listed a w
  | 0, _, _, _, h => h
  | f + 1, _, _, _, h => ⟨h.1, fun i hi => wpOp_mono (fun a' w' h' => wpAny_of_till f _ a' w' h'.2) (h.2 i hi)⟩
theorem unlisted_both {listed : Array Bool} {i : Nat} (h : listed.getD i true = false) : listed.getD i false = false := by
  by_cases hl : i < listed.size
  · simp [hl] at h ⊢; exact h
  · simp [hl] at h
/-- an operation that yields under T, whatever may come ahead of it: c is what is known of the list till then -/
theorem TillK.other {S : World → Prop} {k i : Nat} {listed : Array Bool} {w : World} (h : TillK S k listed w) (hik : i ≠ k) : TillK S k (listed.setIfInBounds i true) w := fun hk => h (by rw [getD_set_ne true hik] at hk; exact hk)
theorem TillK.back {S : World → Prop} {k i : Nat} {listed : Array Bool} {w : World} (h : TillK S k (listed.setIfInBounds i true) w) (hik : i ≠ k) : TillK S k listed w := fun hk => h (by rw [getD_set_ne true hik]; exact hk)
theorem till_first {i : Nat} {oi : Oper} {v : Value} {T : World → Prop} {c : Array Bool → Prop} (hik : i ≠ k) (hi : ops[i]? = some oi) (hsel : ∀ (j : Nat) (o : Oper) cs b, ops[j]? = some o → o.op ≠ .select cs b)
    (hQ : ∀ c a w, Q (.panic c) (a.put oi.dst v) w → Q (.panic c) a w)
    (hT : ∀ l w, c l → TillK S k l w → T w) (hc : ∀ l j, i ∈ Region.ready md ops l → j ∈ Region.ready md ops l → j ≠ i → c l → c (l.setIfInBounds j true)) :
    ∀ (f : Nat) (listed : Array Bool) (a : Act) (w : World),
      (∀ j oj, ops[j]? = some oj → j ≠ i → listed.getD j true = false → (∀ e ∈ oj.after, Region.binds md e = true → e.on ≠ i) → oi.apart ops oj = true) →
      i ∈ Region.ready md ops listed → YieldsIf P ops T oi v a → c listed → TillK S k listed w →
      wpTill P md ops Q S k f (listed.setIfInBounds i true) (a.put oi.dst v) w → wpTill P md ops Q S k (f + 1) listed a w := by
  intro f
  induction f with
  | zero =>
    intro listed a w _ hr hy hcl hS H
    refine ⟨fun h => (by rw [h] at hr; cases hr), fun j hj => ?_⟩
    by_cases hji : j = i
    · subst hji
      exact hy.wpOp hi (hT _ _ hcl hS) ⟨hS.other hik, H⟩
    · have := ready_mono hj hji
      rw [H.1] at this
      cases this
  | succ f ih =>
    intro listed a w hfree hr hy hcl hS H
    refine ⟨fun h => (by rw [h] at hr; cases hr), fun j hj => ?_⟩
    by_cases hji : j = i
    · subst hji
      exact hy.wpOp hi (hT _ _ hcl hS) ⟨hS.other hik, H⟩
    · have h1 := H.2 j (ready_mono hj hji)
      obtain ⟨hjun, oj, hoj, hall⟩ := mem_ready.1 hj
      have hiun := unlisted_both (mem_ready.1 hr).1
      have hnot : ∀ e ∈ oj.after, Region.binds md e = true → e.on ≠ i := fun e he hb heq => by
        have h2 := hall e he hb
        rw [heq, hiun] at h2
        cases h2
      have h2 := wpOp_putIf hoj (hfree j oj hoj hji hjun hnot) (fun cs b => hsel i oi cs b hi) (fun cs b => hsel j oj cs b hoj) hQ hy h1
      have hcj := hc listed j hr hj hji hcl
      refine wpOp_mono (fun a' w' h3 => ?_) h2
      obtain ⟨hy', hSj, hW⟩ := h3
      rw [Array.setIfInBounds_comm _ _ (Ne.symm hji)] at hSj
      have hSj' := hSj.back hik
      refine ⟨hSj', ih (listed.setIfInBounds j true) a' w' (fun l ol hl hli hun hno => hfree l ol hl hli (by
        by_cases hjl : j = l
        · subst hjl; exact hjun
        · rw [getD_set_ne true hjl] at hun; exact hun) hno) (ready_mono hr (Ne.symm hji)) hy' hcj hSj' ?_⟩
      rw [Array.setIfInBounds_comm _ _ hji]
      exact hW
/-- the beginning -/
theorem wp_region_till {id : Nat} {a : Act} {w : World} (hm : P.follows .mixedOrders = true) (h : wpTill P .any ops Q S k ops.size (Array.replicate ops.size false) a w.drew) : (Code.region id ops true).wp P Q a w :=
  wp_region_any hm (wpAny_of_till _ _ _ _ h)
/-- a load: k waits for it -/
theorem rt_load {oi : Oper} (i : Nat) (v : Value) {fuel : Nat} {listed : Array Bool} {a : Act} {w : World} (hi : ops[i]? = some oi) (hik : (i != k) = true)
    (hs : Region.noSelect ops = true) (hf : Region.free md ops listed i = true) (hr : (Region.ready md ops listed).contains i = true) (hku : listed.getD k true = false)
    (hwait : (match ops[k]? with | some o => o.after.any fun e => Region.binds md e && e.on == i | none => false) = true)
    (hQ : ∀ c a w, Q (.panic c) (a.put oi.dst v) w → Q (.panic c) a w) (hw : Region.wanted oi (yielded ops a.tmps) = true) (hS : S w) (hy : ∀ w, S w → (execOp a.eval oi).run P w = .ok (.value v) w)
    (h : wpTill P md ops Q S k fuel (listed.setIfInBounds i true) (a.put oi.dst v) w) : wpTill P md ops Q S k (fuel + 1) listed a w := by
  refine till_first (T := S) (c := fun l => l.getD k true = false) (by simpa using hik) hi (Region.noSelect_spec hs) hQ (fun l w hl hS => hS hl) (fun l j hir hj hji hl => ?_) fuel listed a w (Region.free_spec hi hf) (by simpa using hr) (.inl ⟨hw, hy⟩) hku (fun _ => hS) h
  have hjk : j ≠ k := fun e => by
    subst e
    obtain ⟨_, o, ho, hall⟩ := mem_ready.1 hj
    rw [ho] at hwait
    obtain ⟨e, he, hb⟩ := Array.any_eq_true'.1 hwait
    simp only [Bool.and_eq_true, beq_iff_eq] at hb
    have h1 := hall e he hb.1
    rw [hb.2, unlisted_both (mem_ready.1 hir).1] at h1
    cases h1
  rw [getD_set_ne true hjk]
  exact hl
/-- an operation that yields in whatever world -/
theorem rt_yes {oi : Oper} (i : Nat) (v : Value) {fuel : Nat} {listed : Array Bool} {a : Act} {w : World} (hi : ops[i]? = some oi) (hik : (i != k) = true)
    (hs : Region.noSelect ops = true) (hf : Region.free md ops listed i = true) (hr : (Region.ready md ops listed).contains i = true)
    (hQ : ∀ c a w, Q (.panic c) (a.put oi.dst v) w → Q (.panic c) a w) (hw : Region.wanted oi (yielded ops a.tmps) = true) (hS : TillK S k listed w) (hy : ∀ w, (execOp a.eval oi).run P w = .ok (.value v) w)
    (h : wpTill P md ops Q S k fuel (listed.setIfInBounds i true) (a.put oi.dst v) w) : wpTill P md ops Q S k (fuel + 1) listed a w :=
  till_first (T := fun _ => True) (c := fun _ => True) (by simpa using hik) hi (Region.noSelect_spec hs) hQ (fun _ _ _ _ => trivial) (fun _ _ _ _ _ _ => trivial) fuel listed a w (Region.free_spec hi hf) (by simpa using hr) (.inl ⟨hw, fun w _ => hy w⟩) trivial hS h
/-- the one operation that may come up -/
theorem rt_wp {oi : Oper} (i : Nat) {fuel : Nat} {listed : Array Bool} {a : Act} {w : World} (hi : ops[i]? = some oi)
    (hr : Region.ready md ops listed = [i]) (hw : Region.wanted oi (yielded ops a.tmps) = true)
    (h : Oper.wp P oi a w (fun a' w' => TillK S k (listed.setIfInBounds i true) w' ∧ wpTill P md ops Q S k fuel (listed.setIfInBounds i true) a' w') Q) : wpTill P md ops Q S k (fuel + 1) listed a w := by
  refine ⟨fun h0 => (by rw [hr] at h0; cases h0), fun j hj => ?_⟩
  rw [hr] at hj
  obtain rfl : j = i := by simpa using hj
  unfold Go.wpOp
  simp only [hi, hw, if_true]
  exact .inl h
/-- a store, the one operation that may come up -/
theorem rt_skip {oi : Oper} (i : Nat) {fuel : Nat} {listed : Array Bool} {a : Act} {w : World} (w' : World) (hi : ops[i]? = some oi)
    (hr : Region.ready md ops listed = [i]) (hw : Region.wanted oi (yielded ops a.tmps) = true) (hex : (execOp a.eval oi).run P w = .ok .skip w')
    (hS : TillK S k (listed.setIfInBounds i true) w') (h : wpTill P md ops Q S k fuel (listed.setIfInBounds i true) (a.put oi.dst undef) w') : wpTill P md ops Q S k (fuel + 1) listed a w := by
  refine rt_wp i hi hr hw ?_
  unfold Oper.wp
  rw [hex]
  exact ⟨hS, h⟩
theorem till_past {listed : Array Bool} {w : World} (h : listed.getD k true = true) : TillK S k listed w := fun h' => by rw [h] at h'; cases h'
theorem rt_done {listed : Array Bool} {a : Act} {w : World} (hr : Region.ready md ops listed = []) (h : Q .normal a w) : ∀ fuel, wpTill P md ops Q S k fuel listed a w
  | 0 => ⟨hr, h⟩
  | _ + 1 => ⟨fun _ => h, by rw [hr]; simp⟩
end
end Go.Proofs.YtmepjcnpbjdlkaaGreatDoor
/- operations carried out, one by one; regions that read and then do one thing. -/
namespace Go.Proofs.YtmepjcnpbjdlkaaGreatDoor
set_option linter.unusedVariables false
set_option linter.unusedSimpArgs false
open Go.RowKit

section
variable {ops : Array Oper} {Q : Exit → Act → World → Prop}
end
theorem exec_load_one {P : Program} {w : World} {a : Act} {o : Oper} {x : Operand} {b off : Nat} {v : Value} {T t : TypeId} {cs : Array Value} {fr : Nat × Nat} (hg : w.heap[b]? = some (.cells cs t fr)) (hv : cs[off]? = some v) (ho : o.op = .load T x) (hx : a.eval x = .pointer (some ⟨b, off, none⟩)) (hT : ∀ w, (isAgg T).run P w = .ok false w) : (execOp a.eval o).run P w = .ok (.value v) w := by
  have hc : w.cell? ⟨b, off, none⟩ = some v := by rw [cell_of_row _ _ _ _ _ _ hg]; exact hv
  unfold execOp
  simp only [ho, hx]
  simp [go_sem, hc, hT]
theorem exec_load_mid {P : Program} {w : World} {a : Act} {o : Oper} {x : Operand} {b off : Nat} {cs : List Value} {T : TypeId} {d : TypeDesc} (hc : w.rangeAt b off cs) (ho : o.op = .load T x) (hx : a.eval x = .pointer (some ⟨b, off, none⟩)) (hu : P.underlying T = some d) (hd : d.isRow = true) (hi : (P.info? T).map (·.size) = some cs.length) : (execOp a.eval o).run P w = .ok (.value (.agg cs.toArray)) w := by
  unfold execOp
  simp only [ho, hx, Instr.loadAt, Instr.sureAddr, Sem.run_bind, Sem.run_pure, Result.andThen_ok, run_loadVar_mid w b off T cs d hc hu hd hi]
theorem rangeAt_of_row {w : World} {b : Nat} {cs : Array Value} {t : TypeId} {fr : Nat × Nat} (h : w.heap[b]? = some (.cells cs t fr)) (off : Nat) (l : List Value) (hl : ∀ j v, l[j]? = some v → cs[off + j]? = some v) : w.rangeAt b off l := fun j v hv => by
  rw [cell_of_row _ _ _ _ _ _ h]; exact hl j v hv
section
variable {P : Program} {md : Region.Mode} {ops : Array Oper} {Q : Exit → Act → World → Prop} {S : World → Prop} {k : Nat}
/-- a call under a condition that holds till operation k has come up -/
theorem rt_call {oi : Oper} (i f : Nat) (args : Array Value) {fuel : Nat} {listed : Array Bool} {a : Act} {w : World} (hi : ops[i]? = some oi)
    (hr : Region.ready md ops listed = [i]) (hw : Region.wanted oi (yielded ops a.tmps) = true) (hex : ∀ w, (execOp a.eval oi).run P w = .ok (.enter f args) w)
    (h : Calls P f args w fun e w' => ∃ v, e = .returned v ∧ TillK S k (listed.setIfInBounds i true) w' ∧ wpTill P md ops Q S k fuel (listed.setIfInBounds i true) (a.put oi.dst v) w') : wpTill P md ops Q S k (fuel + 1) listed a w := by
  refine rt_wp i hi hr hw ?_
  unfold Oper.wp
  rw [hex w]
  refine h.mono ?_
  rintro e w' ⟨v, rfl, h1, h2⟩
  exact ⟨h1, h2⟩
end
theorem exec_load_at {P : Program} {w : World} {a : Act} {o : Oper} {x : Operand} {b off : Nat} {v : Value} {T : TypeId} (hc : w.cell? ⟨b, off, none⟩ = some v) (ho : o.op = .load T x) (hx : a.eval x = .pointer (some ⟨b, off, none⟩)) (hT : ∀ w, (isAgg T).run P w = .ok false w) : (execOp a.eval o).run P w = .ok (.value v) w := by
  unfold execOp
  simp only [ho, hx]
  simp [go_sem, hc, hT]
theorem cell_kept {w w' : World} {b j : Nat} (h : w'.heap[b]? = w.heap[b]?) : w'.cell? ⟨b, j, none⟩ = w.cell? ⟨b, j, none⟩ := by simp only [World.cell?, h]
end Go.Proofs.YtmepjcnpbjdlkaaGreatDoor
/- a load for which k waits by way of another operation. -/
namespace Go.Proofs.YtmepjcnpbjdlkaaGreatDoor
set_option linter.unusedVariables false
set_option linter.unusedSimpArgs false
open Go.RowKit

section
variable {P : Program} {md : Region.Mode} {ops : Array Oper} {Q : Exit → Act → World → Prop} {S : World → Prop} {k : Nat}
theorem waits_spec {l : Array Bool} {i j : Nat} (hun : l.getD i false = false) (hj : j ∈ Region.ready md ops l)
    (hwait : (match ops[j]? with | some o => o.after.any fun e => Region.binds md e && e.on == i | none => false) = true) : False := by
  obtain ⟨_, o, ho, hall⟩ := mem_ready.1 hj
  rw [ho] at hwait
  obtain ⟨e, he, hb⟩ := Array.any_eq_true'.1 hwait
  simp only [Bool.and_eq_true, beq_iff_eq] at hb
  have h1 := hall e he hb.1
  rw [hb.2, hun] at h1
  cases h1
theorem rt_load2 {oi : Oper} (i k2 : Nat) (v : Value) {fuel : Nat} {listed : Array Bool} {a : Act} {w : World} (hi : ops[i]? = some oi) (hik : (i != k) = true)
    (hs : Region.noSelect ops = true) (hf : Region.free md ops listed i = true) (hr : (Region.ready md ops listed).contains i = true) (hku : listed.getD k true = false) (hku2 : listed.getD k2 true = false)
    (hwait : (match ops[k]? with | some o => o.after.any fun e => Region.binds md e && e.on == k2 | none => false) = true)
    (hwait2 : (match ops[k2]? with | some o => o.after.any fun e => Region.binds md e && e.on == i | none => false) = true)
    (hQ : ∀ c a w, Q (.panic c) (a.put oi.dst v) w → Q (.panic c) a w) (hw : Region.wanted oi (yielded ops a.tmps) = true) (hS : S w) (hy : ∀ w, S w → (execOp a.eval oi).run P w = .ok (.value v) w)
    (h : wpTill P md ops Q S k fuel (listed.setIfInBounds i true) (a.put oi.dst v) w) : wpTill P md ops Q S k (fuel + 1) listed a w := by
  refine till_first (T := S) (c := fun l => l.getD k true = false ∧ l.getD k2 true = false) (by simpa using hik) hi (Region.noSelect_spec hs) hQ (fun l w hl hS => hS hl.1) (fun l j hir hj hji hl => ?_) fuel listed a w (Region.free_spec hi hf) (by simpa using hr) (.inl ⟨hw, hy⟩) ⟨hku, hku2⟩ (fun _ => hS) h
  have hjk : j ≠ k := fun e => by
    subst e
    exact waits_spec (unlisted_both hl.2) hj hwait
  have hjk2 : j ≠ k2 := fun e => by
    subst e
    exact waits_spec (unlisted_both (mem_ready.1 hir).1) hj hwait2
  refine ⟨?_, ?_⟩
  · rw [getD_set_ne true hjk]; exact hl.1
  · rw [getD_set_ne true hjk2]; exact hl.2
end
end Go.Proofs.YtmepjcnpbjdlkaaGreatDoor
