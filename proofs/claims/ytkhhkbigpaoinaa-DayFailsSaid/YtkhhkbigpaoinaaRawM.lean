/- Maps whose elements are taken as the values that they are: what a map holds under each key, for any kind of key. -/
import Derived.Test.YtkhhkbigpaoinaaBase
import Derived.Maps.OwnOps
import Derived.Maps.Views
import Derived.Maps.RangeWalk
import Derived.Maps.OwnSet
namespace Go.Proofs.Ytkhhkbigpaoinaa
set_option linter.unusedVariables false
open Go.RowKit Go.Maps
open Go.WideElems (rg rg_of rd_val rd_key)

def rawR (v : Value) : Option (DataW Value × List MemPlace) := some (.held v, [])
def heldV : DataW Value → Option Value
  | .held v => some v
  | _ => none
def rawAt (D : DataW Value) (l : Lit) : Option Value := heldV (D.atKey l .nil)

structure KeyK (P : Program) (k : TypeId) (α : Type) where
  val : α → Value
  lit : α → Lit
  good : α → Prop
  keyed : Keyed P k
  of : ∀ x, good x → keyOf P k (val x) = some (lit x)
  inj : ∀ x y, good x → good y → lit x = lit y → x = y
  inv : ∀ v l, keyOf P k v = some l → ∃ x, good x ∧ v = val x ∧ l = lit x

section
variable {P : Program} {k : TypeId} {α : Type} [DecidableEq α] (K : KeyK P k α)

theorem KeyK.same {x y : α} (hx : K.good x) (hy : K.good y) : (K.lit x).sameKey (K.lit y) = decide (x = y) := by
  by_cases e : x = y
  · subst e
    rw [WideAt.sameKey_self (K.keyed.key (K.of x hx))]; simp
  · rcases hs : (K.lit x).sameKey (K.lit y) with _ | _
    · simp [e]
    · exact absurd (K.inj x y hx hy (WideAt.sameKey_eq hs)) e

theorem raw_entries {w : World} {b n : Nat} {D : DataW Value} (h : w.ownsMap P k rawR b n D) : ∃ es : List (Lit × DataW Value), D = .map es ∧ ∀ p ∈ es, ∃ v, p.2 = .held v := by
  obtain ⟨es, clock, _, F, _, rfl⟩ := h
  refine ⟨_, rfl, fun p hp => ?_⟩
  obtain ⟨x, hx, rfl⟩ := List.mem_map.1 (mem_sorted.1 hp)
  obtain ⟨y, hy⟩ := F.reads x hx
  obtain ⟨z, hz, e⟩ := rd_val hy
  rw [rg_of hy, e]
  unfold rawR at hz
  cases hz
  exact ⟨_, rfl⟩

/-- What a map says at a key: nothing, or a value. -/
theorem raw_cases {w : World} {b n : Nat} {D : DataW Value} (h : w.ownsMap P k rawR b n D) (l : Lit) :
    (rawAt D l = none ∧ has D l = false ∧ ∀ zd, D.atKey l zd = zd) ∨ ∃ v, rawAt D l = some v ∧ has D l = true ∧ ∀ zd, D.atKey l zd = .held v := by
  obtain ⟨es, rfl, hall⟩ := raw_entries h
  have hf : has (DataW.map es) l = (es.find? (fun p => p.1.sameKey l)).isSome := by rw [has_eq]; exact Bool.eq_iff_iff.2 (List.any_eq_true.trans (List.find?_isSome (p := fun p : Lit × DataW Value => p.1.sameKey l)).symm)
  rcases hs : es.find? (fun p => p.1.sameKey l) with _ | p
  · refine .inl ⟨by simp [rawAt, DataW.atKey, hs, heldV], by rw [hf, hs]; rfl, fun zd => by simp [DataW.atKey, hs]⟩
  · obtain ⟨v, hv⟩ := hall p (List.mem_of_find?_eq_some hs)
    refine .inr ⟨v, by simp [rawAt, DataW.atKey, hs, hv, heldV], by rw [hf, hs]; rfl, fun zd => by simp [DataW.atKey, hs, hv]⟩

theorem raw_has {w : World} {b n : Nat} {D : DataW Value} (h : w.ownsMap P k rawR b n D) (l : Lit) : has D l = (rawAt D l).isSome := by
  rcases raw_cases h l with ⟨h1, h2, _⟩ | ⟨v, h1, h2, _⟩ <;> rw [h1, h2] <;> rfl

/-- Block b is a map, of at most n entries, that holds f. -/
def MapAt (w : World) (b n : Nat) (f : α → Option Value) : Prop := ∃ D : DataW Value, w.ownsMap P k rawR b n D ∧ ∀ x, K.good x → rawAt D (K.lit x) = f x

def updM (f : α → Option Value) (q : α) (v : Option Value) : α → Option Value := fun x => if x = q then v else f x

variable {w : World} {b n : Nat} {f : α → Option Value}

omit [DecidableEq α] in
theorem MapAt.made (w : World) : MapAt K (w.alloc (.map #[] 0)) w.heap.size 0 (fun _ => none) := ⟨.map [], World.ownsMap_made w P k rawR, fun x _ => rfl⟩
omit [DecidableEq α] in
theorem MapAt.lt (h : MapAt K w b n f) : b < w.heap.size := by obtain ⟨D, h, _⟩ := h; exact h.lt
omit [DecidableEq α] in
theorem MapAt.block {w' : World} (h : MapAt K w b n f) (e : w'.heap[b]? = w.heap[b]?) : MapAt K w' b n f := by
  obtain ⟨D, ⟨es, clock, hb, F, hs, hD⟩, hf⟩ := h
  exact ⟨D, ⟨es, clock, e.trans hb, F, hs, hD⟩, hf⟩
omit [DecidableEq α] in
theorem MapAt.mono (h : MapAt K w b n f) {n' : Nat} (hn : n ≤ n') : MapAt K w b n' f := by
  obtain ⟨D, h, hf⟩ := h
  exact ⟨D, h.mono hn, hf⟩
omit [DecidableEq α] in
theorem MapAt.same (h : MapAt K w b n f) {g : α → Option Value} (e : ∀ x, K.good x → f x = g x) : MapAt K w b n g := by
  obtain ⟨D, h, hf⟩ := h
  exact ⟨D, h, fun x hx => (hf x hx).trans (e x hx)⟩
omit [DecidableEq α] in
theorem MapAt.isMap (h : MapAt K w b n f) : ∃ es clock, w.heap[b]? = some (.map es clock) := by
  obtain ⟨D, ⟨es, clock, hb, _⟩, _⟩ := h
  exact ⟨es, clock, hb⟩

omit [DecidableEq α] in
theorem MapAt.look {t e : TypeId} (h : MapAt K w b n f) (ht : P.underlying t = some (.map k e)) {z : Value} (hz : (zeroValue e).run P w = .ok z w) (q : α) (hq : K.good q) (c : Bool) :
    (Instr.lookup t (.map (some b)) (K.val q) c).run P w = .ok (if c then .tuple #[(f q).getD z, .bool (f q).isSome] else (f q).getD z) w := by
  obtain ⟨D, hown, hf⟩ := h
  have hc := raw_cases hown (K.lit q)
  rw [hf q hq] at hc
  obtain ⟨es, clock, hb, F, _, rfl⟩ := hown
  rcases Maps.fit_look c K.keyed ht hz hb F (K.of q hq) with ⟨hrun, _, hat⟩ | ⟨e0, y, _, _, hrun, hRv, hat, _⟩
  · rcases hc with ⟨h1, _, _⟩ | ⟨v, h1, _, h3⟩
    · rw [h1]; exact hrun
    · have e1 := hat (.nil)
      rw [h3] at e1; cases e1
  · cases hRv
    rcases hc with ⟨h1, _, h3⟩ | ⟨v, h1, _, h3⟩
    · have e1 := hat (.nil)
      rw [h3] at e1; cases e1
    · have e1 := hat (.nil)
      rw [h3] at e1
      cases e1
      rw [h1]
      cases c <;> exact hrun

theorem raw_put {w : World} {b n : Nat} {D : DataW Value} (h : w.ownsMap P k rawR b n D) {q x : α} (hq : K.good q) (hx : K.good x) (v : Value) : rawAt (D.put (K.lit q) (.held v)) (K.lit x) = if x = q then some v else rawAt D (K.lit x) := by
  by_cases e : x = q
  · subst e
    obtain ⟨es, rfl, _⟩ := raw_entries h
    simp only [rawAt, if_true]
    rw [atKey_put_same ⟨es, rfl⟩ (K.keyed.key (K.of x hx))]
    rfl
  · rw [if_neg e]
    simp only [rawAt]
    rw [atKey_put_other (fun e' => e (K.inj x q hx hq e'))]

theorem raw_del {D : DataW Value} {q x : α} (hq : K.good q) (hx : K.good x) : rawAt (D.del (K.lit q)) (K.lit x) = if x = q then none else rawAt D (K.lit x) := by
  by_cases e : x = q
  · subst e
    simp only [rawAt, if_true]
    rw [atKey_del_same]
    rfl
  · rw [if_neg e]
    simp only [rawAt]
    rw [atKey_del_other (fun e' => e (K.inj x q hx hq e'))]

theorem MapAt.store {t e : TypeId} (h : MapAt K w b n f) (ht : P.underlying t = some (.map k e)) (hn : n < maxLen) (q : α) (hq : K.good q) (val : Value) :
    ∃ w', (Instr.mapUpdate t (.map (some b)) (K.val q) val).run P w = .ok () w' ∧ MapAt K w' b (n + 1) (updM f q (some val)) ∧ w.mapTurned w' b := by
  obtain ⟨D, hown, hf⟩ := h
  obtain ⟨w', hrun, r1, r2⟩ := hown.store K.keyed ht hn (K.of q hq) (show rawR val = some (.held val, []) from rfl)
  exact ⟨w', hrun, ⟨_, r1, fun x hx => by rw [raw_put K hown hq hx]; unfold updM; rw [hf x hx]⟩, r2⟩

theorem MapAt.drop {t e : TypeId} (h : MapAt K w b n f) (ht : P.underlying t = some (.map k e)) (q : α) (hq : K.good q) (ty : TypeId) :
    ∃ w', (Builtin.delete_ #[t, k] ty #[.map (some b), K.val q]).run P w = .ok (.tuple #[]) w' ∧ MapAt K w' b n (updM f q none) ∧ w.mapTurned w' b := by
  obtain ⟨D, hown, hf⟩ := h
  obtain ⟨w', hrun, r1, r2⟩ := hown.drop K.keyed ht (K.of q hq) ty
  exact ⟨w', hrun, ⟨_, r1, fun x hx => by rw [raw_del K hq hx]; unfold updM; rw [hf x hx]⟩, r2⟩

/-- A loop over a map under way: 'todo': the keys that are still to come; cnt of them. -/
def RangeAt (w : World) (b r n : Nat) (f : α → Option Value) (todo : α → Bool) (cnt : Nat) : Prop :=
  ∃ (D : DataW Value) (left : Lit → Bool), w.ranges P k rawR b r n D left cnt ∧ (∀ x, K.good x → rawAt D (K.lit x) = f x) ∧ (∀ x, K.good x → left (K.lit x) = todo x)

variable {r cnt : Nat} {todo : α → Bool}
omit [DecidableEq α] in
theorem RangeAt.map (h : RangeAt K w b r n f todo cnt) : MapAt K w b n f := by
  obtain ⟨D, left, h, hf, _⟩ := h
  exact ⟨D, h.owns, hf⟩
omit [DecidableEq α] in
theorem RangeAt.left_eq (h : RangeAt K w b r n f todo cnt) : w.rangeLeft b r = cnt := by
  obtain ⟨D, left, h, _, _⟩ := h
  exact h.left_eq
omit [DecidableEq α] in
theorem RangeAt.lt (h : RangeAt K w b r n f todo cnt) : r < w.heap.size := by
  obtain ⟨D, left, h, _, _⟩ := h
  exact h.lt
omit [DecidableEq α] in
theorem RangeAt.ne (h : RangeAt K w b r n f todo cnt) : r ≠ b := by
  obtain ⟨D, left, h, _, _⟩ := h
  exact h.ne
omit [DecidableEq α] in
theorem RangeAt.blocks {w' : World} (h : RangeAt K w b r n f todo cnt) (e1 : w'.heap[b]? = w.heap[b]?) (e2 : w'.heap[r]? = w.heap[r]?) : RangeAt K w' b r n f todo cnt := by
  obtain ⟨D, left, ⟨es, clock, since, seen, c0, hb, F, hs, hD, hr, rest⟩, hf, hl⟩ := h
  exact ⟨D, left, ⟨es, clock, since, seen, c0, e1.trans hb, F, hs, hD, e2.trans hr, rest⟩, hf, hl⟩
omit [DecidableEq α] in
theorem MapAt.range {t e : TypeId} (h : MapAt K w b n f) (ht : P.underlying t = some (.map k e)) :
    ∃ w' cnt, (Instr.range t (.map (some b))).run P w = .ok (.pointer (some ⟨w.heap.size, 0, none⟩)) w' ∧ RangeAt K w' b w.heap.size n f (fun x => (f x).isSome) cnt ∧ cnt ≤ n ∧ w.grownBy w' none ∧ w'.heap.size = w.heap.size + 1 := by
  obtain ⟨D, hown, hf⟩ := h
  obtain ⟨w', hrun, r1, r2, r3⟩ := hown.range K.keyed ht
  exact ⟨w', _, hrun, ⟨D, _, r1, hf, fun x hx => by rw [raw_has hown, hf x hx]⟩, hown.size_le, r2, r3⟩
theorem RangeAt.next (h : RangeAt K w b r n f todo cnt) (ty : TypeId) :
    (cnt = 0 ∧ (∀ x, K.good x → todo x = false) ∧ (Instr.next (.pointer (some ⟨r, 0, none⟩)) false ty).run P w = .ok (.tuple #[.bool false]) w) ∨
    ∃ x v w' cnt', K.good x ∧ todo x = true ∧ f x = some v ∧ (Instr.next (.pointer (some ⟨r, 0, none⟩)) false ty).run P w = .ok (.tuple #[.bool true, K.val x, v]) w' ∧
      RangeAt K w' b r n f (fun z => todo z && !decide (z = x)) cnt' ∧ cnt' < cnt ∧ w.grownBy w' (some r) ∧ w'.heap.size = w.heap.size ∧ (Instr.entry (.pointer (some ⟨r, 0, none⟩))).run P w' = .ok (.tuple #[K.val x, v]) w' := by
  obtain ⟨D, left, h, hf, hl⟩ := h
  rcases h.next K.keyed ty with ⟨h0, hn, hrun⟩ | ⟨key, v, kl, y, w', cnt', hkey, hlk, hv, hat, hrun, hrg, hlt, hgr, hsz, hen⟩
  · exact .inl ⟨h0, fun x hx => by rw [← hl x hx]; exact hn _, hrun⟩
  · obtain ⟨x, hx, rfl, rfl⟩ := K.inv key kl hkey
    cases hv
    refine .inr ⟨x, v, w', cnt', hx, by rw [← hl x hx]; exact hlk, ?_, hrun, ⟨D, _, hrg, hf, fun z hz => ?_⟩, hlt, hgr, hsz, hen⟩
    · rw [← hf x hx]; simp only [rawAt, hat]; rfl
    · rw [hl z hz, K.same hz hx]

/-! at the operation -/
variable {ops : Array Oper} {rest : List Oper} {o : Oper} {a : Act} {Q : Exit → Act → World → Prop}
omit [DecidableEq α] in
theorem wpList_look (hg : o.guard = none) (m x : Operand) (t : TypeId) (hop : o.op = Op.lookup t m x false) (e : TypeId) (ht : P.underlying t = some (.map k e)) {z : Value} (hz : (zeroValue e).run P w = .ok z w)
    (hm : a.eval m = .map (some b)) (h : MapAt K w b n f) (q : α) (hq : K.good q) (hx : a.eval x = K.val q) (v : Option Value) (hv : f q = v)
    (hK : wpList P ops Q rest (a.put o.dst (v.getD z)) w) : wpList P ops Q (o :: rest) a w := by
  refine wpList_plain hg fun K' hK' => ?_
  have hrun := h.look K ht hz q hq false
  rw [hv] at hrun
  unfold Oper.wp
  simp [execOp, hop, hm, hx, hrun, Result.andThen]
  exact hK' _ _ hK
omit [DecidableEq α] in
theorem wpList_look_ok (hg : o.guard = none) (m x : Operand) (t : TypeId) (hop : o.op = Op.lookup t m x true) (e : TypeId) (ht : P.underlying t = some (.map k e)) {z : Value} (hz : (zeroValue e).run P w = .ok z w)
    (hm : a.eval m = .map (some b)) (h : MapAt K w b n f) (q : α) (hq : K.good q) (hx : a.eval x = K.val q) (v : Option Value) (hv : f q = v)
    (hK : wpList P ops Q rest (a.put o.dst (.tuple #[v.getD z, .bool v.isSome])) w) : wpList P ops Q (o :: rest) a w := by
  refine wpList_plain hg fun K' hK' => ?_
  have hrun := h.look K ht hz q hq true
  rw [hv] at hrun
  unfold Oper.wp
  simp [execOp, hop, hm, hx, hrun, Result.andThen]
  exact hK' _ _ hK
theorem wpList_storeM (hg : o.guard = none) (m x v : Operand) (t : TypeId) (hop : o.op = Op.mapUpdate t m x v) (e : TypeId) (ht : P.underlying t = some (.map k e))
    (hm : a.eval m = .map (some b)) (h : MapAt K w b n f) (hn : n < maxLen) (q : α) (hq : K.good q) (hx : a.eval x = K.val q) (val : Value) (hv : a.eval v = val)
    (hK : ∀ w', MapAt K w' b (n + 1) (updM f q (some val)) → w.mapTurned w' b → wpList P ops Q rest (a.put o.dst undef) w') : wpList P ops Q (o :: rest) a w := by
  refine wpList_plain hg fun K' hK' => ?_
  obtain ⟨w', hrun, r1, r2⟩ := h.store K ht hn q hq val
  unfold Oper.wp
  simp [execOp, hop, hm, hx, hv, hrun, Result.andThen]
  exact hK' _ _ (hK w' r1 r2)
theorem wpList_dropM (hg : o.guard = none) (m x : Operand) (t : TypeId) (hop : o.op = Op.call { callee := Callee.builtin Builtin.delete, args := #[m, x], argTypes := #[t, k] }) (e : TypeId) (ht : P.underlying t = some (.map k e))
    (hm : a.eval m = .map (some b)) (h : MapAt K w b n f) (q : α) (hq : K.good q) (hx : a.eval x = K.val q)
    (hK : ∀ w', MapAt K w' b n (updM f q none) → w.mapTurned w' b → wpList P ops Q rest (a.put o.dst (.tuple #[])) w') : wpList P ops Q (o :: rest) a w := by
  refine wpList_plain hg fun K' hK' => ?_
  obtain ⟨w', hrun, r1, r2⟩ := h.drop K ht q hq o.type
  unfold Oper.wp
  simp [execOp, hop, resolve, invoke, builtin, hm, hx, hrun, Result.andThen]
  exact hK' _ _ (hK w' r1 r2)
omit [DecidableEq α] in
theorem wpList_rangeM (hg : o.guard = none) (m : Operand) (t : TypeId) (hop : o.op = Op.range t m) (e : TypeId) (ht : P.underlying t = some (.map k e)) (hm : a.eval m = .map (some b)) (h : MapAt K w b n f)
    (hK : ∀ w' cnt, RangeAt K w' b w.heap.size n f (fun x => (f x).isSome) cnt → cnt ≤ n → w.grownBy w' none → w'.heap.size = w.heap.size + 1 → wpList P ops Q rest (a.put o.dst (.pointer (some ⟨w.heap.size, 0, none⟩))) w') :
    wpList P ops Q (o :: rest) a w := by
  refine wpList_plain hg fun K' hK' => ?_
  obtain ⟨w', cnt, hrun, r1, r2, r3, r4⟩ := h.range K ht
  unfold Oper.wp
  simp [execOp, hop, hm, hrun, Result.andThen]
  exact hK' _ _ (hK w' cnt r1 r2 r3 r4)
theorem wpList_nextM (hg : o.guard = none) (it : Operand) (hop : o.op = Op.next it false) (hit : a.eval it = .pointer (some ⟨r, 0, none⟩)) (h : RangeAt K w b r n f todo cnt)
    (hDone : cnt = 0 → (∀ x, K.good x → todo x = false) → wpList P ops Q rest (a.put o.dst (.tuple #[.bool false])) w)
    (hMore : ∀ (x : α) (v : Value) (w' : World) (cnt' : Nat), K.good x → todo x = true → f x = some v → RangeAt K w' b r n f (fun z => todo z && !decide (z = x)) cnt' → cnt' < cnt →
      w.grownBy w' (some r) → w'.heap.size = w.heap.size → (Instr.entry (.pointer (some ⟨r, 0, none⟩))).run P w' = .ok (.tuple #[K.val x, v]) w' → wpList P ops Q rest (a.put o.dst (.tuple #[.bool true, K.val x, v])) w') :
    wpList P ops Q (o :: rest) a w := by
  refine wpList_plain hg fun K' hK' => ?_
  unfold Oper.wp
  rcases h.next K o.type with ⟨h0, hl, hrun⟩ | ⟨x, v, w', cnt', hx, hlk, hv, hrun, hrg, hlt, hgr, hsz, hen⟩
  · simp [execOp, hop, hit, hrun, Result.andThen]
    exact hK' _ _ (hDone h0 hl)
  · simp [execOp, hop, hit, hrun, Result.andThen]
    exact hK' _ _ (hMore x v w' cnt' hx hlk hv hrg hlt hgr hsz hen)
end

/-- Keys that are whole numbers of 64 bits. -/
def keyInt {P : Program} {k : TypeId} (hk : P.underlying k = some (.int .i64)) : KeyK P k Int where
  val x := .int .i64 x
  lit x := .int .i64 x
  good x := (Lit.int .i64 x).wf = true
  keyed := int_keyed hk
  of x hx := keyOf_int_mk hk hx
  inj x y _ _ e := by cases e; rfl
  inv v l h := by
    obtain ⟨x, rfl, rfl, hw⟩ := Maps.keyOf_int_inv hk h
    exact ⟨x, hw, rfl, rfl⟩
end Go.Proofs.Ytkhhkbigpaoinaa
