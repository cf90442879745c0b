/- What the map of differences holds, between the rounds; a store into a map at the end of a region that draws its order. -/
import Derived.Test.YtkggmhcdoalhoaaRefDoc
import Derived.Test.YtkggmhcdoalhoaaIterB
import Derived.Test.YtkggmhcdoalhoaaRegK
namespace Go.Proofs.Ytkggmhcdoalhoaa
set_option linter.unusedVariables false
set_option linter.unusedSimpArgs false
open Go.RowKit Go.Maps
attribute [local irreducible] Go.wpStill

section
variable {P : Program} {md : Region.Mode} {ops : Array Oper} {Q : Exit → Act → World → Prop} {S : World → Prop} {kk : Nat} {k : TypeId} {α : Type} [DecidableEq α] (K : KeyK P k α) {b n : Nat} {f : α → Option Value}
theorem rt_storeM {oi : Oper} (i : Nat) {fuel : Nat} {listed : Array Bool} {a : Act} {w : World} (hi : ops[i]? = some oi) (hr : Region.ready md ops listed = [i]) (hw : Region.wanted oi (yielded ops a.tmps) = true)
    (m x v : Operand) (t : TypeId) (hop : oi.op = Op.mapUpdate t m x v) (e : TypeId) (ht : P.underlying t = some (.map k e)) (hm : a.eval m = .map (some b)) (h : MapAt K w b n f) (hn : n < maxLen) (q : α) (hq : K.good q) (hx : a.eval x = K.val q) (val : Value) (hv : a.eval v = val)
    (hS : (listed.setIfInBounds i true).getD kk true = true)
    (hK : ∀ w', MapAt K w' b (n + 1) (updM f q (some val)) → w.mapTurned w' b → wpTill P md ops Q S kk fuel (listed.setIfInBounds i true) (a.put oi.dst undef) w') : wpTill P md ops Q S kk (fuel + 1) listed a w := by
  refine rt_wp i hi hr hw ?_
  obtain ⟨w', hrun, r1, r2⟩ := h.store K ht hn q hq val
  unfold Oper.wp
  simp [execOp, hop, hm, hx, hv, hrun, Result.andThen]
  exact ⟨till_past hS, hK w' r1 r2⟩
omit [DecidableEq α] in
theorem wpList_lookV {rest : List Oper} {o : Oper} {a : Act} {w : World} (hg : o.guard = none) (m x : Operand) (t : TypeId) (hop : o.op = Op.lookup t m x false) (e : TypeId) (ht : P.underlying t = some (.map k e)) {z : Value} (hz : (zeroValue e).run P w = .ok z w)
    (hm : a.eval m = .map (some b)) (h : MapAt K w b n f) (q : α) (hq : K.good q) (hx : a.eval x = K.val q) (v : Value) (hv : (f q).getD z = v)
    (hK : wpList P ops Q rest (a.put o.dst v) w) : wpList P ops Q (o :: rest) a w := by
  refine wpList_look K hg m x t hop e ht hz hm h q hq hx _ rfl ?_
  rw [hv]; exact hK
end
theorem turned_below {w w' : World} {B b : Nat} (h : w.mapTurned w' b) (hb : B ≤ b) (hB : B ≤ w.heap.size) : Below B w w' := (Below.refl B w).grown h.grown hB (fun k e => by cases e; exact hb)
def breakAt (k : keyT) (s t : Int) : Value := .agg #[.int .i64 k.1, .int .i64 k.2, .int .i64 s, .int .i64 t]
open Classical in
/-- what the map holds: at each key that has come up, what both lists say of it -/
noncomputable def fB (xs ys : List BalV) : keyT → Option Value := fun k => if (∃ y ∈ xs, y.key = k) ∨ ∃ y ∈ ys, y.key = k then some (breakAt k (lastT xs k) (lastT ys k)) else none
theorem fB_nil : fB [] [] = fun _ => none := by funext k; simp [fB]
theorem fB_ours (l : List BalV) (x : BalV) : updM (fB l []) x.key (some (breakAt x.key x.tot 0)) = fB (l ++ [x]) [] := by
  funext k
  unfold updM fB
  by_cases h : k = x.key
  · subst h
    rw [if_pos rfl, if_pos (.inl ⟨x, by simp, rfl⟩), lastT_snoc, if_pos rfl]
    rfl
  · rw [if_neg h, lastT_snoc, if_neg (Ne.symm h)]
    refine ite_congr (propext ?_) (fun _ => rfl) (fun _ => rfl)
    constructor
    · rintro (⟨y, hy, e⟩ | ⟨y, hy, e⟩)
      · exact .inl ⟨y, by simp [hy], e⟩
      · simp at hy
    · rintro (⟨y, hy, e⟩ | ⟨y, hy, e⟩)
      · rcases List.mem_append.1 hy with hy | hy
        · exact .inl ⟨y, hy, e⟩
        · simp at hy; subst hy; exact absurd e.symm h
      · simp at hy
theorem fB_theirs (xs l : List BalV) (x : BalV) : updM (fB xs l) x.key (some (breakAt x.key (lastT xs x.key) x.tot)) = fB xs (l ++ [x]) := by
  funext k
  unfold updM fB
  by_cases h : k = x.key
  · subst h
    rw [if_pos rfl, if_pos (.inr ⟨x, by simp, rfl⟩), lastT_snoc, if_pos rfl]
  · rw [if_neg h, lastT_snoc, if_neg (Ne.symm h)]
    refine ite_congr (propext ?_) (fun _ => rfl) (fun _ => rfl)
    constructor
    · rintro (⟨y, hy, e⟩ | ⟨y, hy, e⟩)
      · exact .inl ⟨y, hy, e⟩
      · exact .inr ⟨y, by simp [hy], e⟩
    · rintro (⟨y, hy, e⟩ | ⟨y, hy, e⟩)
      · exact .inl ⟨y, hy, e⟩
      · rcases List.mem_append.1 hy with hy | hy
        · exact .inr ⟨y, hy, e⟩
        · simp at hy; subst hy; exact absurd e.symm h
theorem fB_look (xs l : List BalV) (k : keyT) : ∃ p q r : Int, (fB xs l k).getD (breakAt (0, 0) 0 0) = .agg #[.int .i64 p, .int .i64 q, .int .i64 (lastT xs k), .int .i64 r] := by
  unfold fB
  split
  · exact ⟨k.1, k.2, lastT l k, rfl⟩
  · next h => exact ⟨0, 0, 0, by rw [lastT_none k xs (fun e => h (.inl e))]; rfl⟩
theorem fB_some (xs ys : List BalV) (k : keyT) : (fB xs ys k).isSome = true ↔ (∃ y ∈ xs, y.key = k) ∨ ∃ y ∈ ys, y.key = k := by
  unfold fB
  split <;> simp_all
theorem fB_at (xs ys : List BalV) (k : keyT) (h : (fB xs ys k).isSome = true) : (fB xs ys k).getD (breakAt (0, 0) 0 0) = breakAt k (lastT xs k) (lastT ys k) := by
  have := (fB_some xs ys k).1 h
  unfold fB
  rw [if_pos this]; rfl
theorem zeroBreak (w : World) : (zeroValue 36).run Try.prog w = .ok (breakAt (0, 0) 0 0) w := by kernel_rfl
theorem block_two {w : World} {b : Nat} {p q r s : Value} {t : TypeId} {fr : Nat × Nat} (h : w.heap[b]? = some (.cells #[p, q, r, s] t fr)) : w.rangeAt b 0 [p, q] ∧ w.rangeAt b 2 [r, s] := by
  constructor
  · intro j v hj
    rw [Nat.zero_add, cell_of_row _ _ _ _ _ _ h]
    rcases j with _ | _ | j <;> simp at hj ⊢ <;> exact hj
  · intro j v hj
    rw [cell_of_row _ _ _ _ _ _ h]
    rcases j with _ | _ | j <;> simp at hj ⊢ <;> exact hj
theorem block_cell {w : World} {b : Nat} {cs : Array Value} {t : TypeId} (h : w.heap[b]? = some (.cells cs t (0, 0))) (j : Nat) (v : Value) (hj : cs[j]? = some v) : w.cell? ⟨b, j, none⟩ = some v ∧ w.frozen? ⟨b, j, none⟩ = false := ⟨by rw [cell_of_row _ _ _ _ _ _ h]; exact hj, by simp [World.frozen?, h]⟩
end Go.Proofs.Ytkggmhcdoalhoaa
