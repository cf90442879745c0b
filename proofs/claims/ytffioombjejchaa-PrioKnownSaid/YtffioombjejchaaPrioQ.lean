/- prio: the plain law behind NeverPassed. -/
import Derived.Test.YtffioombjejchaaPrioP
namespace Go.Proofs.Ytffioombjejchaa
set_option linter.unusedVariables false
set_option linter.unusedSimpArgs false
open Go.RowKit

/-- the marks (second numbers) rise, and stand below n -/
def Marks (n : Nat) (ps : List Pair) : Prop := (∀ i j, i < j → j < ps.length → (ps.getD i default).2 < (ps.getD j default).2) ∧ ∀ i, i < ps.length → 0 ≤ (ps.getD i default).2 ∧ (ps.getD i default).2 < n
theorem getD_at {ps : List Pair} {i : Nat} (h : i < ps.length) : ps.getD i default = ps[i] := by simp [List.getD_eq_getElem?_getD, h]
theorem Marks.snoc {n : Nat} {ps : List Pair} (h : Marks n ps) (a : Int) : Marks (n + 1) (ps ++ [(a, (n : Int))]) := by
  have h0 : ∀ i, i < ps.length → (ps ++ [(a, (n : Int))]).getD i default = ps.getD i default := fun i hi => by rw [getD_at (by simp; omega), getD_at hi, List.getElem_append_left hi]
  have h1 : (ps ++ [(a, (n : Int))]).getD ps.length default = (a, (n : Int)) := by rw [getD_at (by simp)]; simp
  have hl : (ps ++ [(a, (n : Int))]).length = ps.length + 1 := by simp
  refine ⟨fun i j hij hj => ?_, fun i hi => ?_⟩
  · rw [hl] at hj
    rw [h0 i (by omega)]
    by_cases e : j = ps.length
    · subst e; rw [h1]; exact (h.2 i hij).2
    · rw [h0 j (by omega)]; exact h.1 i j hij (by omega)
  · rw [hl] at hi
    by_cases e : i = ps.length
    · subst e; rw [h1]; simp only; omega
    · rw [h0 i (by omega)]; have := h.2 i (by omega); omega
theorem Marks.erase {n b : Nat} {ps : List Pair} (h : Marks n ps) (hb : b < ps.length) : Marks n (ps.eraseIdx b) := by
  have h0 : ∀ k, k < ps.length - 1 → (ps.eraseIdx b).getD k default = if k < b then ps.getD k default else ps.getD (k + 1) default := fun k hk => by
    simp only [List.getD_eq_getElem?_getD, List.getElem?_eraseIdx]; split <;> rfl
  have hl := List.length_eraseIdx_of_lt hb
  refine ⟨fun i j hij hj => ?_, fun i hi => ?_⟩
  · rw [hl] at hj
    rw [h0 i (by omega), h0 j hj]
    split <;> split
    · exact h.1 i j hij (by omega)
    · exact h.1 i (j + 1) (by omega) (by omega)
    · omega
    · exact h.1 (i + 1) (j + 1) (by omega) (by omega)
  · rw [hl] at hi
    rw [h0 i hi]
    split
    · exact h.2 i (by omega)
    · exact h.2 (i + 1) (by omega)
theorem Marks.up {n m : Nat} {ps : List Pair} (h : Marks n ps) (hm : n ≤ m) : Marks m ps := ⟨h.1, fun i hi => by have := h.2 i hi; omega⟩
/-- the last place of q among the first k, or -1 -/
def lastAt (ps : List Pair) (q : Pair) : Nat → Int
  | 0 => -1
  | k + 1 => if ps.getD k default = q then k else lastAt ps q k
theorem lastAt_is {n b : Nat} {ps : List Pair} (h : Marks n ps) (hb : b < ps.length) : ∀ k, k ≤ ps.length → lastAt ps (ps.getD b default) k = if b < k then (b : Int) else -1 := by
  intro k
  induction k with
  | zero => intro _; rfl
  | succ k ih =>
    intro hk
    unfold lastAt
    rw [ih (by omega)]
    by_cases e : k = b
    · subst e; simp
    · have hne : ps.getD k default ≠ ps.getD b default := fun h1 => by
        rcases Nat.lt_or_gt_of_ne e with h2 | h2
        · have := h.1 k b h2 hb; rw [h1] at this; omega
        · have := h.1 b k h2 (by omega); rw [h1] at this; omega
      rw [if_neg hne]
      by_cases e2 : b < k
      · rw [if_pos e2, if_pos (by omega)]
      · rw [if_neg e2, if_neg (by omega)]
/-- what was taken, and what is left -/
def TookQ (fall : Bool) (p : Pair → Bool) (ps : List Pair) (got : Pair) (ok : Bool) (ps' : List Pair) : Prop :=
  match PP.first fall p ps with
  | none => got = (0, 0) ∧ ok = false ∧ ps' = ps
  | some b => got = ps.getD b default ∧ ok = true ∧ ps' = ps.eraseIdx b
theorem took_q {w w' : World} {h c n : Nat} {fall : Bool} {ps : List Pair} {r : Option Nat} {p : Pair → Bool} {e : Ending} (hA : HeapP w h c fall ps n r) (hT : TookP w h c n fall ps r (PP.first fall p ps) e w') :
    ∃ got ok ps', e = .returned (.tuple #[pairV got, .bool ok]) ∧ HeapP w' h c fall ps' n r ∧ Tch w w' h r r ∧ TookQ fall p ps got ok ps' := by
  unfold TookQ
  cases ho : PP.first fall p ps with
  | none =>
    rw [ho] at hT
    obtain ⟨rfl, hB⟩ := hT
    exact ⟨(0, 0), false, ps, rfl, hA.below hB, Tch.of_below hB _ _, rfl, rfl, rfl⟩
  | some b =>
    rw [ho] at hT
    obtain ⟨rfl, hA', hT'⟩ := hT
    exact ⟨_, true, _, rfl, hA', hT', rfl, rfl, rfl⟩
theorem TookQ.none_is {fall : Bool} {p : Pair → Bool} {ps ps' : List Pair} {got : Pair} (h : TookQ fall p ps got false ps') : got = (0, 0) ∧ ps' = ps := by
  unfold TookQ at h
  split at h
  · exact ⟨h.1, h.2.2⟩
  · cases h.2.1
theorem TookQ.some_is {fall : Bool} {p : Pair → Bool} {ps ps' : List Pair} {got : Pair} (h : TookQ fall p ps got true ps') : ∃ b, b < ps.length ∧ got = ps.getD b default ∧ p got = true ∧ ps' = ps.eraseIdx b := by
  unfold TookQ at h
  split at h
  · cases h.2.1
  · next b hb =>
    have := PP.best_lt hb
    exact ⟨b, this.1, h.1, by rw [h.1]; exact this.2, h.2.2⟩
theorem lessP_no {x y : Pair} (h : lessP false x y = false) : ¬ x.1 < y.1 := by simpa [lessP] using h
theorem lessP_yes {x y : Pair} (h : lessP false x y = true) : x.1 < y.1 := by simpa [lessP] using h
/-- whoever is asked for and there is not ahead of what was taken -/
theorem TookQ.never {n k : Nat} {p : Pair → Bool} {ps ps' : List Pair} {got : Pair} {ok : Bool} (hM : Marks n ps) (h : TookQ false p ps got ok ps') (hk : k < ps.length) (hp : p (ps.getD k default) = true) :
    ok = true ∧ ¬ (ps.getD k default).1 < got.1 ∧ ((ps.getD k default).1 = got.1 → ¬ (ps.getD k default).2 < got.2) := by
  unfold TookQ at h
  split at h
  · next hb => rw [PP.best_none hb k hk] at hp; cases hp
  · next b hb =>
    obtain ⟨rfl, rfl, _⟩ := h
    have h1 := PP.best_le hb k hk hp
    have hlt := (PP.best_lt hb).1
    refine ⟨rfl, ?_, fun he hl => ?_⟩
    · exact lessP_no h1.1
    · rcases Nat.lt_trichotomy k b with e | e | e
      · have := lessP_yes (h1.2 e)
        omega
      · subst e; omega
      · have := hM.1 b k e hk
        omega
theorem RowT.slice {w : World} {B : Nat} {v : Value} {ps : List Pair} (a : RowT w B v ps) : ∃ ao cap, v = .slice ao ps.length cap := by
  rcases a with ⟨rfl, rfl⟩ | ⟨g, cap, cur, rfl, _⟩
  · exact ⟨none, 0, rfl⟩
  · exact ⟨_, _, rfl⟩
/-- a list of acts -/
abbrev ActT := Int × Int × Int × Int
def ReadsA (w : World) (v : Value) (xs : List ActT) : Prop :=
  xs.length * 32 ≤ 140737488351232 ∧ ∃ ao cap, v = .slice ao xs.length cap ∧ ∀ (i : Nat) (x : ActT), xs[i]? = some x → ∃ g o, ao = some ⟨g, o, none⟩ ∧ w.rangeAt g (o + i * 4) [.int .i64 x.1, .int .i64 x.2.1, .int .i64 x.2.2.1, .int .i64 x.2.2.2]
theorem rangeAt_lt {w : World} {g o : Nat} {v : Value} {l : List Value} (h : w.rangeAt g o (v :: l)) : g < w.heap.size := by
  have := h 0 v rfl
  rcases Nat.lt_or_ge g w.heap.size with h1 | h1
  · exact h1
  · simp [World.cell?, Array.getElem?_eq_none h1] at this
theorem ReadsA.kept {w w' : World} {v : Value} {xs : List ActT} (h : ReadsA w v xs) (hk : ∀ k, k < w.heap.size → w'.heap[k]? = w.heap[k]?) : ReadsA w' v xs := by
  obtain ⟨hl, ao, cap, hv, hr⟩ := h
  refine ⟨hl, ao, cap, hv, fun i x hx => ?_⟩
  obtain ⟨g, o, hg, hc⟩ := hr i x hx
  refine ⟨g, o, hg, fun j v hv => ?_⟩
  rw [← hc j v hv]
  simp only [World.cell?, hk g (rangeAt_lt hc)]
theorem ReadsA.below {w w' : World} {v : Value} {xs : List ActT} (h : ReadsA w v xs) (hb : Below w.heap.size w w') : ReadsA w' v xs := h.kept hb.block
theorem exec_eql_val {w : World} {a : Act} {o : Oper} {x y : Operand} {cs ds : Array Value} {T T2 : TypeId} {r : Bool} (ho : o.op = .binOp .eql T x y T2) (hx : a.eval x = .agg cs) (hy : a.eval y = .agg ds) (hg : Try.prog.eqGuardType Try.prog.depth T = false)
    (he : ∀ w, (Op.equalIn 10000 T (.agg cs) (.agg ds)).run Try.prog w = .ok r w) : (execOp a.eval o).run Try.prog w = .ok (.value (.bool r)) w := by
  unfold execOp
  simp [ho, hx, hy, Sem.run_bind, Sem.run_pure, Result.andThen_ok, run_eqGuard_agg, hg, run_eql_struct, he]
theorem exec_slice_hm {w : World} {a : Act} {o : Oper} {x i j : Operand} {ao : Option Addr} {n cap k : Nat} (ho : o.op = .slice 29 x none (some i) (some j)) (hx : a.eval x = .slice ao n cap) (hi : a.eval i = .int .i64 k) (hj : a.eval j = .int .i64 k) (hk : k ≤ cap) : (execOp a.eval o).run Try.prog w = .ok (.value (sliced ao 0 k k 2)) w := by
  unfold execOp
  simp only [ho, hx, hi, hj, Option.map_some, Option.map_none, Sem.run_bind]
  rw [run_sliceAt_slice _ _ _ _ _ _ Try.underlying29, run_slice_hm (P := Try.prog) w 29 ao n cap Try.underlying29 .i64 .i64 (k : Int) (k : Int) (by omega) (by omega) (by omega)]
  obtain ⟨i0, hi1, hi2, hi3, hi4⟩ := infoT
  have he : Try.prog.elem 29 = 25 := by kernel_rfl
  simp [he, sizeOf, typeInfo, hi1, hi3]
theorem exec_slice_l {w : World} {a : Act} {o : Oper} {x i : Operand} {ao : Option Addr} {n cap k : Nat} (ho : o.op = .slice 29 x (some i) none none) (hx : a.eval x = .slice ao n cap) {z : Int} (hi : a.eval i = .int .i64 z) (hz : z = k) (hk : k ≤ n) : (execOp a.eval o).run Try.prog w = .ok (.value (sliced ao k n cap 2)) w := by
  subst hz
  unfold execOp
  simp only [ho, hx, hi, Option.map_some, Option.map_none, Sem.run_bind]
  rw [run_sliceAt_slice _ _ _ _ _ _ Try.underlying29, run_slice_l (P := Try.prog) w 29 ao n cap Try.underlying29 .i64 (k : Int) (by omega) (by omega)]
  obtain ⟨i0, hi1, hi2, hi3, hi4⟩ := infoT
  have he : Try.prog.elem 29 = 25 := by kernel_rfl
  simp [he, sizeOf, typeInfo, hi1, hi3]
theorem rangeAt_below' {w w' : World} {b o : Nat} {v : Value} {l : List Value} (h : w.rangeAt b o (v :: l)) (hb : Below w.heap.size w w') : w'.rangeAt b o (v :: l) := fun j u hu => by
  rw [← h j u hu]
  simp only [World.cell?, hb.block b (rangeAt_lt h)]
theorem pair_rangeAt {w : World} {b : Nat} {x y : Value} {t : TypeId} {fr : Nat × Nat} (h : w.heap[b]? = some (.cells #[x, y] t fr)) : w.rangeAt b 0 [x, y] := fun j v hv => by
  rw [cell_of_row _ _ _ _ _ _ h]
  simpa using hv
theorem three_new {w0 w : World} {B : Nat} (hb : Below B w0 w) (hB : B ≤ w.heap.size) (a1 a2 a3 : Array Value) (t1 t2 t3 : TypeId) :
    (((w.alloc (.cells a1 t1)).alloc (.cells a2 t2)).alloc (.cells a3 t3)).heap[w.heap.size]? = some (.cells a1 t1) ∧
    (((w.alloc (.cells a1 t1)).alloc (.cells a2 t2)).alloc (.cells a3 t3)).heap[w.heap.size + 1]? = some (.cells a2 t2) ∧
    (((w.alloc (.cells a1 t1)).alloc (.cells a2 t2)).alloc (.cells a3 t3)).heap[w.heap.size + 2]? = some (.cells a3 t3) ∧
    (∀ k, k < w.heap.size → (((w.alloc (.cells a1 t1)).alloc (.cells a2 t2)).alloc (.cells a3 t3)).heap[k]? = w.heap[k]?) ∧
    Below B w0 (((w.alloc (.cells a1 t1)).alloc (.cells a2 t2)).alloc (.cells a3 t3)) := by
  have s1 : (w.alloc (.cells a1 t1)).heap.size = w.heap.size + 1 := by simp
  have s2 : ((w.alloc (.cells a1 t1)).alloc (.cells a2 t2)).heap.size = w.heap.size + 2 := by simp
  have n3 := heap_alloc_new ((w.alloc (.cells a1 t1)).alloc (.cells a2 t2)) (.cells a3 t3)
  have n2 := heap_alloc_new (w.alloc (.cells a1 t1)) (.cells a2 t2)
  have n1 := heap_alloc_new w (.cells a1 t1)
  rw [s2] at n3
  rw [s1] at n2
  refine ⟨?_, ?_, n3, fun k hk => ?_, ((hb.alloc hB _).alloc (by omega) _).alloc (by omega) _⟩
  · rw [heap_alloc_old _ _ (by omega), heap_alloc_old _ _ (by omega), n1]
  · rw [heap_alloc_old _ _ (by omega), n2]
  · rw [heap_alloc_old _ _ (by omega), heap_alloc_old _ _ (by omega), heap_alloc_old _ _ hk]
end Go.Proofs.Ytffioombjejchaa
