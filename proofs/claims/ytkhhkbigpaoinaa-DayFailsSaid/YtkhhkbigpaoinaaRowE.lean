/- lists of elements of k cells each, in memory: read, made, appended to. Generic over the elements. -/
import Derived.Test.YtkhhkbigpaoinaaExec
import Derived.ArgAppend
import Derived.Laws.AppendOwn
namespace Go.Proofs.Ytkhhkbigpaoinaa
set_option linter.unusedVariables false
set_option linter.unusedSimpArgs false
open Go.RowKit

/-- how an element lies in memory -/
structure Enc (α : Type) where
  enc : α → List Value
  k : Nat
  pos : 0 < k
  len : ∀ x, (enc x).length = k
  one : ∀ x u, u ∈ enc x → u.oneCell' = true

section
variable {α : Type} {E : Enc α}
def flatE (E : Enc α) (xs : List α) : List Value := xs.flatMap E.enc
theorem flatE_nil : flatE E [] = [] := rfl
theorem flatE_cons (x : α) (xs : List α) : flatE E (x :: xs) = E.enc x ++ flatE E xs := rfl
theorem flatE_length (xs : List α) : (flatE E xs).length = xs.length * E.k := by
  induction xs with
  | nil => simp [flatE_nil]
  | cons x xs ih => rw [flatE_cons, List.length_append, E.len, ih, List.length_cons, Nat.add_mul, Nat.one_mul, Nat.add_comm]
theorem flatE_append (xs ys : List α) : flatE E (xs ++ ys) = flatE E xs ++ flatE E ys := by simp [flatE]
theorem flatE_one {xs : List α} : ∀ u ∈ flatE E xs, u.oneCell' = true := by
  intro u hu
  simp only [flatE, List.mem_flatMap] at hu
  obtain ⟨x, _, hu⟩ := hu
  exact E.one x u hu
theorem flatE_get (xs : List α) (i j : Nat) (x : α) (h : xs[i]? = some x) (hj : j < E.k) : (flatE E xs)[i * E.k + j]? = (E.enc x)[j]? := by
  induction xs generalizing i with
  | nil => simp at h
  | cons y xs ih =>
    cases i with
    | zero =>
      simp at h
      subst h
      rw [flatE_cons, List.getElem?_append_left (by rw [E.len]; omega)]
      simp
    | succ i =>
      have := ih i (by simpa using h)
      rw [flatE_cons, List.getElem?_append_right (by rw [E.len, Nat.add_mul]; omega), E.len, ← this]
      congr 1
      rw [Nat.add_mul]
      omega
theorem flatE_take (xs : List α) (i : Nat) : flatE E (xs.take i) = (flatE E xs).take (i * E.k) := by
  induction xs generalizing i with
  | nil => simp [flatE_nil]
  | cons x xs ih =>
    cases i with
    | zero => simp [flatE_nil]
    | succ i =>
      rw [List.take_succ_cons, flatE_cons, flatE_cons, ih, List.take_append, E.len]
      rw [List.take_of_length_le (l := E.enc x) (by rw [E.len, Nat.add_mul]; omega)]
      congr 2
      rw [Nat.add_mul]
      omega
theorem flatE_drop (xs : List α) (i : Nat) : flatE E (xs.drop i) = (flatE E xs).drop (i * E.k) := by
  induction xs generalizing i with
  | nil => simp [flatE_nil]
  | cons x xs ih =>
    cases i with
    | zero => simp
    | succ i =>
      rw [List.drop_succ_cons, flatE_cons, ih, List.drop_append, E.len]
      rw [List.drop_of_length_le (l := E.enc x) (by rw [E.len, Nat.add_mul]; omega), List.nil_append]
      congr 1
      rw [Nat.add_mul]
      omega
theorem addr_add (g o j : Nat) : (⟨g, o, none⟩ : Addr).add j = ⟨g, o + j, none⟩ := by unfold Addr.add; split <;> simp_all

/-- a slice that reads as a list -/
def ReadsE (E : Enc α) (w : World) (v : Value) (xs : List α) : Prop :=
  xs.length < 4611686018427387904 ∧ ∃ ao cap, v = .slice ao xs.length cap ∧ ∀ (i : Nat) (x : α), xs[i]? = some x → ∃ g o, ao = some ⟨g, o, none⟩ ∧ w.rangeAt g (o + i * E.k) (E.enc x)
theorem rangeE_lt {w : World} {g o : Nat} {x : α} (h : w.rangeAt g o (E.enc x)) : g < w.heap.size := by
  have hl : 0 < (E.enc x).length := by rw [E.len]; exact E.pos
  have := h 0 _ (List.getElem?_eq_getElem hl)
  rcases Nat.lt_or_ge g w.heap.size with h | h
  · exact h
  · simp [World.cell?, Array.getElem?_eq_none h] at this
theorem ReadsE.kept {w w' : World} {v : Value} {xs : List α} (h : ReadsE E w v xs) (hk : ∀ k, k < w.heap.size → w'.heap[k]? = w.heap[k]?) : ReadsE E w' v xs := by
  obtain ⟨hl, ao, cap, hv, hr⟩ := h
  refine ⟨hl, ao, cap, hv, fun i x hx => ?_⟩
  obtain ⟨g, o, hg, hc⟩ := hr i x hx
  refine ⟨g, o, hg, fun j v hv => ?_⟩
  have := hc j v hv
  rw [← this]
  simp only [World.cell?, hk g (rangeE_lt hc)]
theorem ReadsE.below {w w' : World} {v : Value} {xs : List α} (h : ReadsE E w v xs) (hb : Below w.heap.size w w') : ReadsE E w' v xs := h.kept hb.block
theorem ReadsE.alloc {w : World} {v : Value} {xs : List α} (h : ReadsE E w v xs) (o : Obj) : ReadsE E (w.alloc o) v xs := h.kept fun k hk => heap_alloc_old _ _ hk
theorem ReadsE.slice {w : World} {v : Value} {xs : List α} (h : ReadsE E w v xs) : ∃ ao cap, v = .slice ao xs.length cap := by
  obtain ⟨_, ao, cap, hv, _⟩ := h
  exact ⟨ao, cap, hv⟩
theorem ReadsE.at {w : World} {ao : Option Addr} {n cap : Nat} {xs : List α} (h : ReadsE E w (.slice ao n cap) xs) {i : Nat} {x : α} (hx : xs[i]? = some x) : ∃ g o, ao = some ⟨g, o, none⟩ ∧ w.rangeAt g (o + i * E.k) (E.enc x) := by
  obtain ⟨_, ao', cap', hv, hr⟩ := h
  injection hv with h1 h2 h3
  subst h1
  exact hr i x hx
theorem ReadsE.nil (w : World) : ReadsE E w (.slice none 0 0) [] := ⟨by simp, none, 0, rfl, fun i x hx => by simp at hx⟩
/-- what an append reads of it -/
theorem ReadsE.cells {w : World} {g o n cap : Nat} {xs : List α} (h : ReadsE E w (.slice (some ⟨g, o, none⟩) n cap) xs) : ∀ j u, (flatE E xs)[j]? = some u → w.cell? ((⟨g, o, none⟩ : Addr).add j) = some u := by
  intro j u hu
  have hp := E.pos
  have hj : j < xs.length * E.k := by have := (List.getElem?_eq_some_iff.1 hu).1; rwa [flatE_length] at this
  have hi : j / E.k < xs.length := (Nat.div_lt_iff_lt_mul hp).2 hj
  obtain ⟨g', o', hg, hc⟩ := h.at (List.getElem?_eq_getElem hi)
  injection hg with hg
  injection hg with h1 h2
  subst h1
  subst h2
  have hm : j / E.k * E.k + j % E.k = j := by rw [Nat.mul_comm]; exact Nat.div_add_mod j E.k
  have hget := flatE_get (E := E) xs (j / E.k) (j % E.k) _ (List.getElem?_eq_getElem hi) (Nat.mod_lt _ hp)
  rw [hm, hu] at hget
  have := hc _ _ hget.symm
  rw [addr_add, ← this]
  congr 2
  omega
theorem ReadsE.take {w : World} {v : Value} {xs : List α} (h : ReadsE E w v xs) (n : Nat) (hn : n ≤ xs.length) : ∃ ao cap, v = .slice ao xs.length cap ∧ ∀ cap', ReadsE E w (.slice ao n cap') (xs.take n) := by
  obtain ⟨hl, ao, cap, hv, hr⟩ := h
  refine ⟨ao, cap, hv, fun cap' => ⟨by rw [List.length_take]; omega, ao, cap', by rw [List.length_take, Nat.min_eq_left hn], fun i x hx => ?_⟩⟩
  rw [List.getElem?_take] at hx
  split at hx
  · exact hr i x hx
  · cases hx

/-- a row of one's own, its block at B or above; it may have been cut -/
def RowE (E : Enc α) (T : TypeId) (w : World) (B : Nat) (v : Value) (xs : List α) : Prop :=
  (v = .slice none 0 0 ∧ xs = []) ∨ ∃ g cap cur, v = .slice (some ⟨g, 0, none⟩) xs.length cap ∧ B ≤ g ∧ w.heap[g]? = some (.cells cur T (0, 0)) ∧ xs.length ≤ cap ∧ cap ≤ maxLen ∧ cap * E.k ≤ cur.size ∧ cur.toList.take (xs.length * E.k) = flatE E xs
variable {T : TypeId}
theorem RowE.nil (w : World) (B : Nat) : RowE E T w B (.slice none 0 0) [] := .inl ⟨rfl, rfl⟩
theorem RowE.of_own {w : World} {B n : Nat} {v : Value} {xs : List α} (h : w.ownsRow B T E.k v n (flatE E xs)) (hn : n = xs.length) : RowE E T w B v xs := by
  subst hn
  rcases h.2 with ⟨rfl, h0⟩ | ⟨g, cap, cur, rfl, hg, hh, hn, hm, hs, ht⟩
  · exact .inl ⟨rfl, List.length_eq_zero_iff.1 h0⟩
  · exact .inr ⟨g, cap, cur, rfl, hg, hh, hn, hm, by omega, ht⟩
theorem RowE.congr {w w' : World} {B : Nat} {v : Value} {xs : List α} (a : RowE E T w B v xs) (hk : ∀ k cs, w.heap[k]? = some (.cells cs T (0, 0)) → v.ownBlock = some k → w'.heap[k]? = w.heap[k]?) : RowE E T w' B v xs := by
  rcases a with h1 | ⟨g, cap, cur, rfl, hg, hh, hr⟩
  · exact .inl h1
  · exact .inr ⟨g, cap, cur, rfl, hg, (hk g _ hh rfl).trans hh, hr⟩
theorem RowE.kept {w w' : World} {B : Nat} {v : Value} {xs : List α} (a : RowE E T w B v xs) (hk : ∀ k, k < w.heap.size → w'.heap[k]? = w.heap[k]?) : RowE E T w' B v xs := a.congr fun k cs h _ => hk k (lt_of_block h)
theorem RowE.below {w w' : World} {B : Nat} {v : Value} {xs : List α} (a : RowE E T w B v xs) (hb : Below w.heap.size w w') : RowE E T w' B v xs := a.kept hb.block
theorem RowE.alloc {w : World} {B : Nat} {v : Value} {xs : List α} (a : RowE E T w B v xs) (o : Obj) : RowE E T (w.alloc o) B v xs := a.kept fun k hk => heap_alloc_old _ _ hk
theorem RowE.low {w : World} {B B' : Nat} {v : Value} {xs : List α} (a : RowE E T w B v xs) (h : B' ≤ B) : RowE E T w B' v xs := by
  rcases a with h1 | ⟨g, cap, cur, h1, hg, hh⟩
  · exact .inl h1
  · exact .inr ⟨g, cap, cur, h1, by omega, hh⟩
theorem RowE.type {w : World} {B : Nat} {v : Value} {xs : List α} (a : RowE E T w B v xs) {g : Nat} (hg : v.ownBlock = some g) : B ≤ g ∧ ∃ cs, w.heap[g]? = some (.cells cs T (0, 0)) := by
  rcases a with ⟨rfl, _⟩ | ⟨g', cap, cur, rfl, hB, hh, _⟩
  · cases hg
  · injection hg with hg
    exact ⟨hg ▸ hB, cur, hg ▸ hh⟩
theorem RowE.slice {w : World} {B : Nat} {v : Value} {xs : List α} (a : RowE E T w B v xs) : ∃ ao cap, v = .slice ao xs.length cap := by
  rcases a with ⟨rfl, rfl⟩ | ⟨g, cap, cur, rfl, _⟩
  · exact ⟨none, 0, rfl⟩
  · exact ⟨_, _, rfl⟩
theorem RowE.reads {w : World} {B : Nat} {v : Value} {xs : List α} (a : RowE E T w B v xs) (hl : xs.length < 4611686018427387904) : ReadsE E w v xs := by
  refine ⟨hl, ?_⟩
  rcases a with ⟨rfl, rfl⟩ | ⟨g, cap, cur, rfl, hg, hh, hn, hm, hs, ht⟩
  · exact ⟨none, 0, rfl, fun i x hx => by simp at hx⟩
  · refine ⟨_, cap, rfl, fun i x hx => ⟨g, 0, rfl, fun j v hv => ?_⟩⟩
    have hi := (List.getElem?_eq_some_iff.1 hx).1
    have hj : j < E.k := by have := (List.getElem?_eq_some_iff.1 hv).1; rwa [E.len] at this
    have h1 := flatE_get xs i j x hx hj
    have hlt : i * E.k + j < xs.length * E.k := by
      have : (i + 1) * E.k ≤ xs.length * E.k := Nat.mul_le_mul_right _ hi
      rw [Nat.add_mul] at this
      omega
    rw [hv, ← ht, List.getElem?_take_of_lt hlt] at h1
    rw [cell_of_row _ _ _ _ _ _ hh, Nat.zero_add]
    simpa using h1
theorem RowE.cells {w : World} {B g n cap : Nat} {xs : List α} (a : RowE E T w B (.slice (some ⟨g, 0, none⟩) n cap) xs) : ∀ j u, (flatE E xs)[j]? = some u → w.cell? ⟨g, j, none⟩ = some u := by
  rcases a with ⟨h1, _⟩ | ⟨g', cap', cur, h1, hg, hh, hn, hm, hs, ht⟩
  · cases h1
  · injection h1 with h1 h2 h3
    injection h1 with h1
    injection h1 with h1
    subst h1
    intro j u hu
    rw [cell_of_row _ _ _ _ _ _ hh]
    rw [← ht, List.getElem?_take] at hu
    split at hu
    · simpa using hu
    · cases hu
theorem grown_below {w w' : World} {row : Option Nat} {B : Nat} (hg : w.grownBy w' row) (hB : B ≤ w.heap.size) (hr : ∀ k, row = some k → B ≤ k) : Below B w w' :=
  ⟨hg.os, hg.tape, hg.output, hg.size, fun k hk => hg.block k (by omega) (fun e => by have := hr k e.symm; omega)⟩
theorem RowE.grown {w w' : World} {B B0 : Nat} {v : Value} {xs : List α} (a : RowE E T w B v xs) (hg : w.grownBy w' v.ownBlock) (hB : B0 ≤ w.heap.size) (hB2 : B0 ≤ B) : Below B0 w w' :=
  grown_below hg hB fun k hk => by have := (a.type hk).1; omega

/-- what is asked of the types of a slice and its elements -/
structure ElT (P : Program) (E : Enc α) (T S : TypeId) (bytes : Nat) : Prop where
  und : P.underlying S = some (.slice T)
  info : ∃ i z, P.info? T = some i ∧ i.zero = some z ∧ z.cells.size = E.k ∧ i.size = E.k ∧ i.bytes = bytes
variable {P : Program} {S : TypeId} {bytes : Nat}
/-- more behind a row, out of whatever source -/
theorem RowE.pushes (t : ElT P E T S bytes) {w : World} {B : Nat} {v : Value} {xs : List α} (a : RowE E T w B v xs) (hB : B ≤ w.heap.size) (ys : List α) (src : Addr) (n cc : Nat) (hn : n = ys.length)
    (hsrc : ∀ j u, (flatE E ys)[j]? = some u → w.cell? (src.add j) = some u) (hl : (xs.length + ys.length) * bytes ≤ 140737488355328) (hl2 : xs.length + ys.length ≤ 4611686018427387904) :
    ∃ v' w', (Builtin.append_ #[S, S] S #[v, .slice (some src) n cc]).run P w = .ok v' w' ∧ RowE E T w' B v' (xs ++ ys) ∧ w.grownBy w' v.ownBlock ∧ (v'.ownBlock = v.ownBlock ∨ ∀ q, v'.ownBlock = some q → w.heap.size ≤ q) ∧
      (∀ b j, b < w.heap.size → (some b ≠ v.ownBlock ∨ j < xs.length * E.k) → w'.cell? ⟨b, j, none⟩ = w.cell? ⟨b, j, none⟩) := by
  subst hn
  obtain ⟨i0, z0, hi1, hi2, hi3, hi4, hi5⟩ := t.info
  have hp := E.pos
  have hf : flatE E (xs ++ ys) = flatE E xs ++ flatE E ys := flatE_append xs ys
  have hml : xs.length + ys.length ≤ maxLen := by unfold maxLen; omega
  have grow : ∀ cap g, cap < xs.length + ys.length → (∀ j u, (flatE E xs)[j]? = some u → w.cell? ((⟨g, 0, none⟩ : Addr).add j) = some u) → ∀ row, ∃ v' w', (Builtin.append_ #[S, S] S #[.slice (some ⟨g, 0, none⟩) xs.length cap, .slice (some src) ys.length cc]).run P w = .ok v' w' ∧ RowE E T w' B v' (xs ++ ys) ∧ w.grownBy w' row ∧ (∀ q, v'.ownBlock = some q → w.heap.size ≤ q) ∧ (∀ b, b < w.heap.size → w'.heap[b]? = w.heap[b]?) := by
    intro cap g hcap hc row
    obtain ⟨v', w', hr, ho, hg⟩ := run_append_arg_grows (P := P) w S S T i0 z0 E.k bytes t.und hi1 hi2 hi4 hi5 hi3 hp ⟨g, 0, none⟩ xs.length cap (flatE E xs) (flatE_length xs) hc src ys.length cc (flatE E ys) (flatE_length ys) hsrc hcap hml hl
    have hrow := RowE.of_own (E := E) (xs := xs ++ ys) (by rw [hf]; exact ho) (by simp)
    exact ⟨v', w', hr, hrow.low hB, ⟨hg.os, hg.tape, hg.output, hg.size, fun k hk _ => hg.block k hk (by simp)⟩, fun q hq => (hrow.type hq).1, fun b hb => hg.block b hb (by simp)⟩
  rcases a with ⟨rfl, rfl⟩ | ⟨g, cap, cur, rfl, hg, hh, hn, hm, hs, ht⟩
  · obtain ⟨v', w', hr, ho, hg, _⟩ := run_append_own (P := P) w w.heap.size S S T i0 z0 E.k bytes t.und hi1 hi2 hi4 hi5 hi3 hp (.slice none 0 0) 0 [] ⟨by simp, .inl ⟨rfl, rfl⟩⟩ src ys.length cc (flatE E ys) (flatE_length ys) hsrc (fun u hu => flatE_one u hu) (by simp at hml; omega) (by simpa using hl) (Nat.le_refl _)
    have hrow := RowE.of_own (E := E) (xs := [] ++ ys) (by simpa using ho) (by simp)
    refine ⟨v', w', hr, hrow.low hB, hg, .inr fun q hq => (hrow.type hq).1, fun b j hb _ => ?_⟩
    simp only [World.cell?, hg.block b hb (by intro h; cases h)]
  · by_cases hc : xs.length + ys.length ≤ cap
    · have hmul : (xs.length + ys.length) * E.k ≤ cap * E.k := Nat.mul_le_mul_right _ hc
      have hr := run_append_room (P := P) w S S T i0 t.und hi1 g xs.length cap cur hh src ys.length cc (flatE E ys) (by rw [hi4, flatE_length]) hsrc (fun u hu => flatE_one u hu) hc (by rw [hi4, flatE_length, ← Nat.add_mul]; omega)
      have hcl : cur.toList.length = cur.size := by simp
      have hx2 : xs.length * E.k ≤ cur.toList.length := by have : xs.length * E.k ≤ cap * E.k := Nat.mul_le_mul_right _ hn; omega
      have htake : ∀ n, n ≤ xs.length * E.k → (cur.toList.take (xs.length * i0.size) ++ flatE E ys ++ cur.toList.drop (xs.length * i0.size + (flatE E ys).length)).take n = cur.toList.take n := fun n hn => by
        rw [hi4, List.append_assoc, List.take_append_of_le_length (by rw [List.length_take]; omega), List.take_take, Nat.min_eq_left hn]
      refine ⟨_, _, hr, .inr ⟨g, cap, _, by simp, hg, setRow_heap _ _ _ _ _ _ hh, by simpa using hc, hm, ?_, ?_⟩, ⟨rfl, rfl, rfl, by simp, fun k _ hne => setRow_other w g k _ (fun e => hne (by rw [e]; rfl))⟩, .inl rfl, fun b j hb hbj => ?_⟩
      · simp only [List.size_toArray, List.length_append, List.length_take, List.length_drop, flatE_length, hi4]
        rw [← Nat.add_mul, Nat.min_eq_left hx2, Nat.add_mul]
        rw [Nat.add_mul] at hmul
        omega
      · rw [hi4, hf, ← ht, List.length_append]
        rw [List.append_assoc, List.take_append, List.take_of_length_le (by rw [List.length_take, Nat.add_mul]; omega)]
        congr 1
        have h6 : (xs.length + ys.length) * E.k - (cur.toList.take (xs.length * E.k)).length = (flatE E ys).length := by rw [List.length_take, Nat.min_eq_left hx2, flatE_length, Nat.add_mul]; omega
        rw [h6, List.take_left]
      · by_cases hbg : b = g
        · subst hbg
          have hj : j < xs.length * E.k := hbj.elim (fun h => absurd rfl h) id
          rw [cell_of_row _ _ _ _ _ _ (setRow_heap _ _ _ _ _ _ hh), cell_of_row _ _ _ _ _ _ hh]
          have := congrArg (·[j]?) (htake (j + 1) (by omega))
          simp only [List.getElem?_take_of_lt (Nat.lt_succ_self j)] at this
          simpa using this
        · simp only [World.cell?, setRow_other w g b _ hbg]
    · obtain ⟨v', w', hr, ho, hg', hq, hbk⟩ := grow cap g (by omega) (fun j u hu => by
        rw [addr_add, cell_of_row _ _ _ _ _ _ hh]
        rw [← ht, List.getElem?_take] at hu
        split at hu
        · simpa using hu
        · cases hu) (Value.slice (some ⟨g, 0, none⟩) xs.length cap).ownBlock
      exact ⟨v', w', hr, ho, hg', .inr hq, fun b j hb _ => by simp only [World.cell?, hbk b hb]⟩
/-- one more behind a row -/
theorem RowE.push (t : ElT P E T S bytes) {w : World} {B : Nat} {v : Value} {xs : List α} (a : RowE E T w B v xs) (hB : B ≤ w.heap.size) (x : α) (b cc : Nat) (cs : Array Value) {fr : Nat × Nat} (hcs : cs = (E.enc x).toArray) (hx : w.heap[b]? = some (.cells cs T fr)) (hl : (xs.length + 1) * bytes ≤ 140737488355328) (hl2 : xs.length + 1 ≤ 4611686018427387904) :
    ∃ v' w', (Builtin.append_ #[S, S] S #[v, .slice (some ⟨b, 0, none⟩) 1 cc]).run P w = .ok v' w' ∧ RowE E T w' B v' (xs ++ [x]) ∧ w.grownBy w' v.ownBlock ∧ (v'.ownBlock = v.ownBlock ∨ ∀ q, v'.ownBlock = some q → w.heap.size ≤ q) ∧
      (∀ b j, b < w.heap.size → (some b ≠ v.ownBlock ∨ j < xs.length * E.k) → w'.cell? ⟨b, j, none⟩ = w.cell? ⟨b, j, none⟩) := by
  subst hcs
  refine a.pushes t hB [x] ⟨b, 0, none⟩ 1 cc rfl (fun j u hu => ?_) (by simpa using hl) (by simpa using hl2)
  rw [addr_add, cell_of_row _ _ _ _ _ _ hx, Nat.zero_add]
  simpa [flatE] using hu
/-- whole lists behind a row -/
theorem RowE.pushAll (t : ElT P E T S bytes) {w : World} {B : Nat} {v u : Value} {xs ys : List α} (a : RowE E T w B v xs) (hB : B ≤ w.heap.size) (h : ReadsE E w u ys) (hl : (xs.length + ys.length) * bytes ≤ 140737488355328) (hl2 : xs.length + ys.length ≤ 4611686018427387904) (hv : ∀ ao cap, u = .slice ao 0 cap → (Builtin.append_ #[S, S] S #[v, u]).run P w = .ok v w) :
    ∃ v' w', (Builtin.append_ #[S, S] S #[v, u]).run P w = .ok v' w' ∧ RowE E T w' B v' (xs ++ ys) ∧ w.grownBy w' v.ownBlock ∧ (v'.ownBlock = v.ownBlock ∨ ∀ q, v'.ownBlock = some q → w.heap.size ≤ q) ∧
      (∀ b j, b < w.heap.size → (some b ≠ v.ownBlock ∨ j < xs.length * E.k) → w'.cell? ⟨b, j, none⟩ = w.cell? ⟨b, j, none⟩) := by
  obtain ⟨ao, cap, rfl⟩ := h.slice
  by_cases h0 : ys.length = 0
  · have he := List.length_eq_zero_iff.1 h0
    subst he
    refine ⟨v, w, hv _ _ rfl, by simpa using a, ⟨rfl, rfl, rfl, Nat.le_refl _, fun _ _ _ => rfl⟩, .inl rfl, fun _ _ _ _ => rfl⟩
  · obtain ⟨g, o, rfl, _⟩ := h.at (List.getElem?_eq_getElem (i := 0) (by omega))
    exact a.pushes t hB ys _ _ cap rfl h.cells hl hl2

/-! ### '==' of structs of whole numbers -/
def fieldRow (P : Program) (f : Field) : Bool × Bool × Bool × Nat := (f.name == "_", P.plainKey f.type, (match P.underlying f.type with | some (.int .i64) => true | _ => false), f.offset)
theorem eqFields_ints (w : World) (d : Nat) (xs ys : Array Value) : ∀ (fs : List Field) (ls ms : List Int) (o : Nat), fs.map (fieldRow P) = (List.range' o fs.length).map (fun i => (false, true, true, i)) → ls.length = fs.length → ms.length = fs.length →
    (∀ i a, ls[i]? = some a → xs[o + i]? = some (.int .i64 a)) → (∀ i b, ms[i]? = some b → ys[o + i]? = some (.int .i64 b)) → (Op.eqFields (d + 1) xs ys fs).run P w = .ok (decide (ls = ms)) w
  | [], ls, ms, o, _, ha, hb, _, _ => by
    obtain rfl := List.length_eq_zero_iff.1 ha
    obtain rfl := List.length_eq_zero_iff.1 hb
    simp [Op.eqFields]
  | f :: fs, ls, ms, o, hf, ha, hb, hx, hy => by
    obtain ⟨a, ls, rfl⟩ : ∃ a ls', ls = a :: ls' := by cases ls with | nil => simp at ha | cons a ls => exact ⟨a, ls, rfl⟩
    obtain ⟨b, ms, rfl⟩ : ∃ b ms', ms = b :: ms' := by cases ms with | nil => simp at hb | cons b ms => exact ⟨b, ms, rfl⟩
    simp only [List.map_cons, List.length_cons, List.range'_succ, List.cons.injEq] at hf
    obtain ⟨h1, h2⟩ := hf
    simp only [fieldRow, Prod.mk.injEq] at h1
    obtain ⟨e1, e2, e3, e4⟩ := h1
    have hu : P.underlying f.type = some (.int .i64) := by
      revert e3
      split
      · next h => intro _; exact h
      · intro h; cases h
    have hn : f.name ≠ "_" := by simpa using e1
    have ih := eqFields_ints w d xs ys fs ls ms (o + 1) h2 (by simpa using ha) (by simpa using hb) (fun i a h => by have := hx (i + 1) a (by simpa using h); rwa [show o + (i + 1) = o + 1 + i by omega] at this) (fun i a h => by have := hy (i + 1) a (by simpa using h); rwa [show o + (i + 1) = o + 1 + i by omega] at this)
    have p1 := run_part_plain (P := P) w e2 (off := f.offset) (by rw [e4]; exact hx 0 a rfl)
    have p2 := run_part_plain (P := P) w e2 (off := f.offset) (by rw [e4]; exact hy 0 b rfl)
    have p3 : (Op.equalIn (d + 1) f.type (.int .i64 a) (.int .i64 b)).run P w = .ok (a == b) w := run_equalIn_int w d _ _ _ _ _ hu
    simp only [Op.eqFields, hn, ne_eq, not_false_eq_true, if_true, Sem.run_bind, p1, p2, p3, Result.andThen_ok]
    by_cases hab : a = b
    · subst hab
      simp [ih]
    · simp [hab]
theorem eqStruct_ints (w : World) (T : TypeId) (n : Nat) (ls ms : List Int) (ht : P.underlying T = some (.struct (P.fieldsOf T))) (hp : P.stoodInHeld T = false) (hf : (P.fieldsOf T).toList.map (fieldRow P) = (List.range' 0 n).map (fun i => (false, true, true, i))) (ha : ls.length = n) (hb : ms.length = n) :
    (Op.equalIn 10000 T (.agg (ls.map (Value.int .i64)).toArray) (.agg (ms.map (Value.int .i64)).toArray)).run P w = .ok (decide (ls = ms)) w := by
  rw [run_equalIn_struct w 9999 T _ _ ht hp]
  have hlen : (P.fieldsOf T).toList.length = n := by have := congrArg List.length hf; simpa using this
  exact eqFields_ints w 9998 _ _ _ ls ms 0 (by rw [hlen]; exact hf) (by omega) (by omega) (fun i a h => by simp [h]) (fun i a h => by simp [h])
end
end Go.Proofs.Ytkhhkbigpaoinaa
