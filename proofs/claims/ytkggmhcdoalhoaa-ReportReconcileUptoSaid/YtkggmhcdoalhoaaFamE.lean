/- lists that lie apart: what the kit's Apart functions keep, in plain Lean, for elements of whatever kind. -/
import Derived.Test.YtkggmhcdoalhoaaRowE
namespace Go.Proofs.Ytkggmhcdoalhoaa
set_option linter.unusedVariables false
set_option linter.unusedSimpArgs false
open Go.RowKit

section
variable {α : Type} {E : Enc α} {T : TypeId}
def marksK (mk : Int → Int → α) (k n : Nat) : List α := (List.range n).map fun i : Nat => mk k i
theorem marksK_len (mk : Int → Int → α) (k n : Nat) : (marksK mk k n).length = n := by simp [marksK]
theorem marksK_succ (mk : Int → Int → α) (k n : Nat) : marksK mk k (n + 1) = marksK mk k n ++ [mk k n] := by simp [marksK, List.range_succ]
theorem marksK_at (mk : Int → Int → α) (k n i : Nat) (h : i < n) : (marksK mk k n)[i]? = some (mk k i) := by simp [marksK, h]
theorem marksK_take (mk : Int → Int → α) (k n m : Nat) (h : m ≤ n) : (marksK mk k n).take m = marksK mk k m := by
  apply List.ext_getElem?
  intro i
  rw [List.getElem?_take]
  by_cases hi : i < m
  · rw [if_pos hi, marksK_at mk k n i (by omega), marksK_at mk k m i hi]
  · rw [if_neg hi]
    exact (List.getElem?_eq_none (by rw [marksK_len]; omega)).symm
theorem heap_setCells_same (t : TypeId) (b : Nat) : ∀ (vs : List Value) (o : Nat) (w : World) (cs : Array Value), w.heap[b]? = some (.cells cs t (0, 0)) → o + vs.length ≤ cs.size →
    (w.setCells b o vs).heap[b]? = some (.cells (cs.toList.take o ++ vs ++ cs.toList.drop (o + vs.length)).toArray t (0, 0))
  | [], o, w, cs, h, hl => by
    simp only [World.setCells, List.append_nil, List.length_nil, Nat.add_zero, List.take_append_drop]
    exact h
  | v :: vs, o, w, cs, h, hl => by
    simp only [List.length_cons] at hl
    have h1 := heap_setCell_same w b o cs t v h
    have ih := heap_setCells_same t b vs (o + 1) _ _ h1 (by simp; omega)
    rw [World.setCells, ih]
    congr 2
    have hlt : o < cs.toList.length := by simp; omega
    simp only [Array.toList_setIfInBounds]
    congr 1
    rw [List.take_set, List.drop_set_of_lt (by omega)]
    rw [List.take_succ_eq_append_getElem hlt, List.set_append_right _ _ (by rw [List.length_take]; omega)]
    have e : o - (List.take o cs.toList).length = 0 := by rw [List.length_take]; omega
    rw [e]
    simp only [List.set_cons_zero, List.append_assoc, List.cons_append, List.nil_append, List.length_cons]
    congr 4
    omega
theorem heap_setCells_other (b : Nat) : ∀ (vs : List Value) (o : Nat) (w : World) (k : Nat), k ≠ b → (w.setCells b o vs).heap[k]? = w.heap[k]?
  | [], _, _, _, _ => rfl
  | v :: vs, o, w, k, h => by rw [World.setCells, heap_setCells_other b vs _ _ k h, heap_setCell_other _ _ _ _ h]
theorem setCells_grown (w : World) (b : Nat) : ∀ (vs : List Value) (o : Nat) (w1 : World), w.grownBy w1 (some b) → w.grownBy (w1.setCells b o vs) (some b)
  | [], _, _, h => h
  | v :: vs, o, w1, h => by
    rw [World.setCells]
    refine setCells_grown w b vs _ _ ⟨h.os, h.tape, h.output, by simpa using h.size, fun k hk hne => ?_⟩
    rw [heap_setCell_other _ _ _ _ (fun e => hne (by rw [e]))]
    exact h.block k hk hne
/-- an element stored into a row -/
theorem RowE.put {w : World} {B g n cap : Nat} {xs : List α} (a : RowE E T w B (.slice (some ⟨g, 0, none⟩) n cap) xs) (i : Nat) (hi : i < xs.length) (x : α) :
    RowE E T (w.setCells g (i * E.k) (E.enc x)) B (.slice (some ⟨g, 0, none⟩) n cap) (xs.set i x) ∧ w.grownBy (w.setCells g (i * E.k) (E.enc x)) (some g) ∧ w.there g (i * E.k) E.k ∧ n = xs.length := by
  rcases a with ⟨h1, _⟩ | ⟨g', cap', cur, h1, hg, hh, hn, hm, hs, ht⟩
  · cases h1
  · injection h1 with h1 h2 h3
    injection h1 with h1
    injection h1 with h1
    subst h1
    subst h2
    subst h3
    have hik : (i + 1) * E.k ≤ xs.length * E.k := Nat.mul_le_mul_right _ hi
    have hnk : xs.length * E.k ≤ cap * E.k := Nat.mul_le_mul_right _ hn
    rw [Nat.add_mul, Nat.one_mul] at hik
    have hs1 := heap_setCells_same T g (E.enc x) (i * E.k) w cur hh (by rw [E.len]; omega)
    have hcl : cur.toList.length = cur.size := by simp
    refine ⟨.inr ⟨g, cap, _, by rw [List.length_set], hg, hs1, by rw [List.length_set]; exact hn, hm, ?_, ?_⟩, setCells_grown w g _ _ w ⟨rfl, rfl, rfl, Nat.le_refl _, fun _ _ _ => rfl⟩, fun j hj => ⟨?_, by simp [World.frozen?, hh]⟩, rfl⟩
    · simp only [List.size_toArray, List.length_append, List.length_take, List.length_drop, E.len]
      omega
    · rw [List.length_set]
      have hset : flatE E (xs.set i x) = flatE E (xs.take i) ++ E.enc x ++ flatE E (xs.drop (i + 1)) := by
        rw [List.set_eq_take_append_cons_drop, if_pos hi, flatE_append, flatE_cons, List.append_assoc]
      rw [hset, flatE_take, flatE_drop, ← ht]
      simp only [E.len]
      have e1 : (cur.toList.take (i * E.k) ++ E.enc x ++ cur.toList.drop (i * E.k + E.k)).take (xs.length * E.k) = cur.toList.take (i * E.k) ++ E.enc x ++ (cur.toList.drop (i * E.k + E.k)).take (xs.length * E.k - (i * E.k + E.k)) := by
        rw [List.take_append, List.take_of_length_le (by rw [List.length_append, List.length_take, E.len]; omega)]
        congr 2
        rw [List.length_append, List.length_take, E.len]
        omega
      rw [e1, List.take_take, Nat.min_eq_left (by omega), List.drop_take]
      congr 2
      · rw [Nat.add_mul, Nat.one_mul]
      · rw [Nat.add_mul, Nat.one_mul]
    · rw [cell_of_row _ _ _ _ _ _ hh, Array.getElem?_eq_getElem (by omega)]
      rfl
theorem ReadsE.frame {w w' : World} {v : Value} {xs : List α} {B : Nat} (h : ReadsE E w v xs) (hv : RowE E T w B v xs ∨ ∃ n, ∃ ys : List α, n ≤ ys.length ∧ RowE E T w B v ys) (hk : ∀ b j, b < w.heap.size → v.ownBlock = some b → w'.cell? ⟨b, j, none⟩ = w.cell? ⟨b, j, none⟩) : ReadsE E w' v xs := by
  obtain ⟨hl, ao, cap, hv', hr⟩ := h
  refine ⟨hl, ao, cap, hv', fun i x hx => ?_⟩
  obtain ⟨g, o, hg, hc⟩ := hr i x hx
  refine ⟨g, o, hg, fun j u hu => ?_⟩
  have ho : v.ownBlock = some g := by rw [hv', hg]; rfl
  rw [hk g _ (rangeE_lt hc) ho]
  exact hc j u hu
/-- reads as the first n of what lies at the head of a block -/
def HeadE (E : Enc α) (w : World) (v : Value) (xs : List α) : Prop := xs.length < 4611686018427387904 ∧ ∃ ao cap, v = .slice ao xs.length cap ∧ ∀ (i : Nat) (x : α), xs[i]? = some x → ∃ g, ao = some ⟨g, 0, none⟩ ∧ w.rangeAt g (i * E.k) (E.enc x)
theorem HeadE.reads {w : World} {v : Value} {xs : List α} (h : HeadE E w v xs) : ReadsE E w v xs := by
  obtain ⟨hl, ao, cap, hv, hr⟩ := h
  refine ⟨hl, ao, cap, hv, fun i x hx => ?_⟩
  obtain ⟨g, hg, hc⟩ := hr i x hx
  exact ⟨g, 0, hg, by rw [Nat.zero_add]; exact hc⟩
theorem HeadE.frame {w w' : World} {v : Value} {xs : List α} (h : HeadE E w v xs) (hk : ∀ b j, b < w.heap.size → v.ownBlock = some b → j < xs.length * E.k → w'.cell? ⟨b, j, none⟩ = w.cell? ⟨b, j, none⟩) : HeadE E w' v xs := by
  obtain ⟨hl, ao, cap, hv, hr⟩ := h
  refine ⟨hl, ao, cap, hv, fun i x hx => ?_⟩
  obtain ⟨g, hg, hc⟩ := hr i x hx
  have hi := (List.getElem?_eq_some_iff.1 hx).1
  refine ⟨g, hg, fun j u hu => ?_⟩
  have hj := (List.getElem?_eq_some_iff.1 hu).1
  rw [E.len] at hj
  have hm : (i + 1) * E.k ≤ xs.length * E.k := Nat.mul_le_mul_right _ hi
  rw [Nat.add_mul, Nat.one_mul] at hm
  rw [hk g _ (rangeE_lt hc) (by rw [hv, hg]; rfl) (by omega)]
  exact hc j u hu
theorem HeadE.kept {w w' : World} {v : Value} {xs : List α} (h : HeadE E w v xs) (hk : ∀ k, k < w.heap.size → w'.heap[k]? = w.heap[k]?) : HeadE E w' v xs := h.frame fun b j hb _ _ => cell_kept (hk b hb)
theorem RowE.head {w : World} {B : Nat} {v : Value} {xs : List α} (a : RowE E T w B v xs) (hl : xs.length < 4611686018427387904) : HeadE E w v xs := by
  obtain ⟨_, ao, cap, hv, hr⟩ := a.reads hl
  refine ⟨hl, ao, cap, hv, fun i x hx => ?_⟩
  obtain ⟨g, o, hg, hc⟩ := hr i x hx
  have ho : o = 0 := by
    rcases a with ⟨h1, rfl⟩ | ⟨g', cap', cur, h1, _⟩
    · simp at hx
    · rw [hv] at h1
      injection h1 with h1
      rw [hg] at h1
      injection h1 with h1
      injection h1
  subst ho
  exact ⟨g, hg, by rw [Nat.zero_add] at hc; exact hc⟩
/-- N rows that lie apart: GF j holds C j; vs j is the same row or lies apart from all others, and reads as the first ns j of them -/
structure FamE (E : Enc α) (T : TypeId) (w : World) (N : Nat) (vs GF : Nat → Value) (C : Nat → List α) (ns : Nat → Nat) : Prop where
  row : ∀ j, j < N → RowE E T w 0 (GF j) (C j)
  le : ∀ j, j < N → ns j ≤ (C j).length
  reads : ∀ j, j < N → HeadE E w (vs j) ((C j).take (ns j))
  lt : ∀ j q, j < N → (vs j).ownBlock = some q → q < w.heap.size
  apart : ∀ j j' q, j < N → j' < N → ((vs j).ownBlock = some q ∨ (GF j).ownBlock = some q) → ((vs j').ownBlock = some q ∨ (GF j').ownBlock = some q) → j = j'
variable {w w' : World} {N : Nat} {vs GF : Nat → Value} {C : Nat → List α} {ns : Nat → Nat}
theorem FamE.kept (a : FamE E T w N vs GF C ns) (hk : ∀ k, k < w.heap.size → w'.heap[k]? = w.heap[k]?) : FamE E T w' N vs GF C ns :=
  ⟨fun j hj => (a.row j hj).kept hk, a.le, fun j hj => (a.reads j hj).kept hk, fun j q hj h => (by
    have := a.lt j q hj h
    rcases Nat.lt_or_ge q w'.heap.size with h1 | h1
    · exact h1
    · have h2 := hk q this
      rw [Array.getElem?_eq_none h1, Array.getElem?_eq_getElem this] at h2
      cases h2), a.apart⟩
theorem FamE.below (a : FamE E T w N vs GF C ns) (hb : Below w.heap.size w w') : FamE E T w' N vs GF C ns := a.kept hb.block
theorem FamE.form (a : FamE E T w N vs GF C ns) {j : Nat} (hj : j < N) : ∃ ra rc, vs j = .slice ra (ns j) rc := by
  obtain ⟨_, ao, cap, hv, _⟩ := a.reads j hj
  have := a.le j hj
  exact ⟨ao, cap, by rw [hv, List.length_take]; congr 1; omega⟩
theorem FamE.grown {row : Option Nat} (a : FamE E T w N vs GF C ns) (hg : w.grownBy w' row) (h1 : ∀ j q, j < N → (vs j).ownBlock = some q → row ≠ some q) (h2 : ∀ j q, j < N → (GF j).ownBlock = some q → row ≠ some q) : FamE E T w' N vs GF C ns :=
  ⟨fun j hj => (a.row j hj).congr fun k cs hk ho => hg.block k (lt_of_block hk) (fun e => h2 j k hj ho e.symm), a.le, fun j hj => (a.reads j hj).frame fun b m hb ho _ => (by simp only [World.cell?, hg.block b hb (fun e => h1 j b hj ho e.symm)]), fun j q hj h => Nat.lt_of_lt_of_le (a.lt j q hj h) hg.size, a.apart⟩
/-- what may have turned: the rows' blocks, and new ones -/
structure Wrote (w w' : World) (S : Nat → Prop) : Prop where
  os : w'.os = w.os
  tape : w'.tape = w.tape
  output : w'.output = w.output
  size : w.heap.size ≤ w'.heap.size
  block : ∀ k, k < w.heap.size → ¬ S k → w'.heap[k]? = w.heap[k]?
theorem Wrote.refl (w : World) (S : Nat → Prop) : Wrote w w S := ⟨rfl, rfl, rfl, Nat.le_refl _, fun _ _ _ => rfl⟩
theorem Wrote.below {w w1 w2 : World} {S : Nat → Prop} (a : Wrote w w1 S) (b : Below w1.heap.size w1 w2) : Wrote w w2 S := ⟨b.os.trans a.os, b.tape.trans a.tape, b.output.trans a.output, Nat.le_trans a.size b.size, fun k hk hS => (b.block k (Nat.lt_of_lt_of_le hk a.size)).trans (a.block k hk hS)⟩
theorem Wrote.grown {w w1 w2 : World} {S : Nat → Prop} {row : Option Nat} (a : Wrote w w1 S) (b : w1.grownBy w2 row) (hr : ∀ q, row = some q → S q ∨ w.heap.size ≤ q) : Wrote w w2 S := ⟨b.os.trans a.os, b.tape.trans a.tape, b.output.trans a.output, Nat.le_trans a.size b.size, fun k hk hS => (b.block k (Nat.lt_of_lt_of_le hk a.size) (fun e => by
  rcases hr k e.symm with h1 | h1
  · exact hS h1
  · omega)).trans (a.block k hk hS)⟩
/-- a mark is written into row k -/
theorem FamE.put {k g cap : Nat} (a : FamE E T w N vs vs C ns) (hl : ∀ j, j < N → (C j).length = ns j) (hs : ∀ j, j < N → ns j < 4611686018427387904) (hk : k < N) (hv : vs k = .slice (some ⟨g, 0, none⟩) (ns k) cap) (i : Nat) (hi : i < ns k) (x : α) :
    FamE E T (w.setCells g (i * E.k) (E.enc x)) N vs vs (fun j => if j = k then (C k).set i x else C j) ns ∧ w.grownBy (w.setCells g (i * E.k) (E.enc x)) (some g) ∧ w.there g (i * E.k) E.k := by
  have h0 := a.row k hk
  rw [hv] at h0
  obtain ⟨h1, h2, h3, _⟩ := h0.put i (by rw [hl k hk]; exact hi) x
  have hrow : ∀ j, j < N → RowE E T (w.setCells g (i * E.k) (E.enc x)) 0 (vs j) (if j = k then (C k).set i x else C j) := fun j hj => by
    by_cases e : j = k
    · subst e; rw [if_pos rfl, hv]; exact h1
    · rw [if_neg e]
      refine (a.row j hj).congr fun b cs hb ho => h2.block b (lt_of_block hb) fun e' => e ?_
      injection e' with e'
      exact a.apart j k b hj hk (.inl ho) (.inl (by rw [hv, e']; rfl))
  have hlen : ∀ j, j < N → (if j = k then (C k).set i x else C j).length = ns j := fun j hj => by
    split
    · next e => subst e; rw [List.length_set]; exact hl j hj
    · exact hl j hj
  refine ⟨⟨hrow, fun j hj => Nat.le_of_eq (hlen j hj).symm, fun j hj => ?_, fun j q hj ho => ?_, a.apart⟩, h2, h3⟩
  · rw [List.take_of_length_le (Nat.le_of_eq (hlen j hj))]
    exact (hrow j hj).head (by rw [hlen j hj]; exact hs j hj)
  · obtain ⟨_, cs, hc⟩ := (hrow j hj).type ho
    exact lt_of_block hc
/-- a mark behind row k -/
theorem FamE.push {k : Nat} (a : FamE E T w N vs GF C ns) (hk : k < N) {v' : Value} {x : α} (hR : RowE E T w' 0 v' (C k ++ [x])) (hg : w.grownBy w' (GF k).ownBlock) (ho : v'.ownBlock = (GF k).ownBlock ∨ ∀ q, v'.ownBlock = some q → w.heap.size ≤ q)
    (hc : ∀ b j, b < w.heap.size → (some b ≠ (GF k).ownBlock ∨ j < (C k).length * E.k) → w'.cell? ⟨b, j, none⟩ = w.cell? ⟨b, j, none⟩) :
    FamE E T w' N vs (fun j => if j = k then v' else GF j) (fun j => if j = k then C k ++ [x] else C j) ns := by
  have hcls : ∀ j q, j < N → ((if j = k then v' else GF j).ownBlock = some q) → (GF j).ownBlock = some q ∨ w.heap.size ≤ q ∧ j = k := fun j q hj h => by
    by_cases e : j = k
    · subst e
      rw [if_pos rfl] at h
      rcases ho with h1 | h1
      · exact .inl (h1 ▸ h)
      · exact .inr ⟨h1 q h, rfl⟩
    · rw [if_neg e] at h
      exact .inl h
  have hvlt := a.lt
  have hglt : ∀ j q, j < N → (GF j).ownBlock = some q → q < w.heap.size := fun j q hj h => by
    obtain ⟨_, cs, hc⟩ := (a.row j hj).type h
    exact lt_of_block hc
  refine ⟨fun j hj => ?_, fun j hj => ?_, fun j hj => ?_, fun j q hj h => ?_, fun j j' q hj hj' h h' => ?_⟩
  · by_cases e : j = k
    · subst e; simp only [if_pos]; exact hR
    · simp only [if_neg e]
      refine (a.row j hj).congr fun b cs hb hob => hg.block b (lt_of_block hb) fun e' => e ?_
      exact a.apart j k b hj hk (.inr hob) (.inr e'.symm)
  · have := a.le j hj
    by_cases e : j = k
    · subst e; simp only [if_pos, List.length_append]; omega
    · simp only [if_neg e]; exact this
  · have h1 : (if j = k then C k ++ [x] else C j).take (ns j) = (C j).take (ns j) := by
      by_cases e : j = k
      · subst e; rw [if_pos rfl, List.take_append_of_le_length (a.le j hj)]
      · rw [if_neg e]
    simp only [h1]
    refine (a.reads j hj).frame fun b m hb hob hm => hc b m hb ?_
    by_cases e : j = k
    · subst e
      refine .inr (Nat.lt_of_lt_of_le hm (Nat.mul_le_mul_right _ ?_))
      rw [List.length_take]
      omega
    · exact .inl fun e' => e (a.apart j k b hj hk (.inl hob) (.inr e'.symm))
  · exact Nat.lt_of_lt_of_le (a.lt j q hj h) hg.size
  · rcases h with h | h <;> rcases h' with h' | h'
    · exact a.apart j j' q hj hj' (.inl h) (.inl h')
    · rcases hcls j' q hj' h' with h1 | ⟨h1, _⟩
      · exact a.apart j j' q hj hj' (.inl h) (.inr h1)
      · have := hvlt j q hj h; omega
    · rcases hcls j q hj h with h1 | ⟨h1, _⟩
      · exact a.apart j j' q hj hj' (.inr h1) (.inl h')
      · have := hvlt j' q hj' h'; omega
    · rcases hcls j q hj h with h1 | ⟨h1, e1⟩ <;> rcases hcls j' q hj' h' with h2 | ⟨h2, e2⟩
      · exact a.apart j j' q hj hj' (.inr h1) (.inr h2)
      · have := hglt j q hj h1; omega
      · have := hglt j' q hj' h2; omega
      · omega
end
end Go.Proofs.Ytkggmhcdoalhoaa
