/- prio: lists of pairs that lie apart: what ApartTwos keeps, in plain Lean; its mark by contract. -/
import Derived.Test.YtffioombjejchaaPrioS
namespace Go.Proofs.Ytffioombjejchaa
set_option linter.unusedVariables false
set_option linter.unusedSimpArgs false
open Go.RowKit
attribute [local irreducible] Go.wpStill

def mark (k i : Nat) : Pair := (-10 - (k : Int), (i : Int))
def marks (k n : Nat) : List Pair := (List.range n).map (mark k)
theorem marks_len (k n : Nat) : (marks k n).length = n := by simp [marks]
theorem marks_succ (k n : Nat) : marks k (n + 1) = marks k n ++ [mark k n] := by simp [marks, List.range_succ]
theorem marks_at (k n i : Nat) (h : i < n) : (marks k n)[i]? = some (mark k i) := by simp [marks, h]
theorem marks_take (k n m : Nat) (h : m ≤ n) : (marks k n).take m = marks k m := by
  apply List.ext_getElem?
  intro i
  rw [List.getElem?_take]
  by_cases hi : i < m
  · rw [if_pos hi, marks_at k n i (by omega), marks_at k m i hi]
  · rw [if_neg hi]
    exact (List.getElem?_eq_none (by rw [marks_len]; omega)).symm
set_option maxRecDepth 100000 in
theorem mark_any (k i : Nat) (w : World) (hk : k ≤ 140737488351232) :
    Calls Try.prog 45 #[.int .i64 k, .int .i64 i] w fun e w' => e = .returned (pairV (mark k i)) ∧ Below w.heap.size w w' := by
  go_enter Try.func45, Try.ntmps45
  go_wp2_with fail
  exact bodyPost_ret (v := .agg #[.int .i64 (-10 - (k : Int)), .int .i64 i]) (results_cell_row rfl _ _ w.heap.size 25 _ (0, 0) _ rfl (heap_alloc_new w _) Try.underlying25 rfl (by kernel_rfl)) rfl ⟨rfl, (Below.refl _ _).alloc (Nat.le_refl _) _⟩
theorem flatT_set (ps : List Pair) (i : Nat) (x : Pair) : flatT (ps.set i x) = if i < ps.length then ((flatT ps).set (i * 2) (.int .i64 x.1)).set (i * 2 + 1) (.int .i64 x.2) else flatT ps := by
  induction ps generalizing i with
  | nil => simp
  | cons p ps ih =>
    have e1 : ∀ q : Pair, ∀ l : List Pair, flatT (q :: l) = .int .i64 q.1 :: .int .i64 q.2 :: flatT l := fun q l => rfl
    cases i with
    | zero => simp [e1]
    | succ i =>
      rw [List.set_cons_succ, e1, ih, e1]
      by_cases h : i < ps.length
      · rw [if_pos h, if_pos (by simp; omega), show (i + 1) * 2 = i * 2 + 1 + 1 from by omega, List.set_cons_succ, List.set_cons_succ, List.set_cons_succ, List.set_cons_succ]
      · rw [if_neg h, if_neg (by simp; omega)]
/-- a pair stored into a row -/
theorem RowT.put {w : World} {B g n cap : Nat} {ps : List Pair} (a : RowT w B (.slice (some ⟨g, 0, none⟩) n cap) ps) (i : Nat) (hi : i < ps.length) (x : Pair) :
    RowT ((w.setCell ⟨g, i * 2, none⟩ (.int .i64 x.1)).setCell ⟨g, i * 2 + 1, none⟩ (.int .i64 x.2)) B (.slice (some ⟨g, 0, none⟩) n cap) (ps.set i x) ∧ w.grownBy ((w.setCell ⟨g, i * 2, none⟩ (.int .i64 x.1)).setCell ⟨g, i * 2 + 1, none⟩ (.int .i64 x.2)) (some g) ∧
      (∃ u, w.cell? ⟨g, i * 2, none⟩ = some u) ∧ (∃ u, w.cell? ⟨g, i * 2 + 1, none⟩ = some u) ∧ ∀ o, w.frozen? ⟨g, o, none⟩ = false := by
  rcases a with ⟨h1, _⟩ | ⟨g', cap', cur, h1, hg, hh, hn, hm, hs, ht⟩
  · cases h1
  · injection h1 with h1 h2 h3
    injection h1 with h1
    injection h1 with h1
    subst h1
    subst h2
    subst h3
    have hs1 := heap_setCell_same w g (i * 2) cur 25 (.int .i64 x.1) hh
    have hs2 := heap_setCell_same _ g (i * 2 + 1) _ 25 (.int .i64 x.2) hs1
    refine ⟨.inr ⟨g, cap, _, by rw [List.length_set], hg, hs2, by rw [List.length_set]; exact hn, hm, by simp; exact hs, ?_⟩, ⟨rfl, rfl, rfl, by simp, fun k hk hne => ?_⟩, ⟨_, (cell_of_row _ _ _ _ _ _ hh).trans (Array.getElem?_eq_getElem (by omega))⟩, ⟨_, (cell_of_row _ _ _ _ _ _ hh).trans (Array.getElem?_eq_getElem (by omega))⟩, fun o => by simp [World.frozen?, hh]⟩
    · rw [List.length_set, flatT_set, if_pos hi, ← ht]
      simp only [Array.toList_setIfInBounds]
      rw [List.take_set, List.take_set]
    · have hne : k ≠ g := fun e => hne (by rw [e])
      rw [heap_setCell_other _ _ _ _ hne, heap_setCell_other _ _ _ _ hne]
theorem ReadsT.frame {w w' : World} {v : Value} {ps : List Pair} (h : ReadsT w v ps) (hk : ∀ b j, b < w.heap.size → v.ownBlock = some b → j < ps.length * 2 → w'.cell? ⟨b, j, none⟩ = w.cell? ⟨b, j, none⟩) : ReadsT w' v ps := by
  obtain ⟨hl, ao, cap, hv, hr⟩ := h
  refine ⟨hl, ao, cap, hv, fun i p hp => ?_⟩
  obtain ⟨g, hg, hc⟩ := hr i p hp
  have hi := (List.getElem?_eq_some_iff.1 hp).1
  refine ⟨g, hg, fun j u hu => ?_⟩
  have hj := (List.getElem?_eq_some_iff.1 hu).1
  rw [hk g _ (rangeAt_lt hc) (by rw [hv, hg]; rfl) (by simp at hj; omega)]
  exact hc j u hu
/-- N rows of pairs that lie apart: GF j holds C j; vs j is the same row or lies apart from all others, and reads as the first ns j of them -/
structure Fam (w : World) (N : Nat) (vs GF : Nat → Value) (C : Nat → List Pair) (ns : Nat → Nat) : Prop where
  row : ∀ j, j < N → RowT w 0 (GF j) (C j)
  le : ∀ j, j < N → ns j ≤ (C j).length
  reads : ∀ j, j < N → ReadsT w (vs j) ((C j).take (ns j))
  lt : ∀ j q, j < N → (vs j).ownBlock = some q → q < w.heap.size
  apart : ∀ j j' q, j < N → j' < N → ((vs j).ownBlock = some q ∨ (GF j).ownBlock = some q) → ((vs j').ownBlock = some q ∨ (GF j').ownBlock = some q) → j = j'
theorem Fam.kept {w w' : World} {N : Nat} {vs GF : Nat → Value} {C : Nat → List Pair} {ns : Nat → Nat} (a : Fam w N vs GF C ns) (hk : ∀ k, k < w.heap.size → w'.heap[k]? = w.heap[k]?) : Fam w' N vs GF C ns :=
  ⟨fun j hj => (a.row j hj).kept hk, a.le, fun j hj => (a.reads j hj).kept hk, fun j q hj h => (by
    have := a.lt j q hj h
    rcases Nat.lt_or_ge q w'.heap.size with h1 | h1
    · exact h1
    · have h2 := hk q this
      rw [Array.getElem?_eq_none h1, Array.getElem?_eq_getElem this] at h2
      cases h2), a.apart⟩
theorem Fam.below {w w' : World} {N : Nat} {vs GF : Nat → Value} {C : Nat → List Pair} {ns : Nat → Nat} (a : Fam w N vs GF C ns) (hb : Below w.heap.size w w') : Fam w' N vs GF C ns := a.kept hb.block
theorem Fam.form {w : World} {N : Nat} {vs GF : Nat → Value} {C : Nat → List Pair} {ns : Nat → Nat} (a : Fam w N vs GF C ns) {j : Nat} (hj : j < N) : ∃ ra rc, vs j = .slice ra (ns j) rc := by
  obtain ⟨_, ao, cap, hv, _⟩ := a.reads j hj
  have := a.le j hj
  exact ⟨ao, cap, by rw [hv, List.length_take]; congr 1; omega⟩
theorem Fam.grown {w w' : World} {N : Nat} {vs GF : Nat → Value} {C : Nat → List Pair} {ns : Nat → Nat} {row : Option Nat} (a : Fam w N vs GF C ns) (hg : w.grownBy w' row) (h1 : ∀ j q, j < N → (vs j).ownBlock = some q → row ≠ some q) (h2 : ∀ j q, j < N → (GF j).ownBlock = some q → row ≠ some q) : Fam w' N vs GF C ns :=
  ⟨fun j hj => (a.row j hj).congr fun k cs hk ho => hg.block k (lt_of_block hk) (fun e => h2 j k hj ho e.symm), a.le, fun j hj => (a.reads j hj).frame fun b m hb ho _ => (by simp only [World.cell?, hg.block b hb (fun e => h1 j b hj ho e.symm)]), fun j q hj h => Nat.lt_of_lt_of_le (a.lt j q hj h) hg.size, a.apart⟩
/-- what may have turned: the rows' blocks, and new ones -/
structure Wrote (w w' : World) (S : Nat → Prop) : Prop where
  os : w'.os = w.os
  tape : w'.tape = w.tape
  output : w'.output = w.output
  size : w.heap.size ≤ w'.heap.size
  block : ∀ k, k < w.heap.size → ¬ S k → w'.heap[k]? = w.heap[k]?
theorem Wrote.refl (w : World) (S : Nat → Prop) : Wrote w w S := ⟨rfl, rfl, rfl, Nat.le_refl _, fun _ _ _ => rfl⟩
theorem Wrote.below {w w1 w2 : World} {S : Nat → Prop} (a : Wrote w w1 S) (b : Below w1.heap.size w1 w2) : Wrote w w2 S := ⟨b.os.trans a.os, b.tape.trans a.tape, b.output.trans a.output, Nat.le_trans a.size b.size, fun k hk hS => (b.block k (Nat.lt_of_lt_of_le hk a.size)).trans (a.block k hk hS)⟩
theorem Wrote.grown {w w1 w2 : World} {S : Nat → Prop} {row : Option Nat} (a : Wrote w w1 S) (b : w1.grownBy w2 row) (hr : ∀ q, row = some q → S q ∨ w.heap.size ≤ q) : Wrote w w2 S := ⟨b.os.trans a.os, b.tape.trans a.tape, b.output.trans a.output, Nat.le_trans a.size b.size, fun k hk hS => (b.block k (Nat.lt_of_lt_of_le hk a.size) (fun e => by
  rcases hr k e.symm with h1 | h1
  · exact hS h1
  · omega)).trans (a.block k hk hS)⟩
/-- a mark is written into row k -/
theorem Fam.put {w : World} {N k g cap : Nat} {vs : Nat → Value} {C : Nat → List Pair} {ns : Nat → Nat} (a : Fam w N vs vs C ns) (hl : ∀ j, j < N → (C j).length = ns j) (hs : ∀ j, j < N → ns j < 4611686018427387904) (hk : k < N) (hv : vs k = .slice (some ⟨g, 0, none⟩) (ns k) cap) (i : Nat) (hi : i < ns k) (x : Pair) :
    Fam ((w.setCell ⟨g, i * 2, none⟩ (.int .i64 x.1)).setCell ⟨g, i * 2 + 1, none⟩ (.int .i64 x.2)) N vs vs (fun j => if j = k then (C k).set i x else C j) ns ∧ w.grownBy ((w.setCell ⟨g, i * 2, none⟩ (.int .i64 x.1)).setCell ⟨g, i * 2 + 1, none⟩ (.int .i64 x.2)) (some g) := by
  have h0 := a.row k hk
  rw [hv] at h0
  obtain ⟨h1, h2, _⟩ := h0.put i (by rw [hl k hk]; exact hi) x
  have hrow : ∀ j, j < N → RowT ((w.setCell ⟨g, i * 2, none⟩ (.int .i64 x.1)).setCell ⟨g, i * 2 + 1, none⟩ (.int .i64 x.2)) 0 (vs j) (if j = k then (C k).set i x else C j) := fun j hj => by
    by_cases e : j = k
    · subst e; rw [if_pos rfl, hv]; exact h1
    · rw [if_neg e]
      refine (a.row j hj).congr fun b cs hb ho => h2.block b (lt_of_block hb) fun e' => e ?_
      injection e' with e'
      exact a.apart j k b hj hk (.inl ho) (.inl (by rw [hv, e']; rfl))
  have hlen : ∀ j, j < N → (if j = k then (C k).set i x else C j).length = ns j := fun j hj => by
    split
    · next e => subst e; rw [List.length_set]; exact hl j hj
    · exact hl j hj
  refine ⟨⟨hrow, fun j hj => Nat.le_of_eq (hlen j hj).symm, fun j hj => ?_, fun j q hj ho => ?_, a.apart⟩, h2⟩
  · rw [List.take_of_length_le (Nat.le_of_eq (hlen j hj))]
    exact (hrow j hj).reads (by rw [hlen j hj]; exact hs j hj)
  · obtain ⟨_, cs, hc⟩ := (hrow j hj).type ho
    exact lt_of_block hc
/-- a mark behind row k -/
theorem Fam.push {w w' : World} {N k : Nat} {vs GF : Nat → Value} {C : Nat → List Pair} {ns : Nat → Nat} (a : Fam w N vs GF C ns) (hk : k < N) {v' : Value} {x : Pair} (hR : RowT w' 0 v' (C k ++ [x])) (hg : w.grownBy w' (GF k).ownBlock) (ho : v'.ownBlock = (GF k).ownBlock ∨ ∀ q, v'.ownBlock = some q → w.heap.size ≤ q)
    (hc : ∀ b j, b < w.heap.size → (some b ≠ (GF k).ownBlock ∨ j < (C k).length * 2) → w'.cell? ⟨b, j, none⟩ = w.cell? ⟨b, j, none⟩) :
    Fam w' N vs (fun j => if j = k then v' else GF j) (fun j => if j = k then C k ++ [x] else C j) ns := by
  have hcls : ∀ j q, j < N → ((if j = k then v' else GF j).ownBlock = some q) → (GF j).ownBlock = some q ∨ w.heap.size ≤ q ∧ j = k := fun j q hj h => by
    by_cases e : j = k
    · subst e
      rw [if_pos rfl] at h
      rcases ho with h1 | h1
      · exact .inl (h1 ▸ h)
      · exact .inr ⟨h1 q h, rfl⟩
    · rw [if_neg e] at h
      exact .inl h
  have hvlt := a.lt
  have hglt : ∀ j q, j < N → (GF j).ownBlock = some q → q < w.heap.size := fun j q hj h => by
    obtain ⟨_, cs, hc⟩ := (a.row j hj).type h
    exact lt_of_block hc
  refine ⟨fun j hj => ?_, fun j hj => ?_, fun j hj => ?_, fun j q hj h => ?_, fun j j' q hj hj' h h' => ?_⟩
  · by_cases e : j = k
    · subst e; simp only [if_pos]; exact hR
    · simp only [if_neg e]
      refine (a.row j hj).congr fun b cs hb hob => hg.block b (lt_of_block hb) fun e' => e ?_
      exact a.apart j k b hj hk (.inr hob) (.inr e'.symm)
  · have := a.le j hj
    by_cases e : j = k
    · subst e; simp only [if_pos, List.length_append]; omega
    · simp only [if_neg e]; exact this
  · have h1 : (if j = k then C k ++ [x] else C j).take (ns j) = (C j).take (ns j) := by
      by_cases e : j = k
      · subst e; rw [if_pos rfl, List.take_append_of_le_length (a.le j hj)]
      · rw [if_neg e]
    simp only [h1]
    refine (a.reads j hj).frame fun b m hb hob hm => hc b m hb ?_
    by_cases e : j = k
    · subst e
      refine .inr ?_
      rw [List.length_take] at hm
      omega
    · exact .inl fun e' => e (a.apart j k b hj hk (.inl hob) (.inr e'.symm))
  · exact Nat.lt_of_lt_of_le (a.lt j q hj h) hg.size
  · rcases h with h | h <;> rcases h' with h' | h'
    · exact a.apart j j' q hj hj' (.inl h) (.inl h')
    · rcases hcls j' q hj' h' with h1 | ⟨h1, _⟩
      · exact a.apart j j' q hj hj' (.inl h) (.inr h1)
      · have := hvlt j q hj h; omega
    · rcases hcls j q hj h with h1 | ⟨h1, _⟩
      · exact a.apart j j' q hj hj' (.inr h1) (.inl h')
      · have := hvlt j' q hj' h'; omega
    · rcases hcls j q hj h with h1 | ⟨h1, e1⟩ <;> rcases hcls j' q hj' h' with h2 | ⟨h2, e2⟩
      · exact a.apart j j' q hj hj' (.inr h1) (.inr h2)
      · have := hglt j q hj h1; omega
      · have := hglt j' q hj' h2; omega
      · omega
end Go.Proofs.Ytffioombjejchaa
