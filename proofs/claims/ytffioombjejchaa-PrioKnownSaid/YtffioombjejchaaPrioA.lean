/- prio: a heap in memory: entries as cells, frames; the order of pairs by contract. -/
import Derived.Test.YtffioombjejchaaHeap
import Derived.Laws.AppendOwn
import Derived.Laws.Rows
namespace Go.Proofs.Ytffioombjejchaa
set_option linter.unusedVariables false
set_option linter.unusedSimpArgs false
open Go.RowKit

/-! ### frames -/
/-- from w to w' just block h, the row r and new blocks may have turned; the row is the same or a new one -/
structure Tch (w w' : World) (h : Nat) (r r' : Option Nat) : Prop where
  os : w'.os = w.os
  tape : w'.tape = w.tape
  output : w'.output = w.output
  size : w.heap.size ≤ w'.heap.size
  block : ∀ k, k < w.heap.size → k ≠ h → some k ≠ r → w'.heap[k]? = w.heap[k]?
  row : r' = r ∨ ∀ k, r' = some k → w.heap.size ≤ k
theorem Tch.refl (w : World) (h : Nat) (r : Option Nat) : Tch w w h r r := ⟨rfl, rfl, rfl, Nat.le_refl _, fun _ _ _ _ => rfl, .inl rfl⟩
theorem Tch.trans {w w1 w2 : World} {h : Nat} {r r1 r2 : Option Nat} (a : Tch w w1 h r r1) (b : Tch w1 w2 h r1 r2) : Tch w w2 h r r2 := by
  refine ⟨b.os.trans a.os, b.tape.trans a.tape, b.output.trans a.output, Nat.le_trans a.size b.size, fun k hk hh hr => ?_, ?_⟩
  · rw [b.block k (Nat.lt_of_lt_of_le hk a.size) hh (fun e => ?_)]
    · exact a.block k hk hh hr
    · rcases a.row with h1 | h1
      · exact hr (e.trans h1)
      · have := h1 k e.symm; omega
  · rcases b.row with h2 | h2
    · rw [h2]; exact a.row
    · exact .inr fun k hk => Nat.le_trans a.size (h2 k hk)
theorem Tch.of_below {w w' : World} (hb : Below w.heap.size w w') (h : Nat) (r : Option Nat) : Tch w w' h r r := ⟨hb.os, hb.tape, hb.output, hb.size, fun k hk _ _ => hb.block k hk, .inl rfl⟩
theorem Tch.of_grown {w w' : World} {r r' : Option Nat} (hg : w.grownBy w' r) (h : Nat) (hr : r' = r ∨ ∀ k, r' = some k → w.heap.size ≤ k) : Tch w w' h r r' := ⟨hg.os, hg.tape, hg.output, hg.size, fun k hk _ hr => hg.block k hk hr, hr⟩
theorem Tch.below {w w' : World} {h : Nat} {r r' : Option Nat} (a : Tch w w' h r r') {B : Nat} (hB : B ≤ w.heap.size) (hh : B ≤ h) (hr : ∀ k, r = some k → B ≤ k) : Below B w w' :=
  ⟨a.os, a.tape, a.output, a.size, fun k hk => a.block k (by omega) (by omega) (fun e => by have := hr k e.symm; omega)⟩
theorem Tch.setRow_h {w : World} (h : Nat) (cs : Array Value) (r : Option Nat) : Tch w (w.setRow h cs) h r r := ⟨rfl, rfl, rfl, by simp, fun k _ hk _ => setRow_other w h k cs hk, .inl rfl⟩
theorem Tch.setRow_r {w : World} (h g : Nat) (cs : Array Value) : Tch w (w.setRow g cs) h (some g) (some g) := ⟨rfl, rfl, rfl, by simp, fun k _ _ hk => setRow_other w g k cs (fun e => hk (by rw [e])), .inl rfl⟩
theorem Tch.drew {w w' : World} {h : Nat} {r r' : Option Nat} (a : Tch w w' h r r') : Tch w w'.drew h r r' := ⟨a.os, a.tape, a.output, a.size, a.block, a.row⟩

/-! ### pairs -/
abbrev Pair := Int × Int
def lessP (fall : Bool) (x y : Pair) : Bool := if fall then decide (y.1 < x.1) else decide (x.1 < y.1)
/-- the order of entries: a thing, and when it came -/
def aheadP (fall : Bool) (a b : Pair × Int) : Bool := lessP fall a.1 b.1 || (decide (a.2 < b.2) && !lessP fall b.1 a.1)
def encP (e : Pair × Int) : List Value := [.int .i64 e.1.1, .int .i64 e.1.2, .int .i64 e.2]
def flatP (es : List (Pair × Int)) : List Value := es.flatMap encP
theorem aheadP_ord (fall : Bool) : HP.Ord (aheadP fall) := by
  constructor
  · intro a b c h1 h2
    unfold HP.le aheadP lessP at *
    cases fall <;> simp at * <;> omega
  · intro a b h
    unfold HP.le aheadP lessP at *
    cases fall <;> simp at * <;> omega
theorem aheadP_refl (fall : Bool) (a : Pair × Int) : HP.le (aheadP fall) a a := by
  unfold HP.le aheadP lessP
  cases fall <;> simp
/-- what stands at c: the function that tells whether one pair stands ahead of another -/
def LessAt (w : World) (h c : Nat) (fall : Bool) : Prop :=
  c < h ∧ ((w.heap[c]? = some (.cells #[.func (.func 9) #[] #[]] 26 (0, 0)) ∧ fall = false) ∨
   (w.heap[c]? = some (.cells #[.func (.func 10) #[] #[]] 26 (0, 0)) ∧ fall = true) ∨
   ∃ c2, c2 < h ∧ w.heap[c]? = some (.cells #[.func (.func 49) #[] #[.pointer (some ⟨c2, 0, none⟩)]] 26 (0, 0)) ∧ w.heap[c2]? = some (.cells #[.bool fall] 4 (0, 0)))
theorem LessAt.kept {w w' : World} {h c : Nat} {fall : Bool} (a : LessAt w h c fall) (hk : ∀ k, k < h → ∀ v t, t ≠ 68 → w.heap[k]? = some (.cells #[v] t (0, 0)) → w'.heap[k]? = w.heap[k]?) : LessAt w' h c fall := by
  refine ⟨a.1, ?_⟩
  rcases a.2 with ⟨h1, h2⟩ | ⟨h1, h2⟩ | ⟨c2, h0, h1, h2⟩
  · exact .inl ⟨(hk c a.1 _ _ (by decide) h1).trans h1, h2⟩
  · exact .inr (.inl ⟨(hk c a.1 _ _ (by decide) h1).trans h1, h2⟩)
  · exact .inr (.inr ⟨c2, h0, (hk c a.1 _ _ (by decide) h1).trans h1, (hk c2 h0 _ _ (by decide) h2).trans h2⟩)

theorem rises_any (x y : Pair) (w : World) : Calls Try.prog 9 #[.agg #[.int .i64 x.1, .int .i64 x.2], .agg #[.int .i64 y.1, .int .i64 y.2]] w fun e w' => e = .returned (.bool (lessP false x y)) ∧ Below w.heap.size w w' := by
  go_enter Try.func9, Try.ntmps9
  go_wp2
  go_ret
  exact ⟨rfl, ((Below.refl _ _).alloc (Nat.le_refl _) _).alloc (by simp) _⟩
theorem falls_any (x y : Pair) (w : World) : Calls Try.prog 10 #[.agg #[.int .i64 x.1, .int .i64 x.2], .agg #[.int .i64 y.1, .int .i64 y.2]] w fun e w' => e = .returned (.bool (lessP true x y)) ∧ Below w.heap.size w w' := by
  go_enter Try.func10, Try.ntmps10
  go_wp2
  go_ret
  exact ⟨rfl, ((Below.refl _ _).alloc (Nat.le_refl _) _).alloc (by simp) _⟩
theorem play1_any (fall : Bool) (x y : Pair) (c2 : Nat) (w : World) (hc : w.heap[c2]? = some (.cells #[.bool fall] 4 (0, 0))) : Calls Try.prog 49 #[.agg #[.int .i64 x.1, .int .i64 x.2], .agg #[.int .i64 y.1, .int .i64 y.2], .pointer (some ⟨c2, 0, none⟩)] w fun e w' => e = .returned (.bool (lessP fall x y)) ∧ Below w.heap.size w w' := by
  have hlt := lt_of_block hc
  have hc1 : w.cell? ⟨c2, 0, none⟩ = some (.bool fall) := by rw [cell_of_row _ _ _ _ _ _ hc]; rfl
  clear hc
  cases fall
  all_goals
    go_enter Try.func49, Try.ntmps49
    go_wp2
    go_ret
    exact ⟨rfl, ((Below.refl _ _).alloc (Nat.le_refl _) _).alloc (by simp) _⟩
end Go.Proofs.Ytffioombjejchaa
