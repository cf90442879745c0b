/- prio: texts in a heap: entries as cells; the order of texts by contract. -/
import Derived.Test.YtffioombjejchaaPrioA
namespace Go.Proofs.Ytffioombjejchaa.St
set_option linter.unusedVariables false
set_option linter.unusedSimpArgs false
open Go.RowKit

abbrev Str := ByteArray
def lessP (fall : Bool) (x y : Str) : Bool := decide (x.size < y.size)
/-- the order of entries: a thing, and when it came -/
def aheadP (fall : Bool) (a b : Str × Int) : Bool := lessP fall a.1 b.1 || (decide (a.2 < b.2) && !lessP fall b.1 a.1)
def encP (e : Str × Int) : List Value := [.string e.1, .int .i64 e.2]
def flatP (es : List (Str × Int)) : List Value := es.flatMap encP
theorem aheadP_ord (fall : Bool) : HP.Ord (aheadP fall) := by
  constructor
  · intro a b c h1 h2
    unfold HP.le aheadP lessP at *
    simp at *
    omega
  · intro a b h
    unfold HP.le aheadP lessP at *
    simp at *
    omega
theorem aheadP_refl (fall : Bool) (a : Str × Int) : HP.le (aheadP fall) a a := by
  unfold HP.le aheadP lessP
  simp
/-- what stands at c: the function that tells whether one text stands ahead of another -/
def LessAt (w : World) (h c : Nat) (fall : Bool) : Prop :=
  c < h ∧ w.heap[c]? = some (.cells #[.func (.func 28) #[] #[]] 53 (0, 0))
theorem LessAt.kept {w w' : World} {h c : Nat} {fall : Bool} (a : LessAt w h c fall) (hk : ∀ k, k < h → ∀ v t, t ≠ 78 → w.heap[k]? = some (.cells #[v] t (0, 0)) → w'.heap[k]? = w.heap[k]?) : LessAt w' h c fall :=
  ⟨a.1, (hk c a.1 _ _ (by decide) a.2).trans a.2⟩
theorem shorter_any (fall : Bool) (x y : Str) (w : World) : Calls Try.prog 28 #[.string x, .string y] w fun e w' => e = .returned (.bool (lessP fall x y)) ∧ Below w.heap.size w w' := by
  go_enter Try.func28, Try.ntmps28
  go_wp2
  go_ret
  refine ⟨?_, by repeat (first | exact Below.refl _ _ | apply Below.drew | exact (Below.refl _ _).alloc (Nat.le_refl _) _)⟩
  unfold lessP
  simp
end Go.Proofs.Ytffioombjejchaa.St
