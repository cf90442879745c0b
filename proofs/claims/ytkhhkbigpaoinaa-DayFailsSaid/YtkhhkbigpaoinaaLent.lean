/- custodykit's Full, Lent, KeptFull, Kept lists of legs and keys: by contract. -/
import Derived.Test.YtkhhkbigpaoinaaRowE
namespace Go.Proofs.Ytkhhkbigpaoinaa
set_option linter.unusedVariables false
set_option linter.unusedSimpArgs false
open Go.RowKit
attribute [local irreducible] Go.wpStill

def RowP {α : Type} (E : Enc α) (T : TypeId) (w : World) (xs : List α) (e : Ending) (w' : World) : Prop := ∃ v, e = .returned v ∧ RowE E T w' w.heap.size v xs ∧ Below w.heap.size w w'
/-- a list that is lent: marks behind it -/
def LentV {α : Type} (E : Enc α) (T : TypeId) (w : World) (B : Nat) (v : Value) (xs ms : List α) : Prop := ∃ g cap, v = .slice (some ⟨g, 0, none⟩) xs.length cap ∧ RowE E T w B (.slice (some ⟨g, 0, none⟩) (xs ++ ms).length cap) (xs ++ ms)
theorem LentV.kept {α : Type} {E : Enc α} {T : TypeId} {w w' : World} {B : Nat} {v : Value} {xs ms : List α} (a : LentV E T w B v xs ms) (hk : ∀ k, k < w.heap.size → w'.heap[k]? = w.heap[k]?) : LentV E T w' B v xs ms := by
  obtain ⟨g, cap, hv, hr⟩ := a
  exact ⟨g, cap, hv, hr.kept hk⟩
theorem LentV.below {α : Type} {E : Enc α} {T : TypeId} {w w' : World} {B : Nat} {v : Value} {xs ms : List α} (a : LentV E T w B v xs ms) (hb : Below w.heap.size w w') : LentV E T w' B v xs ms := a.kept hb.block
def LentP {α : Type} (E : Enc α) (T : TypeId) (w : World) (xs ms : List α) (e : Ending) (w' : World) : Prop := ∃ v, e = .returned v ∧ LentV E T w' w.heap.size v xs ms ∧ Below w.heap.size w w'
def FixB (b : Bool) (w : World) (e : Ending) (w' : World) : Prop := e = .returned (.bool b) ∧ Below w.heap.size w w'
def marksE {α : Type} (mk : Int → α) (n : Nat) : List α := (List.range n).map fun i : Nat => mk i
theorem marksE_len {α : Type} (mk : Int → α) (n : Nat) : (marksE mk n).length = n := by simp [marksE]
theorem marksE_succ {α : Type} (mk : Int → α) (n : Nat) : marksE mk (n + 1) = marksE mk n ++ [mk n] := by simp [marksE, List.range_succ]
theorem marksE_at {α : Type} (mk : Int → α) (n i : Nat) (h : i < n) : (marksE mk n)[i]? = some (mk i) := by simp [marksE, h]
theorem take_snoc' {α : Type} {l : List α} {i : Nat} {x : α} (h : l[i]? = some x) : l.take (i + 1) = l.take i ++ [x] := by rw [List.take_add_one, h]; rfl

attribute [local irreducible] marksE
abbrev legT := Int × Int × Int × Int × Int
abbrev legE : Enc legT := ⟨fun x => [.int .i64 x.1, .int .i64 x.2.1, .int .i64 x.2.2.1, .int .i64 x.2.2.2.1, .int .i64 x.2.2.2.2], 5, by decide, fun x => rfl, fun x => all_one rfl⟩
def legL (x : legT) : List Int := [x.1, x.2.1, x.2.2.1, x.2.2.2.1, x.2.2.2.2]
theorem legL_inj {x y : legT} : legL x = legL y ↔ x = y := by
  obtain ⟨a, b, c, d, e⟩ := x
  simp only [legL, List.cons.injEq, Prod.ext_iff, and_true]
def mkLegs (k i : Int) : legT := (-10 - k, i, 0, 0, 0)
abbrev keyT := Int × Int
abbrev keyE : Enc keyT := ⟨fun x => [.int .i64 x.1, .int .i64 x.2], 2, by decide, fun x => rfl, fun x => all_one rfl⟩
def keyL (x : keyT) : List Int := [x.1, x.2]
theorem keyL_inj {x y : keyT} : keyL x = keyL y ↔ x = y := by
  obtain ⟨a, b⟩ := x
  simp only [keyL, List.cons.injEq, Prod.ext_iff, and_true]
def mkKeys (k i : Int) : keyT := (-10 - k, i)
abbrev markT := Int × Int
abbrev markE : Enc markT := ⟨fun x => [.int .i64 x.1, .int .i64 x.2], 2, by decide, fun x => rfl, fun x => all_one rfl⟩
def markL (x : markT) : List Int := [x.1, x.2]
theorem markL_inj {x y : markT} : markL x = markL y ↔ x = y := by
  obtain ⟨a, b⟩ := x
  simp only [markL, List.cons.injEq, Prod.ext_iff, and_true]
def mkMarks (k i : Int) : markT := (-10 - k, i)
end Go.Proofs.Ytkhhkbigpaoinaa
