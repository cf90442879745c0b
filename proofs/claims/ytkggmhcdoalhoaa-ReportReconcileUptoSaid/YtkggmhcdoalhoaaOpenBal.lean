/- a list of balances that came in, opened. -/
import Derived.Test.YtkggmhcdoalhoaaOpens
import Derived.Test.YtkggmhcdoalhoaaBal
import Derived.Test.YtkggmhcdoalhoaaRows
namespace Go.Proofs.Ytkggmhcdoalhoaa
set_option linter.unusedVariables false
set_option linter.unusedSimpArgs false
open Go.RowKit Go.ChangeShapes Go.WideShapes Go.ChangeAt Go.Deep
theorem opens_mark : Opens Try.prog 55 (fun _ cs => ∃ x : markT, cs = markE.enc x ∧ x.2 ≤ 9223372036854775807) :=
  (opens_ints Try.underlying55 (n := 2) (by kernel_rfl) (by kernel_rfl)).mono fun W cs ⟨ls, hl, hcs, hb⟩ => by
    match ls, hl with
    | [a, b], _ => exact ⟨(a, b), hcs, (hb b (by simp)).2⟩
def marksR (W : World) (cs : List Value) : Prop := ∃ v xs, cs = [v] ∧ ReadsE markE W v xs ∧ xs.length * 16 ≤ 140737488351232 ∧ ∀ x ∈ xs, x.2 ≤ 9223372036854775807
theorem opens_marks : Opens Try.prog 37 marksR :=
  opens_list Try.underlying37 (by kernel_rfl) (by kernel_rfl) (by decide) opens_mark
def keyR (W : World) (cs : List Value) : Prop := ∃ x : keyT, cs = keyE.enc x ∧ keyGood x
theorem opens_key : Opens Try.prog 34 keyR :=
  (opens_ints Try.underlying34 (n := 2) (by kernel_rfl) (by kernel_rfl)).mono fun W cs ⟨ls, hl, hcs, hb⟩ => by
    match ls, hl with
    | [a, b], _ =>
      have ha := hb a (by simp)
      have hb := hb b (by simp)
      exact ⟨(a, b), hcs, by simpa [Lit.wf, IntKind.min, IntKind.max, IntKind.signed, IntKind.bits] using ha, by simpa [Lit.wf, IntKind.min, IntKind.max, IntKind.signed, IntKind.bits] using hb⟩
def posR (W : World) (cs : List Value) : Prop := ∃ (avail : Int) (v : Value) (ms : List markT), cs = [.int .i64 avail, v] ∧ avail ≤ 9223372036854775807 ∧ ReadsE markE W v ms ∧ ms.length * 16 ≤ 140737488351232 ∧ ∀ x ∈ ms, x.2 ≤ 9223372036854775807
theorem opens_pos : Opens Try.prog 40 posR := by
  refine (opens_fields Try.underlying40 [(2, 0, 1), (37, 1, 1)] [i64R, marksR] 2 (by kernel_rfl) (by kernel_rfl) ?_).mono ?_
  · intro i t R hi hR
    rcases i with _ | _ | i <;> simp at hi hR <;> subst hi <;> subst hR
    · exact opens_i64 Try.underlying2
    · exact opens_marks
  · intro W cs ⟨hl2, h⟩
    obtain ⟨x0, cs0, rfl, hl1⟩ := list_cons hl2
    obtain ⟨x1, cs1, rfl, hl0⟩ := list_cons hl1
    obtain rfl := List.length_eq_zero_iff.1 hl0
    obtain ⟨n0, e0, hn0⟩ := h 0 _ _ rfl rfl
    obtain ⟨v, ms, e1, hm, hb, hq⟩ := h 1 _ _ rfl rfl
    simp at e0 e1
    subst e0 e1
    exact ⟨n0, _, ms, rfl, hn0.2, hm, hb, hq⟩
theorem opens_bal : Opens Try.prog 42 (fun W cs => ∃ x : BalV, cs = balE.enc x ∧ BalOk W x) := by
  refine (opens_fields Try.underlying42 [(34, 0, 2), (40, 2, 2)] [keyR, posR] 4 (by kernel_rfl) (by kernel_rfl) ?_).mono ?_
  · intro i t R hi hR
    rcases i with _ | _ | i <;> simp at hi hR <;> subst hi <;> subst hR
    · exact opens_key
    · exact opens_pos
  · intro W cs ⟨hl4, h⟩
    obtain ⟨x0, cs0, rfl, hl3⟩ := list_cons hl4
    obtain ⟨x1, cs1, rfl, hl2⟩ := list_cons hl3
    obtain ⟨x2, cs2, rfl, hl1⟩ := list_cons hl2
    obtain ⟨x3, cs3, rfl, hl0⟩ := list_cons hl1
    obtain rfl := List.length_eq_zero_iff.1 hl0
    obtain ⟨⟨a, b⟩, e0, hk⟩ := h 0 _ _ rfl rfl
    obtain ⟨avail, v, ms, e1, ha, hm, hb, hq⟩ := h 1 _ _ rfl rfl
    simp at e0 e1
    obtain ⟨rfl, rfl⟩ := e0
    obtain ⟨rfl, rfl⟩ := e1
    obtain ⟨ao, cap, rfl⟩ := hm.slice
    exact ⟨⟨a, b, avail, ao, cap, ms⟩, rfl, hm, ha, hq, by show ms.length ≤ 8796093021952; omega, hk⟩
def balsR (W : World) (cs : List Value) : Prop := ∃ v xs, cs = [v] ∧ ReadsE balE W v xs ∧ xs.length * 48 ≤ 140737488351232 ∧ ∀ x ∈ xs, BalOk W x
theorem opens_bals : Opens Try.prog 22 balsR :=
  opens_list Try.underlying22 (by kernel_rfl) (by kernel_rfl) (by decide) opens_bal
theorem bulk_one {H : Type} (d : DataW H) : 1 ≤ Rows.uptoBulk d := by
  cases d with
  | lit l => cases l <;> simp [Rows.uptoBulk]
  | nil => simp [Rows.uptoBulk]
  | ptr d => simp [Rows.uptoBulk]
  | slice elems spare => simp [Rows.uptoBulk]
  | agg parts => simp [Rows.uptoBulk]
  | iface t d => simp [Rows.uptoBulk]
  | map entries => simp [Rows.uptoBulk]
  | held h => simp [Rows.uptoBulk]
theorem bulk_length {H : Type} (l : List (DataW H)) : l.length ≤ Rows.uptoBulkAll l := by
  induction l with
  | nil => simp [Rows.uptoBulkAll]
  | cons x r ih => have := bulk_one x; simp only [Rows.uptoBulkAll, List.length_cons]; omega
theorem bulk_slice {H : Type} (elems spare : List (DataW H)) : elems.length + spare.length + 1 ≤ Rows.uptoBulk (.slice elems spare) := by
  have h1 := bulk_length elems
  have h2 := bulk_length spare
  simp only [Rows.uptoBulk]
  omega
/-- a list is no longer than its bulk -/
theorem slice_bulk {S T : TypeId} (hu : Try.prog.underlying S = some (.slice T)) {H : Type} {enc : TypeId × Value → H} {W : World} {spare : Nat → Bool} {held : Bool} {ao : Option Addr} {n cap : Nat} {d : DataW H} {p : List MemPlace}
    (h : DataW.Trod enc Try.prog W 0 spare held S (.slice ao n cap) d p) (hsz : Rows.uptoBulk d ≤ 1048576) : n ≤ 1048576 := by
  obtain ⟨fuel, hf⟩ := h
  have hcell : (Value.slice ao n cap).cells.toList = [.slice ao n cap] := rfl
  rw [hcell] at hf
  rcases open_slice hu hf with ⟨hcs, hx⟩ | ⟨a, len, cap', m, n', D, Pl, hcs, _, hl, hm, hmm, hx, hel⟩
  · simp at hcs
    omega
  · simp at hcs
    obtain ⟨rfl, rfl, rfl⟩ := hcs
    simp only [Prod.mk.injEq] at hx
    have h1 := hx.1
    subst h1
    have h2 := bulk_slice ((List.range n).map D) ((List.range (m - n)).map fun i => D (n + i))
    simp at h2
    (try simp at hsz)
    omega
theorem open_bals {H : Type} {enc : TypeId × Value → H} {W : World} {r : Reach} {base : Nat} {spare : Nat → Bool} {held : Bool} {v : Value} {d : DataW H} {p : List MemPlace}
    (hv : Value.okWide Try.prog W r base 22 v) (h : DataW.Trod enc Try.prog W 0 spare held 22 v d p) (hw : ∀ n ∈ d.weights Try.prog 22, n ≤ reachBytes) (hsz : Rows.uptoBulk d ≤ 1048576) :
    ∃ xs, BalsR W v xs ∧ xs.length ≤ 1048576 := by
  obtain ⟨v', xs, e, hr, _, hq⟩ := top_slice Try.underlying22 opens_bals hv h hw
  obtain rfl : v = v' := by simpa using e
  obtain ⟨ao, cap, rfl⟩ := hr.slice
  exact ⟨xs, ⟨hr, hq⟩, slice_bulk Try.underlying22 h hsz⟩
end Go.Proofs.Ytkggmhcdoalhoaa
