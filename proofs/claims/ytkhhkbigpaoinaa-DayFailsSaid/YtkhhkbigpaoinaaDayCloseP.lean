/- What the close of a day does, in plain Lean. -/
import Derived.Test.YtkhhkbigpaoinaaDayAt
import Derived.Test.YtkhhkbigpaoinaaDayMul
namespace Go.Proofs.Ytkhhkbigpaoinaa
set_option linter.unusedVariables false
set_option linter.unusedSimpArgs false
open Go.RowKit Go.Maps

abbrev penT := Int × Int × Int × Int
abbrev penE : Enc penT := ⟨fun x => [.int .i64 x.1, .int .i64 x.2.1, .int .i64 x.2.2.1, .int .i64 x.2.2.2], 4, by decide, fun x => rfl, fun x => all_one rfl⟩
theorem penTy : ElT Try.prog penE 51 44 32 := by
  refine ⟨Try.underlying44, ?_⟩
  have : (Try.prog.info? 51).map (fun i => (i.zero.map (fun z => z.cells.size), i.size, i.bytes)) = some (some 4, 4, 32) := by kernel_rfl
  obtain ⟨i, h1, h2⟩ := Option.map_eq_some_iff.1 this
  simp at h2
  obtain ⟨⟨z, hz, hz2⟩, h3, h4⟩ := h2
  exact ⟨i, z, h1, hz, hz2, h3, h4⟩
theorem intTy : ElT Try.prog intE 3 23 8 := by
  refine ⟨Try.underlying23, ?_⟩
  have : (Try.prog.info? 3).map (fun i => (i.zero.map (fun z => z.cells.size), i.size, i.bytes)) = some (some 1, 1, 8) := by kernel_rfl
  obtain ⟨i, h1, h2⟩ := Option.map_eq_some_iff.1 this
  simp at h2
  obtain ⟨⟨z, hz, hz2⟩, h3, h4⟩ := h2
  exact ⟨i, z, h1, hz, hz2, h3, h4⟩
/-- what is owed for one that failed -/
def pen (rate : Int) (id : Int) (e : EntV) : penT := (id, e.frm, e.dst, ((e.value.toNat * rate.toNat / 1000000 : Nat) : Int))
def stepE (keep : Int) (es : Int → Option EntV) (id : Int) : Int → Option EntV :=
  match es id with
  | some e => if keep ≤ e.failed + 1 then updE es id none else updE es id (some { e with failed := e.failed + 1 })
  | none => es
theorem stepE_some {keep : Int} {es : Int → Option EntV} {id : Int} {e : EntV} (h : es id = some e) : stepE keep es id = if keep ≤ e.failed + 1 then updE es id none else updE es id (some { e with failed := e.failed + 1 }) := by simp only [stepE, h]
theorem stepE_none {keep : Int} {es : Int → Option EntV} {id : Int} (h : es id = none) : stepE keep es id = es := by simp only [stepE, h]
def closeE (keep : Int) (es : Int → Option EntV) (ds : List Int) : Int → Option EntV := ds.foldl (stepE keep) es
def owedL (rate : Int) (es : Int → Option EntV) (ds : List Int) : List penT := ds.filterMap fun id => (es id).map (pen rate id)
def goneL (keep : Int) (es : Int → Option EntV) (ds : List Int) : List Int := ds.filter fun id => match es id with | some e => decide (keep ≤ e.failed + 1) | none => false
theorem closeE_snoc (keep : Int) (es : Int → Option EntV) (ds : List Int) (id : Int) : closeE keep es (ds ++ [id]) = stepE keep (closeE keep es ds) id := by simp [closeE, List.foldl_append]
theorem owedL_snoc (rate : Int) (es : Int → Option EntV) (ds : List Int) (id : Int) (e : EntV) (h : es id = some e) : owedL rate es (ds ++ [id]) = owedL rate es ds ++ [pen rate id e] := by simp [owedL, List.filterMap_append, h]
theorem goneL_snoc (keep : Int) (es : Int → Option EntV) (ds : List Int) (id : Int) (e : EntV) (h : es id = some e) : goneL keep es (ds ++ [id]) = if keep ≤ e.failed + 1 then goneL keep es ds ++ [id] else goneL keep es ds := by
  unfold goneL
  rw [List.filter_append]
  by_cases c : keep ≤ e.failed + 1 <;> simp [h, c]
/-- one that is not among those that are due is as it was -/
theorem closeE_other (keep : Int) (es : Int → Option EntV) (id : Int) : ∀ (ds : List Int), id ∉ ds → closeE keep es ds id = es id := by
  intro ds
  induction ds generalizing es with
  | nil => intro _; rfl
  | cons d ds ih =>
    intro h
    show closeE keep (stepE keep es d) ds id = es id
    rw [ih _ (fun q => h (List.mem_cons_of_mem _ q))]
    have hne : id ≠ d := fun q => h (by rw [q]; simp)
    cases hd : es d with
    | some e => rw [stepE_some hd]; split <;> simp [updE, hne]
    | none => rw [stepE_none hd]
theorem owedL_len (rate : Int) (es : Int → Option EntV) (ds : List Int) : (owedL rate es ds).length ≤ ds.length := List.length_filterMap_le _ _
theorem goneL_len (keep : Int) (es : Int → Option EntV) (ds : List Int) : (goneL keep es ds).length ≤ ds.length := List.length_filter_le _ _
/-- entries that can be: amounts, counts below what the plan keeps -/
def EntsOk (keep : Int) (es : Int → Option EntV) : Prop := ∀ id e, es id = some e → 0 ≤ e.value ∧ e.value ≤ 9223372036854775807 ∧ 0 ≤ e.failed ∧ e.failed < keep
theorem EntsOk.step {keep : Int} {es : Int → Option EntV} (h : EntsOk keep es) (id : Int) : EntsOk keep (stepE keep es id) := fun x e he => by
  cases h0 : es id with
  | none => rw [stepE_none h0] at he; exact h x e he
  | some e0 =>
    rw [stepE_some h0] at he
    by_cases hc : keep ≤ e0.failed + 1
    · rw [if_pos hc] at he
      unfold updE at he
      by_cases hx : x = id
      · simp [hx] at he
      · simp only [if_neg hx] at he; exact h x e he
    · rw [if_neg hc] at he
      unfold updE at he
      by_cases hx : x = id
      · simp only [if_pos hx] at he
        cases he
        have := h id e0 h0
        exact ⟨this.1, this.2.1, by show 0 ≤ e0.failed + 1; omega, by show e0.failed + 1 < keep; omega⟩
      · simp only [if_neg hx] at he; exact h x e he
theorem EntsOk.close {keep : Int} (ds : List Int) : ∀ {es : Int → Option EntV}, EntsOk keep es → EntsOk keep (closeE keep es ds) := by
  induction ds with
  | nil => intro es h; exact h
  | cons d ds ih => intro es h; exact ih (h.step d)
end Go.Proofs.Ytkhhkbigpaoinaa
