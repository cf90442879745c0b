/- a day's plan that came in, opened. -/
import Derived.Test.YtkhhkbigpaoinaaOpens
import Derived.Test.YtkhhkbigpaoinaaDayNew
namespace Go.Proofs.Ytkhhkbigpaoinaa
set_option linter.unusedVariables false
set_option linter.unusedSimpArgs false
open Go.RowKit Go.ChangeShapes Go.WideShapes Go.ChangeAt Go.Deep

/-- a list out of its places -/
theorem list_of_each {α : Type} (d : α) (f : α → Value) {cs : List Value} {n : Nat} (hl : cs.length = n) (h : ∀ i, i < n → ∃ c : α, cs[i]? = some (f c)) : ∃ l : List α, l.length = n ∧ cs = l.map f := by
  obtain ⟨F, hF⟩ : ∃ F : Nat → α, ∀ i, i < n → cs[i]? = some (f (F i)) :=
    ⟨fun i => if h' : i < n then (h i h').choose else d, fun i hi => by simp only [hi, dif_pos]; exact (h i hi).choose_spec⟩
  refine ⟨(List.range n).map F, by simp, ?_⟩
  apply List.ext_getElem?
  intro i
  by_cases hi : i < n
  · rw [hF i hi]; simp [hi]
  · rw [List.getElem?_eq_none (by omega)]
    exact (List.getElem?_eq_none (by simp; omega)).symm
def weekR : World → List Value → Prop := fun _ cs => ∃ l : List Bool, l.length = 7 ∧ cs = l.map Value.bool
theorem opens_week : Opens Try.prog 22 weekR :=
  fun H enc W spare held fuel cs d p ht hw => by
    obtain ⟨ys, m, _, _, hl, hyl, hf⟩ := DataW.trod_array Try.underlying22 ht
    have hc1 : Try.prog.cellsOf 4 = 1 := by kernel_rfl
    have hl7 : cs.length = 7 := hl.trans (by kernel_rfl)
    refine list_of_each false Value.bool hl7 fun i hi => ?_
    have hy := hf i hi
    rw [List.getElem?_eq_getElem (by omega), hc1] at hy
    obtain ⟨b, e, _⟩ := DataW.trod_bool Try.underlying4 hy
    have h0 := congrArg (·[0]?) e
    simp at h0
    exact ⟨b, h0⟩
def hoursR : World → List Value → Prop := fun _ cs => ∃ l : List Int, l.length = 6 ∧ cs = l.map (Value.int IntKind.i64)
theorem opens_hours : Opens Try.prog 24 hoursR :=
  fun H enc W spare held fuel cs d p ht hw => by
    obtain ⟨ys, m, _, _, hl, hyl, hf⟩ := DataW.trod_array Try.underlying24 ht
    have hc1 : Try.prog.cellsOf 3 = 1 := by kernel_rfl
    have hl6 : cs.length = 6 := hl.trans (by kernel_rfl)
    refine list_of_each 0 (Value.int IntKind.i64) hl6 fun i hi => ?_
    have hy := hf i hi
    rw [List.getElem?_eq_getElem (by omega), hc1] at hy
    obtain ⟨n, e, _, hwf⟩ := DataW.trod_int Try.underlying3 hy
    have h0 := congrArg (·[0]?) e
    simp at h0
    exact ⟨n, h0⟩
theorem opens_int1 : Opens Try.prog 3 (fun _ cs => ∃ x, cs = intE.enc x ∧ (Lit.int .i64 x).wf = true) := opens_int Try.underlying3
def freeR (W : World) (cs : List Value) : Prop := ∃ v xs, cs = [v] ∧ ReadsE intE W v xs ∧ xs.length * 8 ≤ 140737488351232 ∧ ∀ x ∈ xs, (Lit.int .i64 x).wf = true
theorem opens_free : Opens Try.prog 23 freeR :=
  opens_list Try.underlying23 (by kernel_rfl) (by kernel_rfl) (by decide) opens_int1
def PlanR (W : World) (cs : List Value) : Prop := ∃ p : PlanV, cs = p.cells.toList ∧ p.Ok W
def PlanR2 (W : World) (cs : List Value) : Prop := ∃ p : PlanV, cs = p.cells.toList ∧ p.Ok W ∧ p.keep ≤ 9223372036854775807
theorem drop_take {α : Type} {cs : List α} {n k : Nat} : (cs.drop n).take k = (cs.drop n).take k := rfl
set_option maxRecDepth 100000 in
theorem opens_plan2 : Opens Try.prog 26 PlanR2 := by
  refine (opens_fields Try.underlying26 [(22, 0, 7), (23, 7, 1), (24, 8, 6), (3, 14, 1), (3, 15, 1)] [weekR, freeR, hoursR, i64R, i64R] 16 (by kernel_rfl) (by kernel_rfl) ?_).mono ?_
  · intro i t R hi hR
    rcases i with _ | _ | _ | _ | _ | i <;> simp at hi hR <;> subst hi <;> subst hR
    · exact opens_week
    · exact opens_free
    · exact opens_hours
    · exact opens_i64 Try.underlying3
    · exact opens_i64 Try.underlying3
  · intro W cs ⟨hl, h⟩
    obtain ⟨we, hwe, e0⟩ := h 0 _ _ rfl rfl
    obtain ⟨v, fs, e1, hr, hfl, hfw⟩ := h 1 _ _ rfl rfl
    obtain ⟨hs, hhs, e2⟩ := h 2 _ _ rfl rfl
    obtain ⟨keep, e3, hkp⟩ := h 3 _ _ rfl rfl
    obtain ⟨rate, e4, _⟩ := h 4 _ _ rfl rfl
    refine ⟨⟨we, fs, v, hs, keep, rate⟩, ?_, ⟨hwe, hhs, hr, hfw, by show fs.length ≤ _; omega⟩, hkp.2⟩
    simp only at e0 e1 e2 e3 e4
    have hsp : cs = (cs.drop 0).take 7 ++ ((cs.drop 7).take 1 ++ ((cs.drop 8).take 6 ++ ((cs.drop 14).take 1 ++ (cs.drop 15).take 1))) := by
      clear h e0 e1 e2 e3 e4
      match cs, hl with
      | [a0, a1, a2, a3, a4, a5, a6, a7, a8, a9, a10, a11, a12, a13, a14, a15], _ => rfl
    rw [hsp, e0, e1, e2, e3, e4]
    simp [PlanV.cells]
theorem opens_plan : Opens Try.prog 26 PlanR := opens_plan2.mono fun W cs ⟨p, h1, h2, _⟩ => ⟨p, h1, h2⟩
theorem wf64 {n : Int} (h : (Lit.int .i64 n).wf = true) : -9223372036854775808 ≤ n ∧ n ≤ 9223372036854775807 := by simpa [Lit.wf, IntKind.min, IntKind.max, IntKind.signed, IntKind.bits] using h
end Go.Proofs.Ytkhhkbigpaoinaa
