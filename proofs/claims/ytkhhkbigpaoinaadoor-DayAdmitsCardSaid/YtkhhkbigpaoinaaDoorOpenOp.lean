/- an operation that came in, opened. -/
import Derived.Test.YtkhhkbigpaoinaaDoorOpens
import Derived.Test.YtkhhkbigpaoinaaDoorOps
namespace Go.Proofs.YtkhhkbigpaoinaaDoor
set_option linter.unusedVariables false
set_option linter.unusedSimpArgs false
open Go.RowKit Go.ChangeShapes Go.WideShapes Go.ChangeAt Go.Deep
theorem opens_leg : Opens Tryd.prog 106 (fun _ cs => ∃ x : legT, cs = legE.enc x ∧ True) :=
  (opens_ints Tryd.underlying106 (n := 5) (by kernel_rfl) (by kernel_rfl)).mono fun W cs ⟨ls, hl, hcs, _⟩ => by
    match ls, hl with
    | [a, b, c, d, e], _ => exact ⟨(a, b, c, d, e), hcs, trivial⟩
def legsR : World → List Value → Prop := fun W cs => ∃ v xs, cs = [v] ∧ ReadsE legE W v xs ∧ xs.length * (8 * 5) ≤ 140737488351232 ∧ ∀ x ∈ xs, True
theorem opens_legs : Opens Tryd.prog 22 legsR :=
  opens_list Tryd.underlying22 (by kernel_rfl) (by kernel_rfl) (by decide) opens_leg
theorem opens_key : Opens Tryd.prog 109 (fun _ cs => ∃ x : keyT, cs = keyE.enc x ∧ True) :=
  (opens_ints Tryd.underlying109 (n := 2) (by kernel_rfl) (by kernel_rfl)).mono fun W cs ⟨ls, hl, hcs, _⟩ => by
    match ls, hl with
    | [a, b], _ => exact ⟨(a, b), hcs, trivial⟩
def keysR : World → List Value → Prop := fun W cs => ∃ v xs, cs = [v] ∧ ReadsE keyE W v xs ∧ xs.length * (8 * 2) ≤ 140737488351232 ∧ ∀ x ∈ xs, True
theorem opens_keys : Opens Tryd.prog 23 keysR :=
  opens_list Tryd.underlying23 (by kernel_rfl) (by kernel_rfl) (by decide) opens_key
def OpR (W : World) (cs : List Value) : Prop := ∃ (o : OpV) (l p : Value) (ls : List legT) (ps : List keyT), cs = [.int .i64 o.code, .int .i64 o.account, .int .i64 o.asset, .int .i64 o.qty, .int .i64 o.name, .int .i64 o.id, l, p] ∧ ReadsE legE W l ls ∧ ls.length * 40 ≤ 140737488351232 ∧ ReadsE keyE W p ps ∧ ps.length * 16 ≤ 140737488351232
theorem opens_op : Opens Tryd.prog 25 OpR := by
  refine (opens_fields Tryd.underlying25 [(3, 0, 1), (3, 1, 1), (3, 2, 1), (2, 3, 1), (3, 4, 1), (3, 5, 1), (22, 6, 1), (23, 7, 1)] [i64R, i64R, i64R, i64R, i64R, i64R, legsR, keysR] 8 (by kernel_rfl) (by kernel_rfl) ?_).mono ?_
  · intro i t R hi hR
    rcases i with _ | _ | _ | _ | _ | _ | _ | _ | i <;> simp at hi hR <;> subst hi <;> subst hR
    · exact opens_i64 Tryd.underlying3
    · exact opens_i64 Tryd.underlying3
    · exact opens_i64 Tryd.underlying3
    · exact opens_i64 Tryd.underlying2
    · exact opens_i64 Tryd.underlying3
    · exact opens_i64 Tryd.underlying3
    · exact opens_legs
    · exact opens_keys
  · intro W cs ⟨hl8, h⟩
    obtain ⟨x0, cs0, rfl, hl7⟩ := list_cons hl8
    obtain ⟨x1, cs1, rfl, hl6⟩ := list_cons hl7
    obtain ⟨x2, cs2, rfl, hl5⟩ := list_cons hl6
    obtain ⟨x3, cs3, rfl, hl4⟩ := list_cons hl5
    obtain ⟨x4, cs4, rfl, hl3⟩ := list_cons hl4
    obtain ⟨x5, cs5, rfl, hl2⟩ := list_cons hl3
    obtain ⟨x6, cs6, rfl, hl1⟩ := list_cons hl2
    obtain ⟨x7, cs7, rfl, hl0⟩ := list_cons hl1
    obtain rfl := List.length_eq_zero_iff.1 hl0
    have h0 := h 0 _ _ rfl rfl
    have h1 := h 1 _ _ rfl rfl
    have h2 := h 2 _ _ rfl rfl
    have h3 := h 3 _ _ rfl rfl
    have h4 := h 4 _ _ rfl rfl
    have h5 := h 5 _ _ rfl rfl
    have h6 := h 6 _ _ rfl rfl
    have h7 := h 7 _ _ rfl rfl
    obtain ⟨n0, e0, _⟩ := h0
    obtain ⟨n1, e1, _⟩ := h1
    obtain ⟨n2, e2, _⟩ := h2
    obtain ⟨n3, e3, _⟩ := h3
    obtain ⟨n4, e4, _⟩ := h4
    obtain ⟨n5, e5, _⟩ := h5
    obtain ⟨l, ls, e6, hl6, hb6, _⟩ := h6
    obtain ⟨p, ps, e7, hl7, hb7, _⟩ := h7
    simp at e0 e1 e2 e3 e4 e5 e6 e7
    subst e0 e1 e2 e3 e4 e5 e6 e7
    exact ⟨⟨n0, n1, n2, n3, n4, n5⟩, _, _, ls, ps, rfl, hl6, by omega, hl7, by omega⟩
end Go.Proofs.YtkhhkbigpaoinaaDoor
