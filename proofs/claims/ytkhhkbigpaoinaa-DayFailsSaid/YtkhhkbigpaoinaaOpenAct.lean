/- the calls of a day that came in, opened. -/
import Derived.Test.YtkhhkbigpaoinaaOpenPlan
import Derived.Test.YtkhhkbigpaoinaaDayActs
namespace Go.Proofs.Ytkhhkbigpaoinaa
set_option linter.unusedVariables false
set_option linter.unusedSimpArgs false
open Go.RowKit Go.ChangeShapes Go.WideShapes Go.ChangeAt Go.Deep

theorem opens_act : Opens Try.prog 40 (fun _ cs => ∃ x : actT, cs = actE.enc x ∧ ActOk x) :=
  (opens_ints Try.underlying40 (n := 6) (by kernel_rfl) (by kernel_rfl)).mono fun W cs ⟨ls, hl, hcs, hb⟩ => by
    match ls, hl with
    | [k, a, b, c, d, v], _ => exact ⟨(k, a, b, c, d, v), hcs, (hb v (by simp)).2⟩
def actsR : World → List Value → Prop := fun W cs => ∃ v xs, cs = [v] ∧ ReadsE actE W v xs ∧ xs.length * 48 ≤ 140737488351232 ∧ ∀ x ∈ xs, ActOk x
theorem opens_acts : Opens Try.prog 37 actsR :=
  opens_list Try.underlying37 (by kernel_rfl) (by kernel_rfl) (by decide) opens_act
end Go.Proofs.Ytkhhkbigpaoinaa
