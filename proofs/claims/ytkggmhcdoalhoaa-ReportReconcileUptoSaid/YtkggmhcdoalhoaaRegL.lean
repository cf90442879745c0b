/- a load for which k waits by way of another operation. -/
import Derived.Test.YtkggmhcdoalhoaaExec
namespace Go.Proofs.Ytkggmhcdoalhoaa
set_option linter.unusedVariables false
set_option linter.unusedSimpArgs false
open Go.RowKit

section
variable {P : Program} {md : Region.Mode} {ops : Array Oper} {Q : Exit → Act → World → Prop} {S : World → Prop} {k : Nat}
theorem waits_spec {l : Array Bool} {i j : Nat} (hun : l.getD i false = false) (hj : j ∈ Region.ready md ops l)
    (hwait : (match ops[j]? with | some o => o.after.any fun e => Region.binds md e && e.on == i | none => false) = true) : False := by
  obtain ⟨_, o, ho, hall⟩ := mem_ready.1 hj
  rw [ho] at hwait
  obtain ⟨e, he, hb⟩ := Array.any_eq_true'.1 hwait
  simp only [Bool.and_eq_true, beq_iff_eq] at hb
  have h1 := hall e he hb.1
  rw [hb.2, hun] at h1
  cases h1
theorem rt_load2 {oi : Oper} (i k2 : Nat) (v : Value) {fuel : Nat} {listed : Array Bool} {a : Act} {w : World} (hi : ops[i]? = some oi) (hik : (i != k) = true)
    (hs : Region.noSelect ops = true) (hf : Region.free md ops listed i = true) (hr : (Region.ready md ops listed).contains i = true) (hku : listed.getD k true = false) (hku2 : listed.getD k2 true = false)
    (hwait : (match ops[k]? with | some o => o.after.any fun e => Region.binds md e && e.on == k2 | none => false) = true)
    (hwait2 : (match ops[k2]? with | some o => o.after.any fun e => Region.binds md e && e.on == i | none => false) = true)
    (hQ : ∀ c a w, Q (.panic c) (a.put oi.dst v) w → Q (.panic c) a w) (hw : Region.wanted oi (yielded ops a.tmps) = true) (hS : S w) (hy : ∀ w, S w → (execOp a.eval oi).run P w = .ok (.value v) w)
    (h : wpTill P md ops Q S k fuel (listed.setIfInBounds i true) (a.put oi.dst v) w) : wpTill P md ops Q S k (fuel + 1) listed a w := by
  refine till_first (T := S) (c := fun l => l.getD k true = false ∧ l.getD k2 true = false) (by simpa using hik) hi (Region.noSelect_spec hs) hQ (fun l w hl hS => hS hl.1) (fun l j hir hj hji hl => ?_) fuel listed a w (Region.free_spec hi hf) (by simpa using hr) (.inl ⟨hw, hy⟩) ⟨hku, hku2⟩ (fun _ => hS) h
  have hjk : j ≠ k := fun e => by
    subst e
    exact waits_spec (unlisted_both hl.2) hj hwait
  have hjk2 : j ≠ k2 := fun e => by
    subst e
    exact waits_spec (unlisted_both (mem_ready.1 hir).1) hj hwait2
  refine ⟨?_, ?_⟩
  · rw [getD_set_ne true hjk]; exact hl.1
  · rw [getD_set_ne true hjk2]; exact hl.2
end
end Go.Proofs.Ytkggmhcdoalhoaa
