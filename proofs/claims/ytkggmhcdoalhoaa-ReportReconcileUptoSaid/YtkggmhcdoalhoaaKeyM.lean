/- Maps whose keys are pairs of whole numbers: what such a key reads as. -/
import Derived.Test.YtkggmhcdoalhoaaRawM
import Derived.Test.YtkggmhcdoalhoaaLent
import Derived.DeepKeys4
namespace Go.Proofs.Ytkggmhcdoalhoaa
set_option linter.unusedVariables false
set_option linter.unusedSimpArgs false
open Go.RowKit Go.Maps

theorem keyLits_two {P : Program} {k i : TypeId} {fs : Array Field} (hu : P.underlying k = some (.struct fs)) (hn : P.cellsOf k = 2) (hi : P.underlying i = some (.int .i64))
    (hfs : fs.toList.map (fun f => (f.name != "_", f.type, f.offset, P.cellsOf f.type)) = [(true, i, 0, 1), (true, i, 1, 1)]) (m : Nat) (cs : List Value) (L : List Lit) (h : P.keyLits (m + 2) k cs = some L) :
    ∃ a b, cs = [.int .i64 a, .int .i64 b] ∧ (Lit.int .i64 a).wf = true ∧ (Lit.int .i64 b).wf = true := by
  obtain ⟨f, g, hfg⟩ : ∃ f g, fs.toList = [f, g] := by
    have hl : fs.toList.length = 2 := by simpa using congrArg List.length hfs
    rcases hf : fs.toList with _ | ⟨f, _ | ⟨g, _ | ⟨z, r⟩⟩⟩
    · rw [hf] at hl; cases hl
    · rw [hf] at hl; cases hl
    · exact ⟨f, g, rfl⟩
    · rw [hf] at hl; simp at hl
  rw [hfg] at hfs
  simp only [List.map_cons, List.map_nil, List.cons.injEq, Prod.mk.injEq, and_true] at hfs
  obtain ⟨⟨_, t1, o1, c1⟩, ⟨_, t2, o2, c2⟩⟩ := hfs
  unfold Program.keyLits at h
  simp only [hu] at h
  split at h
  · rename_i hc
    have hlen : cs.length = 2 := by rw [hc.1, hn]
    match cs, hlen with
    | [x, y], _ =>
      rw [hfg] at h
      have c1' : P.cellsOf i = 1 := by rw [← t1]; exact c1
      simp only [List.mapM_cons, List.mapM_nil, t1, o1, t2, o2, List.drop_zero, List.drop_succ_cons, c1', List.take_succ_cons, List.take_zero] at h
      have key : ∀ v l, P.keyLits (m + 1) i [v] = some l → ∃ a, v = .int .i64 a ∧ (Lit.int .i64 a).wf = true := by
        intro v l hv
        unfold Program.keyLits at hv
        simp only [hi] at hv
        cases v <;> simp at hv
        obtain ⟨⟨rfl, hw⟩, _⟩ := hv
        exact ⟨_, rfl, hw⟩
      rcases hx : P.keyLits (m + 1) i [x] with _ | lx
      · rw [hx] at h; simp at h
      · rcases hy : P.keyLits (m + 1) i [y] with _ | ly
        · rw [hx, hy] at h; simp at h
        · obtain ⟨a, rfl, ha⟩ := key x lx hx
          obtain ⟨b, rfl, hb⟩ := key y ly hy
          exact ⟨a, b, rfl, ha, hb⟩
  · cases h
theorem key_law : Keyed Try.prog 34 := Keyed.of_law (deep_law_laid (by kernel_rfl) (m := 2) (by omega) (of_decide_eq_true (by kernel_rfl)) (by kernel_rfl) (by kernel_rfl))
def keyGood (x : keyT) : Prop := (Lit.int .i64 x.1).wf = true ∧ (Lit.int .i64 x.2).wf = true
theorem keyOf_key (x : keyT) (h : keyGood x) : ∃ l, keyOf Try.prog 34 (.agg #[.int .i64 x.1, .int .i64 x.2]) = some l := by
  obtain ⟨a, b⟩ := x
  obtain ⟨h1, h2⟩ := h
  simp only at h1 h2
  obtain ⟨m, hm⟩ : ∃ m, Try.prog.types.size + 1 = m + 2 := ⟨Try.prog.types.size - 1, by kernel_rfl⟩
  have hk : Try.prog.keyType 34 = true := by kernel_rfl
  have hc : Try.prog.cellsOf 34 = 2 := by kernel_rfl
  have hi : Try.prog.cellsOf 3 = 1 := by kernel_rfl
  unfold keyOf
  simp only [Try.underlying34]
  rw [if_pos (by simp [hk, hc, Value.formed, Try.underlying34]), hm]
  unfold Program.keyLits
  simp [Try.underlying34, Try.underlying3, hc, hi, Value.cells, Program.keyLits, h1, h2]
noncomputable def keyKey : KeyK Try.prog 34 keyT where
  val x := .agg #[.int .i64 x.1, .int .i64 x.2]
  lit x := (keyOf Try.prog 34 (.agg #[.int .i64 x.1, .int .i64 x.2])).getD (.bool true)
  good := keyGood
  keyed := key_law
  of x hx := by obtain ⟨l, hl⟩ := keyOf_key x hx; rw [hl]; rfl
  inj x y hx hy e := by
    obtain ⟨l, hl⟩ := keyOf_key x hx
    obtain ⟨l2, hl2⟩ := keyOf_key y hy
    rw [hl, hl2] at e
    simp only [Option.getD_some] at e
    subst e
    have h := key_law.inj hl hl2
    obtain ⟨a, b⟩ := x
    obtain ⟨c, d⟩ := y
    simp at h
    simp [h.1, h.2]
  inv v l h := by
    obtain ⟨xs, L, rfl, hl, rfl⟩ := keyOf_top (by kernel_rfl) h
    obtain ⟨m, hm⟩ : ∃ m, Try.prog.types.size + 1 = m + 2 := ⟨Try.prog.types.size - 1, by kernel_rfl⟩
    rw [hm] at hl
    obtain ⟨a, b, hcs, ha, hb⟩ := keyLits_two Try.underlying34 (by kernel_rfl) Try.underlying3 (by kernel_rfl) m _ _ hl
    have hx : xs = #[.int .i64 a, .int .i64 b] := Array.toList_inj.1 (by simpa using hcs)
    subst hx
    exact ⟨(a, b), ⟨ha, hb⟩, rfl, by rw [h]; rfl⟩
end Go.Proofs.Ytkggmhcdoalhoaa
