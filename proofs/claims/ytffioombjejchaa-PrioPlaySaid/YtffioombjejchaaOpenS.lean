/- prio: a list of steps that came in, opened. -/
import Derived.Test.YtffioombjejchaaPrioW
import Derived.ProofKit
import Derived.OpenShut
import Derived.Deep.Slices
namespace Go.Proofs.Ytffioombjejchaa
set_option linter.unusedVariables false
set_option linter.unusedSimpArgs false
open Go.RowKit Go.ChangeShapes Go.WideShapes Go.ChangeAt Go.Deep

theorem bytesStep : Try.prog.bytesOf 64 = 24 := by kernel_rfl
theorem cellsStep : Try.prog.cellsOf 64 = 3 := by kernel_rfl
theorem cellsInt3 : Try.prog.cellsOf 3 = 1 := by kernel_rfl
theorem open_steps {H : Type} {enc : TypeId × Value → H} {W : World} {r : Reach} {base : Nat} {spare : Nat → Bool} {held : Bool} {v : Value} {d : DataW H} {p : List MemPlace}
    (hv : Value.okWide Try.prog W r base 62 v) (h : DataW.Trod enc Try.prog W 0 spare held 62 v d p)
    (hsz : ∀ elems sp, d = .slice elems sp → Try.prog.underlying 62 = some (.slice 64) → (elems.length + sp.length) * Try.prog.bytesOf 64 ≤ reachBytes) : ∃ xs, ReadsS W v xs := by
  obtain ⟨a0, len0, cap0, rfl⟩ := okWide_slice Try.underlying62 hv
  obtain ⟨fuel, hf⟩ := h
  have hcell : (Value.slice a0 len0 cap0).cells.toList = [.slice a0 len0 cap0] := rfl
  rw [hcell] at hf
  rcases open_slice Try.underlying62 hf with ⟨hcs, hx⟩ | ⟨a, len, cap, m, n, D, Pl, hcs, _, hl, hm, hmm, hx, hel⟩
  · simp at hcs
    obtain ⟨rfl, rfl, rfl⟩ := hcs
    exact ⟨[], by simp, none, 0, rfl, fun i x hx => by simp at hx⟩
  · simp at hcs
    obtain ⟨rfl, rfl, rfl⟩ := hcs
    simp only [Prod.mk.injEq] at hx
    have hlen : len0 * 24 ≤ 140737488351232 := by
      have := hsz _ _ hx.1 Try.underlying62
      rw [bytesStep] at this
      simp [reachBytes] at this
      omega
    have hlm : len0 ≤ m := by rw [hmm]; split <;> omega
    have each : ∀ i, i < len0 → ∃ x : StepT, ∀ j u, [Value.int .i64 x.1, .int .i64 x.2.1, .int .i64 x.2.2][j]? = some u → W.cell? ((a.add (i * 3)).add j) = some u := fun i hi => by
      obtain ⟨cs', hc, ht⟩ := hel i (by omega)
      rw [cellsStep] at hc
      obtain ⟨_, hcl, hce⟩ := World.cells?_some hc
      obtain ⟨ys, k, _, _, hl2, hyl, hfs⟩ := DataW.trod_array Try.underlying64 ht
      obtain ⟨c0, c1, c2, rfl⟩ : ∃ c0 c1 c2, cs' = [c0, c1, c2] := by
        match cs', hcl with
        | [c0, c1, c2], _ => exact ⟨c0, c1, c2, rfl⟩
      obtain ⟨y0, y1, y2, rfl⟩ : ∃ y0 y1 y2, ys = [y0, y1, y2] := by
        match ys, hyl with
        | [y0, y1, y2], _ => exact ⟨y0, y1, y2, rfl⟩
      have g0 := hfs 0 (by omega)
      have g1 := hfs 1 (by omega)
      have g2 := hfs 2 (by omega)
      rw [cellsInt3] at g0 g1 g2
      obtain ⟨n0, e0, _⟩ := DataW.trod_int Try.underlying3 g0
      obtain ⟨n1, e1, _⟩ := DataW.trod_int Try.underlying3 g1
      obtain ⟨n2, e2, _⟩ := DataW.trod_int Try.underlying3 g2
      simp at e0 e1 e2
      subst e0 e1 e2
      refine ⟨(n0, n1, n2), fun j u hj => ?_⟩
      have hj4 : j < 3 := by
        have := (List.getElem?_eq_some_iff.1 hj).1
        simpa using this
      rw [hce j hj4]
      exact hj
    obtain ⟨F, hF⟩ := choose_lt (p := fun i (x : StepT) => ∀ j u, [Value.int .i64 x.1, .int .i64 x.2.1, .int .i64 x.2.2][j]? = some u → W.cell? ((a.add (i * 3)).add j) = some u) each
    refine ⟨(List.range len0).map F, by simpa using hlen, some a, cap0, by simp, fun i x hx => ?_⟩
    have hi : i < len0 := by
      have := (List.getElem?_eq_some_iff.1 hx).1
      simpa using this
    have hx' : F i = x := by simpa [hi] using hx
    subst hx'
    obtain ⟨g, o, spot⟩ := a
    have hspot : spot = none := by
      have := World.cell?_spot (hF 0 (by omega) 0 _ rfl)
      simpa [Addr.add] using this
    subst hspot
    refine ⟨g, o, rfl, fun j u hj => ?_⟩
    have := hF i hi j u hj
    simpa [Addr.add_lit, Nat.add_assoc] using this
end Go.Proofs.Ytffioombjejchaa
