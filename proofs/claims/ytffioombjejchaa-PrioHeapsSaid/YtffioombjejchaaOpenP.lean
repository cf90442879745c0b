/- prio: a list of acts that came in, opened. -/
import Derived.Test.YtffioombjejchaaPrioQ
import Derived.ProofKit
import Derived.OpenShut
import Derived.Deep.Slices
namespace Go.Proofs.Ytffioombjejchaa
set_option linter.unusedVariables false
set_option linter.unusedSimpArgs false
open Go.RowKit Go.ChangeShapes Go.WideShapes Go.ChangeAt Go.Deep

theorem bytesAct : Try.prog.bytesOf 35 = 32 := by kernel_rfl
theorem cellsAct : Try.prog.cellsOf 35 = 4 := by kernel_rfl
theorem underAct : ∃ f0 f1 f2 f3 : Field, Try.prog.underlying 35 = some (.struct #[f0, f1, f2, f3]) ∧ f0.offset = 0 ∧ f1.offset = 1 ∧ f2.offset = 2 ∧ f3.offset = 3 ∧ f0.type = 3 ∧ f1.type = 3 ∧ f2.type = 3 ∧ f3.type = 3 := by
  refine ⟨_, _, _, _, Try.underlying35, rfl, rfl, rfl, rfl, rfl, rfl, rfl, rfl⟩
theorem cellsInt : Try.prog.cellsOf 3 = 1 := by kernel_rfl
theorem open_acts {H : Type} {enc : TypeId × Value → H} {W : World} {r : Reach} {base : Nat} {spare : Nat → Bool} {held : Bool} {v : Value} {d : DataW H} {p : List MemPlace}
    (hv : Value.okWide Try.prog W r base 22 v) (h : DataW.Trod enc Try.prog W 0 spare held 22 v d p)
    (hsz : ∀ elems sp, d = .slice elems sp → Try.prog.underlying 22 = some (.slice 35) → (elems.length + sp.length) * Try.prog.bytesOf 35 ≤ reachBytes) : ∃ xs, ReadsA W v xs := by
  obtain ⟨a0, len0, cap0, rfl⟩ := okWide_slice Try.underlying22 hv
  obtain ⟨fuel, hf⟩ := h
  have hcell : (Value.slice a0 len0 cap0).cells.toList = [.slice a0 len0 cap0] := rfl
  rw [hcell] at hf
  rcases open_slice Try.underlying22 hf with ⟨hcs, hx⟩ | ⟨a, len, cap, m, n, D, Pl, hcs, _, hl, hm, hmm, hx, hel⟩
  · simp at hcs
    obtain ⟨rfl, rfl, rfl⟩ := hcs
    exact ⟨[], by simp, none, 0, rfl, fun i x hx => by simp at hx⟩
  · simp at hcs
    obtain ⟨rfl, rfl, rfl⟩ := hcs
    simp only [Prod.mk.injEq] at hx
    have hlen : len0 * 32 ≤ 140737488351232 := by
      have := hsz _ _ hx.1 Try.underlying22
      rw [bytesAct] at this
      simp [reachBytes] at this
      omega
    have hlm : len0 ≤ m := by rw [hmm]; split <;> omega
    obtain ⟨f0, f1, f2, f3, hu, o0, o1, o2, o3, t0, t1, t2, t3⟩ := underAct
    have each : ∀ i, i < len0 → ∃ x : ActT, ∀ j u, [Value.int .i64 x.1, .int .i64 x.2.1, .int .i64 x.2.2.1, .int .i64 x.2.2.2][j]? = some u → W.cell? ((a.add (i * 4)).add j) = some u := fun i hi => by
      obtain ⟨cs', hc, ht⟩ := hel i (by omega)
      rw [cellsAct] at hc
      obtain ⟨_, hcl, hce⟩ := World.cells?_some hc
      obtain ⟨ys, k, _, _, hl2, hyl, hfs⟩ := DataW.trod_struct hu ht
      obtain ⟨c0, c1, c2, c3, rfl⟩ : ∃ c0 c1 c2 c3, cs' = [c0, c1, c2, c3] := by
        match cs', hcl with
        | [c0, c1, c2, c3], _ => exact ⟨c0, c1, c2, c3, rfl⟩
      obtain ⟨y0, y1, y2, y3, rfl⟩ : ∃ y0 y1 y2 y3, ys = [y0, y1, y2, y3] := by
        match ys, hyl with
        | [y0, y1, y2, y3], _ => exact ⟨y0, y1, y2, y3, rfl⟩
      have g0 := hfs 0 f0 rfl
      have g1 := hfs 1 f1 rfl
      have g2 := hfs 2 f2 rfl
      have g3 := hfs 3 f3 rfl
      rw [o0, t0, cellsInt] at g0
      rw [o1, t1, cellsInt] at g1
      rw [o2, t2, cellsInt] at g2
      rw [o3, t3, cellsInt] at g3
      have s0 := DataW.trod_int Try.underlying3 g0
      have s1 := DataW.trod_int Try.underlying3 g1
      have s2 := DataW.trod_int Try.underlying3 g2
      have s3 := DataW.trod_int Try.underlying3 g3
      obtain ⟨n0, e0, _⟩ := s0
      obtain ⟨n1, e1, _⟩ := s1
      obtain ⟨n2, e2, _⟩ := s2
      obtain ⟨n3, e3, _⟩ := s3
      simp at e0 e1 e2 e3
      subst e0 e1 e2 e3
      refine ⟨(n0, n1, n2, n3), fun j u hj => ?_⟩
      have hj4 : j < 4 := by
        have := (List.getElem?_eq_some_iff.1 hj).1
        simpa using this
      rw [hce j hj4]
      exact hj
    obtain ⟨F, hF⟩ := choose_lt (p := fun i (x : ActT) => ∀ j u, [Value.int .i64 x.1, .int .i64 x.2.1, .int .i64 x.2.2.1, .int .i64 x.2.2.2][j]? = some u → W.cell? ((a.add (i * 4)).add j) = some u) each
    refine ⟨(List.range len0).map F, by simpa using hlen, some a, cap0, by simp, fun i x hx => ?_⟩
    have hi : i < len0 := by
      have := (List.getElem?_eq_some_iff.1 hx).1
      simpa using this
    have hx' : F i = x := by simpa [hi] using hx
    subst hx'
    obtain ⟨g, o, spot⟩ := a
    have hspot : spot = none := by
      have := World.cell?_spot (hF 0 (by omega) 0 _ rfl)
      simpa [Addr.add] using this
    subst hspot
    refine ⟨g, o, rfl, fun j u hj => ?_⟩
    have := hF i hi j u hj
    simpa [Addr.add_lit, Nat.add_assoc] using this
end Go.Proofs.Ytffioombjejchaa
