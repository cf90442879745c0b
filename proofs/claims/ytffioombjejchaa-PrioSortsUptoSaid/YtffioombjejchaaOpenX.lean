/- prio: a list of texts that came in, opened, with the bound of its bulk. -/
import Derived.Test.YtffioombjejchaaStO
import Derived.Test.YtffioombjejchaaRows
import Derived.ProofKit
import Derived.OpenShut
import Derived.Deep.Slices
namespace Go.Proofs.Ytffioombjejchaa.St
set_option linter.unusedVariables false
set_option linter.unusedSimpArgs false
open Go.RowKit Go.ChangeShapes Go.WideShapes Go.ChangeAt Go.Deep

theorem bulk_one {H : Type} (d : DataW H) : 1 ≤ Rows.uptoBulk d := by
  cases d with
  | lit l => cases l <;> simp [Rows.uptoBulk]
  | nil => simp [Rows.uptoBulk]
  | ptr d => simp [Rows.uptoBulk]
  | slice elems spare => simp [Rows.uptoBulk]
  | agg parts => simp [Rows.uptoBulk]
  | iface t d => simp [Rows.uptoBulk]
  | map entries => simp [Rows.uptoBulk]
  | held h => simp [Rows.uptoBulk]
theorem bulk_length {H : Type} (l : List (DataW H)) : l.length ≤ Rows.uptoBulkAll l := by
  induction l with
  | nil => simp [Rows.uptoBulkAll]
  | cons x r ih => have := bulk_one x; simp only [Rows.uptoBulkAll, List.length_cons]; omega
theorem bulk_slice {H : Type} (elems spare : List (DataW H)) : elems.length + spare.length + 1 ≤ Rows.uptoBulk (.slice elems spare) := by
  have h1 := bulk_length elems
  have h2 := bulk_length spare
  simp only [Rows.uptoBulk]
  omega
theorem cellsStr : Try.prog.cellsOf 9 = 1 := by kernel_rfl
theorem open_texts {H : Type} {enc : TypeId × Value → H} {W : World} {r : Reach} {base : Nat} {spare : Nat → Bool} {held : Bool} {v : Value} {d : DataW H} {p : List MemPlace}
    (hv : Value.okWide Try.prog W r base 50 v) (h : DataW.Trod enc Try.prog W 0 spare held 50 v d p)
    (hsz : Rows.uptoBulk d ≤ 1048576) : ∃ ls, ReadsX W v ls ∧ ls.length ≤ 1048576 := by
  obtain ⟨a0, len0, cap0, rfl⟩ := okWide_slice Try.underlying50 hv
  obtain ⟨fuel, hf⟩ := h
  have hcell : (Value.slice a0 len0 cap0).cells.toList = [.slice a0 len0 cap0] := rfl
  rw [hcell] at hf
  rcases open_slice Try.underlying50 hf with ⟨hcs, hx⟩ | ⟨a, len, cap, m, n, D, Pl, hcs, _, hl, hm, hmm, hx, hel⟩
  · simp at hcs
    obtain ⟨rfl, rfl, rfl⟩ := hcs
    exact ⟨[], ⟨by simp, none, 0, rfl, fun i x hx => by simp at hx⟩, by simp⟩
  · simp at hcs
    obtain ⟨rfl, rfl, rfl⟩ := hcs
    simp only [Prod.mk.injEq] at hx
    have hlen : len0 ≤ 1048576 := by
      have h1 := hx.1
      subst h1
      have h2 := bulk_slice ((List.range len0).map D) ((List.range (m - len0)).map fun i => D (len0 + i))
      first | (simp at h2; simp at hsz; omega) | (rw [hx.1] at hsz; simp at h2 hsz; omega)
    have hlm : len0 ≤ m := by rw [hmm]; split <;> omega
    have each : ∀ i, i < len0 → ∃ x : Str, W.cell? (a.add (i * 1)) = some (.string x) := fun i hi => by
      obtain ⟨cs', hc, ht⟩ := hel i (by omega)
      rw [cellsStr] at hc
      obtain ⟨_, hcl, hce⟩ := World.cells?_some hc
      obtain ⟨s, rfl, _, _⟩ := DataW.trod_string Try.underlying9 ht
      refine ⟨s, ?_⟩
      have h0 := hce 0 (by decide)
      have hz : ∀ b : Addr, b.add 0 = b := fun b => by simp [Addr.add]
      have ha : (a.add (i * 1)).add 0 = a.add (i * 1) := hz _
      rw [ha] at h0
      simpa using h0
    obtain ⟨F, hF⟩ := choose_lt (p := fun i (x : Str) => W.cell? (a.add (i * 1)) = some (.string x)) each
    refine ⟨(List.range len0).map F, ⟨by simp; omega, some a, cap0, by simp, fun i x hx => ?_⟩, by simpa using hlen⟩
    have hi : i < len0 := by
      have := (List.getElem?_eq_some_iff.1 hx).1
      simpa using this
    have hx' : F i = x := by simpa [hi] using hx
    subst hx'
    obtain ⟨g, o, spot⟩ := a
    have hspot : spot = none := by
      have := World.cell?_spot (hF 0 (by omega))
      simpa [Addr.add] using this
    subst hspot
    refine ⟨g, o, rfl, ?_⟩
    have := hF i hi
    simpa [Addr.add_lit, Nat.add_assoc] using this
end Go.Proofs.Ytffioombjejchaa.St
