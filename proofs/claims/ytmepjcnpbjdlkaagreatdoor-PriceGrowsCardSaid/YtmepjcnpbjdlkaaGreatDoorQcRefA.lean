/- texts of this claim, laid together: RefA, RefB, RefC, RefAcc. -/
import Derived.Test.YtmepjcnpbjdlkaaGreatDoorQcBigF
import Derived.Test.YtmepjcnpbjdlkaaGreatDoorQcBigJ
import Derived.Test.YtmepjcnpbjdlkaaGreatDoorQcFrac
import Derived.Test.YtmepjcnpbjdlkaaGreatDoorQcDgR
/- the document's lists of digits in memory; its Times by contract. -/
namespace Go.Proofs.YtmepjcnpbjdlkaaGreatDoor
set_option linter.unusedVariables false
set_option linter.unusedSimpArgs false
open Go.RowKit Go.Proofs.YtmepjcnpbjdlkaaGreatDoorW.PrintWords Go.Proofs.YtmepjcnpbjdlkaaGreatDoorW.PrintLast Go.Proofs.YtmepjcnpbjdlkaaGreatDoorW.PrintMore
attribute [local irreducible] Go.wpStill

/-- a digit of the document's -/
def ue (d : Nat) : Value := .int .u64 (d : Int)
/-- a slice that reads as digits -/
def Ur (w : World) (v : Value) (L : List Nat) : Prop := ∃ A c, v = .slice A L.length c ∧ L.length ≤ c ∧ Kd.C (Kd.int .u64) w A L.length (DG.I L)
theorem Ur.below {w w' : World} {v : Value} {L : List Nat} (h : Ur w v L) (hb : Below w.heap.size w w') : Ur w' v L := by
  obtain ⟨A, c, h1, h2, h3⟩ := h
  exact ⟨A, c, h1, h2, Kd.C_below h3 hb⟩
theorem Ur.cell {w : World} {A : Option Addr} {n c : Nat} {L : List Nat} (h : Ur w (.slice A n c) L) {i : Nat} (hi : i < L.length) : ∃ ad, A = some ad ∧ w.cell? (ad.add i) = some (ue (L.getD i 0)) := by
  obtain ⟨A', c', h1, h2, h3⟩ := h
  injection h1 with h1
  subst h1
  obtain ⟨ad, h4, h5⟩ := Kd.at_int h3 (i : Int) (by omega) (by omega)
  rw [DG.rd_I, Int.toNat_natCast] at h5
  exact ⟨ad, h4, h5⟩
/-- a row of digits of one's own -/
def UR (w : World) (B : Nat) (v : Value) (L : List Nat) : Prop := w.ownsRow B 38 1 v L.length (L.map ue)
theorem UR.nil (w : World) (B : Nat) : UR w B (.slice none 0 0) [] := ⟨by simp, .inl ⟨rfl, rfl⟩⟩
theorem UR.slice {w : World} {B : Nat} {v : Value} {L : List Nat} (h : UR w B v L) : ∃ A c, v = .slice A L.length c := by
  rcases h.2 with ⟨h1, h2⟩ | ⟨g, cap, cur, h1, _⟩
  · exact ⟨none, 0, by rw [h1, h2]⟩
  · exact ⟨_, _, h1⟩
theorem UR.own {w : World} {B : Nat} {v : Value} {L : List Nat} (h : UR w B v L) (hl : 0 < L.length) : ∃ g c, v = .slice (some ⟨g, 0, none⟩) L.length c ∧ B ≤ g := by
  rcases h.2 with ⟨h1, h2⟩ | ⟨g, cap, cur, h1, h2, _⟩
  · omega
  · exact ⟨g, cap, h1, h2⟩
theorem UR.congr {w w' : World} {B : Nat} {v : Value} {L : List Nat} (h : UR w B v L) (hk : ∀ k, v.ownBlock = some k → w'.heap[k]? = w.heap[k]?) : UR w' B v L := by
  refine ⟨h.1, ?_⟩
  rcases h.2 with h2 | ⟨g, cap, cur, h1, h2, h3, h4⟩
  · exact .inl h2
  · exact .inr ⟨g, cap, cur, h1, h2, (hk g (by rw [h1]; rfl)).trans h3, h4⟩
theorem UR.below {w w' : World} {B : Nat} {v : Value} {L : List Nat} (h : UR w B v L) (hb : Below w.heap.size w w') : UR w' B v L := by
  refine h.congr fun k hk => ?_
  rcases h.2 with ⟨h1, _⟩ | ⟨g, cap, cur, h1, h2, h3, h4⟩
  · rw [h1] at hk; cases hk
  · rw [h1] at hk
    injection hk with hk
    exact hb.block k (by rw [← hk]; exact lt_of_block h3)
theorem UR.cell {w : World} {B g n c : Nat} {L : List Nat} (h : UR w B (.slice (some ⟨g, 0, none⟩) n c) L) {i : Nat} (hi : i < L.length) : w.cell? ⟨g, i, none⟩ = some (ue (L.getD i 0)) ∧ w.frozen? ⟨g, i, none⟩ = false := by
  rcases h.2 with ⟨h1, _⟩ | ⟨g', cap, cur, h1, h2, h3, h4, h5, h6, h7⟩
  · cases h1
  · injection h1 with h1 _ _
    injection h1 with h1
    injection h1 with h1 _ _
    subst h1
    refine ⟨?_, by simp [World.frozen?, h3]⟩
    rw [cell_of_row _ _ _ _ _ _ h3]
    have : (L.map ue)[i]? = some (ue (L.getD i 0)) := by simp [hi]
    rw [← h7, List.getElem?_take_of_lt (by omega)] at this
    simpa using this
theorem UR.set {w : World} {B g n c : Nat} {L : List Nat} (h : UR w B (.slice (some ⟨g, 0, none⟩) n c) L) {i : Nat} (hi : i < L.length) (y : Nat) : UR (w.setCell ⟨g, i, none⟩ (ue y)) B (.slice (some ⟨g, 0, none⟩) n c) (L.set i y) := by
  rcases h.2 with ⟨h1, _⟩ | ⟨g', cap, cur, h1, h2, h3, h4, h5, h6, h7⟩
  · cases h1
  · injection h1 with h1 hn hc
    injection h1 with h1
    injection h1 with h1 _ _
    subst h1
    subst hn
    subst hc
    refine ⟨by simp, .inr ⟨g, c, _, by simp, h2, heap_setCell_same w g i _ _ _ h3, by simpa using h4, h5, by simpa using h6, ?_⟩⟩
    simp only [List.length_set, Nat.mul_one] at h7 ⊢
    rw [Array.toList_setIfInBounds, List.take_set, h7, List.map_set]
theorem UR.push {w : World} {B : Nat} {v : Value} {L : List Nat} (h : UR w B v L) (hB : B ≤ w.heap.size) (y b cc : Nat) {fr : Nat × Nat} (hx : w.heap[b]? = some (.cells #[ue y] 38 fr)) (hl : L.length + 1 ≤ 1000000) :
    ∃ v' w', (Builtin.append_ #[92, 92] 92 #[v, .slice (some ⟨b, 0, none⟩) 1 cc]).run Tryz.prog w = .ok v' w' ∧ UR w' B v' (L ++ [y]) ∧ w.grownBy w' v.ownBlock := by
  obtain ⟨v', w', h1, h2, h3, _⟩ := run_append_own (P := Tryz.prog) w B 92 92 38 Tryz.t38 (.int .u64 0) 1 8 Tryz.underlying92 (by kernel_rfl) (by kernel_rfl) (by kernel_rfl) (by kernel_rfl) rfl (by decide) v L.length (L.map ue) h ⟨b, 0, none⟩ 1 cc [ue y] rfl (fun j u hu => by
      have hj : j = 0 := by have := (List.getElem?_eq_some_iff.1 hu).1; simpa using this
      subst hj
      simp at hu
      subst hu
      show w.cell? ⟨b, 0, none⟩ = _
      rw [cell_of_row _ _ _ _ _ _ hx]; rfl) (fun u hu => by simp at hu; subst hu; rfl) (by unfold maxLen; omega) (by omega) hB
  refine ⟨v', w', h1, ?_, h3⟩
  unfold UR
  rw [List.length_append, List.map_append]
  exact h2
end Go.Proofs.YtmepjcnpbjdlkaaGreatDoor
/- the document's Times by contract. -/
namespace Go.Proofs.YtmepjcnpbjdlkaaGreatDoor
set_option linter.unusedVariables false
set_option linter.unusedSimpArgs false
open Go.RowKit Go.Proofs.YtmepjcnpbjdlkaaGreatDoorW.PrintWords Go.Proofs.YtmepjcnpbjdlkaaGreatDoorW.PrintLast Go.Proofs.YtmepjcnpbjdlkaaGreatDoorW.PrintMore
open PPriceClean (custodyref04_Trim.calls custodyref04_List.calls custodyref04_Rounded.calls)
attribute [local irreducible] Go.wpStill

end Go.Proofs.YtmepjcnpbjdlkaaGreatDoor
/- the document's product, Rounded by contract. -/
namespace Go.Proofs.YtmepjcnpbjdlkaaGreatDoor
set_option linter.unusedVariables false
set_option linter.unusedSimpArgs false
open Go.RowKit Go.Proofs.YtmepjcnpbjdlkaaGreatDoorW.PrintWords Go.Proofs.YtmepjcnpbjdlkaaGreatDoorW.PrintLast Go.Proofs.YtmepjcnpbjdlkaaGreatDoorW.PrintMore
open PPriceClean (custodyref04_Trim.calls custodyref04_List.calls custodyref04_Rounded.calls)
attribute [local irreducible] Go.wpStill

end Go.Proofs.YtmepjcnpbjdlkaaGreatDoor
/- the document's Accrued by contract. -/
namespace Go.Proofs.YtmepjcnpbjdlkaaGreatDoor
set_option linter.unusedVariables false
set_option linter.unusedSimpArgs false
open Go.RowKit
attribute [local irreducible] Go.wpStill

end Go.Proofs.YtmepjcnpbjdlkaaGreatDoor
