/- slices.SortFunc at a row of keys: by contract. -/
import Derived.Test.YtkhhkbigpaoinaaSortK
import Derived.Shelf.SlSortCmp.NoneTotal
namespace Go.Proofs.Ytkhhkbigpaoinaa
set_option linter.unusedVariables false
set_option linter.unusedSimpArgs false
open Go.RowKit Go.Sort Go.Shelf

instance keyInh : Inhabited keyT := ⟨(0, 0)⟩
theorem ltOf_cmpK (x y : keyT) : ltOf cmpK x y = befK x y := by
  obtain ⟨a, b⟩ := x
  obtain ⟨c, d⟩ := y
  unfold ltOf cmpK cmpI befK
  simp only
  by_cases h1 : a < c
  · simp [h1]
  · by_cases h2 : c < a
    · have : ¬ a = c := by omega
      simp [h1, h2, this]
    · have : a = c := by omega
      subst this
      by_cases h3 : b < d
      · simp [h3]
      · by_cases h4 : d < b <;> simp [h3, h4]
theorem cmpK_swo : SWO (ltOf cmpK) where
  irrefl x := by rw [ltOf_cmpK]; simp [befK]
  trans x y z h1 h2 := by rw [ltOf_cmpK] at *; exact befK_tr h1 h2
  ntrans x y z h1 h2 := by rw [ltOf_cmpK] at *; simp [befK] at *; omega
section
variable {α : Type} [Inhabited α] {E : Enc α} {T : TypeId}
theorem flatK_eq (xs : List α) : flatK E.enc E.k xs.toArray = (flatE E xs).toArray := by
  have hl : (flatE E xs).length = xs.length * E.k := flatE_length xs
  apply Array.ext
  · simp [hl]
  · intro t h1 h2
    have h1' : t < xs.length * E.k := by simpa using h1
    have hk : 0 < E.k := by
      rcases Nat.eq_zero_or_pos E.k with e | e
      · rw [e] at h1'; simp at h1'
      · exact e
    have hd : t / E.k < xs.length := (Nat.div_lt_iff_lt_mul hk).2 h1'
    have hm : t % E.k < E.k := Nat.mod_lt _ hk
    have hx : xs[t / E.k]? = some xs[t / E.k] := List.getElem?_eq_getElem hd
    have hg := flatE_get (E := E) xs (t / E.k) (t % E.k) _ hx hm
    rw [show t / E.k * E.k + t % E.k = t from Nat.div_add_mod' t E.k] at hg
    have e1 : (flatK E.enc E.k xs.toArray)[t]! = (flatK E.enc E.k xs.toArray)[t] := by rw [getElem!_pos (flatK E.enc E.k xs.toArray) t h1]
    rw [← e1, get_flatK _ _ _ _ (by simpa using h1')]
    have e2 : xs.toArray[t / E.k]! = xs[t / E.k] := by rw [getElem!_pos xs.toArray (t / E.k) (by simpa using hd)]; simp
    rw [e2]
    have hlen : t % E.k < (E.enc xs[t / E.k]).length := by rw [E.len]; exact hm
    rw [getElem!_pos (E.enc xs[t / E.k]) (t % E.k) hlen]
    rw [List.getElem?_eq_getElem (by rw [hl]; exact h1'), List.getElem?_eq_getElem hlen] at hg
    simp only [Option.some.injEq] at hg
    rw [← hg]
    simp
theorem take_putCells_id (cur : Array Value) (F : List Value) (h : F.length ≤ cur.size) : (putCells id 0 F.toArray cur).toList.take F.length = F := by
  apply List.ext_getElem?
  intro i
  by_cases hi : i < F.length
  · rw [List.getElem?_take_of_lt hi]
    have hc : i < cur.size := by omega
    simp [putCells, hi, hc]
  · rw [List.getElem?_take]
    simp [hi, List.getElem?_eq_none (Nat.le_of_not_lt hi)]
theorem RowE.holdsK {w : World} {B g cap : Nat} {xs : List α} (a : RowE E T w B (.slice (some ⟨g, 0, none⟩) xs.length cap) xs) : HoldsK E.enc E.k w g 0 xs.toArray := by
  unfold HoldsK
  rw [flatK_eq]
  have hl : (flatE E xs).length = xs.length * E.k := flatE_length xs
  intro j hj
  have hj' : j < (flatE E xs).length := by simpa using hj
  rw [Nat.zero_add]
  refine ⟨?_, ?_⟩
  · have := a.cells j _ (List.getElem?_eq_getElem hj')
    rw [this]
    rw [getElem!_pos (flatE E xs).toArray j hj]
    simp
  · rcases a with ⟨h, _⟩ | ⟨g', cap', cur, h, hB, hh, _⟩
    · cases h
    · cases h
      simp [World.frozen?, hh]
theorem RowE.sorted {w : World} {B g cap n : Nat} {xs ys : List α} (a : RowE E T w B (.slice (some ⟨g, 0, none⟩) xs.length cap) xs) (hl : ys.length = xs.length) (os : Array Obj) :
    RowE E T (sortWorldK E.enc E.k w g 0 n ys.toArray os) B (.slice (some ⟨g, 0, none⟩) xs.length cap) ys ∧ w.grownBy (sortWorldK E.enc E.k w g 0 n ys.toArray os) (some g) := by
  rcases a with ⟨h, _⟩ | ⟨g', cap', cur, h, hB, hh, h1, h2, h3, h4⟩
  · cases h
  · cases h
    have hgl : g < w.heap.size := lt_of_block hh
    have hk : ∀ k, k < w.heap.size → (sortWorldK E.enc E.k w g 0 n ys.toArray os).heap[k]? = if g = k then (w.heap[k]?).map (onCells (putCells id 0 (flatE E ys).toArray)) else w.heap[k]? := by
      intro k hk
      unfold sortWorldK putRowK putRow mapBlock grow
      rw [flatK_eq]
      show (((Sort.ahead w n).heap.modify g (onCells (putCells id 0 (flatE E ys).toArray))) ++ os)[k]? = _
      rw [Array.getElem?_append_left (by simpa [Sort.ahead] using hk), Array.getElem?_modify]
      rfl
    have hfl : (flatE E ys).length = ys.length * E.k := flatE_length ys
    refine ⟨.inr ⟨g, cap, putCells id 0 (flatE E ys).toArray cur, by rw [hl], hB, ?_, by omega, h2, by simpa [putCells] using h3, ?_⟩, ⟨rfl, rfl, rfl, ?_, fun k hk' hne => ?_⟩⟩
    · rw [hk g hgl, if_pos rfl, hh]; rfl
    · have := take_putCells_id cur (flatE E ys) (by rw [hfl, hl]; exact Nat.le_trans (Nat.mul_le_mul_right _ h1) h3)
      rw [hfl] at this
      exact this
    · simp [sortWorldK, putRowK, putRow, mapBlock, grow, Sort.ahead]
    · rw [hk k hk', if_neg (fun e => hne (by rw [e]))]
end
/-- keys in their order -/
def sortL (xs : List keyT) : List keyT := xs.mergeSort fun x y => !(ltOf cmpK) y x
theorem sortL_perm (xs : List keyT) : (sortL xs).Perm xs := List.mergeSort_perm xs _
theorem sortL_rise {xs : List keyT} (h : xs.Nodup) : (sortL xs).Pairwise (fun x y => befK x y = true) := by
  have h1 : (sortL xs).Pairwise (fun x y => (!(ltOf cmpK) y x) = true) := by
    refine List.pairwise_mergeSort (fun a b c h1 h2 => ?_) (fun a b => ?_) xs
    · simp only [ltOf_cmpK, Bool.not_eq_true'] at *
      simp [befK] at *; omega
    · simp only [ltOf_cmpK, Bool.or_eq_true, Bool.not_eq_true']
      simp [befK]; omega
  have h2 : (sortL xs).Pairwise (fun x y => x ≠ y) := ((sortL_perm xs).nodup_iff).2 h
  refine (h1.and h2).imp fun {x y} ⟨h, hne⟩ => ?_
  rw [ltOf_cmpK] at h
  have h' : befK y x = false := by simpa using h
  exact (befK_tot hne).resolve_right (by rw [h']; simp)
end Go.Proofs.Ytkhhkbigpaoinaa
