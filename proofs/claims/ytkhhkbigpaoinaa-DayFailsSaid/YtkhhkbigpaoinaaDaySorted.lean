/- A row of pointers to entries sorted: by contract. -/
import Derived.Test.YtkhhkbigpaoinaaDaySort
namespace Go.Proofs.Ytkhhkbigpaoinaa
set_option linter.unusedVariables false
set_option linter.unusedSimpArgs false
open Go.RowKit Go.Sort Go.Shelf

abbrev ptrE : Enc Nat := ⟨fun b => [.pointer (some ⟨b, 0, none⟩)], 1, by decide, fun x => rfl, fun x => all_one rfl⟩
theorem flat_ptr (ys : List Nat) : flatE ptrE ys = ys.map fun b => Value.pointer (some ⟨b, 0, none⟩) := by
  induction ys with
  | nil => rfl
  | cons y ys ih => rw [flatE_cons, ih]; rfl
theorem putCells_map {α : Type} [Inhabited α] (enc : α → Value) (d : Array α) : putCells enc 0 d = putCells id 0 (d.map enc) := by
  funext c
  unfold putCells
  congr 1
  funext k x
  by_cases h : 0 ≤ k ∧ k < 0 + d.size
  · have h' : 0 ≤ k ∧ k < 0 + (d.map enc).size := by simpa using h
    have hk : k < d.size := by omega
    rw [if_pos h, if_pos h', Nat.sub_zero, getElem!_pos d k hk, getElem!_pos (d.map enc) k (by simpa using hk)]
    simp
  · have h' : ¬ (0 ≤ k ∧ k < 0 + (d.map enc).size) := by simpa using h
    rw [if_neg h, if_neg h']
theorem sortWorld_ptr {α : Type} [Inhabited α] (f : α → Nat) (w : World) (g n : Nat) (dk : Array α) (os : Array Obj) :
    sortWorld (fun x : α => Value.pointer (some ⟨f x, 0, none⟩)) w g 0 n dk os = sortWorldK ptrE.enc ptrE.k w g 0 n (dk.toList.map f).toArray os := by
  unfold sortWorld sortWorldK putRowK
  rw [flatK_eq, flat_ptr]
  unfold putRow
  rw [putCells_map]
  congr 4
  apply Array.ext'
  simp
/-- an entry's place in the order: its day, its number -/
def dkey (es : Int → Option EntV) (id : Int) : Int × Int := (((es id).map EntV.settle).getD 0, id)
/-- the numbers in the order of their entries -/
def dueSort (es : Int → Option EntV) (ids : List Int) : List Int := (sortL (ids.map (dkey es))).map (·.2)
set_option maxHeartbeats 2000000 in
theorem sortPtrs_any {w : World} {B : Nat} {v : Value} {es : Int → Option EntV} {bl : Int → Nat} {ids : List Int} (a : RowE ptrE 73 w B v (ids.map bl)) (hl : ids.length < 4611686018427387904)
    (he : ∀ id ∈ ids, ∃ e, es id = some e ∧ w.heap[bl id]? = some (.cells (e.cells id) 76 (0, 0))) :
    Calls Try.prog 42 #[v, .func (.func 43) #[] #[]] w fun e w' => e = .returned (.tuple #[]) ∧ RowE ptrE 73 w' B v ((dueSort es ids).map bl) ∧ w.grownBy w' v.ownBlock := by
  have a0 := a
  rcases a with ⟨rfl, hnil⟩ | ⟨g, cap, cur, rfl, hB', hh, h1, h2, h3, h4⟩
  · have hids : ids = [] := by simpa using hnil
    subst hids
    refine (AnyF.slices_SortFunc_none (ρ := Try.sortPtrs_ren) { Try.sortPtrs with } none 0 _ w).mono ?_
    rintro e w' ⟨rfl, rfl⟩
    exact ⟨rfl, by simpa [dueSort, sortL] using RowE.nil _ _, rfl, rfl, rfl, Nat.le_refl _, fun k hk hne => rfl⟩
  · rcases ids with _ | ⟨id0, ids⟩
    · refine (AnyF.slices_SortFunc_none (ρ := Try.sortPtrs_ren) { Try.sortPtrs with } (some ⟨g, 0, none⟩) cap _ w).mono ?_
      rintro e w' ⟨rfl, rfl⟩
      exact ⟨rfl, by simpa [dueSort, sortL] using a0, rfl, rfl, rfl, Nat.le_refl _, fun k hk hne => rfl⟩
    · generalize hI : id0 :: ids = I at *
      have hI0 : id0 ∈ I := by rw [← hI]; simp
      have hlen : (I.map bl).length = I.length := by simp
      haveI : Inhabited { x : Int × Int // x ∈ I.map (dkey es) } := ⟨⟨dkey es id0, List.mem_map.2 ⟨id0, hI0, rfl⟩⟩⟩
      obtain ⟨d, hd1, hd2⟩ : ∃ d : Array { x : Int × Int // x ∈ I.map (dkey es) }, d.toList.map (·.1) = I.map (dkey es) ∧ d.size = I.length := by
        refine ⟨((I.map (dkey es)).attach.map fun x => ⟨x.1, x.2⟩).toArray, ?_, by simp⟩
        simp
        first | exact List.attach_map_subtype_val _ | exact List.attach_map_val _ (fun x => x)
      have hgl := lt_of_block hh
      have hbk : ∀ (m : Nat) (os : Array Obj) (dk : Array { x : Int × Int // x ∈ I.map (dkey es) }), dk.size = d.size → ∀ k, k < w.heap.size → k ≠ g → (sortWorld (fun x : { x : Int × Int // x ∈ I.map (dkey es) } => Value.pointer (some ⟨bl x.1.2, 0, none⟩)) w g 0 m dk os).heap[k]? = w.heap[k]? := fun m os dk hdk k hk hne => by
        rw [sortWorld_ptr (fun x : { x : Int × Int // x ∈ I.map (dkey es) } => bl x.1.2)]
        have := (RowE.sorted (n := m) (ys := dk.toList.map fun x => bl x.1.2) a0 (by simp [hdk, hd2]) os).2
        exact this.block k hk (fun e => hne (by injection e))
      have hat : ∀ x : { x : Int × Int // x ∈ I.map (dkey es) }, ∃ e : EntV, x.1 = (e.settle, x.1.2) ∧ w.heap[bl x.1.2]? = some (.cells (e.cells x.1.2) 76 (0, 0)) := fun x => by
        obtain ⟨id, hid, hx⟩ := List.mem_map.1 x.2
        obtain ⟨e, hes, hblk⟩ := he id hid
        rw [← hx]
        exact ⟨e, by simp [dkey, hes], hblk⟩
      have hne : ∀ (id : Int) (e : EntV), w.heap[bl id]? = some (.cells (e.cells id) 76 (0, 0)) → bl id ≠ g := fun id e hb hq => by
        rw [hq, hh] at hb
        injection hb with hb
        injection hb with _ hb
        exact absurd hb (by decide)
      have hO : SWO (ltOf fun x y : { x : Int × Int // x ∈ I.map (dkey es) } => cmpK x.1 y.1) := ⟨fun x => cmpK_swo.irrefl x.1, fun x y z => cmpK_swo.trans x.1 y.1 z.1, fun x y z => cmpK_swo.ntrans x.1 y.1 z.1⟩
      have hH : Holds (fun x : { x : Int × Int // x ∈ I.map (dkey es) } => Value.pointer (some ⟨bl x.1.2, 0, none⟩)) w g 0 d := fun j hj => by
        have hjI : j < I.length := by omega
        have hx : d[j]!.1 = dkey es I[j] := by
          rw [getElem!_pos d j hj]
          have := congrArg (·[j]?) hd1
          simpa [hj, hjI] using this
        show w.cell? ⟨g, 0 + j, none⟩ = some (Value.pointer (some ⟨bl d[j]!.1.2, 0, none⟩)) ∧ _
        rw [hx, Nat.zero_add]
        refine ⟨?_, by simp [World.frozen?, hh]⟩
        have := a0.cells j (.pointer (some ⟨bl I[j], 0, none⟩)) (by rw [flat_ptr]; simp [hjI])
        exact this
      have hc := Any.slices_SortFunc_total Try.sortPtrs (fun x : { x : Int × Int // x ∈ I.map (dkey es) } => Value.pointer (some ⟨bl x.1.2, 0, none⟩)) (fun x => rfl) (fun x y => cmpK x.1 y.1) hO 43 #[] g 0 cap d w (enters_of Try.func43 (by kernel_rfl) rfl)
        (fun m os dk hdk x y => by
          obtain ⟨e1, hx1, hb1⟩ := hat x
          obtain ⟨e2, hx2, hb2⟩ := hat y
          have := dueCmp_any (sortWorld (fun x : { x : Int × Int // x ∈ I.map (dkey es) } => Value.pointer (some ⟨bl x.1.2, 0, none⟩)) w g 0 m dk os) (bl x.1.2) (bl y.1.2) x.1.2 y.1.2 e1 e2 ((hbk m os dk hdk _ (lt_of_block hb1) (hne _ _ hb1)).trans hb1) ((hbk m os dk hdk _ (lt_of_block hb2) (hne _ _ hb2)).trans hb2)
          rw [← hx1, ← hx2] at this
          exact this) hH hgl (by omega) (fun x y h1 h2 => by
          have e1 : befK x.1 y.1 = false := by rw [← ltOf_cmpK]; exact h1
          have e2 : befK y.1 x.1 = false := by rw [← ltOf_cmpK]; exact h2
          apply Subtype.ext
          by_cases e : x.1 = y.1
          · exact e
          · rcases befK_tot e with h | h
            · rw [e1] at h; cases h
            · rw [e2] at h; cases h)
      have hsz : d.size = (I.map bl).length := by simp [hd2]
      rw [hsz] at hc
      refine hc.mono ?_
      rintro e w' ⟨rfl, n, os, rfl⟩
      rw [sortWorld_ptr (fun x : { x : Int × Int // x ∈ I.map (dkey es) } => bl x.1.2)]
      have hms : (d.toList.mergeSort fun x y => !(ltOf fun x y : { x : Int × Int // x ∈ I.map (dkey es) } => cmpK x.1 y.1) y x).map (·.1) = sortL (I.map (dkey es)) := by
        refine (List.map_mergeSort (f := fun x : { x : Int × Int // x ∈ I.map (dkey es) } => x.1) (s := fun x y => !(ltOf cmpK) y x) (fun a _ b _ => rfl)).trans ?_
        unfold sortL
        exact congrArg (fun l => l.mergeSort fun x y => !(ltOf cmpK) y x) hd1
      have hys : ((d.toList.mergeSort fun x y => !(ltOf fun x y : { x : Int × Int // x ∈ I.map (dkey es) } => cmpK x.1 y.1) y x).toArray.toList.map fun x => bl x.1.2) = (dueSort es I).map bl := by
        unfold dueSort
        rw [← hms, List.map_map, List.map_map]
        rfl
      rw [hys]
      have hs := RowE.sorted (n := n) (ys := (dueSort es I).map bl) a0 (by rw [← hys]; simp [hd2]) os
      exact ⟨rfl, hs.1, hs.2⟩
end Go.Proofs.Ytkhhkbigpaoinaa
