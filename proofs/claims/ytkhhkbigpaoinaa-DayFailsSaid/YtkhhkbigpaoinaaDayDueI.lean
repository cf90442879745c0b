/- The numbers of the entries that are due: by contract. -/
import Derived.Test.YtkhhkbigpaoinaaDayClose
namespace Go.Proofs.Ytkhhkbigpaoinaa
set_option linter.unusedVariables false
set_option linter.unusedSimpArgs false
open Go.RowKit Go.Maps
attribute [local irreducible] Go.wpStill

set_option maxRecDepth 100000 in
set_option maxHeartbeats 4000000 in
theorem dueIds_any {w : World} {B db cb mc mb cnt : Nat} {bl : Int → Nat} {p : PlanV} {today : Int} {es : Int → Option EntV} (h : DayAt w B db cb mc mb cnt bl p today es) (hcnt : cnt < 4000000000000) :
    Calls Try.prog 27 #[.pointer (some ⟨db, 0, none⟩)] w fun e w' => ∃ v ds, e = .returned v ∧ DueL es today ds ∧ ds.length ≤ cnt ∧ RowE intE 3 w' w.heap.size v ds ∧ Below w.heap.size w w' := by
  have H := Lib.hid h
  clear h
  go_enter Try.func27, Try.ntmps27
  go_wp2_with fail
  refine (due_any (B := B) H.out.we H.out.hs H.out.blk H.out.map (fun id e he => (H.out.ent id e he).1) hcnt).mono ?_
  rintro e w2 ⟨vp, ds, rfl, hds, hdl, hrp, hb2⟩
  have HDS := Lib.hid hds
  have HP := Lib.hid hrp
  have HB2 := Lib.hid hb2
  have H2 := Lib.hid (H.out.below hb2)
  obtain ⟨pa, pc, rfl⟩ := hrp.slice
  rw [List.length_map] at HP ⊢
  clear hds hrp hb2
  go_wp2_with fail
  go_loopw [3, 9] (fun ov iv wr => ∃ i : Nat, i ≤ ds.length ∧ iv = .int .i64 i ∧ RowE intE 3 wr w2.heap.size ov (ds.take i) ∧ Below w2.heap.size w2 wr) (fun _ iv _ => ds.length - (intOf iv).toNat)
  case atStart => exact ⟨0, by omega, rfl, RowE.nil _ _, Below.refl _ _⟩
  case round =>
    obtain ⟨i, hi, rfl, hO, hW⟩ := hrel
    have HO := Lib.hid hO
    have HW := Lib.hid hW
    clear hO hW
    by_cases hlt : i < ds.length
    · obtain ⟨id, hid⟩ : ∃ id, ds[i]? = some id := ⟨_, List.getElem?_eq_getElem hlt⟩
      have hdl2 : decide ((i : Int) < ds.length) = true := decide_eq_true (by omega)
      obtain ⟨_, e, he, _⟩ := (HDS.out.2 id).1 (List.mem_of_getElem? hid)
      obtain ⟨g, o, rfl, hr0⟩ := (HP.out.reads (by rw [List.length_map]; omega)).at (show (ds.map bl)[i]? = some (bl id) by rw [List.getElem?_map, hid]; rfl)
      have c1 : wr.cell? ⟨g, o + i, none⟩ = some (.pointer (some ⟨bl id, 0, none⟩)) := by
        have := hr0 0 _ rfl
        have h2 := (HW.out.cell (p := ⟨g, o + i, none⟩) (rangeE_lt hr0)).trans (by simpa using this)
        exact h2
      have hent := (HW.out.block _ (lt_of_block (H2.out.ent id e he).1)).trans (H2.out.ent id e he).1
      have c2 := (block_cell hent 0 (.int .i64 id) rfl).1
      have hol : (ds.take i).length ≤ 4000000000000 := by rw [List.length_take]; omega
      have hsz := HW.out.size
      have hbA : Below wr.heap.size wr (wr.alloc (.cells #[.int .i64 id] 3)) := (Below.refl _ _).alloc (Nat.le_refl _) _
      have hUA := HO.out.below hbA
      have hszA := hbA.size
      obtain ⟨u', w9, hrun, hR, hg, h5, _⟩ := hUA.push intTy (by omega) id wr.heap.size 1 _ rfl (heap_alloc_new wr _) (by omega) (by omega)
      have HU9 := Lib.hid (show RowE intE 3 w9 w2.heap.size u' (ds.take (i + 1)) by rw [take_snocI hid]; exact hR)
      have HW9 := Lib.hid ((HW.out.trans (hbA.mono hsz)).trans (hUA.grown hg (by omega) (Nat.le_refl _)))
      have HRUN := Lib.hid hrun
      clear hbA hUA hszA hrun hR hg h5 hent hr0 he hid
      go_wp2_with (refine wpList_val (w' := w9) u' (by kernel_rfl) (exec_append2 rfl rfl rfl rfl ?_) ?_; focus (exact HRUN.out))
      exact ⟨⟨i + 1, by omega, by go_num, HU9.out, HW9.out⟩, by simp [intOf]; omega⟩
    · have hie : i = ds.length := by omega
      have hdl2 : decide ((i : Int) < ds.length) = false := decide_eq_false (by omega)
      rw [hie, List.take_length] at HO
      clear hie
      go_wp2_with fail
      go_ret
      exact ⟨_, ds, rfl, HDS.out, hdl, HO.out.low HB2.out.size, HB2.out.trans (HW.out.mono HB2.out.size)⟩
end Go.Proofs.Ytkhhkbigpaoinaa
