/- The entries that are due, in order: by contract. -/
import Derived.Test.YtkhhkbigpaoinaaDaySorted
namespace Go.Proofs.Ytkhhkbigpaoinaa
set_option linter.unusedVariables false
set_option linter.unusedSimpArgs false
open Go.RowKit Go.Maps Go.Sort
attribute [local irreducible] Go.wpStill

theorem ptrTy : ElT Try.prog ptrE 73 81 8 := by
  refine ⟨Try.underlying81, ?_⟩
  have : (Try.prog.info? 73).map (fun i => (i.zero.map (fun z => z.cells.size), i.size, i.bytes)) = some (some 1, 1, 8) := by kernel_rfl
  obtain ⟨i, h1, h2⟩ := Option.map_eq_some_iff.1 this
  simp at h2
  obtain ⟨⟨z, hz, hz2⟩, h3, h4⟩ := h2
  exact ⟨i, z, h1, hz, hz2, h3, h4⟩
/-- those that are due, in the order of their days and numbers -/
def DueL (es : Int → Option EntV) (today : Int) (ds : List Int) : Prop := (ds.map (dkey es)).Pairwise (fun x y => befK x y = true) ∧ ∀ x, x ∈ ds ↔ (keyD.good x ∧ ∃ e, es x = some e ∧ e.settle ≤ today)
theorem map_snd_dkey (es : Int → Option EntV) (l : List Int) : (l.map (dkey es)).map (·.2) = l := by
  rw [List.map_map]; exact (List.map_congr_left (fun x _ => rfl)).trans (List.map_id l)
theorem mem_dueSort (es : Int → Option EntV) (ids : List Int) (x : Int) : x ∈ dueSort es ids ↔ x ∈ ids := by
  unfold dueSort
  rw [List.mem_map]
  constructor
  · rintro ⟨k, hk, rfl⟩
    obtain ⟨id, hid, rfl⟩ := List.mem_map.1 ((sortL_perm _).mem_iff.1 hk)
    exact hid
  · intro hx
    exact ⟨dkey es x, (sortL_perm _).mem_iff.2 (List.mem_map.2 ⟨x, hx, rfl⟩), rfl⟩
theorem dkey_dueSort (es : Int → Option EntV) (ids : List Int) : (dueSort es ids).map (dkey es) = sortL (ids.map (dkey es)) := by
  unfold dueSort
  rw [List.map_map]
  refine (List.map_congr_left (g := id) (fun k hk => ?_)).trans (List.map_id _)
  obtain ⟨i, hi, rfl⟩ := List.mem_map.1 ((sortL_perm _).mem_iff.1 hk)
  rfl
theorem dueL_sort {es : Int → Option EntV} {today : Int} {ids : List Int} (hn : ids.Nodup) (hm : ∀ x, x ∈ ids ↔ (keyD.good x ∧ ∃ e, es x = some e ∧ e.settle ≤ today)) : DueL es today (dueSort es ids) := by
  refine ⟨?_, fun x => (mem_dueSort es ids x).trans (hm x)⟩
  rw [dkey_dueSort]
  exact sortL_rise (List.Pairwise.map (dkey es) (fun a b h e => h (congrArg (·.2) e)) hn)
theorem DueL.unique {es : Int → Option EntV} {today : Int} {ds ds' : List Int} (h : DueL es today ds) (h' : DueL es today ds') : ds = ds' := by
  have : ds.map (dkey es) = ds'.map (dkey es) := rise_ext _ _ h.1 h'.1 fun x => by
    constructor
    · intro hx
      obtain ⟨i, hi, rfl⟩ := List.mem_map.1 hx
      exact List.mem_map.2 ⟨i, (h'.2 i).2 ((h.2 i).1 hi), rfl⟩
    · intro hx
      obtain ⟨i, hi, rfl⟩ := List.mem_map.1 hx
      exact List.mem_map.2 ⟨i, (h.2 i).2 ((h'.2 i).1 hi), rfl⟩
  rw [← map_snd_dkey es ds, this, map_snd_dkey]
theorem RangeAt.iterD {w : World} {b r n cnt : Nat} {f : Int → Option Value} {todo : Int → Bool} (h : RangeAt keyD w b r n f todo cnt) : ∃ x s sn c, w.heap[r]? = some (.mapIter x s sn c) := by
  obtain ⟨D, left, h, _, _⟩ := h
  obtain ⟨es, clock, since, seen, c0, _, _, _, _, hr, _⟩ := h
  exact ⟨_, _, _, _, hr⟩
set_option maxRecDepth 100000 in
set_option maxHeartbeats 4000000 in
theorem due_any {w : World} {B db cnt : Nat} {p : PlanV} {today : Int} {es : Int → Option EntV} (h7 : p.we.length = 7) (h6 : p.hs.length = 6) {cb mb : Nat} (hb : w.heap[db]? = some (.cells (p.bare.cells ++ #[.pointer (some ⟨cb, 0, none⟩), .int .i64 today, .map (some mb)]) 66 (0, 0)))
    {bl : Int → Nat} (hm : MapAt keyD w mb cnt (fun id => (es id).map fun _ => .pointer (some ⟨bl id, 0, none⟩))) (hbl : ∀ id e, es id = some e → w.heap[bl id]? = some (.cells (e.cells id) 76 (0, 0))) (hcnt : cnt < 4000000000000) :
    Calls Try.prog 28 #[.pointer (some ⟨db, 0, none⟩)] w fun e w' => ∃ v ds, e = .returned v ∧ DueL es today ds ∧ ds.length ≤ cnt ∧ RowE ptrE 73 w' w.heap.size v (ds.map bl) ∧ Below w.heap.size w w' := by
  obtain ⟨_, c18, _, _⟩ := DayR.cell18 h7 h6 hb
  have HC17 := Lib.hid (fun (wz : World) (hz : Below w.heap.size w wz) => ((cell_kept (hz.block db (lt_of_block hb))).trans (by
    rw [cell_of_row _ _ _ _ _ _ hb]
    obtain ⟨we, fs, fv, hs, keep, rate⟩ := p
    match we, h7, hs, h6 with
    | [b0, b1, b2, b3, b4, b5, b6], _, [h0, h1, h2, h3, h4, h5], _ => rfl) : wz.cell? ⟨db, 17, none⟩ = some (.int .i64 today)))
  have HM := Lib.hid hm
  have HBL := Lib.hid hbl
  have hml := hm.lt keyD
  clear hb hm hbl
  go_enter Try.func28, Try.ntmps28
  go_wp2_with (refine wpList_rangeM keyD rfl _ 64 rfl 73 Try.underlying64 rfl HM.out ?_; intro w0 cnt0 hrg0 hc0 hg0 hs0)
  have HRG0 := Lib.hid hrg0
  have HB0 := Lib.hid ((Below.refl w.heap.size w).grown hg0 (Nat.le_refl _) (fun k e => by cases e))
  clear hrg0 hg0
  go_frame
  go_loopw [3] (fun lv wr => ∃ (todo : Int → Bool) (n : Nat) (ids : List Int), RangeAt keyD wr mb w.heap.size cnt (fun id => (es id).map fun _ => .pointer (some ⟨bl id, 0, none⟩)) todo n ∧ ids.Nodup ∧ ids.length + n ≤ cnt ∧ (∀ x, x ∈ ids ↔ (keyD.good x ∧ ∃ e, es x = some e ∧ e.settle ≤ today ∧ todo x = false)) ∧ RowE ptrE 73 wr w.heap.size lv (ids.map bl) ∧ Below w.heap.size w wr)
    (fun _ wr => wr.rangeLeft mb w.heap.size)
  case atStart =>
    refine ⟨_, _, [], HRG0.out, List.nodup_nil, by simpa using hc0, fun x => ?_, RowE.nil _ _, HB0.out⟩
    constructor
    · intro h; cases h
    · rintro ⟨_, e, he, _, ht⟩
      simp [he] at ht
  case round =>
    obtain ⟨todo, n, ids, hrg, hnd, hlen, hmem, hR, hW⟩ := hrel
    have HRG := Lib.hid hrg
    have HND := Lib.hid hnd
    have HMEM := Lib.hid hmem
    have HR := Lib.hid hR
    have HW := Lib.hid hW
    clear hrg hnd hmem hR hW HRG0 HB0 hc0
    go_wp2_with (refine wpList_nextM keyD rfl _ rfl rfl HRG.out ?_ ?_)
    · intro hc0 hl0
      have HDONE := Lib.hid (fun x => (HMEM.out x).trans (show _ ↔ (keyD.good x ∧ ∃ e, es x = some e ∧ e.settle ≤ today) from ⟨fun ⟨hg, e, h1, h2, _⟩ => ⟨hg, e, h1, h2⟩, fun ⟨hg, e, h1, h2⟩ => ⟨hg, e, h1, h2, hl0 x hg⟩⟩))
      clear hl0
      go_wp2_with fail
      refine (sortPtrs_any HR.out (by omega) (fun id hid => by
        obtain ⟨hg, e, he, _⟩ := (HMEM.out id).1 hid
        exact ⟨e, he, (HW.out.block _ (lt_of_block (HBL.out id e he))).trans (HBL.out id e he)⟩)).mono ?_
      rintro e w5 ⟨rfl, hR5, hg5⟩
      have HR5 := Lib.hid hR5
      have HB5 := Lib.hid (HW.out.trans (HR.out.grown hg5 HW.out.size (Nat.le_refl _)))
      clear hR5 hg5
      go_wp2_with fail
      go_ret
      exact ⟨_, _, rfl, dueL_sort HND.out HDONE.out, by
        unfold dueSort
        rw [List.length_map, (sortL_perm _).length_eq, List.length_map]
        omega, HR5.out, HB5.out⟩
    · intro x v w2 cnt2 hx htd e he hev hrg2 hlt hg2 hs2 hen
      subst hev
      rw [show keyD.val x = Value.int .i64 x from rfl] at hen ⊢
      have HRG2 := Lib.hid hrg2
      have HLE := Lib.hid (HRG.out.left_eq keyD)
      have hR2 : RowE ptrE 73 w2 w.heap.size _ (ids.map bl) := HR.out.congr fun k cs hk _ => hg2.block k (lt_of_block hk) (fun q => by
        injection q with q
        subst q
        obtain ⟨_, _, _, _, hr⟩ := HRG.out.iterD
        rw [hk] at hr
        cases hr)
      have HR2 := Lib.hid hR2
      have HW2 := Lib.hid (HW.out.grown hg2 HW.out.size (fun k q => by cases q; exact Nat.le_refl _))
      have KE := Lib.hid (fun (wz : World) (hz : Below w2.heap.size w2 wz) => (block_cell ((HW2.out.trans (hz.mono HW2.out.size)).block (bl x) (lt_of_block (HBL.out x e he)) |>.trans (HBL.out x e he)) 1 (.int .i64 e.settle) rfl).1)
      have KT := Lib.hid (fun (wz : World) (hz : Below w2.heap.size w2 wz) => HC17.out wz (HW2.out.trans (hz.mono HW2.out.size)))
      have HX := Lib.hid hx
      have HE := Lib.hid he
      have HTD := Lib.hid htd
      have HNIN := Lib.hid (show x ∉ ids from fun hin => by
        obtain ⟨_, e', _, _, ht⟩ := (HMEM.out x).1 hin
        rw [htd] at ht; cases ht)
      clear hrg2 hR2 hg2 hs2 hx he htd HR HW
      by_cases hset : e.settle ≤ today
      · have ds : decide (e.settle ≤ today) = true := decide_eq_true hset
        have HSET := Lib.hid hset
        clear hset
        generalize hst : e.settle = st at *
        go_wp2_with fail
        rename_i HK
        refine wp_region_held_drew (S := fun w' => Below w2.heap.size w2 w') (by kernel_rfl) (Below.refl _ _).drew (fun hHeld => ?_)
        (refine rg_yes 0 ?v1 (by simp only [List.getElem?_toArray, List.getElem?_cons_succ, List.getElem?_cons_zero]; rfl) (by kernel_rfl) (by kernel_rfl) (by kernel_rfl) (by exact fun _ _ _ h => h) (by kernel_rfl) (by assumption) ?y1 ?z1; case y1 => (intro w hSw; (try dsimp only at hSw); go_simp; (try (rw [if_neg (by omega)])); (try (rw [if_pos (by omega)])); (try with_reducible rfl)))
        (try simp only [Act.put, List.setIfInBounds_toArray, List.set_cons_zero, List.set_cons_succ])
        (refine rg_yes 1 ?v2 (by simp only [List.getElem?_toArray, List.getElem?_cons_succ, List.getElem?_cons_zero]; rfl) (by kernel_rfl) (by kernel_rfl) (by kernel_rfl) (by exact fun _ _ _ h => h) (by kernel_rfl) (by assumption) ?y2 ?z2; case y2 => (intro w hSw; (try dsimp only at hSw); go_simp; (try (rw [if_neg (by omega)])); (try (rw [if_pos (by omega)])); (try with_reducible rfl)))
        (try simp only [Act.put, List.setIfInBounds_toArray, List.set_cons_zero, List.set_cons_succ])
        (refine rg_yes 2 ?v3 (by simp only [List.getElem?_toArray, List.getElem?_cons_succ, List.getElem?_cons_zero]; rfl) (by kernel_rfl) (by kernel_rfl) (by kernel_rfl) (by exact fun _ _ _ h => h) (by kernel_rfl) (by assumption) ?y3 ?z3; case y3 => (intro w hSw; (try dsimp only at hSw); go_simp; (try (rw [if_neg (by omega)])); (try (rw [if_pos (by omega)])); (try with_reducible rfl)))
        (try simp only [Act.put, List.setIfInBounds_toArray, List.set_cons_zero, List.set_cons_succ])
        refine rg_yes 3 _ (by simp only [List.getElem?_toArray, List.getElem?_cons_succ, List.getElem?_cons_zero]; rfl) (by kernel_rfl) (by kernel_rfl) (by kernel_rfl) (by exact fun _ _ _ h => h) (by kernel_rfl) (by assumption) (by exact fun w' hS => (exec_load_at (KE.out _ hS) rfl rfl (fun w => by kernel_rfl))) ?_
        (try simp only [Act.put, List.setIfInBounds_toArray, List.set_cons_zero, List.set_cons_succ])
        (refine rg_yes 4 ?v4 (by simp only [List.getElem?_toArray, List.getElem?_cons_succ, List.getElem?_cons_zero]; rfl) (by kernel_rfl) (by kernel_rfl) (by kernel_rfl) (by exact fun _ _ _ h => h) (by kernel_rfl) (by assumption) ?y4 ?z4; case y4 => (intro w hSw; (try dsimp only at hSw); go_simp; (try (rw [if_neg (by omega)])); (try (rw [if_pos (by omega)])); (try with_reducible rfl)))
        (try simp only [Act.put, List.setIfInBounds_toArray, List.set_cons_zero, List.set_cons_succ])
        (refine rg_yes 5 ?v5 (by simp only [List.getElem?_toArray, List.getElem?_cons_succ, List.getElem?_cons_zero]; rfl) (by kernel_rfl) (by kernel_rfl) (by kernel_rfl) (by exact fun _ _ _ h => h) (by kernel_rfl) (by assumption) ?y5 ?z5; case y5 => (intro w hSw; (try dsimp only at hSw); go_simp; (try (rw [if_neg (by omega)])); (try (rw [if_pos (by omega)])); (try with_reducible rfl)))
        (try simp only [Act.put, List.setIfInBounds_toArray, List.set_cons_zero, List.set_cons_succ])
        (refine rg_yes 6 ?v6 (by simp only [List.getElem?_toArray, List.getElem?_cons_succ, List.getElem?_cons_zero]; rfl) (by kernel_rfl) (by kernel_rfl) (by kernel_rfl) (by exact fun _ _ _ h => h) (by kernel_rfl) (by assumption) ?y6 ?z6; case y6 => (intro w hSw; (try dsimp only at hSw); go_simp; (try (rw [if_neg (by omega)])); (try (rw [if_pos (by omega)])); (try with_reducible rfl)))
        (try simp only [Act.put, List.setIfInBounds_toArray, List.set_cons_zero, List.set_cons_succ])
        refine rg_yes 7 _ (by simp only [List.getElem?_toArray, List.getElem?_cons_succ, List.getElem?_cons_zero]; rfl) (by kernel_rfl) (by kernel_rfl) (by kernel_rfl) (by exact fun _ _ _ h => h) (by kernel_rfl) (by assumption) (by exact fun w' hS => (exec_load_at (KT.out _ hS) rfl rfl (fun w => by kernel_rfl))) ?_
        (try simp only [Act.put, List.setIfInBounds_toArray, List.set_cons_zero, List.set_cons_succ])
        (refine rg_yes 8 ?v7 (by simp only [List.getElem?_toArray, List.getElem?_cons_succ, List.getElem?_cons_zero]; rfl) (by kernel_rfl) (by kernel_rfl) (by kernel_rfl) (by exact fun _ _ _ h => h) (by kernel_rfl) (by assumption) ?y7 ?z7; case y7 => (intro w hSw; (try dsimp only at hSw); go_simp; (try (rw [if_neg (by omega)])); (try (rw [if_pos (by omega)])); (try with_reducible rfl)))
        (try simp only [Act.put, List.setIfInBounds_toArray, List.set_cons_zero, List.set_cons_succ])
        refine wpAnyH_done (by kernel_rfl) ?_ _
        apply HK
        generalize w2.drew = wh at *
        have HH := Lib.hid hHeld
        clear hHeld HK
        have hRh := HR2.out.below HH.out
        have hsz := HH.out.size
        have hszw := HW2.out.size
        have hrgh := HRG2.out.blocks keyD (HH.out.block _ (HRG2.out.map keyD |>.lt keyD)) (HH.out.block _ (HRG2.out.lt keyD))
        have hal : Below wh.heap.size wh (wh.alloc (.cells #[.pointer (some ⟨bl x, 0, none⟩)] 73)) := (Below.refl _ _).alloc (Nat.le_refl _) _
        have hRa := hRh.below hal
        have hrga := hrgh.blocks keyD (hal.block _ (hrgh.map keyD |>.lt keyD)) (hal.block _ (hrgh.lt keyD))
        have hil : (ids.map bl).length + 1 ≤ 4000000000001 := by rw [List.length_map]; omega
        obtain ⟨v', w6, hrun, hR6, hg6, h5, _⟩ := hRa.push ptrTy (by have := hal.size; omega) (bl x) wh.heap.size 1 _ rfl (heap_alloc_new wh _) (by omega) (by omega)
        have hrg6 := hrga.blocks keyD (w' := w6) (hg6.block mb (hrga.map keyD |>.lt keyD) (fun q => by
          obtain ⟨_, cs, hc⟩ := hRa.type q.symm
          obtain ⟨es', ck, hmm⟩ := (hrga.map keyD).isMap keyD
          rw [hc] at hmm
          cases hmm)) (hg6.block _ (hrga.lt keyD) (fun q => by
          obtain ⟨_, cs, hc⟩ := hRa.type q.symm
          obtain ⟨_, _, _, _, hr⟩ := hrga.iterD
          rw [hc] at hr
          cases hr))
        have HRUN := Lib.hid hrun
        have HR6 := Lib.hid (show RowE ptrE 73 w6 w.heap.size v' ((ids ++ [x]).map bl) by rw [List.map_append]; exact hR6)
        have HRG6 := Lib.hid hrg6
        have HB6 := Lib.hid ((HW2.out.trans ((HH.out.trans (hal.mono hsz)).mono hszw)).trans (hRa.grown hg6 (by have := hal.size; omega) (Nat.le_refl _)))
        clear hRh hrgh hal hRa hrga hil hrun hR6 hg6 h5 hrg6
        go_wp2_with (refine wpList_val (w' := w6) v' (by kernel_rfl) (exec_append2 rfl rfl rfl rfl ?_) ?_; focus (exact HRUN.out))
        refine ⟨⟨_, cnt2, ids ++ [x], HRG6.out, List.nodup_append.2 ⟨HND.out, by simp, fun a ha b hb => by
          simp at hb; subst hb; exact fun q => HNIN.out (q ▸ ha)⟩, by rw [List.length_append]; simp; omega, fun y => ?_, HR6.out, HB6.out⟩, by rw [HRG6.out.left_eq keyD, HLE.out]; exact hlt⟩
        constructor
        · intro hy
          rcases List.mem_append.1 hy with hy | hy
          · obtain ⟨hg, e', h1, h2, h3⟩ := (HMEM.out y).1 hy
            exact ⟨hg, e', h1, h2, by simp [h3]⟩
          · simp at hy
            subst hy
            exact ⟨HX.out, e, HE.out, by have := HSET.out; omega, by simp⟩
        · rintro ⟨hg, e', h1, h2, h3⟩
          by_cases hyx : y = x
          · subst hyx; simp
          · exact List.mem_append_left _ ((HMEM.out y).2 ⟨hg, e', h1, h2, by simpa [hyx] using h3⟩)
      · have ds : decide (e.settle ≤ today) = false := decide_eq_false hset
        have HSET := Lib.hid hset
        clear hset
        generalize hst : e.settle = st at *
        go_wp2_with fail
        rename_i HK
        refine wp_region_held_drew (S := fun w' => Below w2.heap.size w2 w') (by kernel_rfl) (Below.refl _ _).drew (fun hHeld => ?_)
        (refine rg_yes 0 ?v8 (by simp only [List.getElem?_toArray, List.getElem?_cons_succ, List.getElem?_cons_zero]; rfl) (by kernel_rfl) (by kernel_rfl) (by kernel_rfl) (by exact fun _ _ _ h => h) (by kernel_rfl) (by assumption) ?y8 ?z8; case y8 => (intro w hSw; (try dsimp only at hSw); go_simp; (try (rw [if_neg (by omega)])); (try (rw [if_pos (by omega)])); (try with_reducible rfl)))
        (try simp only [Act.put, List.setIfInBounds_toArray, List.set_cons_zero, List.set_cons_succ])
        (refine rg_yes 1 ?v9 (by simp only [List.getElem?_toArray, List.getElem?_cons_succ, List.getElem?_cons_zero]; rfl) (by kernel_rfl) (by kernel_rfl) (by kernel_rfl) (by exact fun _ _ _ h => h) (by kernel_rfl) (by assumption) ?y9 ?z9; case y9 => (intro w hSw; (try dsimp only at hSw); go_simp; (try (rw [if_neg (by omega)])); (try (rw [if_pos (by omega)])); (try with_reducible rfl)))
        (try simp only [Act.put, List.setIfInBounds_toArray, List.set_cons_zero, List.set_cons_succ])
        (refine rg_yes 2 ?v10 (by simp only [List.getElem?_toArray, List.getElem?_cons_succ, List.getElem?_cons_zero]; rfl) (by kernel_rfl) (by kernel_rfl) (by kernel_rfl) (by exact fun _ _ _ h => h) (by kernel_rfl) (by assumption) ?y10 ?z10; case y10 => (intro w hSw; (try dsimp only at hSw); go_simp; (try (rw [if_neg (by omega)])); (try (rw [if_pos (by omega)])); (try with_reducible rfl)))
        (try simp only [Act.put, List.setIfInBounds_toArray, List.set_cons_zero, List.set_cons_succ])
        refine rg_yes 3 _ (by simp only [List.getElem?_toArray, List.getElem?_cons_succ, List.getElem?_cons_zero]; rfl) (by kernel_rfl) (by kernel_rfl) (by kernel_rfl) (by exact fun _ _ _ h => h) (by kernel_rfl) (by assumption) (by exact fun w' hS => (exec_load_at (KE.out _ hS) rfl rfl (fun w => by kernel_rfl))) ?_
        (try simp only [Act.put, List.setIfInBounds_toArray, List.set_cons_zero, List.set_cons_succ])
        (refine rg_yes 4 ?v11 (by simp only [List.getElem?_toArray, List.getElem?_cons_succ, List.getElem?_cons_zero]; rfl) (by kernel_rfl) (by kernel_rfl) (by kernel_rfl) (by exact fun _ _ _ h => h) (by kernel_rfl) (by assumption) ?y11 ?z11; case y11 => (intro w hSw; (try dsimp only at hSw); go_simp; (try (rw [if_neg (by omega)])); (try (rw [if_pos (by omega)])); (try with_reducible rfl)))
        (try simp only [Act.put, List.setIfInBounds_toArray, List.set_cons_zero, List.set_cons_succ])
        (refine rg_yes 5 ?v12 (by simp only [List.getElem?_toArray, List.getElem?_cons_succ, List.getElem?_cons_zero]; rfl) (by kernel_rfl) (by kernel_rfl) (by kernel_rfl) (by exact fun _ _ _ h => h) (by kernel_rfl) (by assumption) ?y12 ?z12; case y12 => (intro w hSw; (try dsimp only at hSw); go_simp; (try (rw [if_neg (by omega)])); (try (rw [if_pos (by omega)])); (try with_reducible rfl)))
        (try simp only [Act.put, List.setIfInBounds_toArray, List.set_cons_zero, List.set_cons_succ])
        (refine rg_yes 6 ?v13 (by simp only [List.getElem?_toArray, List.getElem?_cons_succ, List.getElem?_cons_zero]; rfl) (by kernel_rfl) (by kernel_rfl) (by kernel_rfl) (by exact fun _ _ _ h => h) (by kernel_rfl) (by assumption) ?y13 ?z13; case y13 => (intro w hSw; (try dsimp only at hSw); go_simp; (try (rw [if_neg (by omega)])); (try (rw [if_pos (by omega)])); (try with_reducible rfl)))
        (try simp only [Act.put, List.setIfInBounds_toArray, List.set_cons_zero, List.set_cons_succ])
        refine rg_yes 7 _ (by simp only [List.getElem?_toArray, List.getElem?_cons_succ, List.getElem?_cons_zero]; rfl) (by kernel_rfl) (by kernel_rfl) (by kernel_rfl) (by exact fun _ _ _ h => h) (by kernel_rfl) (by assumption) (by exact fun w' hS => (exec_load_at (KT.out _ hS) rfl rfl (fun w => by kernel_rfl))) ?_
        (try simp only [Act.put, List.setIfInBounds_toArray, List.set_cons_zero, List.set_cons_succ])
        (refine rg_yes 8 ?v14 (by simp only [List.getElem?_toArray, List.getElem?_cons_succ, List.getElem?_cons_zero]; rfl) (by kernel_rfl) (by kernel_rfl) (by kernel_rfl) (by exact fun _ _ _ h => h) (by kernel_rfl) (by assumption) ?y14 ?z14; case y14 => (intro w hSw; (try dsimp only at hSw); go_simp; (try (rw [if_neg (by omega)])); (try (rw [if_pos (by omega)])); (try with_reducible rfl)))
        (try simp only [Act.put, List.setIfInBounds_toArray, List.set_cons_zero, List.set_cons_succ])
        refine wpAnyH_done (by kernel_rfl) ?_ _
        apply HK
        have HH := Lib.hid hHeld
        clear hHeld HK
        have hrg6 := HRG2.out.blocks keyD (HH.out.block _ (HRG2.out.map keyD |>.lt keyD)) (HH.out.block _ (HRG2.out.lt keyD))
        have HRG6 := Lib.hid hrg6
        clear hrg6
        go_wp2_with fail
        refine ⟨⟨_, cnt2, ids, HRG6.out, HND.out, by omega, fun y => (HMEM.out y).trans ?_, HR2.out.below HH.out, HW2.out.trans (HH.out.mono HW2.out.size)⟩, by rw [HRG6.out.left_eq keyD, HLE.out]; exact hlt⟩
        constructor
        · rintro ⟨hg, e', h1, h2, h3⟩
          exact ⟨hg, e', h1, h2, by simp [h3]⟩
        · rintro ⟨hg, e', h1, h2, h3⟩
          refine ⟨hg, e', h1, h2, ?_⟩
          by_cases hyx : y = x
          · subst hyx
            rw [HE.out] at h1
            cases h1
            exact absurd h2 (by have := HSET.out; omega)
          · simpa [hyx] using h3
end Go.Proofs.Ytkhhkbigpaoinaa
