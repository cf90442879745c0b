/- Reconciling two lists of balances: by contract. -/
import Derived.Test.YtkggmhcdoalhoaaRecB
import Derived.Test.YtkggmhcdoalhoaaRegL
namespace Go.Proofs.Ytkggmhcdoalhoaa
set_option linter.unusedVariables false
set_option linter.unusedSimpArgs false
open Go.RowKit Go.Maps
attribute [local irreducible] Go.wpStill

set_option maxRecDepth 100000 in
set_option maxHeartbeats 8000000 in
theorem reconcile_any (v u : Value) (xs ys : List BalV) (w : World) (h : BalsR w v xs) (hu : BalsR w u ys) (hs : xs.length ≤ 1048576) (hs2 : ys.length ≤ 1048576) :
    Calls Try.prog 6 #[v, u] w fun e w' => ∃ v', e = .returned v' ∧ RowE breakE 36 w' w.heap.size v' (recon xs ys) ∧ Below w.heap.size w w' := by
  obtain ⟨ao, cap, rfl⟩ := h.1.slice
  obtain ⟨au, cu, rfl⟩ := hu.1.slice
  have HR := Lib.hid h
  have HU := Lib.hid hu
  clear h hu
  have hmm := @run_makeMap Try.prog
  go_enter Try.func6, Try.ntmps6
  go_wp2_with fail
  have hM0 : MapAt keyKey (w.alloc (.map #[] 0)) w.heap.size 0 (fB (xs.take 0) []) := by rw [List.take_zero, fB_nil]; exact MapAt.made keyKey w
  have HM0 := Lib.hid hM0
  have HB0 := Lib.hid ((Below.refl w.heap.size w).alloc (Nat.le_refl _) (.map #[] 0))
  clear hM0 hmm
  go_loopw [18] (fun iv wr => ∃ i : Nat, i ≤ xs.length ∧ iv = .int .i64 i ∧ MapAt keyKey wr w.heap.size i (fB (xs.take i) []) ∧ Below w.heap.size w wr) (fun iv _ => xs.length - (intOf iv).toNat)
  case atStart => exact ⟨0, by omega, rfl, HM0.out, HB0.out⟩
  case round =>
    obtain ⟨i, hi, rfl, hM, hW⟩ := hrel
    clear HM0 HB0
    have HWB := Lib.hid hW
    by_cases hlt : i < xs.length
    · obtain ⟨x, hx⟩ : ∃ x, xs[i]? = some x := ⟨_, List.getElem?_eq_getElem hlt⟩
      have hr' := HR.out.below hW
      obtain ⟨g, o, rfl, hr⟩ := hr'.1.at hx
      have HOX := Lib.hid (hr'.2 x (List.mem_of_getElem? hx))
      have hdl : decide ((i : Int) < xs.length) = true := decide_eq_true (by omega)
      have HF := Lib.hid (show updM (fB (xs.take i) []) x.key (some (breakAt x.key x.tot 0)) = fB (xs.take (i + 1)) [] by rw [take_snoc' hx, fB_ours])
      obtain ⟨a, b, avail, xao, xcap, ms⟩ := x
      simp only [BalV.key, BalV.tot] at HF
      have HX := Lib.hid (show wr.rangeAt g (o + i * 4) [.int .i64 a, .int .i64 b, .int .i64 avail, .slice xao ms.length xcap] from hr)
      have HM := Lib.hid hM
      clear hx hr' hr hM hW
      generalize fB (xs.take i) [] = f0 at *
      go_upto_region 5 with (refine wpList_val (.agg #[.int .i64 a, .int .i64 b, .int .i64 avail, .slice xao ms.length xcap]) (by kernel_rfl) (exec_load_mid (T := 42) HX.out rfl rfl Try.underlying42 rfl (by kernel_rfl)) ?_)
      generalize hW1 : World.alloc wr _ = W1
      have hb1 : Below wr.heap.size wr W1 := by rw [← hW1]; exact (Below.refl _ _).alloc (Nat.le_refl _) _
      have hB1 : W1.heap[wr.heap.size]? = some (.cells #[.int .i64 a, .int .i64 b, .int .i64 avail, .slice xao ms.length xcap] 42 (0, 0)) := by rw [← hW1]; exact heap_alloc_new wr _
      have HM1 := Lib.hid (HM.out.block keyKey (hb1.block _ (HM.out.lt keyKey)))
      have HB1 := Lib.hid (HWB.out.trans (hb1.mono HWB.out.size))
      have HO1 := Lib.hid (show ReadsE markE W1 (.slice xao ms.length xcap) ms from HOX.out.1.below hb1)
      have KB := Lib.hid (fun (wz : World) (hz : Below W1.heap.size W1 wz) => block_two ((hz.block _ (lt_of_block hB1)).trans hB1))
      clear hW1 hB1 hb1 HX HM
      generalize wr.heap.size = bx at *
      go_wp2_with fail
      refine wp_region_till (k := 9) (S := fun w' => Below W1.heap.size W1 w') (by kernel_rfl) ?_
      have hHeld : Below W1.heap.size W1 W1.drew := (Below.refl _ _).drew
      (refine rt_yes 0 ?v1 (by simp only [List.getElem?_toArray, List.getElem?_cons_succ, List.getElem?_cons_zero]; rfl) (by kernel_rfl) (by kernel_rfl) (by kernel_rfl) (by kernel_rfl) (by exact fun _ _ _ h => h) (by kernel_rfl) (by exact fun _ => hHeld) ?y1 ?z1; case y1 => (intro w; go_simp; (try (rw [if_neg (by omega)])); (try with_reducible rfl)))
      (try simp only [Act.put, List.setIfInBounds_toArray, List.set_cons_zero, List.set_cons_succ])
      (refine rt_yes 1 ?v2 (by simp only [List.getElem?_toArray, List.getElem?_cons_succ, List.getElem?_cons_zero]; rfl) (by kernel_rfl) (by kernel_rfl) (by kernel_rfl) (by kernel_rfl) (by exact fun _ _ _ h => h) (by kernel_rfl) (by exact fun _ => hHeld) ?y2 ?z2; case y2 => (intro w; go_simp; (try (rw [if_neg (by omega)])); (try with_reducible rfl)))
      (try simp only [Act.put, List.setIfInBounds_toArray, List.set_cons_zero, List.set_cons_succ])
      refine rt_load 2 _ (by simp only [List.getElem?_toArray, List.getElem?_cons_succ, List.getElem?_cons_zero]; rfl) (by kernel_rfl) (by kernel_rfl) (by kernel_rfl) (by kernel_rfl) (by kernel_rfl) (by kernel_rfl) (by exact fun _ _ _ h => h) (by kernel_rfl) hHeld (fun w' hS => (exec_load_mid (T := 34) (KB.out _ hS).1 rfl rfl Try.underlying34 rfl (by kernel_rfl))) ?_
      (try simp only [Act.put, List.setIfInBounds_toArray, List.set_cons_zero, List.set_cons_succ])
      (refine rt_yes 3 ?v3 (by simp only [List.getElem?_toArray, List.getElem?_cons_succ, List.getElem?_cons_zero]; rfl) (by kernel_rfl) (by kernel_rfl) (by kernel_rfl) (by kernel_rfl) (by exact fun _ _ _ h => h) (by kernel_rfl) (by exact fun _ => hHeld) ?y3 ?z3; case y3 => (intro w; go_simp; (try (rw [if_neg (by omega)])); (try with_reducible rfl)))
      (try simp only [Act.put, List.setIfInBounds_toArray, List.set_cons_zero, List.set_cons_succ])
      refine rt_load 4 _ (by simp only [List.getElem?_toArray, List.getElem?_cons_succ, List.getElem?_cons_zero]; rfl) (by kernel_rfl) (by kernel_rfl) (by kernel_rfl) (by kernel_rfl) (by kernel_rfl) (by kernel_rfl) (by exact fun _ _ _ h => h) (by kernel_rfl) hHeld (fun w' hS => (exec_load_mid (T := 34) (KB.out _ hS).1 rfl rfl Try.underlying34 rfl (by kernel_rfl))) ?_
      (try simp only [Act.put, List.setIfInBounds_toArray, List.set_cons_zero, List.set_cons_succ])
      (refine rt_yes 5 ?v4 (by simp only [List.getElem?_toArray, List.getElem?_cons_succ, List.getElem?_cons_zero]; rfl) (by kernel_rfl) (by kernel_rfl) (by kernel_rfl) (by kernel_rfl) (by exact fun _ _ _ h => h) (by kernel_rfl) (by exact fun _ => hHeld) ?y4 ?z4; case y4 => (intro w; go_simp; (try (rw [if_neg (by omega)])); (try with_reducible rfl)))
      (try simp only [Act.put, List.setIfInBounds_toArray, List.set_cons_zero, List.set_cons_succ])
      refine rt_load 6 _ (by simp only [List.getElem?_toArray, List.getElem?_cons_succ, List.getElem?_cons_zero]; rfl) (by kernel_rfl) (by kernel_rfl) (by kernel_rfl) (by kernel_rfl) (by kernel_rfl) (by kernel_rfl) (by exact fun _ _ _ h => h) (by kernel_rfl) hHeld (fun w' hS => (exec_load_mid (T := 40) (KB.out _ hS).2 rfl rfl Try.underlying40 rfl (by kernel_rfl))) ?_
      (try simp only [Act.put, List.setIfInBounds_toArray, List.set_cons_zero, List.set_cons_succ])
      refine rt_call 7 _ _ (by simp only [List.getElem?_toArray, List.getElem?_cons_succ, List.getElem?_cons_zero]; rfl) (by kernel_rfl) (by kernel_rfl) (fun w => by go_simp; exact ⟨rfl, rfl⟩) ?_
      refine (totalV_any avail _ ms _ HOX.out.2.1 HOX.out.2.2.1 (HO1.out.below hHeld)).mono ?_
      rintro e w5 ⟨rfl, hb5⟩
      replace hHeld := hHeld.trans (hb5.mono (Nat.le_refl _))
      refine ⟨_, rfl, fun _ => hHeld, ?_⟩
      (try simp only [Act.put, List.setIfInBounds_toArray, List.set_cons_zero, List.set_cons_succ])
      (refine rt_yes 8 ?v5 (by simp only [List.getElem?_toArray, List.getElem?_cons_succ, List.getElem?_cons_zero]; rfl) (by kernel_rfl) (by kernel_rfl) (by kernel_rfl) (by kernel_rfl) (by exact fun _ _ _ h => h) (by kernel_rfl) (by exact fun _ => hHeld) ?y5 ?z5; case y5 => (intro w; go_simp; (try (rw [if_neg (by omega)])); (try with_reducible rfl)))
      (try simp only [Act.put, List.setIfInBounds_toArray, List.set_cons_zero, List.set_cons_succ])
      have HM5 := Lib.hid (HM1.out.block keyKey (hHeld.block _ (HM1.out.lt keyKey)))
      have HB5 := Lib.hid (HB1.out.trans (hHeld.mono HB1.out.size))
      refine rt_storeM keyKey 9 (by simp only [List.getElem?_toArray, List.getElem?_cons_succ, List.getElem?_cons_zero]; rfl) (by kernel_rfl) (by kernel_rfl) _ _ _ 43 rfl 36 Try.underlying43 rfl HM5.out (by unfold maxLen; omega) (a, b) HOX.out.2.2.2.2 rfl (breakAt (a, b) (totM avail ms) 0) rfl (by kernel_rfl) (fun w6 hM6 hT6 => ?_)
      (try simp only [Act.put, List.setIfInBounds_toArray, List.set_cons_zero, List.set_cons_succ])
      refine rt_done (by kernel_rfl) ?_ _
      rw [HF.out] at hM6
      have HM6 := Lib.hid hM6
      have HB6 := Lib.hid (HB5.out.trans (turned_below hT6 (Nat.le_refl _) HB5.out.size))
      clear hM6 hT6 hHeld hb5
      go_wp2_with fail
      exact ⟨⟨i + 1, by omega, by go_num, HM6.out, HB6.out⟩, by simp [intOf]; omega⟩
    · have hie : i = xs.length := by omega
      have hdl : decide ((i : Int) < xs.length) = false := decide_eq_false (by omega)
      rw [hie, List.take_length] at hM
      have HM := Lib.hid hM
      clear hie hM hW
      go_wp2_with fail
      have HM0 := Lib.hid (show MapAt keyKey wr w.heap.size (xs.length + 0) (fB xs (ys.take 0)) by rw [List.take_zero]; exact HM.out)
      go_loopw [34] (fun iv wr => ∃ i : Nat, i ≤ ys.length ∧ iv = .int .i64 i ∧ MapAt keyKey wr w.heap.size (xs.length + i) (fB xs (ys.take i)) ∧ Below w.heap.size w wr) (fun iv _ => ys.length - (intOf iv).toNat)
      case atStart => exact ⟨0, by omega, rfl, HM0.out, HWB.out⟩
      case round =>
        obtain ⟨j, hj, rfl, hM, hW⟩ := hrel
        clear HM HM0 HWB
        have HWB := Lib.hid hW
        by_cases hlt : j < ys.length
        · obtain ⟨x, hx⟩ : ∃ x, ys[j]? = some x := ⟨_, List.getElem?_eq_getElem hlt⟩
          have hr' := HU.out.below hW
          obtain ⟨g, o, rfl, hr⟩ := hr'.1.at hx
          have HOX := Lib.hid (hr'.2 x (List.mem_of_getElem? hx))
          have hdj : decide ((j : Int) < ys.length) = true := decide_eq_true (by omega)
          have HF := Lib.hid (show updM (fB xs (ys.take j)) x.key (some (breakAt x.key (lastT xs x.key) x.tot)) = fB xs (ys.take (j + 1)) by rw [take_snoc' hx, fB_theirs])
          obtain ⟨a, b, avail, xao, xcap, ms⟩ := x
          simp only [BalV.key, BalV.tot] at HF
          have HX := Lib.hid (show wr.rangeAt g (o + j * 4) [.int .i64 a, .int .i64 b, .int .i64 avail, .slice xao ms.length xcap] from hr)
          have HM := Lib.hid hM
          obtain ⟨p, q, r, hL⟩ := fB_look xs (ys.take j) (a, b)
          have HL := Lib.hid hL
          clear hx hr' hr hM hW hL
          generalize fB xs (ys.take j) = f0 at *
          generalize lastT xs (a, b) = l at *
          go_upto_region 10 with (refine wpList_val (.agg #[.int .i64 a, .int .i64 b, .int .i64 avail, .slice xao ms.length xcap]) (by kernel_rfl) (exec_load_mid (T := 42) HX.out rfl rfl Try.underlying42 rfl (by kernel_rfl)) ?_)
          generalize hW1 : World.alloc wr _ = W1
          have hb1 : Below wr.heap.size wr W1 := by rw [← hW1]; exact (Below.refl _ _).alloc (Nat.le_refl _) _
          have hB1 : W1.heap[wr.heap.size]? = some (.cells #[.int .i64 a, .int .i64 b, .int .i64 avail, .slice xao ms.length xcap] 42 (0, 0)) := by rw [← hW1]; exact heap_alloc_new wr _
          have HM1 := Lib.hid (HM.out.block keyKey (hb1.block _ (HM.out.lt keyKey)))
          have HB1 := Lib.hid (HWB.out.trans (hb1.mono HWB.out.size))
          have HO1 := Lib.hid (show ReadsE markE W1 (.slice xao ms.length xcap) ms from HOX.out.1.below hb1)
          have KB := Lib.hid (fun (wz : World) (hz : Below W1.heap.size W1 wz) => block_two ((hz.block _ (lt_of_block hB1)).trans hB1))
          have HBX := Lib.hid hB1
          clear hW1 hB1 hb1 HX HM
          generalize wr.heap.size = bx at *
          go_upto_region 11 with (first
            | (refine wpList_val (.agg #[.int .i64 a, .int .i64 b]) (by kernel_rfl) (exec_load_mid (T := 34) (KB.out _ (Below.refl _ _)).1 rfl rfl Try.underlying34 rfl (by kernel_rfl)) ?_)
            | (refine wpList_lookV keyKey rfl _ _ 43 rfl 36 Try.underlying43 (zeroBreak _) rfl HM1.out (a, b) HOX.out.2.2.2.2 rfl (.agg #[.int .i64 p, .int .i64 q, .int .i64 l, .int .i64 r]) HL.out ?_))
          generalize hW2 : World.alloc W1 _ = W2
          have hb2 : Below W1.heap.size W1 W2 := by rw [← hW2]; exact (Below.refl _ _).alloc (Nat.le_refl _) _
          have hB2 : W2.heap[W1.heap.size]? = some (.cells #[.int .i64 p, .int .i64 q, .int .i64 l, .int .i64 r] 36 (0, 0)) := by rw [← hW2]; exact heap_alloc_new W1 _
          have HM2 := Lib.hid (HM1.out.block keyKey (hb2.block _ (HM1.out.lt keyKey)))
          have HB2 := Lib.hid (HB1.out.trans (hb2.mono HB1.out.size))
          have HO2 := Lib.hid (HO1.out.below hb2)
          have HBX2 := Lib.hid ((hb2.block _ (lt_of_block HBX.out)).trans HBX.out)
          have HBY := Lib.hid hB2
          have hbxy : bx < W1.heap.size := lt_of_block HBX.out
          have hmby : w.heap.size < W1.heap.size := HM1.out.lt keyKey
          have KB2 := Lib.hid (fun (wz : World) (hz : Below W2.heap.size W2 wz) => block_two ((hz.block _ (lt_of_block HBX2.out)).trans HBX2.out))
          clear hW2 hB2 hb2 HM1 HB1 HO1 KB HBX
          generalize W1.heap.size = bY at *
          go_wp2_with fail
          refine wp_region_till (k := 6) (S := fun w' => Below W2.heap.size W2 w') (by kernel_rfl) ?_
          have hHeld : Below W2.heap.size W2 W2.drew := (Below.refl _ _).drew
          (refine rt_yes 0 ?v6 (by simp only [List.getElem?_toArray, List.getElem?_cons_succ, List.getElem?_cons_zero]; rfl) (by kernel_rfl) (by kernel_rfl) (by kernel_rfl) (by kernel_rfl) (by exact fun _ _ _ h => h) (by kernel_rfl) (by exact fun _ => hHeld) ?y6 ?z6; case y6 => (intro w; go_simp; (try (rw [if_neg (by omega)])); (try with_reducible rfl)))
          (try simp only [Act.put, List.setIfInBounds_toArray, List.set_cons_zero, List.set_cons_succ])
          refine rt_load 1 _ (by simp only [List.getElem?_toArray, List.getElem?_cons_succ, List.getElem?_cons_zero]; rfl) (by kernel_rfl) (by kernel_rfl) (by kernel_rfl) (by kernel_rfl) (by kernel_rfl) (by kernel_rfl) (by exact fun _ _ _ h => h) (by kernel_rfl) hHeld (fun w' hS => (exec_load_mid (T := 34) (KB2.out _ hS).1 rfl rfl Try.underlying34 rfl (by kernel_rfl))) ?_
          (try simp only [Act.put, List.setIfInBounds_toArray, List.set_cons_zero, List.set_cons_succ])
          (refine rt_yes 2 ?v7 (by simp only [List.getElem?_toArray, List.getElem?_cons_succ, List.getElem?_cons_zero]; rfl) (by kernel_rfl) (by kernel_rfl) (by kernel_rfl) (by kernel_rfl) (by exact fun _ _ _ h => h) (by kernel_rfl) (by exact fun _ => hHeld) ?y7 ?z7; case y7 => (intro w; go_simp; (try (rw [if_neg (by omega)])); (try with_reducible rfl)))
          (try simp only [Act.put, List.setIfInBounds_toArray, List.set_cons_zero, List.set_cons_succ])
          refine rt_load2 3 4 _ (by simp only [List.getElem?_toArray, List.getElem?_cons_succ, List.getElem?_cons_zero]; rfl) (by kernel_rfl) (by kernel_rfl) (by kernel_rfl) (by kernel_rfl) (by kernel_rfl) (by kernel_rfl) (by kernel_rfl) (by kernel_rfl) (by exact fun _ _ _ h => h) (by kernel_rfl) hHeld (fun w' hS => (exec_load_mid (T := 40) (KB2.out _ hS).2 rfl rfl Try.underlying40 rfl (by kernel_rfl))) ?_
          (try simp only [Act.put, List.setIfInBounds_toArray, List.set_cons_zero, List.set_cons_succ])
          (refine rt_yes 5 ?v8 (by simp only [List.getElem?_toArray, List.getElem?_cons_succ, List.getElem?_cons_zero]; rfl) (by kernel_rfl) (by kernel_rfl) (by kernel_rfl) (by kernel_rfl) (by exact fun _ _ _ h => h) (by kernel_rfl) (by exact fun _ => hHeld) ?y8 ?z8; case y8 => (intro w; go_simp; (try (rw [if_neg (by omega)])); (try with_reducible rfl)))
          (try simp only [Act.put, List.setIfInBounds_toArray, List.set_cons_zero, List.set_cons_succ])
          refine rt_call 4 _ _ (by simp only [List.getElem?_toArray, List.getElem?_cons_succ, List.getElem?_cons_zero]; rfl) (by kernel_rfl) (by kernel_rfl) (fun w => by go_simp; exact ⟨rfl, rfl⟩) ?_
          refine (totalV_any avail _ ms _ HOX.out.2.1 HOX.out.2.2.1 (HO2.out.below hHeld)).mono ?_
          rintro e w5 ⟨rfl, hb5⟩
          replace hHeld := hHeld.trans (hb5.mono (Nat.le_refl _))
          refine ⟨_, rfl, fun _ => hHeld, ?_⟩
          (try simp only [Act.put, List.setIfInBounds_toArray, List.set_cons_zero, List.set_cons_succ])
          have hB5 : w5.heap[bY]? = _ := (hHeld.block _ (lt_of_block HBY.out)).trans HBY.out
          have HM5 := Lib.hid (HM2.out.block keyKey (hHeld.block _ (HM2.out.lt keyKey)))
          have HB5 := Lib.hid (HB2.out.trans (hHeld.mono HB2.out.size))
          have HX5 := Lib.hid ((hHeld.block _ (lt_of_block HBX2.out)).trans HBX2.out)
          obtain ⟨k0, z0⟩ := block_cell hB5 0 _ rfl
          obtain ⟨k1, z1⟩ := block_cell hB5 1 _ rfl
          have hB6 := heap_setCell_same _ bY 1 _ _ (.int .i64 b) (heap_setCell_same w5 bY 0 _ _ (.int .i64 a) hB5)
          have HM6 := Lib.hid ((HM5.out.block keyKey (Below.heap_setCell w5 ⟨bY, 0, none⟩ (.int .i64 a) w.heap.size (by show w.heap.size ≠ bY; omega))).block keyKey (Below.heap_setCell _ ⟨bY, 1, none⟩ (.int .i64 b) w.heap.size (by show w.heap.size ≠ bY; omega)))
          have HB6 := Lib.hid ((HB5.out.setCell (p := ⟨bY, 0, none⟩) (by show w.heap.size ≤ bY; omega) (.int .i64 a)).setCell (p := ⟨bY, 1, none⟩) (by show w.heap.size ≤ bY; omega) (.int .i64 b))
          have HX6 := Lib.hid (((Below.heap_setCell _ ⟨bY, 1, none⟩ (.int .i64 b) bx (by show bx ≠ bY; omega)).trans (Below.heap_setCell w5 ⟨bY, 0, none⟩ (.int .i64 a) bx (by show bx ≠ bY; omega))).trans HX5.out)
          refine rt_skip 6 ((w5.setCell ⟨bY, 0, none⟩ (.int .i64 a)).setCell ⟨bY, 1, none⟩ (.int .i64 b)) (by simp only [List.getElem?_toArray, List.getElem?_cons_succ, List.getElem?_cons_zero]; rfl) (by kernel_rfl) (by kernel_rfl) (by go_simp) (till_past (by kernel_rfl)) ?_
          (try simp only [Act.put, List.setIfInBounds_toArray, List.set_cons_zero, List.set_cons_succ])
          clear hB5 k0 k1 z0 z1 HM5 HB5 HX5 HM2 HB2 HO2 HBX2 KB2 HBY hHeld hb5
          generalize (w5.setCell ⟨bY, 0, none⟩ (.int .i64 a)).setCell ⟨bY, 1, none⟩ (.int .i64 b) = w6 at *
          (refine rt_yes 7 ?v9 (by simp only [List.getElem?_toArray, List.getElem?_cons_succ, List.getElem?_cons_zero]; rfl) (by kernel_rfl) (by kernel_rfl) (by kernel_rfl) (by kernel_rfl) (by exact fun _ _ _ h => h) (by kernel_rfl) (by exact till_past (by kernel_rfl)) ?y9 ?z9; case y9 => (intro w; go_simp; (try (rw [if_neg (by omega)])); (try with_reducible rfl)))
          (try simp only [Act.put, List.setIfInBounds_toArray, List.set_cons_zero, List.set_cons_succ])
          obtain ⟨k3, z3⟩ := block_cell hB6 3 (.int .i64 r) rfl
          have hB7 := heap_setCell_same w6 bY 3 _ _ (.int .i64 (totM avail ms)) hB6
          have HM7 := Lib.hid (HM6.out.block keyKey (Below.heap_setCell w6 ⟨bY, 3, none⟩ (.int .i64 (totM avail ms)) w.heap.size (by show w.heap.size ≠ bY; omega)))
          have HB7 := Lib.hid (HB6.out.setCell (p := ⟨bY, 3, none⟩) (by show w.heap.size ≤ bY; omega) (.int .i64 (totM avail ms)))
          have HX7 := Lib.hid ((Below.heap_setCell w6 ⟨bY, 3, none⟩ (.int .i64 (totM avail ms)) bx (by show bx ≠ bY; omega)).trans HX6.out)
          refine rt_skip 8 (w6.setCell ⟨bY, 3, none⟩ (.int .i64 (totM avail ms))) (by simp only [List.getElem?_toArray, List.getElem?_cons_succ, List.getElem?_cons_zero]; rfl) (by kernel_rfl) (by kernel_rfl) (by go_simp) (till_past (by kernel_rfl)) ?_
          (try simp only [Act.put, List.setIfInBounds_toArray, List.set_cons_zero, List.set_cons_succ])
          refine rt_done (by kernel_rfl) ?_ _
          generalize w6.setCell ⟨bY, 3, none⟩ (.int .i64 (totM avail ms)) = w7 at *
          have HBY7 := Lib.hid (show w7.heap[bY]? = some (.cells #[.int .i64 a, .int .i64 b, .int .i64 l, .int .i64 (totM avail ms)] 36 (0, 0)) from hB7)
          clear hB7 hB6 k3 z3 HM6 HB6 HX6
          go_wp2_with (first
            | (refine wpList_val (.agg #[.int .i64 a, .int .i64 b]) (by kernel_rfl) (exec_load_mid (T := 34) (block_two HX7.out).1 rfl rfl Try.underlying34 rfl (by kernel_rfl)) ?_)
            | (refine wpList_val (.agg #[.int .i64 a, .int .i64 b, .int .i64 l, .int .i64 (totM avail ms)]) (by kernel_rfl) (exec_load_row HBY7.out rfl rfl Try.underlying36 rfl (by kernel_rfl)) ?_)
            | (refine wpList_storeM keyKey rfl _ _ _ 43 rfl 36 Try.underlying43 rfl HM7.out (by unfold maxLen; omega) (a, b) HOX.out.2.2.2.2 rfl (breakAt (a, b) l (totM avail ms)) rfl ?_; intro w8 hM8 hT8))
          rw [HF.out] at hM8
          exact ⟨⟨j + 1, by omega, by go_num, hM8, HB7.out.trans (turned_below hT8 (Nat.le_refl _) HB7.out.size)⟩, by simp [intOf]; omega⟩
        · have hje : j = ys.length := by omega
          have hdj : decide ((j : Int) < ys.length) = false := decide_eq_false (by omega)
          rw [hje, List.take_length] at hM
          have HM := Lib.hid hM
          clear hje hM hW
          go_wp2_with fail
          refine ((callsIn_wide (n := 5)).1 (keysBrk_any w.heap.size wr)).mono ?_
          rintro e w3 ⟨rfl, rfl⟩
          have hgood : ∀ x : keyT, ((∃ y ∈ xs, y.key = x) ∨ ∃ y ∈ ys, y.key = x) → keyGood x := by
            rintro x (⟨y, hy, rfl⟩ | ⟨y, hy, rfl⟩)
            · exact (HR.out.2 y hy).2.2.2.2
            · exact (HU.out.2 y hy).2.2.2.2
          have HGD := Lib.hid hgood
          have hMs : MapAt keyKey (wr.alloc (.cells #[.map (some w.heap.size)] 43)) w.heap.size (xs.length + ys.length) (fB xs ys) := HM.out.block keyKey (heap_alloc_old _ _ (HM.out.lt keyKey))
          have hBs := HWB.out.alloc HWB.out.size (.cells #[.map (some w.heap.size)] 43)
          have hbx : (wr.alloc (.cells #[.map (some w.heap.size)] 43)).cell? ⟨wr.heap.size, 0, none⟩ = some (.map (some w.heap.size)) := by rw [cell_of_row _ _ _ _ _ _ (heap_alloc_new wr _)]; rfl
          have hlt2 : wr.heap.size < (wr.alloc (.cells #[.map (some w.heap.size)] 43)).heap.size := lt_of_block (heap_alloc_new wr _)
          generalize wr.alloc (.cells #[.map (some w.heap.size)] 43) = w3 at *
          generalize wr.heap.size = bs at *
          have HMs := Lib.hid hMs
          have HBs := Lib.hid hBs
          have HBX := Lib.hid hbx
          clear hMs hBs hbx hgood HM HWB
          go_wp2_with fail
          refine ((callsIn_wide (n := 4)).1 (sortedFunc_byKey 4 (by omega) 26 #[.pointer (some ⟨bs, 0, none⟩)] (fun _ _ => rfl) (fB xs ys) (xs.length + ys.length) (by omega) (by omega) w3 (keysGiveBrk Fence.wide 1 trivial rfl (by omega) bs w.heap.size _ _ _ hlt2 HBX.out HMs.out))).mono ?_
          rintro e w4 ⟨v4, ks, rfl, hp, hmem, hklen, hK, hb4⟩
          have hm2 : ∀ x : keyT, x ∈ ks ↔ (∃ y ∈ xs, y.key = x) ∨ ∃ y ∈ ys, y.key = x := fun x => by
            rw [hmem x, fB_some]
            exact ⟨fun h => h.2, fun h => ⟨HGD.out x h, h⟩⟩
          have HKS := Lib.hid (recon_of xs ys ks hp hm2)
          have HMEM := Lib.hid hm2
          have HK2 := Lib.hid (hK.reads (by omega))
          obtain ⟨ko, kc, rfl⟩ := (hK.reads (by omega)).slice
          have HM4 := Lib.hid (HMs.out.block keyKey (hb4.block _ (HMs.out.lt keyKey)))
          have HB4 := Lib.hid (HBs.out.trans (hb4.mono HBs.out.size))
          clear hp hmem hm2 hK hb4 HMs HBs HBX hlt2
          go_wp2_with fail
          go_loopw [11, 58] (fun nv jv wr => ∃ k : Nat, k ≤ ks.length ∧ jv = .int .i64 k ∧ RowE breakE 36 wr w4.heap.size nv (recL xs ys (ks.take k)) ∧ Below w4.heap.size w4 wr) (fun _ jv _ => ks.length - (intOf jv).toNat)
          case atStart => exact ⟨0, by omega, rfl, RowE.nil _ _, Below.refl _ _⟩
          case round =>
            obtain ⟨k, hk, rfl, hN, hW⟩ := hrel
            have HN := Lib.hid hN
            have HWB := Lib.hid hW
            clear hN
            by_cases hkl : k < ks.length
            · obtain ⟨y, hy⟩ : ∃ y, ks[k]? = some y := ⟨_, List.getElem?_eq_getElem hkl⟩
              obtain ⟨g2, o2, rfl, hr0⟩ := HK2.out.at hy
              have hyin := (HMEM.out y).1 (List.mem_of_getElem? hy)
              obtain ⟨c, d⟩ := y
              have HKG := Lib.hid (HGD.out _ hyin)
              have HKA := Lib.hid (show wr.rangeAt g2 (o2 + k * 2) [.int .i64 c, .int .i64 d] from fun j v hv => (hW.cell (p := ⟨g2, o2 + k * 2 + j, none⟩) (rangeE_lt hr0)).trans (hr0 j v hv))
              have hdk : decide ((k : Int) < ks.length) = true := decide_eq_true (by omega)
              have HT := Lib.hid (show recL xs ys (ks.take (k + 1)) = if lastT xs (c, d) = lastT ys (c, d) then recL xs ys (ks.take k) else recL xs ys (ks.take k) ++ [(c, d, lastT xs (c, d), lastT ys (c, d))] by rw [take_snoc' hy, recL_snoc])
              have hrl : (recL xs ys (ks.take k)).length ≤ 2097152 := by have := recL_len xs ys (ks.take k); rw [List.length_take, Nat.min_eq_left hk] at this; omega
              have HL := Lib.hid (fB_at xs ys (c, d) ((fB_some xs ys (c, d)).2 hyin))
              have HMA := Lib.hid (HM4.out.block keyKey (hW.block _ (HM4.out.lt keyKey)))
              clear hyin hr0 hy hW
              generalize lastT xs (c, d) = tx at *
              generalize lastT ys (c, d) = ty at *
              generalize recL xs ys (ks.take k) = out at *
              generalize fB xs ys = f0 at *
              go_upto_region 18 with (refine wpList_val (.agg #[.int .i64 c, .int .i64 d]) (by kernel_rfl) (exec_load_mid (T := 34) HKA.out rfl rfl Try.underlying34 rfl (by kernel_rfl)) ?_)
              generalize hW1 : World.alloc wr _ = W1
              have hb1 : Below wr.heap.size wr W1 := by rw [← hW1]; exact (Below.refl _ _).alloc (Nat.le_refl _) _
              have hB1 : W1.heap[wr.heap.size]? = some (.cells #[.int .i64 c, .int .i64 d] 34 (0, 0)) := by rw [← hW1]; exact heap_alloc_new wr _
              have HM1 := Lib.hid (HMA.out.block keyKey (hb1.block _ (HMA.out.lt keyKey)))
              have HB1 := Lib.hid (HWB.out.trans (hb1.mono HWB.out.size))
              have HN1 := Lib.hid (HN.out.below hb1)
              have HBX := Lib.hid hB1
              clear hW1 hB1 hb1 HKA HN HMA
              generalize wr.heap.size = bx at *
              go_upto_region 19 with (first
                | (refine wpList_val (.agg #[.int .i64 c, .int .i64 d]) (by kernel_rfl) (exec_load_row HBX.out rfl rfl Try.underlying34 rfl (by kernel_rfl)) ?_)
                | (refine wpList_lookV keyKey rfl _ _ 43 rfl 36 Try.underlying43 (zeroBreak _) rfl HM1.out (c, d) HKG.out rfl (.agg #[.int .i64 c, .int .i64 d, .int .i64 tx, .int .i64 ty]) HL.out ?_))
              generalize hW2 : World.alloc W1 _ = W2
              have hb2 : Below W1.heap.size W1 W2 := by rw [← hW2]; exact (Below.refl _ _).alloc (Nat.le_refl _) _
              have hB2 : W2.heap[W1.heap.size]? = some (.cells #[.int .i64 c, .int .i64 d, .int .i64 tx, .int .i64 ty] 36 (0, 0)) := by rw [← hW2]; exact heap_alloc_new W1 _
              have HB2 := Lib.hid (HB1.out.trans (hb2.mono HB1.out.size))
              have HN2 := Lib.hid (HN1.out.below hb2)
              have HBY := Lib.hid hB2
              have c2 := (block_cell hB2 2 _ rfl).1
              have c3 := (block_cell hB2 3 _ rfl).1
              clear hW2 hB2 hb2 HB1 HN1 HM1 HBX
              generalize W1.heap.size = bY at *
              by_cases he : tx = ty
              · have he1 : (tx == ty) = true := by simp [he]
                have he2 : (tx != ty) = false := by simp [he]
                have HT := Lib.hid (HT.out.trans (if_pos he))
                clear he
                go_wp2_with fail
                exact ⟨⟨k + 1, by omega, by go_num, by rw [HT.out]; exact HN2.out, HB2.out⟩, by simp [intOf]; omega⟩
              · have he1 : (tx == ty) = false := by simp [he]
                have he2 : (tx != ty) = true := by simp [he]
                have HT := Lib.hid (HT.out.trans (if_neg he))
                clear he
                obtain ⟨v', w6, hrun, hR, hb6⟩ := push_brk HN2.out HB2.out rfl c d tx ty (by omega)
                have HRUN := Lib.hid hrun
                have HR6 := Lib.hid hR
                have HB6 := Lib.hid hb6
                clear hrun hR hb6
                go_wp2_with (first | (refine wpList_val (.agg #[.int .i64 c, .int .i64 d, .int .i64 tx, .int .i64 ty]) (by kernel_rfl) (exec_load_row HBY.out rfl rfl Try.underlying36 rfl (by kernel_rfl)) ?_) | (refine wpList_val (w' := w6) v' (by kernel_rfl) (exec_append2 rfl rfl rfl rfl ?_) ?_; focus (exact HRUN.out)))
                exact ⟨⟨k + 1, by omega, by go_num, by rw [HT.out]; exact HR6.out, HB6.out⟩, by simp [intOf]; omega⟩
            · have hke : k = ks.length := by omega
              have hdk : decide ((k : Int) < ks.length) = false := decide_eq_false (by omega)
              rw [hke, List.take_length] at HN
              clear hke
              go_wp2_with fail
              go_ret
              exact ⟨_, rfl, by rw [← HKS.out]; exact HN.out.low HB4.out.size, HB4.out.trans (HWB.out.mono HB4.out.size)⟩
end Go.Proofs.Ytkggmhcdoalhoaa
