/- A day made of a plan: by contract. -/
import Derived.Test.YtkhhkbigpaoinaaDayR
namespace Go.Proofs.Ytkhhkbigpaoinaa
set_option linter.unusedVariables false
set_option linter.unusedSimpArgs false
open Go.RowKit Go.Maps
attribute [local irreducible] Go.wpStill

def NewP (p : PlanV) (n : Int) (w : World) (e : Ending) (w' : World) : Prop :=
  (planOk p n = true ∧ ∃ db, e = .returned (.tuple #[.pointer (some ⟨db, 0, none⟩), .nilIface]) ∧ DayR w' w.heap.size db p n 0 (fun _ => none) ∧ Below w.heap.size w w') ∨
  (planOk p n = false ∧ ∃ t x, e = .returned (.tuple #[.pointer none, .iface t x]) ∧ Below w.heap.size w w')
set_option maxRecDepth 100000 in
set_option maxHeartbeats 8000000 in
theorem dayNew_any (p : PlanV) (n : Int) (w : World) (h : p.Ok w) : Calls Try.prog 6 #[.agg p.cells, .int .i64 n] w (NewP p n w) := by
  obtain ⟨h7, h6, hf, hg, hl⟩ := h
  have HH := Lib.hid (fun (wz : World) (hz : wz.heap[w.heap.size]? = some (.cells p.cells 26 (0, 0))) => PlanV.hour h7 h6 hz)
  obtain ⟨we, fs, fv, hs, keep, rate⟩ := p
  obtain ⟨b0, b1, b2, b3, b4, b5, b6, rfl⟩ : ∃ b0 b1 b2 b3 b4 b5 b6, we = [b0, b1, b2, b3, b4, b5, b6] := by
    match we, h7 with
    | [b0, b1, b2, b3, b4, b5, b6], _ => exact ⟨b0, b1, b2, b3, b4, b5, b6, rfl⟩
  obtain ⟨h0, h1, h2, h3, h4, h5, rfl⟩ : ∃ h0 h1 h2 h3 h4 h5, hs = [h0, h1, h2, h3, h4, h5] := by
    match hs, h6 with
    | [h0, h1, h2, h3, h4, h5], _ => exact ⟨h0, h1, h2, h3, h4, h5, rfl⟩
  simp only at hf hg hl
  obtain ⟨fo, fc, rfl⟩ := hf.slice
  have hix : ∀ i, i < 6 → (#[.int .i64 h0, .int .i64 h1, .int .i64 h2, .int .i64 h3, .int .i64 h4, .int .i64 h5] : Array Value)[i]? = some (.int .i64 (hourAt [h0, h1, h2, h3, h4, h5] i)) := fun i hi => by
    rcases i with _ | _ | _ | _ | _ | _ | i <;> first | rfl | omega
  have HIXS := Lib.hid hix
  obtain ⟨P, hP⟩ : ∃ P : PlanV, P = ⟨[b0, b1, b2, b3, b4, b5, b6], fs, .slice fo fs.length fc, [h0, h1, h2, h3, h4, h5], keep, rate⟩ := ⟨_, rfl⟩
  have HP := Lib.hid hP
  have hcs : PlanV.cells ⟨[b0, b1, b2, b3, b4, b5, b6], fs, .slice fo fs.length fc, [h0, h1, h2, h3, h4, h5], keep, rate⟩ = #[.bool b0, .bool b1, .bool b2, .bool b3, .bool b4, .bool b5, .bool b6, .slice fo fs.length fc, .int .i64 h0, .int .i64 h1, .int .i64 h2, .int .i64 h3, .int .i64 h4, .int .i64 h5, .int .i64 keep, .int .i64 rate] := rfl
  rw [← hP]
  rw [← hP] at HH hcs
  have hhs : P.hs = [h0, h1, h2, h3, h4, h5] := by rw [hP]
  rw [← hhs] at hix HIXS
  have hblk := heap_alloc_new w (.cells #[.bool b0, .bool b1, .bool b2, .bool b3, .bool b4, .bool b5, .bool b6, .slice fo fs.length fc, .int .i64 h0, .int .i64 h1, .int .i64 h2, .int .i64 h3, .int .i64 h4, .int .i64 h5, .int .i64 keep, .int .i64 rate] 26)
  have hb0 := (Below.refl w.heap.size w).alloc (Nat.le_refl _) (.cells #[.bool b0, .bool b1, .bool b2, .bool b3, .bool b4, .bool b5, .bool b6, .slice fo fs.length fc, .int .i64 h0, .int .i64 h1, .int .i64 h2, .int .i64 h3, .int .i64 h4, .int .i64 h5, .int .i64 keep, .int .i64 rate] 26)
  have HB0 := Lib.hid hb0
  have HBK := Lib.hid hblk
  have HF := Lib.hid hf
  have HG := Lib.hid hg
  have HCS := Lib.hid hcs
  rw [hcs] at HH ⊢
  have hok : planOk P n = (hoursOk P.hs && decide (1 ≤ keep) && decide (0 ≤ rate) && decide (rate ≤ 1000000) && busy [b0, b1, b2, b3, b4, b5, b6] fs n) := by rw [hP]; rfl
  have HPO := Lib.hid hok
  clear hblk hb0 hf hg h6 h7 hP hhs hix hcs hok
  go_enter Try.func6, Try.ntmps6
  go_upto_region 1 with fail
  generalize hW1 : World.alloc w _ = W1 at HB0 HBK ⊢
  clear hW1
  have HRNG := Lib.hid (show W1.rangeAt w.heap.size 8 [.int .i64 h0, .int .i64 h1, .int .i64 h2, .int .i64 h3, .int .i64 h4, .int .i64 h5] from fun j v hj => by
    rw [cell_of_row _ _ _ _ _ _ HBK.out]
    rcases j with _ | _ | _ | _ | _ | _ | j <;> simp at hj ⊢ <;> exact hj)
  go_wp2_with (refine wpList_val (.agg #[.int .i64 h0, .int .i64 h1, .int .i64 h2, .int .i64 h3, .int .i64 h4, .int .i64 h5]) (by kernel_rfl) (exec_load_mid (T := 24) HRNG.out rfl rfl Try.underlying24 rfl (by kernel_rfl)) ?_)
  go_loopw [13] (fun iv wr => ∃ i : Nat, i ≤ 6 ∧ iv = .int .i64 i ∧ (∀ j, j < i → hourOk P.hs j = true) ∧ wr.heap[w.heap.size]? = some (.cells #[.bool b0, .bool b1, .bool b2, .bool b3, .bool b4, .bool b5, .bool b6, .slice fo fs.length fc, .int .i64 h0, .int .i64 h1, .int .i64 h2, .int .i64 h3, .int .i64 h4, .int .i64 h5, .int .i64 keep, .int .i64 rate] 26 (0, 0)) ∧ Below w.heap.size w wr) (fun iv _ => 6 - (intOf iv).toNat)
  case atStart => exact ⟨0, by omega, rfl, fun j hj => by omega, HBK.out, HB0.out⟩
  case round =>
    obtain ⟨i, hi, rfl, hall, hBR, hW⟩ := hrel
    clear HB0 HBK HRNG
    have HALL := Lib.hid hall
    have HBR := Lib.hid hBR
    have HWB := Lib.hid hW
    clear hall hBR hW
    by_cases hlt : i < 6
    · have hdl : decide ((i : Int) < 6) = true := decide_eq_true (by omega)
      have HIX := Lib.hid (HIXS.out i hlt)
      by_cases hA : hourAt P.hs i < 0
      · have HNO := Lib.hid (show planOk P n = false by
          have : hoursOk P.hs = false := by
            rw [hoursOk, List.all_eq_false]
            exact ⟨i, List.mem_range.2 hlt, by simp [hourOk]; omega⟩
          simp [planOk, this])
        generalize hourAt P.hs i = hv at *
        have dA : decide (hv < 0) = true := decide_eq_true hA
        clear hA
        go_wp2_with (refine wpList_val (.int .i64 hv) (by kernel_rfl) (exec_index6 HIX.out hlt rfl rfl rfl) ?_)
        go_ret2
        exact .inr ⟨HNO.out, _, _, rfl, HWB.out⟩
      · by_cases hB : 1440 ≤ hourAt P.hs i
        · have HNO := Lib.hid (show planOk P n = false by
            have : hoursOk P.hs = false := by
              rw [hoursOk, List.all_eq_false]
              exact ⟨i, List.mem_range.2 hlt, by simp [hourOk]; omega⟩
            simp [planOk, this])
          generalize hourAt P.hs i = hv at *
          have dA : decide (hv < 0) = false := decide_eq_false hA
          have dB : decide (1440 ≤ hv) = true := decide_eq_true hB
          clear hA hB
          go_wp2_with (refine wpList_val (.int .i64 hv) (by kernel_rfl) (exec_index6 HIX.out hlt rfl rfl rfl) ?_)
          go_ret2
          exact .inr ⟨HNO.out, _, _, rfl, HWB.out⟩
        · by_cases hC : i = 0
          · have HOK := Lib.hid (show hourOk P.hs (i) = true by simp [hourOk]; omega)
            have dC : decide (0 < (i : Int)) = false := decide_eq_false (by omega)
            have dC2 : decide (0 < i) = false := decide_eq_false (by omega)
            generalize hourAt P.hs i = hv at *
            have dA : decide (hv < 0) = false := decide_eq_false hA
            have dB : decide (1440 ≤ hv) = false := decide_eq_false hB
            clear hA hB hC
            go_wp2_with (refine wpList_val (.int .i64 hv) (by kernel_rfl) (exec_index6 HIX.out hlt rfl rfl rfl) ?_)
            exact ⟨⟨i + 1, by omega, by go_num, fun j hj => by
              by_cases e : j = i
              · subst e; exact HOK.out
              · exact HALL.out j (by omega), HBR.out, HWB.out⟩, by simp [intOf]; omega⟩
          · obtain ⟨q0, rfl⟩ : ∃ q0, i = q0 + 1 := ⟨i - 1, by omega⟩
            by_cases hD : hourAt P.hs (q0 + 1) ≤ hourAt P.hs q0
            · have HNO := Lib.hid (show planOk P n = false by
                have : hoursOk P.hs = false := by
                  rw [hoursOk, List.all_eq_false]
                  exact ⟨q0 + 1, List.mem_range.2 hlt, by simp [hourOk]; omega⟩
                simp [planOk, this])
              have c8 : wr.cell? ⟨w.heap.size, 8 + q0, none⟩ = some (.int .i64 (hourAt P.hs q0)) := HH.out wr HBR.out q0 (by omega)
              have hw1 : IntKind.i64.wrap (q0 : Int) = (q0 : Int) := IntWalk.i64_in _ (by omega)
              generalize hourAt P.hs q0 = hp at *
              generalize hourAt P.hs (q0 + 1) = hv at *
              have dA : decide (hv < 0) = false := decide_eq_false hA
              have dB : decide (1440 ≤ hv) = false := decide_eq_false hB
              have dD : decide (hv ≤ hp) = true := decide_eq_true hD
              clear hA hB hC hD
              go_wp2_with (refine wpList_val (.int .i64 hv) (by kernel_rfl) (exec_index6 HIX.out hlt rfl rfl rfl) ?_)
              go_ret2
              exact .inr ⟨HNO.out, _, _, rfl, HWB.out⟩
            · have HOK := Lib.hid (show hourOk P.hs (q0 + 1) = true by simp [hourOk]; omega)
              have c8 : wr.cell? ⟨w.heap.size, 8 + q0, none⟩ = some (.int .i64 (hourAt P.hs q0)) := HH.out wr HBR.out q0 (by omega)
              have hw1 : IntKind.i64.wrap (q0 : Int) = (q0 : Int) := IntWalk.i64_in _ (by omega)
              generalize hourAt P.hs q0 = hp at *
              generalize hourAt P.hs (q0 + 1) = hv at *
              have dA : decide (hv < 0) = false := decide_eq_false hA
              have dB : decide (1440 ≤ hv) = false := decide_eq_false hB
              have dD : decide (hv ≤ hp) = false := decide_eq_false hD
              clear hA hB hC hD
              go_wp2_with (refine wpList_val (.int .i64 hv) (by kernel_rfl) (exec_index6 HIX.out hlt rfl rfl rfl) ?_)
              exact ⟨⟨q0 + 1 + 1, by omega, by go_num, fun j hj => by
                by_cases e : j = q0 + 1
                · subst e; exact HOK.out
                · exact HALL.out j (by omega), HBR.out, HWB.out⟩, by simp [intOf]; omega⟩
    · have hie : i = 6 := by omega
      have hdl : decide ((i : Int) < 6) = false := decide_eq_false (by omega)
      have HOURS := Lib.hid (show hoursOk P.hs = true by rw [hoursOk, List.all_eq_true]; intro j hj; exact HALL.out j (by have := List.mem_range.1 hj; omega))
      clear hie HALL
      have c7 : wr.cell? ⟨w.heap.size, 7, none⟩ = some (.slice fo fs.length fc) := by rw [cell_of_row _ _ _ _ _ _ HBR.out]; rfl
      have c14 : wr.cell? ⟨w.heap.size, 14, none⟩ = some (.int .i64 keep) := by rw [cell_of_row _ _ _ _ _ _ HBR.out]; rfl
      have c15 : wr.cell? ⟨w.heap.size, 15, none⟩ = some (.int .i64 rate) := by rw [cell_of_row _ _ _ _ _ _ HBR.out]; rfl
      have hpo := HPO.out
      rw [HOURS.out, Bool.true_and] at hpo
      have HPO := Lib.hid hpo
      clear hpo
      by_cases hk : keep < 1
      · have d1 : decide (keep < 1) = true := decide_eq_true hk
        have HNO := Lib.hid (show planOk P n = false by rw [HPO.out]; simp; omega)
        clear hk
        go_wp2_with fail
        go_ret2
        exact .inr ⟨HNO.out, _, _, rfl, HWB.out⟩
      · have d1 : decide (keep < 1) = false := decide_eq_false hk
        by_cases hr : rate < 0
        · have d2 : decide (rate < 0) = true := decide_eq_true hr
          have HNO := Lib.hid (show planOk P n = false by rw [HPO.out]; simp; omega)
          clear hk hr
          go_wp2_with fail
          go_ret2
          exact .inr ⟨HNO.out, _, _, rfl, HWB.out⟩
        · have d2 : decide (rate < 0) = false := decide_eq_false hr
          by_cases hr2 : 1000000 < rate
          · have d3 : decide (1000000 < rate) = true := decide_eq_true hr2
            have HNO := Lib.hid (show planOk P n = false by rw [HPO.out]; simp; omega)
            clear hk hr hr2
            go_wp2_with fail
            go_ret2
            exact .inr ⟨HNO.out, _, _, rfl, HWB.out⟩
          · have d3 : decide (1000000 < rate) = false := decide_eq_false hr2
            have HYES := Lib.hid (show planOk P n = busy [b0, b1, b2, b3, b4, b5, b6] fs n by rw [HPO.out, decide_eq_true (show 1 ≤ keep by omega), decide_eq_true (show 0 ≤ rate by omega), decide_eq_true (show rate ≤ 1000000 by omega)]; rfl)
            clear hk hr hr2
            go_wp2_with fail
            refine (weekdayP_any n _).mono ?_
            rintro e w5 ⟨kd, ve, rfl, hE, rfl⟩
            rcases hE with ⟨hd, rfl⟩ | ⟨hd, t1, x1, rfl⟩
            · have HCN := Lib.hid (calNew_any [b0, b1, b2, b3, b4, b5, b6] rfl (.slice fo fs.length fc) fs)
              have HWK := Lib.hid (show wr.rangeAt w.heap.size 0 [.bool b0, .bool b1, .bool b2, .bool b3, .bool b4, .bool b5, .bool b6] from fun j v hj => by
                rw [Nat.zero_add, cell_of_row _ _ _ _ _ _ HBR.out]
                rcases j with _ | _ | _ | _ | _ | _ | _ | j <;> simp at hj ⊢ <;> exact hj)
              clear hd
              go_wp2_with (refine wpList_val (.agg #[.bool b0, .bool b1, .bool b2, .bool b3, .bool b4, .bool b5, .bool b6]) (by kernel_rfl) (exec_load_mid (T := 22) HWK.out rfl rfl Try.underlying22 rfl (by kernel_rfl)) ?_)
              refine (HCN.out _ (HF.out.below HWB.out) HG.out hl).mono ?_
              rintro e w6 ⟨cb, rfl, hcb, hcal, hb6⟩
              have HCAL := Lib.hid hcal
              have HB6 := Lib.hid (HWB.out.trans (hb6.mono HWB.out.size))
              have HBR6 := Lib.hid ((hb6.block _ (lt_of_block HBR.out)).trans HBR.out)
              have hlt6 : w.heap.size < wr.heap.size := lt_of_block HBR.out
              clear hcal hb6 c7 c14 c15 HBR HWB HWK
              go_wp2_with fail
              refine (business_any cb _ fs n _ HCAL.out).mono ?_
              rintro e w7 ⟨rfl, hb7⟩
              have HCAL7 := Lib.hid (HCAL.out.below hb7)
              have HB7 := Lib.hid (HB6.out.trans (hb7.mono HB6.out.size))
              have HBR7 := Lib.hid ((hb7.block _ (lt_of_block HBR6.out)).trans HBR6.out)
              clear hb7 HCAL HB6 HBR6
              cases hbz : busy [b0, b1, b2, b3, b4, b5, b6] fs n with
              | false =>
                have HNO := Lib.hid (show planOk P n = false by rw [HYES.out, hbz])
                clear hbz
                go_wp2_with fail
                go_ret2
                exact .inr ⟨HNO.out, _, _, rfl, HB7.out⟩
              | true =>
                have HY := Lib.hid (show planOk P n = true by rw [HYES.out, hbz])
                clear hbz
                obtain ⟨mc, hcat⟩ := HCAL7.out.at
                obtain ⟨ccs, hccs⟩ := hcat.ne
                have hne1 : cb ≠ w.heap.size := by omega
                have hne2 : mc ≠ w.heap.size := fun e => by
                  subst e
                  obtain ⟨_, nn, _, _, hm⟩ := hcat
                  obtain ⟨es, ck, hmm⟩ := hm.isMap keyD
                  rw [HBR7.out] at hmm
                  cases hmm
                obtain ⟨u7, z7⟩ := block_cell HBR7.out 7 _ rfl
                have hB8 := heap_setCell_same w7 w.heap.size 7 _ _ (.slice none 0 0) HBR7.out
                have HCAT8 := Lib.hid (hcat.keep (Below.heap_setCell w7 ⟨w.heap.size, 7, none⟩ (.slice none 0 0) cb hne1) (Below.heap_setCell w7 ⟨w.heap.size, 7, none⟩ (.slice none 0 0) mc hne2))
                have HB8 := Lib.hid (HB7.out.setCell (p := ⟨w.heap.size, 7, none⟩) (Nat.le_refl _) (.slice none 0 0))
                clear hcat hccs HCAL7 HBR7 HB7
                have hmm := @run_makeMap Try.prog
                go_upto_region 16 with fail
                generalize hW8 : World.setCell w7 _ _ = w8 at *
                have HBR8 := Lib.hid (show w8.heap[w.heap.size]? = some (.cells #[.bool b0, .bool b1, .bool b2, .bool b3, .bool b4, .bool b5, .bool b6, .slice none 0 0, .int .i64 h0, .int .i64 h1, .int .i64 h2, .int .i64 h3, .int .i64 h4, .int .i64 h5, .int .i64 keep, .int .i64 rate] 26 (0, 0)) from hB8)
                have HSZ := Lib.hid HB8.out.size
                clear hB8 u7 z7 hW8
                go_wp2_with (refine wpList_val (.agg #[.bool b0, .bool b1, .bool b2, .bool b3, .bool b4, .bool b5, .bool b6, .slice none 0 0, .int .i64 h0, .int .i64 h1, .int .i64 h2, .int .i64 h3, .int .i64 h4, .int .i64 h5, .int .i64 keep, .int .i64 rate]) (by kernel_rfl) (exec_load_row HBR8.out rfl rfl Try.underlying26 rfl (by kernel_rfl)) ?_)
                go_ret2
                have hmk := MapAt.made keyD w8
                have hmlt := hmk.lt keyD
                have hz := HSZ.out
                have hbF : Below w.heap.size w ((w8.alloc (.map #[] 0)).alloc (.cells #[.bool b0, .bool b1, .bool b2, .bool b3, .bool b4, .bool b5, .bool b6, .slice none 0 0, .int .i64 h0, .int .i64 h1, .int .i64 h2, .int .i64 h3, .int .i64 h4, .int .i64 h5, .int .i64 keep, .int .i64 rate, .pointer (some ⟨cb, 0, none⟩), .int .i64 n, .map (some w8.heap.size)] 66)) := (HB8.out.alloc hz _).alloc (by simp; omega) _
                have hcF := HCAT8.out
                have hl1 := hcF.lt
                have hbl : ∀ k, k < w8.heap.size → ((w8.alloc (.map #[] 0)).alloc (.cells #[.bool b0, .bool b1, .bool b2, .bool b3, .bool b4, .bool b5, .bool b6, .slice none 0 0, .int .i64 h0, .int .i64 h1, .int .i64 h2, .int .i64 h3, .int .i64 h4, .int .i64 h5, .int .i64 keep, .int .i64 rate, .pointer (some ⟨cb, 0, none⟩), .int .i64 n, .map (some w8.heap.size)] 66)).heap[k]? = w8.heap[k]? := fun k hk => (heap_alloc_old _ _ (by simp; omega)).trans (heap_alloc_old _ _ hk)
                refine .inl ⟨HY.out, w8.heap.size + 1, rfl, ⟨by rw [HP.out]; rfl, by rw [HP.out]; rfl, by omega, ⟨cb, mc, w8.heap.size, ?_, ?_, ⟨fun _ => 0, ?_, fun id e h => (by cases h), fun id id' e e' h => (by cases h)⟩, by omega, hz⟩⟩, hbF⟩
                · have := heap_alloc_new (w8.alloc (.map #[] 0)) (.cells #[.bool b0, .bool b1, .bool b2, .bool b3, .bool b4, .bool b5, .bool b6, .slice none 0 0, .int .i64 h0, .int .i64 h1, .int .i64 h2, .int .i64 h3, .int .i64 h4, .int .i64 h5, .int .i64 keep, .int .i64 rate, .pointer (some ⟨cb, 0, none⟩), .int .i64 n, .map (some w8.heap.size)] 66)
                  rw [show (w8.alloc (.map #[] 0)).heap.size = w8.heap.size + 1 by simp] at this
                  rw [HP.out]
                  exact this
                · rw [HP.out]
                  exact hcF.keep (hbl _ hl1.1) (hbl _ hl1.2)
                · exact (hmk.block keyD (heap_alloc_old _ _ hmlt)).same keyD (fun x _ => rfl)
            · have HNO := Lib.hid (show planOk P n = false by rw [HYES.out]; simp [busy, hd])
              clear hd
              go_wp2_with fail
              go_ret2
              exact .inr ⟨HNO.out, _, _, rfl, HWB.out⟩
end Go.Proofs.Ytkhhkbigpaoinaa
