/- texts of this claim, laid together: RefAcc. -/
import Derived.Test.YtmepjcnpbjdlkaaGreatDoorQbAccA
import Derived.Test.YtmepjcnpbjdlkaaGreatDoorQbRefLast
import Derived.Test.YtmepjcnpbjdlkaaGreatDoorQbRefA
/- the document's Accrued by contract. -/
namespace Go.Proofs.YtmepjcnpbjdlkaaGreatDoor
set_option linter.unusedVariables false
set_option linter.unusedSimpArgs false
open Go.RowKit
attribute [local irreducible] Go.wpStill

set_option maxHeartbeats 2000000 in
theorem refModes_any (n : Int) (w : World) : Calls Tryz.prog 72 #[.int .i64 n] w fun e w' => e = .returned (.bool (decide (0 ≤ n ∧ n ≤ 3))) ∧ w' = w := by
  by_cases h0 : 0 ≤ n
  · have d0 : decide (n ≥ 0) = true := decide_eq_true h0
    by_cases h3 : n ≤ 3
    · have d3 : decide (n ≤ 3) = true := decide_eq_true h3
      rw [decide_eq_true (show 0 ≤ n ∧ n ≤ 3 from ⟨h0, h3⟩)]
      go_enter Tryz.func72, Tryz.ntmps72
      go_wp2_with fail
      go_ret
      exact ⟨rfl, rfl⟩
    · have d3 : decide (n ≤ 3) = false := decide_eq_false h3
      rw [decide_eq_false (show ¬ (0 ≤ n ∧ n ≤ 3) from fun h => h3 h.2)]
      go_enter Tryz.func72, Tryz.ntmps72
      go_wp2_with fail
      go_ret
      exact ⟨rfl, rfl⟩
  · have d0 : decide (n ≥ 0) = false := decide_eq_false h0
    rw [decide_eq_false (show ¬ (0 ≤ n ∧ n ≤ 3) from fun h => h0 h.1)]
    go_enter Tryz.func72, Tryz.ntmps72
    go_wp2_with fail
    go_ret
    exact ⟨rfl, rfl⟩
def RefAccP (s : SecV) (qty day mode : Int) (w : World) (e : Ending) (w' : World) : Prop := ∃ z n, e = .returned (.tuple #[.int .i64 z, .int .i64 n]) ∧ AccIs s qty day mode z n ∧ Below w.heap.size w w'
set_option maxRecDepth 100000 in
set_option maxHeartbeats 8000000 in
theorem refAccrued_any (s : SecV) (qty day mode : Int) (w : World) (hcs : s.cur.size ≤ 140737488351232) (hq : qty < 9223372036854775808) (hf : s.face < 9223372036854775808) : Calls Tryz.prog 27 #[.agg (secC s), .int .i64 qty, .int .i64 day, .int .i64 mode] w (RefAccP s qty day mode w) := by
  have hC := fun w => refCheck_any s w hcs
  have hM := fun w => refModes_any mode w
  have hL := fun hk h0 h1 h2 w => refLast_any s day w hk h0 h1 h2
  have hA1 : checkN s ≠ 0 → AccIs s qty day mode 0 (checkN s) := fun h => .inl ⟨h, rfl, rfl⟩
  have hA2 : checkN s = 0 → (qty < 0 ∨ mode < 0 ∨ 3 < mode) → AccIs s qty day mode 0 1 := fun h k => .inr (.inl ⟨h, k, rfl, rfl⟩)
  have hA3 : checkN s = 0 → ¬ (qty < 0 ∨ mode < 0 ∨ 3 < mode) → s.kind ≠ 2 → AccIs s qty day mode 0 0 := fun h k l => .inr (.inr (.inl ⟨h, k, l, rfl, rfl⟩))
  have hA4 : checkN s = 0 → ¬ (qty < 0 ∨ mode < 0 ∨ 3 < mode) → s.kind = 2 → (day < s.start ∨ s.finish < day) → AccIs s qty day mode 0 8 := fun h k l m => .inr (.inr (.inr (.inl ⟨h, k, l, m, rfl, rfl⟩)))
  have hA5 : checkN s = 0 → ¬ (qty < 0 ∨ mode < 0 ∨ 3 < mode) → s.kind = 2 → ¬ (day < s.start ∨ s.finish < day) → ∀ f A B, LastIs s day f → FracIs f day s.basis A B → AccIs s qty day mode (bondAcc s qty mode A B).1 (bondAcc s qty mode A B).2 := fun h k l m f A B h1 h2 => .inr (.inr (.inr (.inr ⟨h, k, l, m, f, A, B, h1, h2, rfl⟩)))
  have hbf := fun h k => bond_facts2 (s := s) h k
  have hbf2 := fun h k => bond_facts (s := s) h k
  have hLS : ∀ f, LastIs s day f → s.start ≤ day → s.start ≤ f ∧ f ≤ day := fun f h hd => by
    obtain ⟨y, m, d, k, _, _, h3, h4⟩ := h
    omega
  unfold RefAccP
  have z0 := (Below.refl w.heap.size w).alloc (Nat.le_refl _) (.cells (secC s) 25)
  have HZ0 := Lib.hid z0
  have HG := Lib.hid (heap_alloc_new w (.cells (secC s) 25))
  have hcell : ∀ w1, Below (w.alloc (.cells (secC s) 25)).heap.size (w.alloc (.cells (secC s) 25)) w1 → w1.heap[w.heap.size]? = some (.cells (secC s) 25 (0, 0)) ∧ w1.cell? ⟨w.heap.size, 12, none⟩ = some (.int .i64 s.kind) ∧ w1.cell? ⟨w.heap.size, 13, none⟩ = some (.int .i64 s.face) ∧ w1.cell? ⟨w.heap.size, 14, none⟩ = some (.int .i64 s.coupon) ∧ w1.cell? ⟨w.heap.size, 16, none⟩ = some (.int .i64 s.basis) ∧ w1.cell? ⟨w.heap.size, 17, none⟩ = some (.int .i64 s.start) ∧ w1.cell? ⟨w.heap.size, 18, none⟩ = some (.int .i64 s.finish) := fun w1 h => by
    have e := rowAt_below (heap_alloc_new w (.cells (secC s) 25)) h
    exact ⟨e, by rw [cell_of_row _ _ _ _ _ _ e]; rfl, by rw [cell_of_row _ _ _ _ _ _ e]; rfl, by rw [cell_of_row _ _ _ _ _ _ e]; rfl, by rw [cell_of_row _ _ _ _ _ _ e]; rfl, by rw [cell_of_row _ _ _ _ _ _ e]; rfl, by rw [cell_of_row _ _ _ _ _ _ e]; rfl⟩
  have HC := Lib.hid hC
  have HCELL := Lib.hid hcell
  have HM := Lib.hid hM
  have HL := Lib.hid hL
  have HA1 := Lib.hid hA1
  have HA2 := Lib.hid hA2
  have HA3 := Lib.hid hA3
  have HA4 := Lib.hid hA4
  have HA5 := Lib.hid hA5
  have HBF := Lib.hid hbf
  have HBF2 := Lib.hid hbf2
  have HLS := Lib.hid hLS
  clear hC hcell hM hL z0 hA1 hA2 hA3 hA4 hA5 hbf hbf2 hLS hcs
  generalize hkN : checkN s = kN at *
  generalize hAI : AccIs s qty day mode = AI at *
  go_enter Tryz.func27, Tryz.ntmps27
  go_wp2_with (refine wpList_val (.agg (secC s)) (by kernel_rfl) (exec_load_row HG.out rfl rfl Tryz.underlying25 rfl (by kernel_rfl)) ?_)
  refine (HC.out _).mono ?_
  rintro e w1 ⟨rfl, hBw⟩
  have HB1 := Lib.hid hBw
  have HBW := Lib.hid (HZ0.out.trans (hBw.mono (by simp)))
  obtain ⟨j0, j12, j13, j14, j16, j17, j18⟩ := HCELL.out _ hBw
  have HJ0 := Lib.hid j0
  clear hBw HC HG j0
  by_cases hk0 : kN = 0
  · have hneq : (kN != 0) = false := by simp [hk0]
    have HK0 := Lib.hid hk0
    clear hk0
    by_cases hg : qty < 0 ∨ mode < 0 ∨ 3 < mode
    · have HAA := Lib.hid (HA2.out HK0.out hg)
      by_cases g1 : qty < 0
      · have d1 : decide (qty < 0) = true := decide_eq_true g1
        clear hg g1
        go_wp2_with fail
        go_ret2
        exact ⟨_, _, rfl, HAA.out, HBW.out⟩
      · have d1 : decide (qty < 0) = false := decide_eq_false g1
        have HMM := Lib.hid (HM.out w1)
        rw [decide_eq_false (show ¬ (0 ≤ mode ∧ mode ≤ 3) by omega)] at HMM
        clear hg g1
        go_wp2_with fail
        refine HMM.out.mono ?_
        rintro e w1 ⟨rfl, rfl⟩
        go_wp2_with fail
        go_ret2
        exact ⟨_, _, rfl, HAA.out, HBW.out⟩
    · have d1 : decide (qty < 0) = false := decide_eq_false (by omega)
      have HMM := Lib.hid (HM.out w1)
      rw [decide_eq_true (show 0 ≤ mode ∧ mode ≤ 3 by omega)] at HMM
      obtain ⟨qn, hqn⟩ := Int.eq_ofNat_of_zero_le (show 0 ≤ qty by omega)
      have HA3 := Lib.hid (HA3.out HK0.out hg)
      have HA4 := Lib.hid (HA4.out HK0.out hg)
      have HA5 := Lib.hid (HA5.out HK0.out hg)
      have HQN := Lib.hid hqn
      clear hg hqn
      by_cases hk2 : s.kind = 2
      · have hne : (s.kind != 2) = false := by simp [hk2]
        by_cases hday : day < s.start ∨ s.finish < day
        · have HAA := Lib.hid (HA4.out hk2 hday)
          by_cases hds : day < s.start
          · have hdd : decide (day < s.start) = true := decide_eq_true hds
            clear hday hds hk2
            go_wp2_with fail
            refine HMM.out.mono ?_
            rintro e w1 ⟨rfl, rfl⟩
            go_wp2_with fail
            go_ret2
            exact ⟨_, _, rfl, HAA.out, HBW.out⟩
          · have hdd : decide (day < s.start) = false := decide_eq_false hds
            have hde : decide (day > s.finish) = true := decide_eq_true (by omega)
            clear hday hds hk2
            go_wp2_with fail
            refine HMM.out.mono ?_
            rintro e w1 ⟨rfl, rfl⟩
            go_wp2_with fail
            go_ret2
            exact ⟨_, _, rfl, HAA.out, HBW.out⟩
        · have hdd : decide (day < s.start) = false := decide_eq_false (by omega)
          have hde : decide (day > s.finish) = false := decide_eq_false (by omega)
          have hA5 := HA5.out hk2 hday
          obtain ⟨f1, c1, c2, b1, b2⟩ := HBF.out HK0.out hk2
          obtain ⟨hper, hd1, hd2, hsf⟩ := HBF2.out HK0.out hk2
          have hs1 : 1 ≤ s.start := by simp [dayB] at hd1; omega
          have hfin : 1 ≤ s.finish ∧ s.finish ≤ 3652059 := by simpa [dayB] using hd2
          have hd0 : s.start ≤ day ∧ day ≤ s.finish := by omega
          have HLL := Lib.hid (fun w => HL.out hk2 HK0.out hd0.1 hd0.2 w)
          have HA5 := Lib.hid hA5
          clear hday hA5 hper hd1 hd2 hk2
          go_wp2_with fail
          refine HMM.out.mono ?_
          rintro e w1 ⟨rfl, rfl⟩
          go_wp2_with fail
          rename_i HK
          refine wp_region_held_drew (S := fun w' => Below w1.heap.size w1 w') (by kernel_rfl) (Below.refl _ _).drew (fun hHeld => ?_)
          refine rg_yes 0 _ (by simp only [List.getElem?_toArray, List.getElem?_cons_succ, List.getElem?_cons_zero]; rfl) (by kernel_rfl) (by kernel_rfl) (by kernel_rfl) (by exact fun _ _ _ h => h) (by kernel_rfl) (by assumption) (by exact fun w' hS => (exec_load_row (rowAt_below HJ0.out hS) rfl rfl Tryz.underlying25 rfl (by kernel_rfl))) ?_
          (try simp only [Act.put, List.setIfInBounds_toArray, List.set_cons_zero, List.set_cons_succ])
          (refine rg_yes 1 ?v1 (by simp only [List.getElem?_toArray, List.getElem?_cons_succ, List.getElem?_cons_zero]; rfl) (by kernel_rfl) (by kernel_rfl) (by kernel_rfl) (by exact fun _ _ _ h => h) (by kernel_rfl) (by assumption) ?y1 ?z1; case y1 => (intro w hSw; (try dsimp only at hSw); go_simp; (try (rw [if_neg (by omega)])); (try with_reducible rfl)))
          (try simp only [Act.put, List.setIfInBounds_toArray, List.set_cons_zero, List.set_cons_succ])
          (refine rg_yes 3 ?v2 (by simp only [List.getElem?_toArray, List.getElem?_cons_succ, List.getElem?_cons_zero]; rfl) (by kernel_rfl) (by kernel_rfl) (by kernel_rfl) (by exact fun _ _ _ h => h) (by kernel_rfl) (by assumption) ?y2 ?z2; case y2 => (intro w hSw; (try dsimp only at hSw); go_simp; (try (rw [if_neg (by omega)])); (try with_reducible rfl)))
          (try simp only [Act.put, List.setIfInBounds_toArray, List.set_cons_zero, List.set_cons_succ])
          (refine rg_yes 4 ?v3 (by simp only [List.getElem?_toArray, List.getElem?_cons_succ, List.getElem?_cons_zero]; rfl) (by kernel_rfl) (by kernel_rfl) (by kernel_rfl) (by exact fun _ _ _ h => h) (by kernel_rfl) (by assumption) ?y3 ?z3; case y3 => (intro w hSw; (try dsimp only at hSw); go_simp; (try (rw [if_neg (by omega)])); (try with_reducible rfl)))
          (try simp only [Act.put, List.setIfInBounds_toArray, List.set_cons_zero, List.set_cons_succ])
          refine rg_yes 5 _ (by simp only [List.getElem?_toArray, List.getElem?_cons_succ, List.getElem?_cons_zero]; rfl) (by kernel_rfl) (by kernel_rfl) (by kernel_rfl) (by exact fun _ _ _ h => h) (by kernel_rfl) (by assumption) (by exact fun w' hS => (exec_load_at (HCELL.out _ (HB1.out.trans (hS.mono HB1.out.size))).2.2.2.2.1 rfl rfl (fun w => by kernel_rfl))) ?_
          (try simp only [Act.put, List.setIfInBounds_toArray, List.set_cons_zero, List.set_cons_succ])
          refine rg_call 2 _ _ (by simp only [List.getElem?_toArray, List.getElem?_cons_succ, List.getElem?_cons_zero]; rfl) (by kernel_rfl) (by kernel_rfl) (fun w => by go_simp; exact ⟨rfl, rfl⟩) ?_
          refine (HLL.out _).mono ?_
          rintro e w2 ⟨f, rfl, hLf, hb2⟩
          have hfd := HLS.out f hLf hd0.1
          have hH2 := hHeld.trans (hb2.mono hHeld.size)
          have HLF := Lib.hid hLf
          refine ⟨_, rfl, hH2, fun hHeld2 => ?_⟩
          clear hLf hb2 hHeld
          (try simp only [Act.put, List.setIfInBounds_toArray, List.set_cons_zero, List.set_cons_succ])
          refine rg_call 6 _ _ (by simp only [List.getElem?_toArray, List.getElem?_cons_succ, List.getElem?_cons_zero]; rfl) (by kernel_rfl) (by kernel_rfl) (fun w => by go_simp; exact ⟨rfl, rfl⟩) ?_
          refine (refFraction_any f day s.basis w2 (by omega) hfd.2 (by omega) b1 b2).mono ?_
          rintro e w3 ⟨A, B, rfl, hFI, hb3⟩
          have hH3 := hHeld2.trans (hb3.mono hHeld2.size)
          obtain ⟨A1, A2, hBB⟩ := hFI.bounds (by omega) hfd.2 (by omega) b1
          have hAA := HA5.out f A B HLF.out hFI
          have hbe : bondAcc s qty mode A B = DG.rounded (prodN [qn, s.face.toNat, s.coupon.toNat, A.toNat]) (prodN [1000000, B.toNat]) mode := by unfold bondAcc; rw [HQN.out, Int.toNat_natCast]
          rw [hbe] at hAA
          have HAA := Lib.hid hAA
          refine ⟨_, rfl, hH3, fun hHeld3 => ?_⟩
          clear hb3 hFI hAA hbe hH2 hHeld2 hH3
          (try simp only [Act.put, List.setIfInBounds_toArray, List.set_cons_zero, List.set_cons_succ])
          (refine rg_yes 7 ?v4 (by simp only [List.getElem?_toArray, List.getElem?_cons_succ, List.getElem?_cons_zero]; rfl) (by kernel_rfl) (by kernel_rfl) (by kernel_rfl) (by exact fun _ _ _ h => h) (by kernel_rfl) (by assumption) ?y4 ?z4; case y4 => (intro w hSw; (try dsimp only at hSw); go_simp; (try (rw [if_neg (by omega)])); (try with_reducible rfl)))
          (try simp only [Act.put, List.setIfInBounds_toArray, List.set_cons_zero, List.set_cons_succ])
          (refine rg_yes 8 ?v5 (by simp only [List.getElem?_toArray, List.getElem?_cons_succ, List.getElem?_cons_zero]; rfl) (by kernel_rfl) (by kernel_rfl) (by kernel_rfl) (by exact fun _ _ _ h => h) (by kernel_rfl) (by assumption) ?y5 ?z5; case y5 => (intro w hSw; (try dsimp only at hSw); go_simp; (try (rw [if_neg (by omega)])); (try with_reducible rfl)))
          (try simp only [Act.put, List.setIfInBounds_toArray, List.set_cons_zero, List.set_cons_succ])
          (refine rg_yes 9 ?v6 (by simp only [List.getElem?_toArray, List.getElem?_cons_succ, List.getElem?_cons_zero]; rfl) (by kernel_rfl) (by kernel_rfl) (by kernel_rfl) (by exact fun _ _ _ h => h) (by kernel_rfl) (by assumption) ?y6 ?z6; case y6 => (intro w hSw; (try dsimp only at hSw); go_simp; (try (rw [if_neg (by omega)])); (try with_reducible rfl)))
          (try simp only [Act.put, List.setIfInBounds_toArray, List.set_cons_zero, List.set_cons_succ])
          (refine rg_yes 10 ?v7 (by simp only [List.getElem?_toArray, List.getElem?_cons_succ, List.getElem?_cons_zero]; rfl) (by kernel_rfl) (by kernel_rfl) (by kernel_rfl) (by exact fun _ _ _ h => h) (by kernel_rfl) (by assumption) ?y7 ?z7; case y7 => (intro w hSw; (try dsimp only at hSw); go_simp; (try (rw [if_neg (by omega)])); (try with_reducible rfl)))
          (try simp only [Act.put, List.setIfInBounds_toArray, List.set_cons_zero, List.set_cons_succ])
          (refine rg_yes 11 ?v8 (by simp only [List.getElem?_toArray, List.getElem?_cons_succ, List.getElem?_cons_zero]; rfl) (by kernel_rfl) (by kernel_rfl) (by kernel_rfl) (by exact fun _ _ _ h => h) (by kernel_rfl) (by assumption) ?y8 ?z8; case y8 => (intro w hSw; (try dsimp only at hSw); go_simp; (try (rw [if_neg (by omega)])); (try with_reducible rfl)))
          (try simp only [Act.put, List.setIfInBounds_toArray, List.set_cons_zero, List.set_cons_succ])
          (refine rg_yes 12 ?v9 (by simp only [List.getElem?_toArray, List.getElem?_cons_succ, List.getElem?_cons_zero]; rfl) (by kernel_rfl) (by kernel_rfl) (by kernel_rfl) (by exact fun _ _ _ h => h) (by kernel_rfl) (by assumption) ?y9 ?z9; case y9 => (intro w hSw; (try dsimp only at hSw); go_simp; (try (rw [if_neg (by omega)])); (try with_reducible rfl)))
          (try simp only [Act.put, List.setIfInBounds_toArray, List.set_cons_zero, List.set_cons_succ])
          (refine rg_yes 13 ?v10 (by simp only [List.getElem?_toArray, List.getElem?_cons_succ, List.getElem?_cons_zero]; rfl) (by kernel_rfl) (by kernel_rfl) (by kernel_rfl) (by exact fun _ _ _ h => h) (by kernel_rfl) (by assumption) ?y10 ?z10; case y10 => (intro w hSw; (try dsimp only at hSw); go_simp; (try (rw [if_neg (by omega)])); (try with_reducible rfl)))
          (try simp only [Act.put, List.setIfInBounds_toArray, List.set_cons_zero, List.set_cons_succ])
          refine wpAnyH_done (by kernel_rfl) ?_ _
          apply HK
          have hWW := HB1.out.trans (hHeld3.mono HB1.out.size)
          obtain ⟨_, i12, i13, i14, i16, i17, i18⟩ := HCELL.out _ hWW
          obtain ⟨An, hAn⟩ := Int.eq_ofNat_of_zero_le A1
          obtain ⟨Bn, hBn⟩ := Int.eq_ofNat_of_zero_le (show 0 ≤ B by omega)
          obtain ⟨fn, hfn⟩ := Int.eq_ofNat_of_zero_le (show 0 ≤ s.face by omega)
          obtain ⟨cn, hcn⟩ := Int.eq_ofNat_of_zero_le c1
          rw [hfn, hcn, hAn, hBn] at HAA
          simp only [Int.toNat_natCast] at HAA
          rw [hfn] at i13
          rw [hcn] at i14
          rw [hAn, hBn, HQN.out]
          have HW3 := Lib.hid (HBW.out.trans (hHeld3.mono HBW.out.size))
          have hxx : ∀ x ∈ [qn, fn, cn, An], x < 9223372036854775808 := by have := HQN.out; simp; omega
          have hyy : ∀ x ∈ [1000000, Bn], x < 9223372036854775808 := by simp; omega
          have hpr := refProduct_any w3.heap.size [qn, fn, cn, An] (w3.alloc (.cells (([qn, fn, cn, An] : List Nat).map (fun x : Nat => Value.int .i64 (x : Int))).toArray 2)) (heap_alloc_new w3 _) (by simp) hxx
          have hpr2 := fun w4 => refProduct_any w4.heap.size [1000000, Bn] (w4.alloc (.cells (([1000000, Bn] : List Nat).map (fun x : Nat => Value.int .i64 (x : Int))).toArray 2)) (heap_alloc_new w4 _) (by simp) hyy
          have hl1 := prodN_len [qn, fn, cn, An] hxx (by simp) 4 (by simp)
          have hl2 := prodN_len [1000000, Bn] hyy (by simp) 2 (by simp)
          have hpq : 0 < prodN [1000000, Bn] := by
            have : Bn = 360 ∨ Bn = 365 := by omega
            rcases this with rfl | rfl <;> decide
          have hrn := fun va vb w5 ha hb => refRounded_any (va := va) (vb := vb) (prodN [qn, fn, cn, An]) (prodN [1000000, Bn]) mode w5 ha hb hpq (Nat.le_trans hl1 (by decide)) (Nat.le_trans hl2 (by decide))
          have HPR := Lib.hid hpr
          have HPR2 := Lib.hid hpr2
          have HRN := Lib.hid hrn
          have hz3 : Below w3.heap.size w3 (w3.alloc (.cells (([qn, fn, cn, An] : List Nat).map (fun x : Nat => Value.int .i64 (x : Int))).toArray 2)) := (Below.refl _ _).alloc (Nat.le_refl _) _
          have HZ3 := Lib.hid (HW3.out.trans (hz3.mono HW3.out.size))
          clear hxx hyy hpr hpr2 hl1 hl2 hpq hrn hz3 hHeld3 hWW hAn hBn hfn hcn i12 i16 i17 i18 j12 j13 j14 j16 j17 j18 A1 A2 hBB f1 c1 c2 b1 b2
          generalize prodN [qn, fn, cn, An] = M at *
          generalize prodN [1000000, Bn] = Nn at *
          generalize DG.rounded M Nn mode = R at *
          go_wp2_with fail
          refine HPR.out.mono ?_
          rintro e w4 ⟨v4, rfl, hU4, hb4⟩
          have HW4 := Lib.hid (HZ3.out.trans (hb4.mono HZ3.out.size))
          have hz4 : Below w4.heap.size w4 (w4.alloc (.cells (([1000000, Bn] : List Nat).map (fun x : Nat => Value.int .i64 (x : Int))).toArray 2)) := (Below.refl _ _).alloc (Nat.le_refl _) _
          have HU4 := Lib.hid (hU4.below hz4)
          have HW5 := Lib.hid (HW4.out.trans (hz4.mono HW4.out.size))
          have HPR2 := Lib.hid (HPR2.out w4)
          clear hU4 hb4 hz4
          go_wp2_with fail
          refine HPR2.out.mono ?_
          rintro e w6 ⟨v6, rfl, hU6, hb6⟩
          have HRN := Lib.hid (HRN.out _ _ w6 (HU4.out.below hb6) hU6)
          have HW6 := Lib.hid (HW5.out.trans (hb6.mono HW5.out.size))
          clear hU6 hb6
          go_wp2_with fail
          refine HRN.out.mono ?_
          rintro e w7 ⟨rfl, hb7⟩
          have HW7 := Lib.hid (HW6.out.trans (hb7.mono HW6.out.size))
          clear hb7
          go_wp2_with fail
          go_ret2
          exact ⟨_, _, rfl, HAA.out, HW7.out⟩
      · have hne : (s.kind != 2) = true := by simp [hk2]
        have HAA := Lib.hid (HA3.out hk2)
        clear hk2
        go_wp2_with fail
        refine HMM.out.mono ?_
        rintro e w1 ⟨rfl, rfl⟩
        go_wp2_with fail
        go_ret2
        exact ⟨_, _, rfl, HAA.out, HBW.out⟩
  · have hneq : (kN != 0) = true := by simp [hk0]
    have HAA := Lib.hid (HA1.out hk0)
    clear hk0
    go_wp2_with fail
    go_ret2
    exact ⟨_, _, rfl, HAA.out, HBW.out⟩
end Go.Proofs.YtmepjcnpbjdlkaaGreatDoor
