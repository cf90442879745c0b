/- texts of this claim, laid together: Rev, CoupB. -/
import Derived.Test.YtmepjcnpbjdlkaaGreatDoorQcCalK
import Derived.Sort.OwnSortedInts
/- slices.Reverse at a row of ints of one's own. -/
namespace Go.Proofs.YtmepjcnpbjdlkaaGreatDoor
set_option linter.unusedVariables false
set_option linter.unusedSimpArgs false
open Go.RowKit Go.Sort

theorem flatE_int (xs : List Int) : flatE intE xs = xs.map (Value.int .i64) := by
  induction xs with
  | nil => rfl
  | cons x xs ih => rw [flatE_cons, ih]; rfl
theorem reverse_row {w : World} {B : Nat} {v : Value} {xs : List Int} (a : RowE intE 3 w B v xs) (hl : xs.length ≤ 9223372036854775807) :
    Calls Tryz.prog 42 #[v] w fun e w' => e = .returned (.tuple #[]) ∧ RowE intE 3 w' B v xs.reverse ∧ w.grownBy w' v.ownBlock := by
  have a0 := a
  rcases a with ⟨rfl, rfl⟩ | ⟨g, cap, cur, rfl, hg, hh, h1, h2, h3, h4⟩
  · refine (Tryz.slices_Reverse_int_empty none 0 w).mono ?_
    rintro e w' ⟨rfl, rfl⟩
    exact ⟨rfl, .nil _ _, rfl, rfl, rfl, Nat.le_refl _, fun k hk hne => rfl⟩
  · have hsz : xs.length ≤ cur.size := by simp at h3; omega
    refine (Tryz.slices_Reverse_int g 0 cap xs w (fun j hj => ⟨?_, frozen_of_row hh _⟩) hl).mono ?_
    · have hj' : j < xs.length := by simpa using hj
      rw [Nat.zero_add]
      refine a0.cells j _ ?_
      rw [flatE_int]
      simp [hj']
    · rintro e w' ⟨rfl, n, rfl⟩
      refine ⟨rfl, .inr ⟨g, cap, putCells (Value.int .i64) 0 xs.reverse.toArray cur, by simp, hg, ?_, by simpa using h1, h2, by simpa [putCells] using h3, ?_⟩, rfl, rfl, rfl, by simp [putRow, mapBlock, Sort.ahead], fun k hk hne => ?_⟩
      · simp [putRow, mapBlock, Sort.ahead, Array.getElem?_modify, hh, onCells]
      · rw [flatE_int]
        have := take_putCellsI cur xs.reverse (by simpa using hsz)
        simpa using this
      · have : g ≠ k := fun e => hne (by rw [e]; rfl)
        simp [putRow, mapBlock, Sort.ahead, Array.getElem?_modify, this]
end Go.Proofs.YtmepjcnpbjdlkaaGreatDoor
/- price.Coupons: by contract. -/
namespace Go.Proofs.YtmepjcnpbjdlkaaGreatDoor
set_option linter.unusedVariables false
set_option linter.unusedSimpArgs false
open Go.RowKit
attribute [local irreducible] Go.wpStill

def CoupP (s : SecV) (w : World) (e : Ending) (w' : World) : Prop := ∃ v1 v2 l, e = .returned (.tuple #[v1, v2]) ∧ ErrP v2 (coupN s) none ∧ RowE intE 3 w' w.heap.size v1 l ∧ CoupIs s l ∧ l.length ≤ 200000 ∧ Below w.heap.size w w'
set_option maxRecDepth 100000 in
set_option maxHeartbeats 4000000 in
theorem coupons_any (s : SecV) (w : World) (hcs : s.cur.size ≤ 140737488351232) (hok : Ok w) : Calls Tryz.prog 12 #[.agg (secC s)] w (CoupP s w) := by
  have hC := fun w hok => priceCheck_any s w hcs hok
  have hbf := fun h k => bond_facts (s := s) h k
  have hA1 : checkN s ≠ 0 → coupN s = checkN s := fun h => by unfold coupN; rw [if_neg h]
  have hA2 : checkN s = 0 → s.kind ≠ 2 → coupN s = 24 := fun h k => by unfold coupN; rw [if_pos h, if_neg k]
  have hA3 : checkN s = 0 → s.kind = 2 → coupN s = 0 := fun h k => by unfold coupN; rw [if_pos h, if_pos k]
  have hIs : ∀ l, (coupN s ≠ 0 ∧ l = []) → CoupIs s l := fun l h => .inl h
  have hIs2 : coupN s = 0 → ∀ y m d n, Cal.Is s.finish y m d → Cal.cds (Cal.mon y m) d (12 / s.per) s.start n → CoupIs s (cdl (Cal.mon y m) d (12 / s.per) n).reverse := fun h y m d n a b => .inr ⟨h, y, m, d, n, a, b, rfl⟩
  unfold CoupP
  generalize coupN s = cN at *
  generalize checkN s = kN at *
  generalize CoupIs s = CI at *
  obtain ⟨c0, c1, c2, c3, c4, c5, c6, c7, c8, c9, c10, c11, kind, face, coupon, per, basis, start, finish, cur⟩ := s
  dsimp only at hbf hA1 hA2 hA3 hIs hIs2
  have HC := Lib.hid hC
  have HOK := Lib.hid hok
  have z0 := (Below.refl w.heap.size w).alloc (Nat.le_refl _) (.cells (secC ⟨c0, c1, c2, c3, c4, c5, c6, c7, c8, c9, c10, c11, kind, face, coupon, per, basis, start, finish, cur⟩) 25)
  have HZ0 := Lib.hid z0
  have HG := Lib.hid (heap_alloc_new w (.cells (secC ⟨c0, c1, c2, c3, c4, c5, c6, c7, c8, c9, c10, c11, kind, face, coupon, per, basis, start, finish, cur⟩) 25))
  have HBF := Lib.hid hbf
  have HA1 := Lib.hid hA1
  have HA2 := Lib.hid hA2
  have HA3 := Lib.hid hA3
  have HIS := Lib.hid hIs
  have HIS2 := Lib.hid hIs2
  clear hC hok z0 hbf hA1 hA2 hA3 hIs hIs2 hcs
  go_enter Tryz.func12, Tryz.ntmps12
  go_wp2_with (refine wpList_val (.agg (secC ⟨c0, c1, c2, c3, c4, c5, c6, c7, c8, c9, c10, c11, kind, face, coupon, per, basis, start, finish, cur⟩)) (by kernel_rfl) (exec_load_row HG.out rfl rfl Tryz.underlying25 rfl (by kernel_rfl)) ?_)
  refine (HC.out _ (HOK.out.below HZ0.out)).mono ?_
  rintro e w1 ⟨v, rfl, hE, hB⟩
  have hbw := HZ0.out.trans (hB.mono (by simp))
  have hrow := rowAt_below HG.out hB
  have HROW := Lib.hid hrow
  have HBW := Lib.hid hbw
  clear hB hbw hrow HG HZ0 HC
  by_cases hk0 : kN = 0
  · obtain ⟨rfl, _⟩ := hE.zero hk0
    have hkind : w1.cell? ⟨w.heap.size, 12, none⟩ = some (.int .i64 kind) := by simp only [World.cell?, HROW.out]; rfl
    have HK0 := Lib.hid hk0
    clear hk0
    by_cases hk2 : kind = 2
    · have hne : (kind != 2) = false := by simp [hk2]
      have HK2 := Lib.hid hk2
      clear hk2 hE
      go_wp2_with fail
      clear hne
      obtain ⟨hper, hd1, hd2, hsf⟩ := HBF.out HK0.out HK2.out
      have hs1 : 1 ≤ start := by simp [dayB] at hd1; omega
      have hfin : 1 ≤ finish ∧ finish ≤ 3652059 := by simpa [dayB] using hd2
      obtain ⟨y, m, d, hI⟩ := Cal.is_ex hfin.1 hfin.2
      obtain ⟨p1, p2, t1, t2, pt⟩ := per_facts hper
      have hQ := fun k h0 h1 => step_quo k per h0 h1 hper
      have hMo := fun k w h0 h1 => months_any finish k w hd2 h0 h1
      have hEb : Cal.mon y m ≤ 120000 := by have := hI.2.1; have := hI.2.2.2.1; unfold Cal.mon; omega
      have hcdb := fun j h => Cal.cd_bound (E := Cal.mon y m) (d := d) (j := j) hs1 t1 h
      have hIS := fun n h => HIS2.out (HA3.out HK0.out HK2.out) y m d n hI h
      have hun := fun y' m' d' (h : Cal.Is finish y' m' d') => h.unique hI
      have hcd0 := fun j h => Cal.cd_zero_of (E := Cal.mon y m) (d := d) (st := 12 / per) (j := j) h
      have hcd1 := fun j h => Cal.cd_of (E := Cal.mon y m) (d := d) (st := 12 / per) (j := j) h
      have hper0 : (per == 0) = false := by simp; omega
      generalize hE : Cal.mon y m = E at *
      generalize hst : 12 / per = st at *
      have HE := Lib.hid hE
      have HST := Lib.hid hst
      have HQ := Lib.hid hQ
      have HMO := Lib.hid hMo
      have HCDB := Lib.hid hcdb
      have HI := Lib.hid hI
      have HISC := Lib.hid hIS
      have HUN := Lib.hid hun
      have HCD0 := Lib.hid hcd0
      have HCD1 := Lib.hid hcd1
      have HPT := Lib.hid pt
      have hsz : w.heap.size < w1.heap.size := by have := lt_of_block HROW.out; exact this
      clear hE hst hQ hMo hcdb hI hIS hun hcd0 hcd1 pt hper hd1 hd2 HBF HA1 HA2 HIS hkind
      go_loopw [5, 6] (fun t k wr => ∃ n : Nat, k = .int .i64 n ∧ n ≤ 120001 ∧ RowE intE 3 wr w1.heap.size t (cdl E d st n) ∧ (∀ j, j < n → start < Cal.cd E d st j) ∧ Below w1.heap.size w1 wr ∧ (n = 0 ∨ (n : Int) ≤ E + 1)) (fun _ k _ => (120005 - intOf k).toNat)
      case atStart => exact ⟨0, rfl, by omega, .nil _ _, by omega, Below.refl _ _, .inl rfl⟩
      case round =>
        obtain ⟨n, rfl, hn, hR, hcds, hW, hnE⟩ := hrel
        have hrow := rowAt_below HROW.out hW
        have HR0 := Lib.hid hrow
        have HRW := Lib.hid hR
        have HCDS := Lib.hid hcds
        have hq := HQ.out n (by omega) (by omega)
        have hq2 : IntKind.i64.wrap ((IntKind.i64.wrap (IntKind.i64.wrap (-(n : Int)) * 12)).tdiv per) = -(st * n) := by rw [IntWalk.i64_in (-(n : Int)) (by omega), IntWalk.i64_in (-(n : Int) * 12) (by omega)]; exact hq
        have HQN := Lib.hid hq2
        have hk0 : -(st * n) ≤ 0 := by have := Int.mul_nonneg (show (0:Int) ≤ st by omega) (show (0 : Int) ≤ n by omega); omega
        have hk1 : -1000000000 ≤ -(st * n) := by have := Int.mul_le_mul_of_nonneg_right t2 (show (0 : Int) ≤ n by omega); omega
        have hper0 : per ≠ 0 := by omega
        clear hrow hR hcds hq hq2
        go_wp2_with fail
        rename_i HK
        refine wp_region_held_drew (S := fun w' => Below wr.heap.size wr w') (by kernel_rfl) (Below.refl _ _).drew (fun hHeld => ?_)
        (refine rg_yes 0 ?v1 (by simp only [List.getElem?_toArray, List.getElem?_cons_succ, List.getElem?_cons_zero]; rfl) (by kernel_rfl) (by kernel_rfl) (by kernel_rfl) (by exact fun _ _ _ h => h) (by kernel_rfl) (by assumption) ?y1 ?z1; case y1 => (intro w hSw; (try dsimp only at hSw); go_simp; (try (rw [if_neg (by omega)])); (try with_reducible rfl)))
        (try simp only [Act.put, List.setIfInBounds_toArray, List.set_cons_zero, List.set_cons_succ])
        refine rg_yes 1 _ (by simp only [List.getElem?_toArray, List.getElem?_cons_succ, List.getElem?_cons_zero]; rfl) (by kernel_rfl) (by kernel_rfl) (by kernel_rfl) (by exact fun _ _ _ h => h) (by kernel_rfl) (by assumption) (by exact fun w' hS => (exec_load_one (v := .int .i64 finish) (b := w.heap.size) (rowAt_below HR0.out hS) rfl rfl rfl (fun w => by kernel_rfl))) ?_
        (try simp only [Act.put, List.setIfInBounds_toArray, List.set_cons_zero, List.set_cons_succ])
        (refine rg_yes 2 ?v2 (by simp only [List.getElem?_toArray, List.getElem?_cons_succ, List.getElem?_cons_zero]; rfl) (by kernel_rfl) (by kernel_rfl) (by kernel_rfl) (by exact fun _ _ _ h => h) (by kernel_rfl) (by assumption) ?y2 ?z2; case y2 => (intro w hSw; (try dsimp only at hSw); go_simp; (try (rw [if_neg (by omega)])); (try with_reducible rfl)))
        (try simp only [Act.put, List.setIfInBounds_toArray, List.set_cons_zero, List.set_cons_succ])
        (refine rg_yes 3 ?v3 (by simp only [List.getElem?_toArray, List.getElem?_cons_succ, List.getElem?_cons_zero]; rfl) (by kernel_rfl) (by kernel_rfl) (by kernel_rfl) (by exact fun _ _ _ h => h) (by kernel_rfl) (by assumption) ?y3 ?z3; case y3 => (intro w hSw; (try dsimp only at hSw); go_simp; (try (rw [if_neg (by omega)])); (try with_reducible rfl)))
        (try simp only [Act.put, List.setIfInBounds_toArray, List.set_cons_zero, List.set_cons_succ])
        (refine rg_yes 4 ?v4 (by simp only [List.getElem?_toArray, List.getElem?_cons_succ, List.getElem?_cons_zero]; rfl) (by kernel_rfl) (by kernel_rfl) (by kernel_rfl) (by exact fun _ _ _ h => h) (by kernel_rfl) (by assumption) ?y4 ?z4; case y4 => (intro w hSw; (try dsimp only at hSw); go_simp; (try (rw [if_neg (by omega)])); (try with_reducible rfl)))
        (try simp only [Act.put, List.setIfInBounds_toArray, List.set_cons_zero, List.set_cons_succ])
        (refine rg_yes 5 ?v5 (by simp only [List.getElem?_toArray, List.getElem?_cons_succ, List.getElem?_cons_zero]; rfl) (by kernel_rfl) (by kernel_rfl) (by kernel_rfl) (by exact fun _ _ _ h => h) (by kernel_rfl) (by assumption) ?y5 ?z5; case y5 => (intro w hSw; (try dsimp only at hSw); go_simp; (try (rw [if_neg (by omega)])); (try with_reducible rfl)))
        (try simp only [Act.put, List.setIfInBounds_toArray, List.set_cons_zero, List.set_cons_succ])
        refine rg_yes 6 _ (by simp only [List.getElem?_toArray, List.getElem?_cons_succ, List.getElem?_cons_zero]; rfl) (by kernel_rfl) (by kernel_rfl) (by kernel_rfl) (by exact fun _ _ _ h => h) (by kernel_rfl) (by assumption) (by exact fun w' hS => (exec_load_one (v := .int .i64 per) (b := w.heap.size) (rowAt_below HR0.out hS) rfl rfl rfl (fun w => by kernel_rfl))) ?_
        (try simp only [Act.put, List.setIfInBounds_toArray, List.set_cons_zero, List.set_cons_succ])
        (refine rg_yes 7 ?v6 (by simp only [List.getElem?_toArray, List.getElem?_cons_succ, List.getElem?_cons_zero]; rfl) (by kernel_rfl) (by kernel_rfl) (by kernel_rfl) (by exact fun _ _ _ h => h) (by kernel_rfl) (by assumption) ?y6 ?z6; case y6 => (intro w hSw; (try dsimp only at hSw); go_simp; (try (rw [if_neg (by omega)])); (try with_reducible rfl)))
        (try simp only [Act.put, List.setIfInBounds_toArray, List.set_cons_zero, List.set_cons_succ])
        rw [HQN.out]
        refine rg_call 8 _ _ (by simp only [List.getElem?_toArray, List.getElem?_cons_succ, List.getElem?_cons_zero]; rfl) (by kernel_rfl) (by kernel_rfl) (fun w => by go_simp; exact ⟨rfl, rfl⟩) ?_
        refine (HMO.out _ _ hk0 hk1).mono ?_
        rintro e w2 ⟨y', m', d', hI', hb2, hres⟩
        obtain ⟨e1, e2, e3⟩ := HUN.out y' m' d' hI'
        rw [e1, e2, e3, HE.out] at hres
        clear e1 e2 e3
        have hsub : E + -(st * (n : Int)) = E - st * n := by omega
        rw [hsub] at hres
        clear hsub hI'
        have hb3 := hHeld.trans (hb2.mono hHeld.size)
        rcases hres with ⟨hlt, tt, xx, rfl⟩ | ⟨hge, rfl⟩
        · refine ⟨_, rfl, hb3, fun hHeld => ?_⟩
          have hc0 : Cal.cd E d st n ≤ start := by rw [HCD0.out n hlt]; omega
          have HLE := Lib.hid hc0
          clear hb2 hb3 hlt hk0 hk1 hc0
          (refine rg_yes 9 ?v7 (by simp only [List.getElem?_toArray, List.getElem?_cons_succ, List.getElem?_cons_zero]; rfl) (by kernel_rfl) (by kernel_rfl) (by kernel_rfl) (by exact fun _ _ _ h => h) (by kernel_rfl) (by assumption) ?y7 ?z7; case y7 => (intro w hSw; (try dsimp only at hSw); go_simp; (try (rw [if_neg (by omega)])); (try with_reducible rfl)))
          (try simp only [Act.put, List.setIfInBounds_toArray, List.set_cons_zero, List.set_cons_succ])
          (refine rg_yes 10 ?v8 (by simp only [List.getElem?_toArray, List.getElem?_cons_succ, List.getElem?_cons_zero]; rfl) (by kernel_rfl) (by kernel_rfl) (by kernel_rfl) (by exact fun _ _ _ h => h) (by kernel_rfl) (by assumption) ?y8 ?z8; case y8 => (intro w hSw; (try dsimp only at hSw); go_simp; (try (rw [if_neg (by omega)])); (try with_reducible rfl)))
          (try simp only [Act.put, List.setIfInBounds_toArray, List.set_cons_zero, List.set_cons_succ])
          (refine rg_yes 11 ?v9 (by simp only [List.getElem?_toArray, List.getElem?_cons_succ, List.getElem?_cons_zero]; rfl) (by kernel_rfl) (by kernel_rfl) (by kernel_rfl) (by exact fun _ _ _ h => h) (by kernel_rfl) (by assumption) ?y9 ?z9; case y9 => (intro w hSw; (try dsimp only at hSw); go_simp; (try (rw [if_neg (by omega)])); (try with_reducible rfl)))
          (try simp only [Act.put, List.setIfInBounds_toArray, List.set_cons_zero, List.set_cons_succ])
          (refine rg_yes 12 ?v10 (by simp only [List.getElem?_toArray, List.getElem?_cons_succ, List.getElem?_cons_zero]; rfl) (by kernel_rfl) (by kernel_rfl) (by kernel_rfl) (by exact fun _ _ _ h => h) (by kernel_rfl) (by assumption) ?y10 ?z10; case y10 => (intro w hSw; (try dsimp only at hSw); go_simp; (try (rw [if_neg (by omega)])); (try with_reducible rfl)))
          (try simp only [Act.put, List.setIfInBounds_toArray, List.set_cons_zero, List.set_cons_succ])
          (refine rg_yes 13 ?v11 (by simp only [List.getElem?_toArray, List.getElem?_cons_succ, List.getElem?_cons_zero]; rfl) (by kernel_rfl) (by kernel_rfl) (by kernel_rfl) (by exact fun _ _ _ h => h) (by kernel_rfl) (by assumption) ?y11 ?z11; case y11 => (intro w hSw; (try dsimp only at hSw); go_simp; (try (rw [if_neg (by omega)])); (try with_reducible rfl)))
          (try simp only [Act.put, List.setIfInBounds_toArray, List.set_cons_zero, List.set_cons_succ])
          refine wpAnyH_done (by kernel_rfl) ?_ _
          apply HK
          go_wp2_with fail
          refine (reverse_row (HRW.out.below hHeld) (by rw [cdl_len]; omega)).mono ?_
          rintro e w4 ⟨rfl, hR4, hg4⟩
          have hbw := HBW.out
          have hb5 := (hW.trans (hHeld.mono hW.size))
          have hb6 := hbw.trans (hb5.mono hbw.size)
          have hb7 := RowE.grown (B0 := w.heap.size) (HRW.out.below hHeld) hg4 hb6.size (by omega)
          go_wp2_with fail
          go_ret2
          exact ⟨_, _, (cdl E d st n).reverse, rfl, by rw [HA3.out HK0.out HK2.out]; exact .nil, hR4.low (by omega), HISC.out n ⟨HCDS.out, HLE.out⟩, by rw [List.length_reverse, cdl_len]; omega, hb6.trans hb7⟩
        · have hc0 := HCD1.out n hge
          rw [← hc0]
          refine ⟨_, rfl, hb3, fun hHeld => ?_⟩
          have hsc : w2.cell? ⟨w.heap.size, 17, none⟩ = some (.int .i64 start) := by simp only [World.cell?, rowAt_below HR0.out hHeld]; rfl
          have HSC := Lib.hid hsc
          have hcb := HCDB.out n
          clear hb2 hb3 hge hk0 hk1 hc0 hsc
          generalize hD : Cal.cd E d st n = D at *
          have HD := Lib.hid hD
          clear hD
          (refine rg_yes 9 ?v12 (by simp only [List.getElem?_toArray, List.getElem?_cons_succ, List.getElem?_cons_zero]; rfl) (by kernel_rfl) (by kernel_rfl) (by kernel_rfl) (by exact fun _ _ _ h => h) (by kernel_rfl) (by assumption) ?y12 ?z12; case y12 => (intro w hSw; (try dsimp only at hSw); go_simp; (try (rw [if_neg (by omega)])); (try with_reducible rfl)))
          (try simp only [Act.put, List.setIfInBounds_toArray, List.set_cons_zero, List.set_cons_succ])
          (refine rg_yes 10 ?v13 (by simp only [List.getElem?_toArray, List.getElem?_cons_succ, List.getElem?_cons_zero]; rfl) (by kernel_rfl) (by kernel_rfl) (by kernel_rfl) (by exact fun _ _ _ h => h) (by kernel_rfl) (by assumption) ?y13 ?z13; case y13 => (intro w hSw; (try dsimp only at hSw); go_simp; (try (rw [if_neg (by omega)])); (try with_reducible rfl)))
          (try simp only [Act.put, List.setIfInBounds_toArray, List.set_cons_zero, List.set_cons_succ])
          (refine rg_yes 11 ?v14 (by simp only [List.getElem?_toArray, List.getElem?_cons_succ, List.getElem?_cons_zero]; rfl) (by kernel_rfl) (by kernel_rfl) (by kernel_rfl) (by exact fun _ _ _ h => h) (by kernel_rfl) (by assumption) ?y14 ?z14; case y14 => (intro w hSw; (try dsimp only at hSw); go_simp; (try (rw [if_neg (by omega)])); (try with_reducible rfl)))
          (try simp only [Act.put, List.setIfInBounds_toArray, List.set_cons_zero, List.set_cons_succ])
          (refine rg_yes 12 ?v15 (by simp only [List.getElem?_toArray, List.getElem?_cons_succ, List.getElem?_cons_zero]; rfl) (by kernel_rfl) (by kernel_rfl) (by kernel_rfl) (by exact fun _ _ _ h => h) (by kernel_rfl) (by assumption) ?y15 ?z15; case y15 => (intro w hSw; (try dsimp only at hSw); go_simp; (try (rw [if_neg (by omega)])); (try with_reducible rfl)))
          (try simp only [Act.put, List.setIfInBounds_toArray, List.set_cons_zero, List.set_cons_succ])
          (refine rg_yes 13 ?v16 (by simp only [List.getElem?_toArray, List.getElem?_cons_succ, List.getElem?_cons_zero]; rfl) (by kernel_rfl) (by kernel_rfl) (by kernel_rfl) (by exact fun _ _ _ h => h) (by kernel_rfl) (by assumption) ?y16 ?z16; case y16 => (intro w hSw; (try dsimp only at hSw); go_simp; (try (rw [if_neg (by omega)])); (try with_reducible rfl)))
          (try simp only [Act.put, List.setIfInBounds_toArray, List.set_cons_zero, List.set_cons_succ])
          refine wpAnyH_done (by kernel_rfl) ?_ _
          apply HK
          have hsc := HSC.out
          by_cases hle : D ≤ start
          · have hdl : decide (D ≤ start) = true := decide_eq_true hle
            have HLE : Hid (Cal.cd E d st n ≤ start) := Lib.hid (by rw [HD.out]; exact hle)
            go_wp2_with fail
            refine (reverse_row (HRW.out.below hHeld) (by rw [cdl_len]; omega)).mono ?_
            rintro e w4 ⟨rfl, hR4, hg4⟩
            have hbw := HBW.out
            have hb5 := (hW.trans (hHeld.mono hW.size))
            have hb6 := hbw.trans (hb5.mono hbw.size)
            have hb7 := RowE.grown (B0 := w.heap.size) (HRW.out.below hHeld) hg4 hb6.size (by omega)
            go_wp2_with fail
            go_ret2
            exact ⟨_, _, (cdl E d st n).reverse, rfl, by rw [HA3.out HK0.out HK2.out]; exact .nil, hR4.low (by omega), HISC.out n ⟨HCDS.out, HLE.out⟩, by rw [List.length_reverse, cdl_len]; omega, hb6.trans hb7⟩
          · have hdl : decide (D ≤ start) = false := decide_eq_false hle
            have HLT := Lib.hid (show start < D by omega)
            have hrowD := HRW.out.below hHeld
            have hO2 := hrowD.alloc (.cells #[.int .i64 D] 3)
            have hz2 := hHeld.size
            have hz1 := hW.size
            obtain ⟨v', w', hrun, hR, hg, _⟩ := hO2.push intTy (by simp; omega) D w2.heap.size 1 _ rfl (heap_alloc_new w2 _) (by rw [cdl_len]; omega) (by rw [cdl_len]; omega)
            have hWa := (hW.trans (hHeld.mono hW.size)).alloc (by omega) (.cells #[.int .i64 D] 3)
            have hW2 := hWa.trans (hO2.grown hg (by simp; omega) (by omega))
            rw [← HD.out, ← cdl_succ] at hR
            have HR := Lib.hid hR
            have HW2 := Lib.hid hW2
            clear hle hrowD hO2 hg hR hWa hW2
            go_wp2_with (refine wpList_val (w' := w') v' (by kernel_rfl) (exec_append2 rfl rfl rfl rfl ?_) ?_; focus (exact hrun))
            have hcb2 := hcb HLT.out
            refine ⟨⟨n + 1, by go_num, by omega, HR.out, fun j hj => ?_, HW2.out, .inr (by omega)⟩, by simp [intOf]; omega⟩
            by_cases e : j = n
            · subst e; rw [HD.out]; exact HLT.out
            · exact HCDS.out j (by omega)
    · have hne : (kind != 2) = true := by simp [hk2]
      have HK2 := Lib.hid hk2
      clear hk2 hE
      go_wp2_with fail
      go_ret2
      have h24 := HA2.out HK0.out HK2.out
      exact ⟨_, _, [], rfl, by rw [h24]; exact errP_errno (by decide) (by decide), .nil _ _, HIS.out _ ⟨by rw [h24]; decide, rfl⟩, by simp, HBW.out⟩
  · obtain ⟨t, x, rfl⟩ := hE.held hk0
    have HK0 := Lib.hid hk0
    have HE := Lib.hid hE
    clear hk0 hE
    go_wp2_with fail
    go_ret2
    exact ⟨_, _, [], rfl, by rw [HA1.out HK0.out]; exact HE.out, .nil _ _, HIS.out _ ⟨by rw [HA1.out HK0.out]; exact HK0.out, rfl⟩, by simp, HBW.out⟩
end Go.Proofs.YtmepjcnpbjdlkaaGreatDoor
