/- the document's Coupons: by contract. -/
import Derived.Test.YtmepjcnpbjdlkaaGreatDoorCoupB
namespace Go.Proofs.YtmepjcnpbjdlkaaGreatDoor
set_option linter.unusedVariables false
set_option linter.unusedSimpArgs false
open Go.RowKit
attribute [local irreducible] Go.wpStill

theorem ref_quo (k per : Int) (h0 : 0 ≤ k) (h1 : k ≤ 1000000) (hp : perB per = true) : IntKind.i64.wrap ((IntKind.i64.wrap (k * 12)).tdiv per) = (12 / per) * k := by
  rw [IntWalk.i64_in (k * 12) (by omega)]
  unfold perB at hp
  simp at hp
  have e : ∀ p q : Int, 0 < p → p * q = 12 → (k * 12).tdiv p = q * k := fun p q hp0 hpq => by
    rw [show k * 12 = p * (q * k) by rw [← hpq, Int.mul_comm k, Int.mul_assoc]]
    exact Int.mul_tdiv_cancel_left _ (by omega)
  rcases hp with ((rfl | rfl) | rfl) | rfl
  · rw [e 1 12 (by decide) (by decide), IntWalk.i64_in _ (by omega)]; rfl
  · rw [e 2 6 (by decide) (by decide), IntWalk.i64_in _ (by omega)]; rfl
  · rw [e 4 3 (by decide) (by decide), IntWalk.i64_in _ (by omega)]; rfl
  · rw [e 12 1 (by decide) (by decide), IntWalk.i64_in _ (by omega)]; rfl
def CoupR (s : SecV) (w : World) (e : Ending) (w' : World) : Prop := ∃ v1 l, e = .returned (.tuple #[v1, .int .i64 (coupN s)]) ∧ RowE intE 3 w' w.heap.size v1 l ∧ CoupIs s l ∧ l.length ≤ 200000 ∧ Below w.heap.size w w'
set_option maxRecDepth 100000 in
set_option maxHeartbeats 4000000 in
theorem refCoupons_any (s : SecV) (w : World) (hcs : s.cur.size ≤ 140737488351232) : Calls Tryz.prog 11 #[.agg (secC s)] w (CoupR s w) := by
  have hC := fun w => refCheck_any s w hcs
  have hbf := fun h k => bond_facts (s := s) h k
  have hA1 : checkN s ≠ 0 → coupN s = checkN s := fun h => by unfold coupN; rw [if_neg h]
  have hA2 : checkN s = 0 → s.kind ≠ 2 → coupN s = 24 := fun h k => by unfold coupN; rw [if_pos h, if_neg k]
  have hA3 : checkN s = 0 → s.kind = 2 → coupN s = 0 := fun h k => by unfold coupN; rw [if_pos h, if_pos k]
  have hIs : ∀ l, (coupN s ≠ 0 ∧ l = []) → CoupIs s l := fun l h => .inl h
  have hIs2 : coupN s = 0 → ∀ y m d n, Cal.Is s.finish y m d → Cal.cds (Cal.mon y m) d (12 / s.per) s.start n → CoupIs s (cdl (Cal.mon y m) d (12 / s.per) n).reverse := fun h y m d n a b => .inr ⟨h, y, m, d, n, a, b, rfl⟩
  unfold CoupR
  generalize coupN s = cN at *
  generalize checkN s = kN at *
  generalize CoupIs s = CI at *
  obtain ⟨c0, c1, c2, c3, c4, c5, c6, c7, c8, c9, c10, c11, kind, face, coupon, per, basis, start, finish, cur⟩ := s
  dsimp only at hbf hA1 hA2 hA3 hIs hIs2
  have HC := Lib.hid hC
  have z0 := (Below.refl w.heap.size w).alloc (Nat.le_refl _) (.cells (secC ⟨c0, c1, c2, c3, c4, c5, c6, c7, c8, c9, c10, c11, kind, face, coupon, per, basis, start, finish, cur⟩) 25)
  have HZ0 := Lib.hid z0
  have HG := Lib.hid (heap_alloc_new w (.cells (secC ⟨c0, c1, c2, c3, c4, c5, c6, c7, c8, c9, c10, c11, kind, face, coupon, per, basis, start, finish, cur⟩) 25))
  have HBF := Lib.hid hbf
  have HA1 := Lib.hid hA1
  have HA2 := Lib.hid hA2
  have HA3 := Lib.hid hA3
  have HIS := Lib.hid hIs
  have HIS2 := Lib.hid hIs2
  clear hC z0 hbf hA1 hA2 hA3 hIs hIs2 hcs
  go_enter Tryz.func11, Tryz.ntmps11
  go_wp2_with (refine wpList_val (.agg (secC ⟨c0, c1, c2, c3, c4, c5, c6, c7, c8, c9, c10, c11, kind, face, coupon, per, basis, start, finish, cur⟩)) (by kernel_rfl) (exec_load_row HG.out rfl rfl Tryz.underlying25 rfl (by kernel_rfl)) ?_)
  refine (HC.out _).mono ?_
  rintro e w1 ⟨rfl, hB⟩
  have hbw := HZ0.out.trans (hB.mono (by simp))
  have hrow := rowAt_below HG.out hB
  have HROW := Lib.hid hrow
  have HBW := Lib.hid hbw
  clear hB hbw hrow HG HZ0 HC
  by_cases hk0 : kN = 0
  · have hkind : w1.cell? ⟨w.heap.size, 12, none⟩ = some (.int .i64 kind) := by simp only [World.cell?, HROW.out]; rfl
    have hfinc : w1.cell? ⟨w.heap.size, 18, none⟩ = some (.int .i64 finish) := by simp only [World.cell?, HROW.out]; rfl
    have HK0 := Lib.hid hk0
    have hneq : (kN != 0) = false := by simp [hk0]
    clear hk0
    by_cases hk2 : kind = 2
    · have hne : (kind != 2) = false := by simp [hk2]
      have HK2 := Lib.hid hk2
      clear hk2
      obtain ⟨hper, hd1, hd2, hsf⟩ := HBF.out HK0.out HK2.out
      have hs1 : 1 ≤ start := by simp [dayB] at hd1; omega
      have hfin : 1 ≤ finish ∧ finish ≤ 3652059 := by simpa [dayB] using hd2
      have hOf := Lib.hid (fun w => refOf_any finish w hfin.1 hfin.2)
      go_wp2_with fail
      refine (hOf.out _).mono ?_
      rintro e w2 ⟨y, m, d, rfl, hI, hB2⟩
      have hrowA := rowAt_below (rowAt_below HROW.out hB2) ((Below.refl w2.heap.size w2).alloc (Nat.le_refl _) (.cells #[.int .i64 y, .int .i64 m, .int .i64 d] 72))
      have hfA : (w2.alloc (.cells #[.int .i64 y, .int .i64 m, .int .i64 d] 72)).cell? ⟨w.heap.size, 18, none⟩ = some (.int .i64 finish) := by simp only [World.cell?, hrowA]; rfl
      have hr5 := heap_alloc_new w2 (.cells #[.int .i64 y, .int .i64 m, .int .i64 d] 72)
      have hb3 := (HBW.out.trans (hB2.mono HBW.out.size)).alloc (by have := HBW.out.size; have := hB2.size; omega) (.cells #[.int .i64 y, .int .i64 m, .int .i64 d] 72)
      have HRA := Lib.hid hrowA
      have HR5 := Lib.hid hr5
      have HB3 := Lib.hid hb3
      have hsz2 : w.heap.size < w2.heap.size := by have := lt_of_block HROW.out; have := hB2.size; simp at *; omega
      clear hrowA hr5 hb3 hB2
      go_wp2_with fail
      have hsz3 : w2.heap.size < (w2.alloc (.cells #[.int .i64 y, .int .i64 m, .int .i64 d] 72)).heap.size := by simp
      generalize hg5 : w2.heap.size = g5 at *
      generalize w2.alloc (.cells #[.int .i64 y, .int .i64 m, .int .i64 d] 72) = w3 at *
      clear hne hneq hkind hfinc hfA hg5
      obtain ⟨p1, p2, t1, t2, pt⟩ := per_facts hper
      have hQ := fun k h0 h1 => ref_quo k per h0 h1 hper
      obtain ⟨y1, y2, m1, m2, d1, d2, -⟩ := id hI
      have hd31 : d ≤ 31 := by have := Cal.mlen_bd y m m1 m2; omega
      have hBk := fun k w h0 h1 => back_any y m d k w y1 y2 m1 m2 d1 hd31 h0 h1
      have hEb : 12 ≤ Cal.mon y m ∧ Cal.mon y m ≤ 120000 := by unfold Cal.mon; omega
      have hcdb := fun j h => Cal.cd_bound (E := Cal.mon y m) (d := d) (j := j) hs1 t1 h
      have hIS := fun n h => HIS2.out (HA3.out HK0.out HK2.out) y m d n hI h
      have hself := Cal.onM_self hI
      have hcd : ∀ j : Nat, (if Cal.mon y m - (12 / per) * j < 12 then 0 else Cal.onM (Cal.mon y m - (12 / per) * j) d) = Cal.cd (Cal.mon y m) d (12 / per) j := fun j => rfl
      have hcd00 : Cal.cd (Cal.mon y m) d (12 / per) 0 = finish := by
        have e0 : Cal.mon y m - (12 / per) * ((0 : Nat) : Int) = Cal.mon y m := by simp
        unfold Cal.cd
        rw [e0, if_neg (by omega), hself]
      unfold BackP at hBk
      generalize hE : Cal.mon y m = E at *
      generalize hst : 12 / per = st at *
      have HE := Lib.hid hE
      have HST := Lib.hid hst
      have HQ := Lib.hid hQ
      have HBK := Lib.hid hBk
      have HCDB := Lib.hid hcdb
      have HI := Lib.hid hI
      have HISC := Lib.hid hIS
      have HCD := Lib.hid hcd
      have HPT := Lib.hid pt
      have hper0 : (per == 0) = false := by simp; omega
      obtain ⟨hE0, hE1⟩ := hEb
      clear hE hst hQ hBk hcdb hI hIS hcd pt hper hd1 hd2 HBF HA1 HA2 HIS hself y1 y2 m1 m2 d1 d2 hd31 hOf
      go_loopw [7, 8, 9] (fun t x k wr => ∃ n : Nat, k = .int .i64 ((n : Int) + 1) ∧ n ≤ 120001 ∧ RowE intE 3 wr w3.heap.size t (cdl E d st n) ∧ x = .int .i64 (Cal.cd E d st n) ∧ (∀ j, j < n → start < Cal.cd E d st j) ∧ Below w3.heap.size w3 wr) (fun _ _ k _ => (120005 - intOf k).toNat)
      case atStart => exact ⟨0, rfl, by omega, .nil _ _, by rw [hcd00], by omega, Below.refl _ _⟩
      case round =>
        obtain ⟨n, rfl, hn, hR, rfl, hcds, hW⟩ := hrel
        clear hcd00
        have HRW := Lib.hid hR
        have HCDS := Lib.hid hcds
        have HR0 := Lib.hid (rowAt_below HRA.out hW)
        have HR6 := Lib.hid (rowAt_below HR5.out hW)
        have hsc : wr.cell? ⟨w.heap.size, 17, none⟩ = some (.int .i64 start) := by simp only [World.cell?, HR0.out]; rfl
        have hcb := HCDB.out n
        have HW := Lib.hid hW
        have hws := hW.size
        clear hR hcds hW
        generalize hD : Cal.cd E d st n = D at *
        have HD := Lib.hid hD
        clear hD
        by_cases hlt : start < D
        · have hdl : decide (start < D) = true := decide_eq_true hlt
          have hcb2 := hcb hlt
          have HLT := Lib.hid hlt
          have hO2 := HRW.out.alloc (.cells #[.int .i64 D] 3)
          obtain ⟨v', w', hrun, hR, hg, _⟩ := hO2.push intTy (by simp; omega) D wr.heap.size 1 _ rfl (heap_alloc_new wr _) (by rw [cdl_len]; omega) (by rw [cdl_len]; omega)
          have hWa := HW.out.alloc hws (.cells #[.int .i64 D] 3)
          have hW2 := hWa.trans (hO2.grown hg (by simp; omega) (Nat.le_refl _))
          rw [← HD.out, ← cdl_succ] at hR
          have HRR := Lib.hid hR
          have HW2 := Lib.hid hW2
          have HRB := Lib.hid (rowAt_below HRA.out hW2)
          have HRC := Lib.hid (rowAt_below HR5.out hW2)
          have hwz := hW2.size
          clear hlt hO2 hg hR hWa hW2 hcb
          go_wp2_with (refine wpList_val (w' := w') v' (by kernel_rfl) (exec_append2 rfl rfl rfl rfl ?_) ?_; focus (exact hrun))
          rename_i HK
          have hq := HQ.out ((n : Int) + 1) (by omega) (by omega)
          have HQN := Lib.hid hq
          have hk0 : 0 ≤ st * ((n : Int) + 1) := Int.mul_nonneg (by omega) (by omega)
          have hk1 : st * ((n : Int) + 1) ≤ 1000000000 := by have := Int.mul_le_mul_of_nonneg_right t2 (show (0 : Int) ≤ (n : Int) + 1 by omega); omega
          have hnx : Cal.cd E d st (n + 1) = (if E - st * ((n : Int) + 1) < 12 then 0 else Cal.onM (E - st * ((n : Int) + 1)) d) := by rw [← HCD.out (n + 1)]; norm_cast
          have HNX := Lib.hid hnx
          clear hq hnx
          refine wp_region_held_drew (S := fun w'' => Below w'.heap.size w' w'') (by kernel_rfl) (Below.refl _ _).drew (fun hHeld => ?_)
          refine rg_yes 0 _ (by simp only [List.getElem?_toArray, List.getElem?_cons_succ, List.getElem?_cons_zero]; rfl) (by kernel_rfl) (by kernel_rfl) (by kernel_rfl) (by exact fun _ _ _ h => h) (by kernel_rfl) (by assumption) (by exact fun w' hS => (exec_load_row (rowAt_below HRC.out hS) rfl rfl Tryz.underlying72 rfl (by kernel_rfl))) ?_
          (try simp only [Act.put, List.setIfInBounds_toArray, List.set_cons_zero, List.set_cons_succ])
          (refine rg_yes 1 ?v1 (by simp only [List.getElem?_toArray, List.getElem?_cons_succ, List.getElem?_cons_zero]; rfl) (by kernel_rfl) (by kernel_rfl) (by kernel_rfl) (by exact fun _ _ _ h => h) (by kernel_rfl) (by assumption) ?y1 ?z1; case y1 => (intro w hSw; (try dsimp only at hSw); go_simp; (try (rw [if_neg (by omega)])); (try with_reducible rfl)))
          (try simp only [Act.put, List.setIfInBounds_toArray, List.set_cons_zero, List.set_cons_succ])
          (refine rg_yes 2 ?v2 (by simp only [List.getElem?_toArray, List.getElem?_cons_succ, List.getElem?_cons_zero]; rfl) (by kernel_rfl) (by kernel_rfl) (by kernel_rfl) (by exact fun _ _ _ h => h) (by kernel_rfl) (by assumption) ?y2 ?z2; case y2 => (intro w hSw; (try dsimp only at hSw); go_simp; (try (rw [if_neg (by omega)])); (try with_reducible rfl)))
          (try simp only [Act.put, List.setIfInBounds_toArray, List.set_cons_zero, List.set_cons_succ])
          (refine rg_yes 3 ?v3 (by simp only [List.getElem?_toArray, List.getElem?_cons_succ, List.getElem?_cons_zero]; rfl) (by kernel_rfl) (by kernel_rfl) (by kernel_rfl) (by exact fun _ _ _ h => h) (by kernel_rfl) (by assumption) ?y3 ?z3; case y3 => (intro w hSw; (try dsimp only at hSw); go_simp; (try (rw [if_neg (by omega)])); (try with_reducible rfl)))
          (try simp only [Act.put, List.setIfInBounds_toArray, List.set_cons_zero, List.set_cons_succ])
          refine rg_yes 4 _ (by simp only [List.getElem?_toArray, List.getElem?_cons_succ, List.getElem?_cons_zero]; rfl) (by kernel_rfl) (by kernel_rfl) (by kernel_rfl) (by exact fun _ _ _ h => h) (by kernel_rfl) (by assumption) (by exact fun w' hS => (exec_load_one (v := .int .i64 per) (b := w.heap.size) (rowAt_below HRB.out hS) rfl rfl rfl (fun w => by kernel_rfl))) ?_
          (try simp only [Act.put, List.setIfInBounds_toArray, List.set_cons_zero, List.set_cons_succ])
          (refine rg_yes 5 ?v4 (by simp only [List.getElem?_toArray, List.getElem?_cons_succ, List.getElem?_cons_zero]; rfl) (by kernel_rfl) (by kernel_rfl) (by kernel_rfl) (by exact fun _ _ _ h => h) (by kernel_rfl) (by assumption) ?y4 ?z4; case y4 => (intro w hSw; (try dsimp only at hSw); go_simp; (try (rw [if_neg (by omega)])); (try with_reducible rfl)))
          (try simp only [Act.put, List.setIfInBounds_toArray, List.set_cons_zero, List.set_cons_succ])
          rw [HQN.out]
          refine rg_call 6 _ _ (by simp only [List.getElem?_toArray, List.getElem?_cons_succ, List.getElem?_cons_zero]; rfl) (by kernel_rfl) (by kernel_rfl) (fun w => by go_simp; exact ⟨rfl, rfl⟩) ?_
          refine (HBK.out _ _ hk0 hk1).mono ?_
          rintro e w5 ⟨rfl, hb5⟩
          rw [← HNX.out]
          refine ⟨_, rfl, hHeld.trans (hb5.mono hHeld.size), fun hHeld => ?_⟩
          (refine rg_yes 7 ?v5 (by simp only [List.getElem?_toArray, List.getElem?_cons_succ, List.getElem?_cons_zero]; rfl) (by kernel_rfl) (by kernel_rfl) (by kernel_rfl) (by exact fun _ _ _ h => h) (by kernel_rfl) (by assumption) ?y5 ?z5; case y5 => (intro w hSw; (try dsimp only at hSw); go_simp; (try (rw [if_neg (by omega)])); (try with_reducible rfl)))
          (try simp only [Act.put, List.setIfInBounds_toArray, List.set_cons_zero, List.set_cons_succ])
          refine wpAnyH_done (by kernel_rfl) ?_ _
          apply HK
          go_wp2_with fail
          refine ⟨⟨n + 1, by go_num, by omega, HRR.out.below hHeld, rfl, fun j hj => ?_, HW2.out.trans (hHeld.mono hwz)⟩, by simp [intOf]; omega⟩
          by_cases e : j = n
          · subst e; rw [HD.out]; exact HLT.out
          · exact HCDS.out j (by omega)
        · have hdl : decide (start < D) = false := decide_eq_false hlt
          have HCS : Hid (Cal.cds E d st start n) := Lib.hid ⟨HCDS.out, by rw [HD.out]; omega⟩
          have hlen := cdl_len E d st n
          have HLEN := Lib.hid hlen
          clear hlt hcb
          obtain ⟨ao, cap, hsl⟩ := HRW.out.slice
          rw [hlen] at hsl
          subst hsl
          clear hlen
          go_wp2_with fail
          clear hdl hsc
          generalize hL : cdl E d st n = L at *
          have HL := Lib.hid hL
          clear hL
          obtain ⟨wa, hwa⟩ : ∃ wa, wa = wr := ⟨_, rfl⟩
          subst hwa
          go_loopw [10, 11] (fun t i wq => ∃ k : Nat, k ≤ n ∧ i = .int .i64 ((k : Int) - 1) ∧ RowE intE 3 wq wa.heap.size t (L.drop k).reverse ∧ Below wa.heap.size wa wq) (fun _ i _ => (intOf i + 1).toNat)
          case atStart => exact ⟨n, Nat.le_refl _, by go_num, by rw [List.drop_eq_nil_of_le (by rw [HLEN.out]; exact Nat.le_refl _)]; exact .nil _ _, Below.refl _ _⟩
          case round =>
            obtain ⟨k, hk, rfl, hR, hW⟩ := hrel
            have hlr : (L.drop k).reverse.length = n - k := by rw [List.length_reverse, List.length_drop, HLEN.out]
            have HLR := Lib.hid hlr
            clear hlr
            rcases Nat.eq_zero_or_pos k with h0 | h0
            · have hdl : decide (0 ≤ (k : Int) - 1) = false := decide_eq_false (by omega)
              subst h0
              have HR := Lib.hid hR
              have HWW := Lib.hid hW
              clear hR hW
              go_wp2_with fail
              go_ret2
              have hb1 := HB3.out
              have hb2 := hb1.trans (HW.out.mono hb1.size)
              exact ⟨_, L.reverse, by rw [HA3.out HK0.out HK2.out]; rfl, by have := HR.out; rw [List.drop_zero] at this; exact this.low (by have := hb2.size; omega), by rw [← HL.out]; exact HISC.out n HCS.out, by rw [List.length_reverse, HLEN.out]; omega, hb2.trans (HWW.out.mono hb2.size)⟩
            · have hdl : decide (0 ≤ (k : Int) - 1) = true := decide_eq_true (by omega)
              have hRL := HRW.out.below hW
              obtain ⟨g, cap2, hsl2, hc1, hc2⟩ := hRL.some (by rw [HLEN.out]; omega)
              rw [HLEN.out] at hsl2 hc1
              injection hsl2 with hao hnn hcc
              subst hao
              subst hcc
              obtain ⟨D2, hD2⟩ : ∃ D2, L[k - 1]? = some D2 := ⟨_, List.getElem?_eq_getElem (by rw [HLEN.out]; omega)⟩
              have hcell : wr.cell? ⟨g, k - 1, none⟩ = some (Value.int .i64 D2) := by
                have := flatE_get (E := intE) L (k - 1) 0 _ hD2 (by decide)
                exact hRL.cells (k - 1) _ (by simpa using this)
              have hgi : ((k : Int) - 1).toNat = k - 1 := by omega
              have hD2l : (L.drop (k - 1)).reverse = (L.drop k).reverse ++ [D2] := by
                rw [List.drop_eq_getElem_cons (show k - 1 < L.length by rw [HLEN.out]; omega), show k - 1 + 1 = k by omega, List.reverse_cons]
                rw [List.getElem?_eq_getElem (by rw [HLEN.out]; omega)] at hD2
                injection hD2 with hD2
                rw [hD2]
              have hO2 := hR.alloc (.cells #[.int .i64 D2] 3)
              have hwz := hW.size
              obtain ⟨v', w', hrun, hR2, hg, _⟩ := hO2.push intTy (by simp; omega) D2 wr.heap.size 1 _ rfl (heap_alloc_new wr _) (by rw [HLR.out]; omega) (by rw [HLR.out]; omega)
              have hWa := hW.alloc hwz (.cells #[.int .i64 D2] 3)
              have hW2 := hWa.trans (hO2.grown hg (by simp; omega) (Nat.le_refl _))
              rw [← hD2l] at hR2
              have HRR := Lib.hid hR2
              have HW2 := Lib.hid hW2
              have hlt2 : decide ((k : Int) - 1 < n) = true := decide_eq_true (by omega)
              have HC1 := Lib.hid hc1
              have HC2 := Lib.hid hc2
              clear hR hO2 hg hR2 hWa hW2 hD2 hD2l hW hRL hc1 hc2
              go_wp2_with (refine wpList_val (w' := w') v' (by kernel_rfl) (exec_append2 rfl rfl rfl rfl ?_) ?_; focus (exact hrun))
              exact ⟨⟨k - 1, by omega, by go_num, HRR.out, HW2.out⟩, by simp [intOf]; omega⟩
    · have hne : (kind != 2) = true := by simp [hk2]
      have HK2 := Lib.hid hk2
      clear hk2
      go_wp2_with fail
      go_ret2
      have h24 := HA2.out HK0.out HK2.out
      exact ⟨_, [], by rw [h24]; rfl, .nil _ _, HIS.out _ ⟨by rw [h24]; decide, rfl⟩, by simp, HBW.out⟩
  · have HK0 := Lib.hid hk0
    have hneq : (kN != 0) = true := by simp [hk0]
    clear hk0
    go_wp2_with fail
    go_ret2
    exact ⟨_, [], by rw [HA1.out HK0.out]; rfl, .nil _ _, HIS.out _ ⟨by rw [HA1.out HK0.out]; exact HK0.out, rfl⟩, by simp, HBW.out⟩
end Go.Proofs.YtmepjcnpbjdlkaaGreatDoor
