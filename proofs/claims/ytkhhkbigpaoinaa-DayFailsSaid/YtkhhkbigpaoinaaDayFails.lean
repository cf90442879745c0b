/- the law DayFails by contract. -/
import Derived.Test.YtkhhkbigpaoinaaDayPhases
import Derived.Test.YtkhhkbigpaoinaaDayFailsP
import Derived.Test.YtkhhkbigpaoinaaDayActs
namespace Go.Proofs.Ytkhhkbigpaoinaa
set_option linter.unusedVariables false
set_option linter.unusedSimpArgs false
open Go.RowKit Go.Maps
attribute [local irreducible] Go.wpStill

set_option maxRecDepth 100000 in
set_option maxHeartbeats 8000000 in
theorem dayFails_any (p : PlanV) (n id0 st0 vl0 cl : Int) (ov : Value) (os : List actT) (w : World) (h : p.Ok w) (hkp : p.keep ≤ 9223372036854775807)
    (hid0 : -9223372036854775808 ≤ id0) (hid1 : id0 ≤ 9223372036854775807) (hst0 : -9223372036854775808 ≤ st0) (hst1 : st0 ≤ 9223372036854775807) (hv0 : -9223372036854775808 ≤ vl0) (hv1 : vl0 ≤ 9223372036854775807) (hc0 : -9223372036854775808 ≤ cl) (hc1 : cl ≤ 9223372036854775807)
    (ho : ReadsE actE w ov os) (hol : os.length * 48 ≤ 140737488351232) (hoo : ∀ x ∈ os, ActOk x) :
    Calls Try.prog 4 #[.agg p.cells, .int .i64 n, .int .i64 id0, .int .i64 st0, .int .i64 vl0, ov, .int .i64 cl] w fun e w' => e = .returned (.bool true) ∧ Below w.heap.size w w' := by
  obtain ⟨oa, oc, rfl⟩ := ho.slice
  have h7 := h.1
  have h6 := h.2.1
  have hfr := h.2.2.1
  have hsz : (Try.prog.info? 26).map (·.size) = some p.cells.size := by rw [PlanV.size h7 h6]; kernel_rfl
  have HPL := Lib.hid h
  have HOS := Lib.hid ho
  have HOO := Lib.hid hoo
  have HFR := Lib.hid hfr
  have hol2 : os.length ≤ 2932031007317 := by omega
  have HNW := Lib.hid (fun w h => dayNew_any p n w h)
  have HRP := Lib.hid (fun w h => refPlan_any p n w h)
  have HBK := Lib.hid (heap_alloc_new w (.cells p.cells 26))
  have HB0 := Lib.hid ((Below.refl w.heap.size w).alloc (Nat.le_refl _) (.cells p.cells 26))
  have HPI := Lib.hid (fun w => pick_any id0 1099511627776 w hid0 hid1 (by omega) (by omega))
  have HPS := Lib.hid (fun w => pick_any st0 3652059 w hst0 hst1 (by omega) (by omega))
  have HPC := Lib.hid (fun w => pick_any cl 30 w hc0 hc1 (by omega) (by omega))
  have HKEEP := Lib.hid (fun (wz : World) (bk : Nat) (hz : wz.heap[bk]? = some (.cells p.cells 26 (0, 0))) => PlanV.tail h7 h6 hz)
  have HWEEK := Lib.hid (fun (wz : World) (bk : Nat) (hz : wz.heap[bk]? = some (.cells p.cells 26 (0, 0))) => PlanV.week h7 h6 hz)
  clear h h6 ho hoo hfr hol hid0 hid1 hst0 hst1 hc0 hc1
  generalize hcs : p.cells = cs at *
  go_enter Try.func4, Try.ntmps4
  go_upto_region 1 with fail
  generalize hW1 : World.alloc w _ = W1 at HBK HB0 ⊢
  clear hW1
  have HBS := Lib.hid HB0.out.size
  have HBL := Lib.hid (lt_of_block HBK.out)
  go_wp2_with (refine wpList_val (.agg cs) (by kernel_rfl) (exec_load_row HBK.out rfl rfl Try.underlying26 rfl hsz) ?_)
  refine (HNW.out _ (HPL.out.below HB0.out)).mono ?_
  rintro e w2 hP
  rcases hP.symm with ⟨hno, t, x, rfl, hb2⟩ | ⟨hy, db, rfl, hD, hb2⟩
  · have HB2 := Lib.hid (HB0.out.trans (hb2.mono HB0.out.size))
    have HBK2 := Lib.hid ((hb2.block _ (lt_of_block HBK.out)).trans HBK.out)
    have HNO := Lib.hid hno
    clear hno hb2 HB0 HBK hP
    go_wp2_with (refine wpList_val (.agg cs) (by kernel_rfl) (exec_load_row HBK2.out rfl rfl Try.underlying26 rfl hsz) ?_)
    refine (HRP.out _ (HPL.out.below HB2.out)).mono ?_
    rintro e w3 ⟨k, rfl, hk, hb3⟩
    have hk1 : ¬ k = 0 := fun q => by rw [HNO.out] at hk; exact absurd (hk.1 q) (by simp)
    have hk2 : (k == 0) = false := by simp [hk1]
    have hk3 : (k != 0) = true := by simp [hk1]
    have HB3 := Lib.hid (HB2.out.trans (hb3.mono HB2.out.size))
    clear hk hk1 hb3 HB2 HBK2
    go_wp2_with fail
    refine (works_any _).mono ?_
    rintro e w4 ⟨rfl, hb4⟩
    have HB4 := Lib.hid (HB3.out.trans (hb4.mono HB3.out.size))
    clear hb4
    go_wp2_with fail
    go_ret
    exact ⟨rfl, HB4.out⟩
  · have HB2 := Lib.hid (HB0.out.trans (hb2.mono HB0.out.size))
    have HBK2 := Lib.hid ((hb2.block _ (lt_of_block HBK.out)).trans HBK.out)
    have HY := Lib.hid hy
    have HD2 := Lib.hid hD
    clear hy hb2 HB0 HBK hP hD
    go_wp2_with (refine wpList_val (.agg cs) (by kernel_rfl) (exec_load_row HBK2.out rfl rfl Try.underlying26 rfl hsz) ?_)
    refine (HRP.out _ (HPL.out.below HB2.out)).mono ?_
    rintro e w3 ⟨k, rfl, hk, hb3⟩
    obtain rfl : k = 0 := hk.2 HY.out
    have HB3 := Lib.hid (HB2.out.trans (hb3.mono HB2.out.size))
    have HD3 := Lib.hid (HD2.out.below hb3)
    have HBK3 := Lib.hid ((hb3.block _ (lt_of_block HBK2.out)).trans HBK2.out)
    have hB0 : w.heap.size ≤ W1.heap.size := HBS.out
    have hB1 : w.heap.size < W1.heap.size := HBL.out
    clear hk hb3 HB2 HBK2 HD2 HRP HNW
    generalize W1.heap.size = B at *
    go_wp2_with fail
    refine (HPI.out _).mono ?_
    rintro e w4 ⟨⟨i1, hi1, hi2, rfl⟩, rfl⟩
    obtain ⟨id, hid⟩ : ∃ id, 1 + i1 = id := ⟨_, rfl⟩
    have hidb : 1 ≤ id ∧ id ≤ 1099511627776 := by omega
    have hw1 : IntKind.i64.wrap (1 + i1) = id := by rw [hid]; exact IntWalk.i64_in _ (by omega)
    clear hid hi1 hi2 HPI
    go_wp2_with fail
    refine (HPS.out _).mono ?_
    rintro e w4 ⟨⟨s1, hs1, hs2, rfl⟩, rfl⟩
    obtain ⟨st, hst⟩ : ∃ st, 1 + s1 = st := ⟨_, rfl⟩
    have hstb : 1 ≤ st ∧ st ≤ 3652059 := by omega
    have hw2 : IntKind.i64.wrap (1 + s1) = st := by rw [hst]; exact IntWalk.i64_in _ (by omega)
    clear hst hs1 hs2 HPS hw1
    obtain ⟨vl, hvl⟩ : ∃ vl, bits .and .i64 vl0 9223372036854775807 = vl := ⟨_, rfl⟩
    have hvlb : 0 ≤ vl ∧ vl ≤ 9223372036854775807 := by rw [← hvl]; exact and_most vl0
    go_wp2_with fail
    clear hw2 hvl
    have hent : entOk (fun _ => none) id st vl 4 9 = true := by simp [entOk, dayB]; omega
    refine (enter_any id st vl 4 9 _ HD3.out (by omega)).mono ?_
    rintro e w5 ⟨v5, rfl, hE5, hb5, hD5⟩
    rw [hent] at hE5 hD5
    rcases hE5.symm with ⟨hno, _⟩ | ⟨_, rfl⟩
    · cases hno
    have hplan : 1 ≤ p.keep ∧ 0 ≤ p.rate ∧ p.rate ≤ 1000000 ∧ busy p.we p.fs n = true := by
      have := HY.out
      simp [planOk] at this
      exact ⟨this.1.1.1.2, this.1.1.2, this.1.2, this.2⟩
    have HPLN := Lib.hid hplan
    have HD5 := Lib.hid (show DayR w5 B db p n (0 + 1) (updE (fun _ => none) id (some ⟨st, vl, 4, 9, 0⟩)) from hD5)
    have HB5 := Lib.hid (HB3.out.trans (hb5.mono hB0))
    have HBK5 := Lib.hid ((hb5.block _ hB1).trans HBK3.out)
    have HONE := Lib.hid (OneF.first (settle := st) (id := id) hplan.1 hvlb.1 hvlb.2 (es := fun _ => none) (fun x e he => by cases he))
    have HGID := Lib.hid (show keyD.good id by show (Lit.int .i64 id).wf = true; simp [Lit.wf, IntKind.min, IntKind.max, IntKind.signed, IntKind.bits]; omega)
    clear hent hE5 hb5 hD5 HD3 HB3 HBK3 hplan HY
    go_wp2_with fail
    go_loopw [17] (fun iv wr => ∃ (i cnt : Nat) (es : Int → Option EntV), i ≤ os.length ∧ cnt ≤ i + 1 ∧ iv = .int .i64 i ∧ DayR wr B db p n cnt es ∧ OneF p.keep st vl id es 0 ∧ wr.heap[w.heap.size]? = some (.cells cs 26 (0, 0)) ∧ Below w.heap.size w wr) (fun iv _ => os.length - (intOf iv).toNat)
    case atStart => exact ⟨0, 0 + 1, _, by omega, by omega, rfl, HD5.out, HONE.out, HBK5.out, HB5.out⟩
    case round =>
      obtain ⟨i, cnt, es, hi, hcn, rfl, hD, hO, hBK, hW⟩ := hrel
      have HD := Lib.hid hD
      have HO := Lib.hid hO
      have HBK := Lib.hid hBK
      have HW := Lib.hid hW
      clear hD hO hBK hW HD5 HONE HBK5 HB5
      by_cases hlt : i < os.length
      · obtain ⟨x, hx⟩ : ∃ x, os[i]? = some x := ⟨_, List.getElem?_eq_getElem hlt⟩
        have hdl : decide ((i : Int) < os.length) = true := decide_eq_true (by omega)
        obtain ⟨g, o, rfl, hr⟩ := (HOS.out.below HW.out).at hx
        have HXO := Lib.hid (HOO.out x (List.mem_of_getElem? hx))
        obtain ⟨kx, ax, bx, cx, dx, vx⟩ := x
        have HR := Lib.hid (show wr.rangeAt g (o + i * 6) [.int .i64 kx, .int .i64 ax, .int .i64 bx, .int .i64 cx, .int .i64 dx, .int .i64 vx] from hr)
        clear hr hx
        have HAL := Lib.hid (heap_alloc_new wr (.cells #[.int .i64 kx, .int .i64 ax, .int .i64 bx, .int .i64 cx, .int .i64 dx, .int .i64 vx] 40))
        have HBA := Lib.hid ((Below.refl wr.heap.size wr).alloc (Nat.le_refl _) (.cells #[.int .i64 kx, .int .i64 ax, .int .i64 bx, .int .i64 cx, .int .i64 dx, .int .i64 vx] 40))
        go_upto_region 15 with (refine wpList_val (.agg #[.int .i64 kx, .int .i64 ax, .int .i64 bx, .int .i64 cx, .int .i64 dx, .int .i64 vx]) (by kernel_rfl) (exec_load_mid (T := 40) HR.out rfl rfl Try.underlying40 rfl (by kernel_rfl)) ?_)
        generalize hwA : World.alloc wr _ = wA at HAL HBA ⊢
        clear hwA HR
        have k1 := (block_cell HAL.out 1 _ rfl).1
        have k2 := (block_cell HAL.out 2 _ rfl).1
        have k3 := (block_cell HAL.out 3 _ rfl).1
        have k4 := (block_cell HAL.out 4 _ rfl).1
        have k5 := (block_cell HAL.out 5 _ rfl).1
        have HDA := Lib.hid (HD.out.below HBA.out)
        have HWA := Lib.hid (HW.out.trans (HBA.out.mono HW.out.size))
        have HKA := Lib.hid ((HBA.out.block _ (lt_of_block HBK.out)).trans HBK.out)
        clear HAL HBA HD HW HBK
        by_cases hne : ax = id
        · have dn1 : (ax != id) = false := by simp [hne]
          have dn2 : (ax == id) = true := by simp [hne]
          clear hne
          go_wp2_with fail
          exact ⟨⟨i + 1, cnt, es, by omega, by omega, by go_num, HDA.out, HO.out, HKA.out, HWA.out⟩, by simp [intOf]; omega⟩
        · have dn1 : (ax != id) = true := by simp [hne]
          have dn2 : (ax == id) = false := by simp [hne]
          have HNE := Lib.hid hne
          clear hne
          go_wp2_with fail
          refine (enter_any ax bx vx cx dx _ HDA.out (by omega)).mono ?_
          rintro e w6 ⟨v6, rfl, hE6, hb6, hD6⟩
          have HW6 := Lib.hid (HWA.out.trans (hb6.mono hB0))
          have HK6 := Lib.hid ((hb6.block _ hB1).trans HKA.out)
          cases hok : entOk es ax bx vx cx dx with
          | true =>
            rw [hok] at hD6
            have HD6 := Lib.hid (show DayR w6 B db p n (cnt + 1) (updE es ax (some ⟨bx, vx, cx, dx, 0⟩)) from hD6)
            have hv0 : 0 ≤ vx := by simp [entOk] at hok; exact hok.1.1.1.1.2
            have HO6 := Lib.hid (HO.out.other HPLN.out.1 (s := bx) (v := vx) (f := cx) (t := dx) HNE.out hv0 HXO.out)
            clear hE6 hb6 hD6 hok HO HDA HWA HKA
            go_wp2_with fail
            exact ⟨⟨i + 1, cnt + 1, _, by omega, by omega, by go_num, HD6.out, HO6.out, HK6.out, HW6.out⟩, by simp [intOf]; omega⟩
          | false =>
            rw [hok] at hD6
            have hww : wA = w6 := hD6
            subst hww
            clear hE6 hb6 hD6 hok
            go_wp2_with fail
            exact ⟨⟨i + 1, cnt, es, by omega, by omega, by go_num, HDA.out, HO.out, HK6.out, HW6.out⟩, by simp [intOf]; omega⟩
      · have hie : i = os.length := by omega
        have hdl : decide ((i : Int) < os.length) = false := decide_eq_false (by omega)
        clear hie
        have HWK := Lib.hid (HWEEK.out _ _ HBK.out)
        have c7 := (HKEEP.out _ _ HBK.out).1
        have hszw : (Try.prog.info? 22).map (·.size) = some (p.we.map Value.bool).length := by rw [List.length_map, h7]; kernel_rfl
        go_wp2_with (refine wpList_val (.agg (p.we.map Value.bool).toArray) (by kernel_rfl) (exec_load_mid (T := 22) HWK.out rfl rfl Try.underlying22 rfl hszw) ?_)
        refine (calNewM_any p.we h7 p.fv p.fs _ (HFR.out.below HW.out) HPL.out.2.2.2.1 HPL.out.2.2.2.2).mono ?_
        rintro e w7 ⟨cb2, mc2, rfl, hcb, hmc, hC, hb7⟩
        obtain ⟨cb, mc, mb, bl, hA⟩ := HD.out.at
        have hmlt : mb < wr.heap.size := hA.map.lt keyD
        have HA7 := Lib.hid (hA.below hb7)
        have HC7 := Lib.hid (show CalAt w7 cb2 mc2 p.we p.fs from hC)
        have hmm : mc2 ≠ mb := by omega
        have HMM := Lib.hid hmm
        have HW7 := Lib.hid (HW.out.trans (hb7.mono HW.out.size))
        have HK7 := Lib.hid ((hb7.block _ (lt_of_block HBK.out)).trans HBK.out)
        have HAM := Lib.hid (amtF_le (rate := p.rate) hvlb.1 HPLN.out.2.1 HPLN.out.2.2.1)
        clear hC hb7 hA hmlt hmm hcb hmc HD HW HBK c7 HWK hdl
        generalize hAM : amtF p.rate vl = A at HAM
        have HAMT := Lib.hid hAM
        clear hAM
        go_wp2_with fail
        go_loopw [20, 21, 22] (fun fv av kv wr => ∃ (k : Nat) (fl am td : Int) (es : Int → Option EntV), k ≤ 30 ∧ kv = .int .i64 k ∧ fv = .int .i64 fl ∧ av = .int .i64 am ∧ (am = -1 ∨ am = A) ∧ OneF p.keep st vl id es fl ∧ DayAt wr B db cb mc mb cnt bl p td es ∧ busy p.we p.fs td = true ∧ CalAt wr cb2 mc2 p.we p.fs ∧ wr.heap[w.heap.size]? = some (.cells cs 26 (0, 0)) ∧ Below w.heap.size w wr) (fun _ _ kv _ => 30 - (intOf kv).toNat)
        case atStart => exact ⟨0, 0, -1, n, es, by omega, rfl, rfl, rfl, .inl rfl, HO.out, HA7.out, HPLN.out.2.2.2, HC7.out, HK7.out, HW7.out⟩
        case round =>
          obtain ⟨k, fl, am, td, es2, hk, rfl, rfl, rfl, ham, hO, hA, hbz, hC, hBK, hW⟩ := hrel
          have HAM2 := Lib.hid ham
          have HO2 := Lib.hid hO
          have HA := Lib.hid hA
          have HBZ := Lib.hid hbz
          have HC := Lib.hid hC
          have HBK := Lib.hid hBK
          have HW := Lib.hid hW
          have HDY := Lib.hid (show dayB td = true by have := hbz; simp [busy] at this; exact this.1.1)
          have hflb : 0 ≤ fl ∧ fl ≤ p.keep := ⟨hO.f0, hO.f1⟩
          clear ham hO hA hbz hC hBK hW HO HA7 HC7 HK7 HW7
          have wk1 : IntKind.i64.wrap fl = fl := IntWalk.i64_in _ (by omega)
          go_wp2_with fail
          refine (HPC.out _).mono ?_
          rintro e w8 ⟨⟨pk, hp0, hp1, rfl⟩, hww⟩
          have hww2 : wr = w8 := hww.symm
          subst hww2
          clear hww
          by_cases hlt : (k : Int) < pk
          · have dk : decide ((k : Int) < pk) = true := decide_eq_true hlt
            go_wp2_with fail
            refine (today_any _ HA.out.r).mono ?_
            rintro e w9 ⟨rfl, rfl⟩
            go_wp2_with fail
            refine (close_any HA.out HO2.out.ok HDY.out (by omega) HPLN.out.2.1 HPLN.out.2.2.1 hkp).mono ?_
            rintro e w10 ⟨m, hm, hb10, hX10, hcase⟩
            have hC10 : CalAt w10 cb2 mc2 p.we p.fs := by
              obtain ⟨ccs, hccs⟩ := HC.out.ne
              have hcm : ∃ x c, wr.heap[mc2]? = some (Obj.map x c) := by obtain ⟨_, nn, _, _, hmm⟩ := HC.out; exact hmm.isMap keyD
              refine HC.out.keep (hX10 _ HC.out.lt.1 ?_) (hX10 _ HC.out.lt.2 ?_)
              · rintro (q | q | ⟨i', e', he', q⟩)
                · have := HA.out.blk; rw [← q, hccs] at this; injection this with this; injection this with _ this; exact absurd this (by decide)
                · obtain ⟨x, c, hx⟩ := HA.out.map.isMap keyD; rw [← q, hccs] at hx; cases hx
                · have := (HA.out.ent i' e' he').1; rw [q, hccs] at this; injection this with this; injection this with _ this; exact absurd this (by decide)
              · obtain ⟨xx, xc, hxm⟩ := hcm
                rintro (q | q | ⟨i', e', he', q⟩)
                · have := HA.out.blk; rw [← q, hxm] at this; cases this
                · exact HMM.out q
                · have := (HA.out.ent i' e' he').1; rw [q, hxm] at this; cases this
            have HC10 := Lib.hid hC10
            have HM := Lib.hid hm
            have HK10 := Lib.hid ((hb10.block _ hB1).trans HBK.out)
            have HW10 := Lib.hid (HW.out.trans (hb10.mono hB0))
            rcases hcase with ⟨hdm, ⟨tt, xt, rfl⟩, hA10⟩ | ⟨hdm, ow, ou, ds, rfl, hds, hdl2, hOw, hOu, hA10⟩
            · have HA10 := Lib.hid hA10
              have HDM := Lib.hid hdm
              clear hC10 hm hb10 hX10 hA10 hdm HC HA HBK HW
              go_wp2_with fail
              refine (business_any cb2 p.we p.fs td _ HC10.out.cal).mono ?_
              rintro e w11 ⟨rfl, hb11⟩
              have hbz := HBZ.out
              have HA11 := Lib.hid (HA10.out.below hb11)
              have HC11 := Lib.hid (HC10.out.cal.blocks hb11.block)
              have HW11 := Lib.hid (HW10.out.trans (hb11.mono HW10.out.size))
              clear hb11 HA10 HC10 HW10
              rw [hbz]
              clear hbz
              go_wp2_with fail
              refine (calAdd_any cb2 p.we p.fs td _ HDY.out HC11.out).mono ?_
              rintro e w12 ⟨m2, hm2, hb12, hcase2⟩
              obtain rfl : m2 = m := hm2.unique HM.out
              rcases hcase2 with ⟨hd2, _⟩ | ⟨_, t2, x2, rfl⟩
              · rw [HDM.out] at hd2; cases hd2
              have HA12 := Lib.hid (HA11.out.below hb12)
              have HW12 := Lib.hid (HW11.out.trans (hb12.mono HW11.out.size))
              clear hm2 hb12 HA11 HW11 HC11
              go_wp2_with fail
              refine (today_any _ HA12.out.r).mono ?_
              rintro e w13 ⟨rfl, rfl⟩
              go_wp2_with fail
              go_ret
              exact ⟨rfl, HW12.out⟩
            · have HA10 := Lib.hid hA10
              have HDM := Lib.hid hdm
              have HT := Lib.hid (HO2.out.times hds HGID.out p.rate)
              have HG := Lib.hid (HO2.out.gone hds HGID.out)
              have HOW := Lib.hid (fun (x : penT) (hx : x ∈ owedL p.rate es2 ds) (hi : x.1 = id) => HO2.out.owed hx hi)
              have HON := Lib.hid (HO2.out.close hds HGID.out)
              have HNB := Lib.hid (show busy p.we p.fs m = true by rcases hm.2.2 with q | q; · rw [hdm] at q; cases q
                                                                   · exact q)
              have HROW := Lib.hid hOw
              have HROU := Lib.hid hOu
              have hll : (owedL p.rate es2 ds).length ≤ 4000000000000 := by have := owedL_len p.rate es2 ds; omega
              have hlg : (goneL p.keep es2 ds).length ≤ 4000000000000 := by have := goneL_len p.keep es2 ds; omega
              have htdm : td < m := by have := hm.1; omega
              rw [HAMT.out] at HOW
              obtain ⟨oa2, oc2, rfl⟩ := hOw.slice
              obtain ⟨ua2, uc2, rfl⟩ := hOu.slice
              generalize hL : owedL p.rate es2 ds = L at *
              generalize hLg : goneL p.keep es2 ds = G at *
              generalize hE9 : closeE p.keep es2 ds = es9 at *
              clear hL hLg hE9 hC10 hm hb10 hX10 hA10 hdm HC HA HBK HW hOw hOu hds hdl2 HM HO2
              go_wp2_with fail
              refine (business_any cb2 p.we p.fs td _ HC10.out.cal).mono ?_
              rintro e w11 ⟨rfl, hb11⟩
              have hbz := HBZ.out
              have HA11 := Lib.hid (HA10.out.below hb11)
              have HC11 := Lib.hid (HC10.out.keep (hb11.block _ HC10.out.lt.1) (hb11.block _ HC10.out.lt.2))
              have HW11 := Lib.hid (HW10.out.trans (hb11.mono HW10.out.size))
              have HK11 := Lib.hid ((hb11.block _ (lt_of_block HK10.out)).trans HK10.out)
              have HRW := Lib.hid ((HROW.out.below hb11).reads (by omega))
              have HRU := Lib.hid ((HROU.out.below hb11).reads (by omega))
              clear hb11 HA10 HC10 HW10 HK10 HROW HROU
              rw [hbz]
              clear hbz
              go_wp2_with fail
              refine (today_any _ HA11.out.r).mono ?_
              rintro e w12 ⟨rfl, rfl⟩
              have dtd : decide (m ≤ td) = false := decide_eq_false (by omega)
              go_wp2_with fail
              go_loopw [21, 29, 30] (fun av tv iv wr => ∃ (i : Nat) (am : Int), i ≤ L.length ∧ iv = .int .i64 i ∧ tv = .int .i64 (timesN (L.take i) id : Nat) ∧ av = .int .i64 am ∧ (am = -1 ∨ am = A) ∧ Below w11.heap.size w11 wr) (fun _ _ iv _ => L.length - (intOf iv).toNat)
              case atStart => exact ⟨0, am, by omega, rfl, rfl, rfl, HAM2.out, Below.refl _ _⟩
              case round =>
                obtain ⟨i, am2, hi, rfl, rfl, rfl, ham, hW⟩ := hrel
                have HWR := Lib.hid hW
                have HAM3 := Lib.hid ham
                clear hW ham
                by_cases hlt : i < L.length
                · obtain ⟨x, hx⟩ : ∃ x, L[i]? = some x := ⟨_, List.getElem?_eq_getElem hlt⟩
                  have hdl : decide ((i : Int) < L.length) = true := decide_eq_true (by omega)
                  obtain ⟨g, o, rfl, hr⟩ := (HRW.out.below HWR.out).at hx
                  have HSN := Lib.hid (timesN_snoc hx id)
                  have HXO := Lib.hid (HOW.out x (List.mem_of_getElem? hx))
                  obtain ⟨x1, x2, x3, x4⟩ := x
                  have k0 : wr.cell? ⟨g, o + i * 4, none⟩ = some (.int .i64 x1) := by have := hr 0 _ rfl; simpa using this
                  have k1 : wr.cell? ⟨g, o + i * 4 + 1, none⟩ = some (.int .i64 x2) := hr 1 _ rfl
                  have k2 : wr.cell? ⟨g, o + i * 4 + 2, none⟩ = some (.int .i64 x3) := hr 2 _ rfl
                  have k3 : wr.cell? ⟨g, o + i * 4 + 3, none⟩ = some (.int .i64 x4) := hr 3 _ rfl
                  obtain ⟨tm, htm⟩ : ∃ tm : Nat, timesN (L.take i) id = tm := ⟨_, rfl⟩
                  have htb : tm ≤ 4000000000000 := by
                    have h1 : timesN (L.take i) id ≤ (L.take i).length := List.countP_le_length
                    rw [List.length_take] at h1
                    omega
                  rw [htm] at HSN ⊢
                  have HTM := Lib.hid htm
                  clear hr hx htm
                  by_cases hq : x1 = id
                  · have hx2 := HXO.out hq
                    obtain ⟨-, rfl, rfl, rfl⟩ : x1 = id ∧ x2 = 4 ∧ x3 = 9 ∧ x4 = A := by simpa using hx2
                    subst hq
                    clear hx2
                    have dA : decide (vl < x4) = false := decide_eq_false (by have := HAM.out; omega)
                    have dA2 : decide (x4 > vl) = false := decide_eq_false (by have := HAM.out; omega)
                    have dB : decide (0 ≤ x4) = true := decide_eq_true HAM.out.1
                    have dC : (x4 != x4) = false := by simp
                    have wt : IntKind.i64.wrap ((tm : Int) + 1) = (tm : Int) + 1 := IntWalk.i64_in _ (by omega)
                    rcases HAM3.out with rfl | rfl
                    · go_wp2_with fail
                      exact ⟨⟨i + 1, x4, by omega, by go_num, by rw [HSN.out]; simp, rfl, .inr rfl, HWR.out⟩, by simp [intOf]; omega⟩
                    · go_wp2_with fail
                      exact ⟨⟨i + 1, _, by omega, by go_num, by rw [HSN.out]; simp, rfl, .inr rfl, HWR.out⟩, by simp [intOf]; omega⟩
                  · have d1 : (x1 == id) = false := by simp [hq]
                    have HQ := Lib.hid hq
                    clear hq HXO
                    go_wp2_with fail
                    exact ⟨⟨i + 1, am2, by omega, by go_num, by rw [HSN.out, if_neg HQ.out, Nat.add_zero], rfl, HAM3.out, HWR.out⟩, by simp [intOf]; omega⟩
                · have hie : i = L.length := by omega
                  have hdl : decide ((i : Int) < L.length) = false := decide_eq_false (by omega)
                  rw [hie, List.take_length]
                  have HAX := Lib.hid (HA11.out.below HWR.out)
                  have HCX := Lib.hid (HC11.out.keep (HWR.out.block _ HC11.out.lt.1) (HWR.out.block _ HC11.out.lt.2))
                  have HWX := Lib.hid (HW11.out.trans (HWR.out.mono HW11.out.size))
                  have HKX := Lib.hid ((HWR.out.block _ (lt_of_block HK11.out)).trans HK11.out)
                  have HRX := Lib.hid (HRU.out.below HWR.out)
                  clear hie HA11 HC11 HW11 HK11 HRW HRU HWR HOW
                  obtain ⟨tm, htm⟩ : ∃ tm : Int, ((timesN L id : Nat) : Int) = tm := ⟨_, rfl⟩
                  rw [htm] at HT ⊢
                  clear htm
                  generalize hwq : wr = wq at *
                  clear hwq
                  go_wp2_with fail
                  go_loopw [31, 32] (fun gv iv wr => ∃ (i : Nat), i ≤ G.length ∧ iv = .int .i64 i ∧ gv = .int .i64 ((G.take i).count id : Nat) ∧ Below wq.heap.size wq wr) (fun _ iv _ => G.length - (intOf iv).toNat)
                  case atStart => exact ⟨0, by omega, rfl, rfl, Below.refl _ _⟩
                  case round =>
                    obtain ⟨j, hj, rfl, rfl, hW⟩ := hrel
                    have HWS := Lib.hid hW
                    clear hW
                    by_cases hlt : j < G.length
                    · obtain ⟨x, hx⟩ : ∃ x, G[j]? = some x := ⟨_, List.getElem?_eq_getElem hlt⟩
                      have hdl : decide ((j : Int) < G.length) = true := decide_eq_true (by omega)
                      obtain ⟨g, o, rfl, hr⟩ := (HRX.out.below HWS.out).at hx
                      have HSN := Lib.hid (count_snoc hx id)
                      have k0 : wr.cell? ⟨g, o + j, none⟩ = some (.int .i64 x) := by have := hr 0 _ rfl; simpa using this
                      obtain ⟨gm, hgm⟩ : ∃ gm : Nat, (G.take j).count id = gm := ⟨_, rfl⟩
                      have hgb : gm ≤ 4000000000000 := by
                        have h1 : (G.take j).count id ≤ (G.take j).length := List.count_le_length
                        rw [List.length_take] at h1
                        omega
                      rw [hgm] at HSN ⊢
                      clear hr hx hgm
                      by_cases hq : x = id
                      · subst hq
                        have wt : IntKind.i64.wrap ((gm : Int) + 1) = (gm : Int) + 1 := IntWalk.i64_in _ (by omega)
                        go_wp2_with fail
                        exact ⟨⟨j + 1, by omega, by go_num, by rw [HSN.out]; simp, HWS.out⟩, by simp [intOf]; omega⟩
                      · have d1 : (x == id) = false := by simp [hq]
                        have HQ := Lib.hid hq
                        clear hq
                        go_wp2_with fail
                        exact ⟨⟨j + 1, by omega, by go_num, by rw [HSN.out, if_neg HQ.out, Nat.add_zero], HWS.out⟩, by simp [intOf]; omega⟩
                    · have hje : j = G.length := by omega
                      have hdl : decide ((j : Int) < G.length) = false := decide_eq_false (by omega)
                      rw [hje, List.take_length]
                      have HAY := Lib.hid (HAX.out.below HWS.out)
                      have HCY := Lib.hid (HCX.out.keep (HWS.out.block _ HCX.out.lt.1) (HWS.out.block _ HCX.out.lt.2))
                      have HWY := Lib.hid (HWX.out.trans (HWS.out.mono HWX.out.size))
                      have HKY := Lib.hid ((HWS.out.block _ (lt_of_block HKX.out)).trans HKX.out)
                      clear hje HAX HCX HWX HKX HRX HWS
                      obtain ⟨gm, hgm⟩ : ∃ gm : Int, ((G.count id : Nat) : Int) = gm := ⟨_, rfl⟩
                      rw [hgm] at HG ⊢
                      clear hgm
                      have c14 := (HKEEP.out _ _ HKY.out).2.1
                      by_cases cw : st ≤ td ∧ fl < p.keep
                      · obtain ⟨cw1, cw2⟩ := cw
                        have d1 : decide (st ≤ td) = true := decide_eq_true cw1
                        have d2 : decide (fl < p.keep) = true := decide_eq_true cw2
                        have hwant : wantF p.keep st td fl = 1 := if_pos ⟨cw1, cw2⟩
                        have HON2 := Lib.hid (show OneF p.keep st vl id es9 (fl + 1) by have := HON.out; rw [hwant] at this; exact this)
                        obtain rfl : tm = 1 := HT.out.trans hwant
                        have wf1 : IntKind.i64.wrap (fl + 1) = fl + 1 := IntWalk.i64_in _ (by omega)
                        by_cases cl2 : fl + 1 = p.keep
                        · have d3 : (fl + 1 == p.keep) = true := by simp [cl2]
                          obtain rfl : gm = 1 := HG.out.trans (by unfold lastF; rw [if_pos ⟨hwant, cl2⟩])
                          have HCL := Lib.hid cl2
                          clear cw1 cw2 hwant cl2
                          go_wp2_with fail
                          exact ⟨⟨k + 1, _, am2, m, es9, by omega, by go_num, rfl, rfl, HAM3.out, HON2.out, HAY.out, HNB.out, HCY.out, HKY.out, HWY.out⟩, by simp [intOf]; omega⟩
                        · have d3 : (fl + 1 == p.keep) = false := by simp [cl2]
                          obtain rfl : gm = 0 := HG.out.trans (by unfold lastF; rw [if_neg (fun q => cl2 q.2)])
                          clear cw1 cw2 hwant cl2
                          go_wp2_with fail
                          exact ⟨⟨k + 1, _, am2, m, es9, by omega, by go_num, rfl, rfl, HAM3.out, HON2.out, HAY.out, HNB.out, HCY.out, HKY.out, HWY.out⟩, by simp [intOf]; omega⟩
                      · have hwant : wantF p.keep st td fl = 0 := if_neg cw
                        have HON2 := Lib.hid (show OneF p.keep st vl id es9 fl by have := HON.out; rw [hwant, Int.add_zero] at this; exact this)
                        obtain rfl : tm = 0 := HT.out.trans hwant
                        obtain rfl : gm = 0 := HG.out.trans (by unfold lastF; rw [if_neg (fun q => by rw [hwant] at q; exact absurd q.1 (by decide))])
                        have wf1 : IntKind.i64.wrap (fl + 0) = fl + 0 := IntWalk.i64_in _ (by omega)
                        by_cases cw1 : st ≤ td
                        · have d1 : decide (st ≤ td) = true := decide_eq_true cw1
                          have d2 : decide (fl < p.keep) = false := decide_eq_false (fun q => cw ⟨cw1, q⟩)
                          clear cw1 cw hwant
                          go_wp2_with fail
                          exact ⟨⟨k + 1, _, am2, m, es9, by omega, by go_num, rfl, rfl, HAM3.out, HON2.out, HAY.out, HNB.out, HCY.out, HKY.out, HWY.out⟩, by simp [intOf]; omega⟩
                        · have d1 : decide (st ≤ td) = false := decide_eq_false cw1
                          clear cw1 cw hwant
                          go_wp2_with fail
                          exact ⟨⟨k + 1, _, am2, m, es9, by omega, by go_num, rfl, rfl, HAM3.out, HON2.out, HAY.out, HNB.out, HCY.out, HKY.out, HWY.out⟩, by simp [intOf]; omega⟩
          · have dk : decide ((k : Int) < pk) = false := decide_eq_false hlt
            clear hlt
            have HC14 := Lib.hid (fun (wz : World) (hz : Below B wr wz) => (HKEEP.out _ _ ((hz.block _ hB1).trans HBK.out)).2.1)
            by_cases c : fl < p.keep
            · have d : decide (fl < p.keep) = true := decide_eq_true c
              have HRES := Lib.hid (show (es2 id).isSome = true by rw [HO2.out.here]; simp [c])
              clear c
              go_wp2_with fail
              rename_i HK
              refine wp_region_held_drew (S := fun w' => Below B wr w') (by kernel_rfl) (Below.refl _ _).drew (fun hHeld => ?_)
              (refine rg_yes 0 ?v1 (by simp only [List.getElem?_toArray, List.getElem?_cons_succ, List.getElem?_cons_zero]; rfl) (by kernel_rfl) (by kernel_rfl) (by kernel_rfl) (by exact fun _ _ _ h => h) (by kernel_rfl) (by assumption) ?y1 ?z1; case y1 => (intro w hSw; (try dsimp only at hSw); go_simp; (try (rw [if_neg (by omega)])); (try (rw [if_pos (by omega)])); (try with_reducible rfl)))
              (try simp only [Act.put, List.setIfInBounds_toArray, List.set_cons_zero, List.set_cons_succ])
              (refine rg_yes 1 ?v2 (by simp only [List.getElem?_toArray, List.getElem?_cons_succ, List.getElem?_cons_zero]; rfl) (by kernel_rfl) (by kernel_rfl) (by kernel_rfl) (by exact fun _ _ _ h => h) (by kernel_rfl) (by assumption) ?y2 ?z2; case y2 => (intro w hSw; (try dsimp only at hSw); go_simp; (try (rw [if_neg (by omega)])); (try (rw [if_pos (by omega)])); (try with_reducible rfl)))
              (try simp only [Act.put, List.setIfInBounds_toArray, List.set_cons_zero, List.set_cons_succ])
              (refine rg_yes 3 ?v3 (by simp only [List.getElem?_toArray, List.getElem?_cons_succ, List.getElem?_cons_zero]; rfl) (by kernel_rfl) (by kernel_rfl) (by kernel_rfl) (by exact fun _ _ _ h => h) (by kernel_rfl) (by assumption) ?y3 ?z3; case y3 => (intro w hSw; (try dsimp only at hSw); go_simp; (try (rw [if_neg (by omega)])); (try (rw [if_pos (by omega)])); (try with_reducible rfl)))
              (try simp only [Act.put, List.setIfInBounds_toArray, List.set_cons_zero, List.set_cons_succ])
              (refine rg_yes 4 ?v4 (by simp only [List.getElem?_toArray, List.getElem?_cons_succ, List.getElem?_cons_zero]; rfl) (by kernel_rfl) (by kernel_rfl) (by kernel_rfl) (by exact fun _ _ _ h => h) (by kernel_rfl) (by assumption) ?y4 ?z4; case y4 => (intro w hSw; (try dsimp only at hSw); go_simp; (try (rw [if_neg (by omega)])); (try (rw [if_pos (by omega)])); (try with_reducible rfl)))
              (try simp only [Act.put, List.setIfInBounds_toArray, List.set_cons_zero, List.set_cons_succ])
              refine rg_yes 5 _ (by simp only [List.getElem?_toArray, List.getElem?_cons_succ, List.getElem?_cons_zero]; rfl) (by kernel_rfl) (by kernel_rfl) (by kernel_rfl) (by exact fun _ _ _ h => h) (by kernel_rfl) (by assumption) (by exact fun w' hS => (exec_load_at (HC14.out _ hS) rfl rfl (fun w => by kernel_rfl))) ?_
              (try simp only [Act.put, List.setIfInBounds_toArray, List.set_cons_zero, List.set_cons_succ])
              (refine rg_yes 6 ?v5 (by simp only [List.getElem?_toArray, List.getElem?_cons_succ, List.getElem?_cons_zero]; rfl) (by kernel_rfl) (by kernel_rfl) (by kernel_rfl) (by exact fun _ _ _ h => h) (by kernel_rfl) (by assumption) ?y5 ?z5; case y5 => (intro w hSw; (try dsimp only at hSw); go_simp; (try (rw [if_neg (by omega)])); (try (rw [if_pos (by omega)])); (try with_reducible rfl)))
              (try simp only [Act.put, List.setIfInBounds_toArray, List.set_cons_zero, List.set_cons_succ])
              refine rg_call 2 _ _ (by simp only [List.getElem?_toArray, List.getElem?_cons_succ, List.getElem?_cons_zero]; rfl) (by kernel_rfl) (by kernel_rfl) (fun w => by go_simp; exact ⟨rfl, rfl⟩) ?_
              refine (leave_any id HGID.out _ (HA.out.r.below (Below.refl _ _).drew)).mono ?_
              rintro e w9 ⟨rfl, hb9, hD9⟩
              refine ⟨_, rfl, hHeld.trans hb9, fun hHeld => ?_⟩
              rw [HRES.out]
              (try simp only [Act.put, List.setIfInBounds_toArray, List.set_cons_zero, List.set_cons_succ])
              (refine rg_yes 7 ?v6 (by simp only [List.getElem?_toArray, List.getElem?_cons_succ, List.getElem?_cons_zero]; rfl) (by kernel_rfl) (by kernel_rfl) (by kernel_rfl) (by exact fun _ _ _ h => h) (by kernel_rfl) (by assumption) ?y6 ?z6; case y6 => (intro w hSw; (try dsimp only at hSw); go_simp; (try (rw [if_neg (by omega)])); (try (rw [if_pos (by omega)])); (try with_reducible rfl)))
              (try simp only [Act.put, List.setIfInBounds_toArray, List.set_cons_zero, List.set_cons_succ])
              (refine rg_yes 8 ?v7 (by simp only [List.getElem?_toArray, List.getElem?_cons_succ, List.getElem?_cons_zero]; rfl) (by kernel_rfl) (by kernel_rfl) (by kernel_rfl) (by exact fun _ _ _ h => h) (by kernel_rfl) (by assumption) ?y7 ?z7; case y7 => (intro w hSw; (try dsimp only at hSw); go_simp; (try (rw [if_neg (by omega)])); (try (rw [if_pos (by omega)])); (try with_reducible rfl)))
              (try simp only [Act.put, List.setIfInBounds_toArray, List.set_cons_zero, List.set_cons_succ])
              refine rg_call 9 _ _ (by simp only [List.getElem?_toArray, List.getElem?_cons_succ, List.getElem?_cons_zero]; rfl) (by kernel_rfl) (by kernel_rfl) (fun w => by go_simp; exact ⟨rfl, rfl⟩) ?_
              refine (works_any _).mono ?_
              rintro e w10 ⟨rfl, hb10⟩
              refine ⟨_, rfl, hHeld.trans (hb10.mono hD9.bound), fun hHeld => ?_⟩
              (try simp only [Act.put, List.setIfInBounds_toArray, List.set_cons_zero, List.set_cons_succ])
              (refine rg_yes 10 ?v8 (by simp only [List.getElem?_toArray, List.getElem?_cons_succ, List.getElem?_cons_zero]; rfl) (by kernel_rfl) (by kernel_rfl) (by kernel_rfl) (by exact fun _ _ _ h => h) (by kernel_rfl) (by assumption) ?y8 ?z8; case y8 => (intro w hSw; (try dsimp only at hSw); go_simp; (try (rw [if_neg (by omega)])); (try (rw [if_pos (by omega)])); (try with_reducible rfl)))
              (try simp only [Act.put, List.setIfInBounds_toArray, List.set_cons_zero, List.set_cons_succ])
              (refine rg_yes 11 ?v9 (by simp only [List.getElem?_toArray, List.getElem?_cons_succ, List.getElem?_cons_zero]; rfl) (by kernel_rfl) (by kernel_rfl) (by kernel_rfl) (by exact fun _ _ _ h => h) (by kernel_rfl) (by assumption) ?y9 ?z9; case y9 => (intro w hSw; (try dsimp only at hSw); go_simp; (try (rw [if_neg (by omega)])); (try (rw [if_pos (by omega)])); (try with_reducible rfl)))
              (try simp only [Act.put, List.setIfInBounds_toArray, List.set_cons_zero, List.set_cons_succ])
              refine wpAnyH_done (by kernel_rfl) ?_ _
              apply HK
              have HB9 := Lib.hid (HW.out.trans (hHeld.mono hB0))
              clear hHeld HK
              go_wp2_with fail
              go_ret
              exact ⟨rfl, HB9.out⟩
            · have d : decide (fl < p.keep) = false := decide_eq_false c
              have HRES := Lib.hid (show (es2 id).isSome = false by rw [HO2.out.here]; simp [c])
              clear c
              go_wp2_with fail
              rename_i HK
              refine wp_region_held_drew (S := fun w' => Below B wr w') (by kernel_rfl) (Below.refl _ _).drew (fun hHeld => ?_)
              (refine rg_yes 0 ?v10 (by simp only [List.getElem?_toArray, List.getElem?_cons_succ, List.getElem?_cons_zero]; rfl) (by kernel_rfl) (by kernel_rfl) (by kernel_rfl) (by exact fun _ _ _ h => h) (by kernel_rfl) (by assumption) ?y10 ?z10; case y10 => (intro w hSw; (try dsimp only at hSw); go_simp; (try (rw [if_neg (by omega)])); (try (rw [if_pos (by omega)])); (try with_reducible rfl)))
              (try simp only [Act.put, List.setIfInBounds_toArray, List.set_cons_zero, List.set_cons_succ])
              (refine rg_yes 1 ?v11 (by simp only [List.getElem?_toArray, List.getElem?_cons_succ, List.getElem?_cons_zero]; rfl) (by kernel_rfl) (by kernel_rfl) (by kernel_rfl) (by exact fun _ _ _ h => h) (by kernel_rfl) (by assumption) ?y11 ?z11; case y11 => (intro w hSw; (try dsimp only at hSw); go_simp; (try (rw [if_neg (by omega)])); (try (rw [if_pos (by omega)])); (try with_reducible rfl)))
              (try simp only [Act.put, List.setIfInBounds_toArray, List.set_cons_zero, List.set_cons_succ])
              (refine rg_yes 3 ?v12 (by simp only [List.getElem?_toArray, List.getElem?_cons_succ, List.getElem?_cons_zero]; rfl) (by kernel_rfl) (by kernel_rfl) (by kernel_rfl) (by exact fun _ _ _ h => h) (by kernel_rfl) (by assumption) ?y12 ?z12; case y12 => (intro w hSw; (try dsimp only at hSw); go_simp; (try (rw [if_neg (by omega)])); (try (rw [if_pos (by omega)])); (try with_reducible rfl)))
              (try simp only [Act.put, List.setIfInBounds_toArray, List.set_cons_zero, List.set_cons_succ])
              (refine rg_yes 4 ?v13 (by simp only [List.getElem?_toArray, List.getElem?_cons_succ, List.getElem?_cons_zero]; rfl) (by kernel_rfl) (by kernel_rfl) (by kernel_rfl) (by exact fun _ _ _ h => h) (by kernel_rfl) (by assumption) ?y13 ?z13; case y13 => (intro w hSw; (try dsimp only at hSw); go_simp; (try (rw [if_neg (by omega)])); (try (rw [if_pos (by omega)])); (try with_reducible rfl)))
              (try simp only [Act.put, List.setIfInBounds_toArray, List.set_cons_zero, List.set_cons_succ])
              refine rg_yes 5 _ (by simp only [List.getElem?_toArray, List.getElem?_cons_succ, List.getElem?_cons_zero]; rfl) (by kernel_rfl) (by kernel_rfl) (by kernel_rfl) (by exact fun _ _ _ h => h) (by kernel_rfl) (by assumption) (by exact fun w' hS => (exec_load_at (HC14.out _ hS) rfl rfl (fun w => by kernel_rfl))) ?_
              (try simp only [Act.put, List.setIfInBounds_toArray, List.set_cons_zero, List.set_cons_succ])
              (refine rg_yes 6 ?v14 (by simp only [List.getElem?_toArray, List.getElem?_cons_succ, List.getElem?_cons_zero]; rfl) (by kernel_rfl) (by kernel_rfl) (by kernel_rfl) (by exact fun _ _ _ h => h) (by kernel_rfl) (by assumption) ?y14 ?z14; case y14 => (intro w hSw; (try dsimp only at hSw); go_simp; (try (rw [if_neg (by omega)])); (try (rw [if_pos (by omega)])); (try with_reducible rfl)))
              (try simp only [Act.put, List.setIfInBounds_toArray, List.set_cons_zero, List.set_cons_succ])
              refine rg_call 2 _ _ (by simp only [List.getElem?_toArray, List.getElem?_cons_succ, List.getElem?_cons_zero]; rfl) (by kernel_rfl) (by kernel_rfl) (fun w => by go_simp; exact ⟨rfl, rfl⟩) ?_
              refine (leave_any id HGID.out _ (HA.out.r.below (Below.refl _ _).drew)).mono ?_
              rintro e w9 ⟨rfl, hb9, hD9⟩
              refine ⟨_, rfl, hHeld.trans hb9, fun hHeld => ?_⟩
              rw [HRES.out]
              (try simp only [Act.put, List.setIfInBounds_toArray, List.set_cons_zero, List.set_cons_succ])
              (refine rg_yes 7 ?v15 (by simp only [List.getElem?_toArray, List.getElem?_cons_succ, List.getElem?_cons_zero]; rfl) (by kernel_rfl) (by kernel_rfl) (by kernel_rfl) (by exact fun _ _ _ h => h) (by kernel_rfl) (by assumption) ?y15 ?z15; case y15 => (intro w hSw; (try dsimp only at hSw); go_simp; (try (rw [if_neg (by omega)])); (try (rw [if_pos (by omega)])); (try with_reducible rfl)))
              (try simp only [Act.put, List.setIfInBounds_toArray, List.set_cons_zero, List.set_cons_succ])
              (refine rg_yes 8 ?v16 (by simp only [List.getElem?_toArray, List.getElem?_cons_succ, List.getElem?_cons_zero]; rfl) (by kernel_rfl) (by kernel_rfl) (by kernel_rfl) (by exact fun _ _ _ h => h) (by kernel_rfl) (by assumption) ?y16 ?z16; case y16 => (intro w hSw; (try dsimp only at hSw); go_simp; (try (rw [if_neg (by omega)])); (try (rw [if_pos (by omega)])); (try with_reducible rfl)))
              (try simp only [Act.put, List.setIfInBounds_toArray, List.set_cons_zero, List.set_cons_succ])
              refine rg_call 9 _ _ (by simp only [List.getElem?_toArray, List.getElem?_cons_succ, List.getElem?_cons_zero]; rfl) (by kernel_rfl) (by kernel_rfl) (fun w => by go_simp; exact ⟨rfl, rfl⟩) ?_
              refine (works_any _).mono ?_
              rintro e w10 ⟨rfl, hb10⟩
              refine ⟨_, rfl, hHeld.trans (hb10.mono hD9.bound), fun hHeld => ?_⟩
              (try simp only [Act.put, List.setIfInBounds_toArray, List.set_cons_zero, List.set_cons_succ])
              (refine rg_yes 10 ?v17 (by simp only [List.getElem?_toArray, List.getElem?_cons_succ, List.getElem?_cons_zero]; rfl) (by kernel_rfl) (by kernel_rfl) (by kernel_rfl) (by exact fun _ _ _ h => h) (by kernel_rfl) (by assumption) ?y17 ?z17; case y17 => (intro w hSw; (try dsimp only at hSw); go_simp; (try (rw [if_neg (by omega)])); (try (rw [if_pos (by omega)])); (try with_reducible rfl)))
              (try simp only [Act.put, List.setIfInBounds_toArray, List.set_cons_zero, List.set_cons_succ])
              (refine rg_yes 11 ?v18 (by simp only [List.getElem?_toArray, List.getElem?_cons_succ, List.getElem?_cons_zero]; rfl) (by kernel_rfl) (by kernel_rfl) (by kernel_rfl) (by exact fun _ _ _ h => h) (by kernel_rfl) (by assumption) ?y18 ?z18; case y18 => (intro w hSw; (try dsimp only at hSw); go_simp; (try (rw [if_neg (by omega)])); (try (rw [if_pos (by omega)])); (try with_reducible rfl)))
              (try simp only [Act.put, List.setIfInBounds_toArray, List.set_cons_zero, List.set_cons_succ])
              refine wpAnyH_done (by kernel_rfl) ?_ _
              apply HK
              have HB9 := Lib.hid (HW.out.trans (hHeld.mono hB0))
              clear hHeld HK
              go_wp2_with fail
              go_ret
              exact ⟨rfl, HB9.out⟩
end Go.Proofs.Ytkhhkbigpaoinaa
