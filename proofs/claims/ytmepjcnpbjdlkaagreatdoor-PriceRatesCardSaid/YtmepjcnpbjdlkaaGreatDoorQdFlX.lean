/- texts of this claim, laid together: FlX, FlY, RateA. -/
import Derived.Test.YtmepjcnpbjdlkaaGreatDoorQdErr
import Derived.Test.YtmepjcnpbjdlkaaGreatDoorQdFrac
import Derived.Test.YtmepjcnpbjdlkaaGreatDoorQdFlW
import Derived.Test.YtmepjcnpbjdlkaaGreatDoorQdYieldA
import Derived.Test.YtmepjcnpbjdlkaaGreatDoorQdGrow
/- the document's Yield by contract. -/
namespace Go.Proofs.YtmepjcnpbjdlkaaGreatDoor
set_option linter.unusedVariables false
set_option linter.unusedSimpArgs false
open Go.RowKit
attribute [local irreducible] Go.wpStill

theorem fUnit_any (A B : Int) (rate : Nat) (w : World) : Calls Tryz.prog 49 #[.int .u64 4607182418800017408, .int .u64 ((FL.fmul rate (FL.fdiv (FL.fint A) (FL.fint B)) : Nat) : Int)] w (RetU (FL.hOf A B rate) w) := by
  obtain ⟨h1, h2⟩ := FL.rg_fmul rate (FL.fdiv (FL.fint A) (FL.fint B))
  have hu := FL.unit_facts
  have e : (4607182418800017408 : Int) = ((FL.UNIT : Nat) : Int) := rfl
  unfold FL.hOf
  rw [e]
  by_cases h : FL.rg (FL.fmul rate (FL.fdiv (FL.fint A) (FL.fint B))) = FL.INF
  · rw [if_pos h]
    exact fAddInf_any _ _ w hu.2 h2 hu.1 h
  · rw [if_neg h]
    exact fAdd_any _ _ w hu.2 h2 hu.1 (by omega)
theorem fLess0_any (h : Nat) (w : World) (hl : h < 2 ^ 64) (hr : FL.rg h ≤ FL.INF) : Calls Tryz.prog 51 #[.int .u64 0, .int .u64 (h : Int)] w fun e w' => e = .returned (.bool (!FL.leZ h)) ∧ Below w.heap.size w w' := by
  have h0 : FL.rg 0 < FL.INF := by decide
  unfold FL.leZ
  by_cases hi : FL.rg h = FL.INF
  · rw [if_pos hi]
    exact fLessInf_any 0 h w (by decide) hl h0 hi
  · rw [if_neg hi]
    have := fLess_any 0 h w (by decide) hl h0 (by omega)
    rw [FL.S_0] at this
    have e : decide (0 < FL.S h) = !decide (FL.S h ≤ 0) := by
      by_cases c : FL.S h ≤ 0
      · rw [decide_eq_true c, decide_eq_false (by omega)]; rfl
      · rw [decide_eq_false c, decide_eq_true (by omega)]; rfl
    rw [e] at this
    exact this
theorem fLast_any (face : Int) (h : Nat) (w : World) (hf : 0 ≤ face) (hf1 : face < 9223372036854775808) (hl : h < 2 ^ 64) (hr : FL.rg h ≤ FL.INF) (hz : FL.leZ h = false) : Calls Tryz.prog 47 #[.int .u64 ((FL.fint face : Nat) : Int), .int .u64 (h : Int)] w (RetU (FL.lastF face h) w) := by
  obtain ⟨f1, f2, f3, f4, f5⟩ := FL.fint_facts hf hf1
  unfold FL.lastF
  by_cases hi : FL.rg h = FL.INF
  · rw [if_pos hi]
    exact fDivInf_any _ _ w f3 hl f1 hi
  · rw [if_neg hi]
    refine fDiv_any _ _ w f3 hl f1 (by omega) (fun c => ?_)
    unfold FL.leZ at hz
    rw [if_neg hi] at hz
    have := of_decide_eq_false hz
    have hU := FL.U_zero.2 c
    unfold FL.S at this
    rw [hU] at this
    cases hn : FL.neg h <;> rw [hn] at this <;> simp [FL.sg] at this
def RefYieldP (s : SecV) (rate : Nat) (day : Int) (w : World) (e : Ending) (w' : World) : Prop := ∃ z n, e = .returned (.tuple #[.int .u64 ((z : Nat) : Int), .int .i64 n]) ∧ YieldIs s rate day z n ∧ Below w.heap.size w w'
set_option maxRecDepth 100000 in
set_option maxHeartbeats 8000000 in
theorem refYield_any (s : SecV) (rate : Nat) (day : Int) (w : World) (hcs : s.cur.size ≤ 140737488351232) (hf : s.face < 9223372036854775808) (hr : rate < 2 ^ 64) :
    Calls Tryz.prog 16 #[.agg (secC s), .int .u64 (rate : Int), .int .i64 day] w (RefYieldP s rate day w) := by
  have hC := fun w => refCheck_any s w hcs
  have hFr := fun w (h1 : 1 ≤ day) (h2 : day ≤ s.finish) (h3 : s.finish ≤ 3652059) (h4 : 0 ≤ s.basis) (h5 : s.basis ≤ 3) => refFraction_any day s.finish s.basis w h1 h2 h3 h4 h5
  unfold RefFracP at hFr
  unfold RetI at hC
  have hbf := fun h k => bill_facts (s := s) h k
  have hA1 : checkN s ≠ 0 → YieldIs s rate day 0 (checkN s) := fun h => .inl ⟨h, rfl, rfl⟩
  have hA2 : checkN s = 0 → s.kind ≠ 3 → YieldIs s rate day 0 24 := fun h k => .inr (.inl ⟨h, k, rfl, rfl⟩)
  have hA3 : checkN s = 0 → s.kind = 3 → (day < s.start ∨ s.finish < day) → YieldIs s rate day 0 8 := fun h k l => .inr (.inr (.inl ⟨h, k, l, rfl, rfl⟩))
  have hA4 : checkN s = 0 → s.kind = 3 → ¬ (day < s.start ∨ s.finish < day) → ¬ FL.rg rate < FL.INF → YieldIs s rate day 0 1 := fun h k l m => .inr (.inr (.inr (.inl ⟨h, k, l, m, rfl, rfl⟩)))
  have hA5 : checkN s = 0 → s.kind = 3 → ¬ (day < s.start ∨ s.finish < day) → FL.rg rate < FL.INF → ∀ A B, FracIs day s.finish s.basis A B → FL.leZ (FL.hOf A B rate) = true → YieldIs s rate day 0 1 := fun h k l m A B h1 h2 => .inr (.inr (.inr (.inr ⟨h, k, l, m, A, B, h1, .inl ⟨h2, rfl, rfl⟩⟩)))
  have hA6 : checkN s = 0 → s.kind = 3 → ¬ (day < s.start ∨ s.finish < day) → FL.rg rate < FL.INF → ∀ A B, FracIs day s.finish s.basis A B → FL.leZ (FL.hOf A B rate) = false → YieldIs s rate day (FL.lastF s.face (FL.hOf A B rate)) 0 := fun h k l m A B h1 h2 => .inr (.inr (.inr (.inr ⟨h, k, l, m, A, B, h1, .inr ⟨h2, rfl, rfl⟩⟩)))
  have HCL := Lib.hid (fun w => fClass_any rate w hr)
  have HMU := Lib.hid (fun f w (h1 : f < 2 ^ 64) (h2 : FL.rg rate < FL.INF) (h3 : FL.rg f < FL.INF) => fMul_any rate f w hr h1 h2 h3)
  have hc0 : FL.INF < FL.rg rate → FL.cls rate = 0 := fun h => by unfold FL.cls; rw [if_pos h]
  have hc1 : FL.rg rate = FL.INF → FL.cls rate = 1 := fun h => FL.cls_inf h
  have hc2 : FL.rg rate < FL.INF → FL.cls rate ≠ 0 ∧ FL.cls rate ≠ 1 := fun h => ⟨(FL.cls_fin h).1, (FL.cls_fin h).2.1⟩
  have HC0 := Lib.hid hc0
  have HC1 := Lib.hid hc1
  have HC2 := Lib.hid hc2
  unfold RefYieldP
  generalize YieldIs s rate day = YI at *
  have HSZ := Lib.hid (show (Tryz.prog.info? 25).map (·.size) = some (secC s).size by kernel_rfl)
  have HG := Lib.hid (heap_alloc_new w (.cells (secC s) 25))
  have HZ0 := Lib.hid ((Below.refl w.heap.size w).alloc (Nat.le_refl _) (.cells (secC s) 25))
  have hcell : ∀ w1, Below (w.alloc (.cells (secC s) 25)).heap.size (w.alloc (.cells (secC s) 25)) w1 → w1.cell? ⟨w.heap.size, 12, none⟩ = some (.int .i64 s.kind) ∧ w1.cell? ⟨w.heap.size, 13, none⟩ = some (.int .i64 s.face) ∧ w1.cell? ⟨w.heap.size, 16, none⟩ = some (.int .i64 s.basis) ∧ w1.cell? ⟨w.heap.size, 17, none⟩ = some (.int .i64 s.start) ∧ w1.cell? ⟨w.heap.size, 18, none⟩ = some (.int .i64 s.finish) ∧ Below w.heap.size w w1 := fun w1 h => by
    have e := rowAt_below (heap_alloc_new w (.cells (secC s) 25)) h
    have hb := HZ0.out.trans (h.mono (by simp))
    exact ⟨by rw [cell_of_row _ _ _ _ _ _ e]; rfl, by rw [cell_of_row _ _ _ _ _ _ e]; rfl, by rw [cell_of_row _ _ _ _ _ _ e]; rfl, by rw [cell_of_row _ _ _ _ _ _ e]; rfl, by rw [cell_of_row _ _ _ _ _ _ e]; rfl, hb⟩
  have HW := Lib.hid hcell
  have HC := Lib.hid hC
  have HFR := Lib.hid hFr
  have HBF := Lib.hid hbf
  have HA1 := Lib.hid hA1
  have HA2 := Lib.hid hA2
  have HA3 := Lib.hid hA3
  have HA4 := Lib.hid hA4
  have HA5 := Lib.hid hA5
  have HA6 := Lib.hid hA6
  have HF := Lib.hid hf
  clear hC hFr hbf hA1 hA2 hA3 hA4 hA5 hA6 hcell hcs hf hr hc0 hc1 hc2
  generalize secC s = SV at *
  generalize checkN s = kN at *
  generalize FL.cls rate = cR at *
  go_enter Tryz.func16, Tryz.ntmps16
  go_wp2_with (refine wpList_val (.agg SV) (by kernel_rfl) (exec_load_row HG.out rfl rfl Tryz.underlying25 rfl HSZ.out) ?_)
  refine (HC.out _).mono ?_
  rintro e w1 ⟨rfl, hb1⟩
  have HB1 := Lib.hid hb1
  have HJ := Lib.hid (HW.out _ hb1)
  clear hb1 HC
  by_cases hk0 : kN = 0
  · have HK0 := Lib.hid hk0
    have j12 := HJ.out.1
    have dk : (kN != 0) = false := by simp [hk0]
    clear HG HSZ hk0
    by_cases hk : s.kind = 3
    · have d0 : (s.kind != 3) = false := by simp [hk]
      obtain ⟨f1, b1, b2, s1, s2, s3⟩ := HBF.out HK0.out hk
      have HKK := Lib.hid hk
      have j13 := HJ.out.2.1
      have j16 := HJ.out.2.2.1
      have j17 := HJ.out.2.2.2.1
      have j18 := HJ.out.2.2.2.2.1
      clear hk
      by_cases hd : day < s.start ∨ s.finish < day
      · have HAA := Lib.hid (HA3.out HK0.out HKK.out hd)
        by_cases g1 : day < s.start
        · have d1 : decide (day < s.start) = true := decide_eq_true g1
          clear hd g1
          go_wp2_with fail
          go_ret2
          exact ⟨0, _, rfl, HAA.out, HJ.out.2.2.2.2.2⟩
        · have d1 : decide (day < s.start) = false := decide_eq_false g1
          have d2 : decide (day > s.finish) = true := decide_eq_true (by omega)
          clear hd g1
          go_wp2_with fail
          go_ret2
          exact ⟨0, _, rfl, HAA.out, HJ.out.2.2.2.2.2⟩
      · have d1 : decide (day < s.start) = false := decide_eq_false (by omega)
        have d2 : decide (day > s.finish) = false := decide_eq_false (by omega)
        have HA4 := Lib.hid (HA4.out HK0.out HKK.out hd)
        have HA5 := Lib.hid (HA5.out HK0.out HKK.out hd)
        have HA6 := Lib.hid (HA6.out HK0.out HKK.out hd)
        have hdd : 1 ≤ day ∧ day ≤ s.finish := by omega
        have HFR := Lib.hid (fun w => HFR.out w hdd.1 hdd.2 s3 b1 b2)
        clear hd HA3 HA2 HA1 HBF
        by_cases hn : FL.INF < FL.rg rate
        · have dc : (cR == 0) = true := by rw [HC0.out hn]; rfl
          have HAA := Lib.hid (HA4.out (by omega))
          clear hn
          go_wp2_with fail
          refine (HCL.out _).mono ?_
          rintro e w2 ⟨rfl, hb2⟩
          have HJ2 := Lib.hid (HW.out _ (HB1.out.trans (hb2.mono HB1.out.size)))
          clear hb2
          go_wp2_with fail
          go_ret2
          exact ⟨0, _, rfl, HAA.out, HJ2.out.2.2.2.2.2⟩
        · by_cases hi : FL.rg rate = FL.INF
          · have dc : (cR == 0) = false := by rw [HC1.out hi]; rfl
            have dc1 : (cR == 1) = true := by rw [HC1.out hi]; rfl
            have HAA := Lib.hid (HA4.out (by omega))
            clear hi hn
            go_wp2_with fail
            refine (HCL.out _).mono ?_
            rintro e w2 ⟨rfl, hb2⟩
            have HB2 := Lib.hid (HB1.out.trans (hb2.mono HB1.out.size))
            clear hb2
            go_wp2_with fail
            refine (HCL.out _).mono ?_
            rintro e w3 ⟨rfl, hb3⟩
            have HJ3 := Lib.hid (HW.out _ (HB2.out.trans (hb3.mono HB2.out.size)))
            clear hb3
            go_wp2_with fail
            go_ret2
            exact ⟨0, _, rfl, HAA.out, HJ3.out.2.2.2.2.2⟩
          · have hfin : FL.rg rate < FL.INF := by omega
            have hcc := HC2.out hfin
            have dc : (cR == 0) = false := by simp [hcc.1]
            have dc1 : (cR == 1) = false := by simp [hcc.2]
            have HA5 := Lib.hid (HA5.out hfin)
            have HA6 := Lib.hid (HA6.out hfin)
            have HFN := Lib.hid hfin
            clear hi hn hfin hcc
            go_wp2_with fail
            refine (HCL.out _).mono ?_
            rintro e w2 ⟨rfl, hb2⟩
            have HB2 := Lib.hid (HB1.out.trans (hb2.mono HB1.out.size))
            clear hb2
            go_wp2_with fail
            refine (HCL.out _).mono ?_
            rintro e w3 ⟨rfl, hb3⟩
            have HB3 := Lib.hid (HB2.out.trans (hb3.mono HB2.out.size))
            have HJ3 := Lib.hid (HW.out _ HB3.out)
            have k16 := HJ3.out.2.2.1
            have k18 := HJ3.out.2.2.2.2.1
            clear hb3
            go_wp2_with fail
            refine (HFR.out _).mono ?_
            rintro e w4 ⟨A, B, rfl, hFI, hb4⟩
            have hAB := hFI.bounds hdd.1 hdd.2 s3 b1
            have HB4 := Lib.hid (HB3.out.trans (hb4.mono HB3.out.size))
            have hA : A < 9223372036854775808 := by omega
            have hB0 : 1 ≤ B := by omega
            have hB : B < 9223372036854775808 := by omega
            have hface : 0 ≤ s.face := by omega
            have FA := Lib.hid (fun w => fFromInt_any A w hAB.1 hA)
            have FB := Lib.hid (fun w => fFromInt_any B w (by omega) hB)
            have FF := Lib.hid (fun w => fFromInt_any s.face w hface HF.out)
            have p1 := FL.part_facts (A := A) (B := B) hAB.1 hA hB0 hB
            have fa := FL.fint_facts hAB.1 hA
            have fb := FL.fint_facts (n := B) (by omega) hB
            have FD := Lib.hid (fun w => fDiv_any (FL.fint A) (FL.fint B) w fa.2.2.1 fb.2.2.1 fa.1 fb.1 (fun c => p1.2.2 (FL.U_zero.2 c)))
            have FM := Lib.hid (fun w => HMU.out (FL.fdiv (FL.fint A) (FL.fint B)) w (FL.rg_fdiv _ _).2 HFN.out p1.1)
            have FU := Lib.hid (fun w => fUnit_any A B rate w)
            have hh := FL.hOf_facts A B rate
            have FL0 := Lib.hid (fun w => fLess0_any (FL.hOf A B rate) w hh.2 hh.1)
            have FQ := Lib.hid (fun hz w => fLast_any s.face (FL.hOf A B rate) w hface HF.out hh.2 hh.1 hz)
            have HA5 := Lib.hid (HA5.out A B hFI)
            have HA6 := Lib.hid (HA6.out A B hFI)
            clear hFI hAB hb4 hA hB0 hB hface p1 fa fb hh HFR HCL HMU HC0 HC1 HC2 HA4
            generalize FL.fmul rate (FL.fdiv (FL.fint A) (FL.fint B)) = g at *
            generalize FL.fdiv (FL.fint A) (FL.fint B) = f at *
            generalize FL.hOf A B rate = h at *
            go_wp2_with fail
            refine (FA.out _).mono ?_
            rintro e w5 ⟨rfl, hb5⟩
            have HB5 := Lib.hid (HB4.out.trans (hb5.mono HB4.out.size))
            clear hb5
            go_wp2_with fail
            refine (FB.out _).mono ?_
            rintro e w6 ⟨rfl, hb6⟩
            have HB6 := Lib.hid (HB5.out.trans (hb6.mono HB5.out.size))
            clear hb6
            go_wp2_with fail
            refine (FD.out _).mono ?_
            rintro e w7 ⟨rfl, hb7⟩
            have HB7 := Lib.hid (HB6.out.trans (hb7.mono HB6.out.size))
            clear hb7
            go_wp2_with fail
            refine (FM.out _).mono ?_
            rintro e w8 ⟨rfl, hb8⟩
            have HB8 := Lib.hid (HB7.out.trans (hb8.mono HB7.out.size))
            clear hb8
            go_wp2_with fail
            refine (FU.out _).mono ?_
            rintro e w9 ⟨rfl, hb9⟩
            have HB9 := Lib.hid (HB8.out.trans (hb9.mono HB8.out.size))
            clear hb9
            go_wp2_with fail
            refine (FL0.out _).mono ?_
            rintro e w10 ⟨rfl, hb10⟩
            have HB10 := Lib.hid (HB9.out.trans (hb10.mono HB9.out.size))
            have HJ10 := Lib.hid (HW.out _ HB10.out)
            have l13 := HJ10.out.2.1
            clear hb10
            cases hz : FL.leZ h
            · have HAA := Lib.hid (HA6.out hz)
              have FQ := Lib.hid (FQ.out hz)
              clear hz
              go_wp2_with fail
              refine (FF.out _).mono ?_
              rintro e w11 ⟨rfl, hb11⟩
              have HB11 := Lib.hid (HB10.out.trans (hb11.mono HB10.out.size))
              clear hb11
              go_wp2_with fail
              refine (FQ.out _).mono ?_
              rintro e w12 ⟨rfl, hb12⟩
              have HJ12 := Lib.hid (HW.out _ (HB11.out.trans (hb12.mono HB11.out.size)))
              clear hb12
              go_wp2_with fail
              go_ret2
              exact ⟨_, _, rfl, HAA.out, HJ12.out.2.2.2.2.2⟩
            · have HAA := Lib.hid (HA5.out hz)
              clear hz
              go_wp2_with fail
              go_ret2
              exact ⟨0, _, rfl, HAA.out, HJ10.out.2.2.2.2.2⟩
    · have d0 : (s.kind != 3) = true := by simp [hk]
      have HAA := Lib.hid (HA2.out HK0.out hk)
      clear hk
      go_wp2_with fail
      go_ret2
      exact ⟨0, _, rfl, HAA.out, HJ.out.2.2.2.2.2⟩
  · have HAA := Lib.hid (HA1.out hk0)
    have dk : (kN != 0) = true := by simp [hk0]
    clear hk0
    go_wp2_with fail
    go_ret2
    exact ⟨0, _, rfl, HAA.out, HJ.out.2.2.2.2.2⟩
end Go.Proofs.YtmepjcnpbjdlkaaGreatDoor
/- the document's Tick by contract. -/
namespace Go.Proofs.YtmepjcnpbjdlkaaGreatDoor
set_option linter.unusedVariables false
set_option linter.unusedSimpArgs false
open Go.RowKit Go.Proofs.YtmepjcnpbjdlkaaGreatDoorW.PrintWords Go.Proofs.YtmepjcnpbjdlkaaGreatDoorW.PrintLast Go.Proofs.YtmepjcnpbjdlkaaGreatDoorW.PrintMore
open PPriceClean
attribute [local irreducible] Go.wpStill

theorem fParts0_any (a : Nat) (w : World) (h : a < 2 ^ 64) (hf : FL.rg a = 0) : Calls Tryz.prog 53 #[.int .u64 (a : Int)] w fun e w' => e = .returned (.tuple #[.bool (FL.neg a), .int .u64 0, .int .i64 (-1074)]) ∧ Below w.heap.size w w' :=
  (custodyref04_Parts.calls _ _ _ _ w (FL.parts_zero h hf)).mono fun e' w' ⟨k1, k2⟩ => ⟨k1, k2.below⟩
/-- half to even, as Rounded has it -/
theorem quo_rne (m Y : Nat) : DG.quo m Y 3 = FL.rne m Y := by
  unfold DG.quo DG.goesUp FL.rne
  congr 1
  by_cases h : Y < 2 * (m % Y) ∨ (Y = 2 * (m % Y) ∧ m / Y % 2 = 1)
  · rw [if_pos h, if_pos (decide_eq_true (.inr (.inr ⟨rfl, h⟩)))]
  · rw [if_neg h, if_neg]
    rw [decide_eq_true_eq]
    rintro (c | c | c)
    · omega
    · omega
    · exact h c.2
theorem v_zero {x : Nat} (h : FL.rg x = 0) : FL.vOf x = 0 := by
  unfold FL.vOf
  rw [FL.U_zero.2 h]
  have := FL.rne_exact 0 FL.ONE FL.one_pos
  rwa [Nat.zero_mul] at this
theorem v_whole {x m e k : Nat} (hu : m * 2 ^ e = FL.U x) (hk : e = k + 1074) : FL.vOf x = m * 2 ^ k := by
  obtain ⟨E, hE, hO⟩ := FL.one_is
  unfold FL.vOf
  have : FL.U x = m * 2 ^ k * FL.ONE := by
    rw [← hu, hO, hk, ← hE, Nat.pow_add, Nat.mul_assoc]
  rw [this, FL.rne_exact _ _ FL.one_pos]
theorem v_part {x m e k : Nat} (hu : m * 2 ^ e = FL.U x) (hk : 1074 = e + k) : FL.vOf x = FL.rne m (2 ^ k) := by
  obtain ⟨E, hE, hO⟩ := FL.one_is
  unfold FL.vOf
  refine FL.rne_eq FL.one_pos (Nat.two_pow_pos _) ?_
  rw [← hu, hO, show E = e + k by omega, Nat.pow_add, Nat.mul_assoc]
theorem bl_up {m L k : Nat} (h : DG.BL m L) (hm : m ≠ 0) : (63 < L + k) ↔ 2 ^ 63 ≤ m * 2 ^ k := by
  rcases Nat.lt_or_ge 63 k with c | c
  · constructor
    · intro _
      have : 2 ^ 63 ≤ 2 ^ k := Nat.pow_le_pow_right (by decide) (by omega)
      exact Nat.le_trans this (Nat.le_mul_of_pos_left _ (Nat.pos_of_ne_zero hm))
    · intro _; omega
  · obtain ⟨j, hj⟩ : ∃ j, 63 = j + k := ⟨63 - k, by omega⟩
    have := h j
    rw [hj, Nat.pow_add]
    have hp := Nat.two_pow_pos k
    constructor
    · intro hlt
      have : ¬ m < 2 ^ j := fun c => by have := this.2 c; omega
      exact Nat.mul_le_mul_right _ (by omega)
    · intro hle
      have : ¬ L ≤ j := fun c => by
        have := this.1 c
        have := Nat.mul_lt_mul_of_pos_right this hp
        omega
      omega
def RefTickP (p : Nat) (scale : Int) (w : World) (e : Ending) (w' : World) : Prop := ∃ z n, e = .returned (.tuple #[.int .i64 z, .int .i64 n]) ∧ TickIs p scale z n ∧ Below w.heap.size w w'
theorem len_two52 (k : Nat) (hk : k ≤ 2000) : (DG.dig (1 * 2 ^ k)).length ≤ 9000 := by
  obtain ⟨K, hK⟩ : ∃ K : Nat, K = 63 := ⟨_, rfl⟩
  refine Nat.le_trans (FL.len_pow (n := 1 * 2 ^ k) (k := K) ?_) (by omega)
  rw [Nat.one_mul]
  exact Nat.pow_lt_pow_right (by decide) (by omega)
theorem less0_any (p : Nat) (w : World) (hp : p < 2 ^ 64) (hf : FL.rg p < FL.INF) : Calls Tryz.prog 51 #[.int .u64 (p : Int), .int .u64 0] w fun e w' => e = .returned (.bool (decide (FL.S p < 0))) ∧ Below w.heap.size w w' := by
  have := fLess_any p 0 w hp (by decide) hf (by decide)
  rw [FL.S_0] at this
  exact this
theorem shl_nat {m k : Nat} (hm : m * 2 ^ k < 2 ^ 63) (hk : k ≤ 64) : shl .u64 (m : Int) (k : Int) = ((m * 2 ^ k : Nat) : Int) := by
  unfold shl
  have e1 : min (Int.toNat (k : Int)) (IntKind.bits .u64) = k := by simp [IntKind.bits]; omega
  have e2 : (m : Int) * 2 ^ k = ((m * 2 ^ k : Nat) : Int) := by rw [Int.natCast_mul, Int.natCast_pow]; rfl
  rw [e1, e2, DG.wu (by omega)]
set_option maxRecDepth 100000 in
set_option maxHeartbeats 8000000 in
theorem refTick_any (p : Nat) (scale : Int) (w : World) (hp : p < 2 ^ 64) : Calls Tryz.prog 17 #[.int .u64 (p : Int), .int .i64 scale] w (RefTickP p scale w) := by
  have HCL := Lib.hid (fun w => fClass_any p w hp)
  have hc0 : FL.INF < FL.rg p → FL.cls p = 0 := fun h => by unfold FL.cls; rw [if_pos h]
  have hc1 : FL.rg p = FL.INF → FL.cls p = 1 := fun h => FL.cls_inf h
  have hc2 : FL.rg p < FL.INF → FL.cls p ≠ 0 ∧ FL.cls p ≠ 1 := fun h => ⟨(FL.cls_fin h).1, (FL.cls_fin h).2.1⟩
  have hb1 : TickBad p scale → TickIs p scale 0 1 := fun h => .inl ⟨h, rfl, rfl⟩
  have hb2 : ¬ TickBad p scale → (FL.rg (tickX p scale) = FL.INF ∨ 2 ^ 63 ≤ FL.vOf (tickX p scale)) → TickIs p scale 0 9 := fun h k => .inr (.inl ⟨h, k, rfl, rfl⟩)
  have hb3 : ¬ TickBad p scale → ¬ (FL.rg (tickX p scale) = FL.INF ∨ 2 ^ 63 ≤ FL.vOf (tickX p scale)) → TickIs p scale (FL.vOf (tickX p scale)) 0 := fun h k => .inr (.inr ⟨h, k, rfl, rfl⟩)
  have HB1 := Lib.hid hb1
  have HB2 := Lib.hid hb2
  have HB3 := Lib.hid hb3
  clear hb1 hb2 hb3
  have HTF := Lib.hid (fun h => tick_facts (p := p) (scale := scale) h)
  have HLS := Lib.hid (fun h w => less0_any p w hp h)
  have HMU := Lib.hid (fun f w (h1 : f < 2 ^ 64) (h2 : FL.rg p < FL.INF) (h3 : FL.rg f < FL.INF) => fMul_any p f w hp h1 h2 h3)
  have HC0 := Lib.hid hc0
  have HC1 := Lib.hid hc1
  have HC2 := Lib.hid hc2
  have HZ := Lib.hid (Below.refl w.heap.size w)
  unfold RefTickP
  clear hc0 hc1 hc2 hp
  generalize FL.cls p = cR at *
  by_cases hn : FL.INF < FL.rg p
  · have dc : (cR == 0) = true := by rw [HC0.out hn]; rfl
    have HAA := Lib.hid (HB1.out (.inl (by omega)))
    clear hn
    go_enter Tryz.func17, Tryz.ntmps17
    go_wp2_with fail
    refine (HCL.out _).mono ?_
    rintro e w2 ⟨rfl, hb2⟩
    have HB := Lib.hid (HZ.out.trans (hb2.mono HZ.out.size))
    clear hb2
    go_wp2_with fail
    go_ret2
    exact ⟨_, _, rfl, HAA.out, HB.out⟩
  · by_cases hi : FL.rg p = FL.INF
    · have dc : (cR == 0) = false := by rw [HC1.out hi]; rfl
      have dc1 : (cR == 1) = true := by rw [HC1.out hi]; rfl
      have HAA := Lib.hid (HB1.out (.inl (by omega)))
      clear hn hi
      go_enter Tryz.func17, Tryz.ntmps17
      go_wp2_with fail
      refine (HCL.out _).mono ?_
      rintro e w2 ⟨rfl, hb2⟩
      have HB := Lib.hid (HZ.out.trans (hb2.mono HZ.out.size))
      clear hb2
      go_wp2_with fail
      refine (HCL.out _).mono ?_
      rintro e w3 ⟨rfl, hb3⟩
      have HB3 := Lib.hid (HB.out.trans (hb3.mono HB.out.size))
      clear hb3
      go_wp2_with fail
      go_ret2
      exact ⟨_, _, rfl, HAA.out, HB3.out⟩
    · have hfin : FL.rg p < FL.INF := by omega
      have hcc := HC2.out hfin
      have dc : (cR == 0) = false := by simp [hcc.1]
      have dc1 : (cR == 1) = false := by simp [hcc.2]
      have HLS := Lib.hid (HLS.out hfin)
      have HFN := Lib.hid hfin
      clear hn hi hcc
      go_enter Tryz.func17, Tryz.ntmps17
      go_wp2_with fail
      refine (HCL.out _).mono ?_
      rintro e w2 ⟨rfl, hb2⟩
      have HB2' := Lib.hid (HZ.out.trans (hb2.mono HZ.out.size))
      clear hb2
      go_wp2_with fail
      refine (HCL.out _).mono ?_
      rintro e w3 ⟨rfl, hb3⟩
      have HB3' := Lib.hid (HB2'.out.trans (hb3.mono HB2'.out.size))
      clear hb3
      go_wp2_with fail
      refine (HLS.out _).mono ?_
      rintro e w4 ⟨rfl, hb4⟩
      have HB4 := Lib.hid (HB3'.out.trans (hb4.mono HB3'.out.size))
      clear hb4 HCL HC0 HC1 HC2
      by_cases h0 : FL.S p < 0
      · rw [decide_eq_true h0]
        have HAA := Lib.hid (HB1.out (.inr (.inl h0)))
        clear h0 hfin
        go_wp2_with fail
        go_ret2
        exact ⟨_, _, rfl, HAA.out, HB4.out⟩
      · rw [decide_eq_false h0]
        by_cases h1 : scale < 0
        · have d1 : decide (scale < 0) = true := decide_eq_true h1
          have HAA := Lib.hid (HB1.out (.inr (.inr (.inl h1))))
          clear h0 h1 hfin
          go_wp2_with fail
          go_ret2
          exact ⟨_, _, rfl, HAA.out, HB4.out⟩
        · have d1 : decide (scale < 0) = false := decide_eq_false h1
          by_cases h2 : 18 < scale
          · have d2 : decide (scale > 18) = true := decide_eq_true h2
            have HAA := Lib.hid (HB1.out (.inr (.inr (.inr h2))))
            clear h0 h1 h2 hfin
            go_wp2_with fail
            go_ret2
            exact ⟨_, _, rfl, HAA.out, HB4.out⟩
          · have d2 : decide (scale > 18) = false := decide_eq_false h2
            have hgood : ¬ TickBad p scale := by
              unfold TickBad
              rintro (c | c | c | c)
              · exact c hfin
              · exact h0 c
              · exact h1 c
              · exact h2 c
            obtain ⟨t1, t2, t3, t4, t5, t6, t7, t8⟩ := HTF.out hgood
            have HB2 := Lib.hid (HB2.out hgood)
            have HB3 := Lib.hid (HB3.out hgood)
            obtain ⟨k, hk⟩ := Int.eq_ofNat_of_zero_le (show 0 ≤ scale by omega)
            have hsk : scale.toNat = k := by omega
            have hT := fun w => refTen_any k w (by omega)
            have hten := ten18 k (by omega)
            have hFI := fun w => fFromInt_any ((10 ^ k : Nat) : Int) w (by omega) (by omega)
            have fM := FL.fint_facts (n := ((10 ^ k : Nat) : Int)) (by omega) (by omega)
            have hMU := fun w => HMU.out (FL.fint ((10 ^ k : Nat) : Int)) w fM.2.2.1 HFN.out fM.1
            have hX : FL.fmul p (FL.fint ((10 ^ k : Nat) : Int)) = tickX p scale := by unfold tickX; rw [hsk]
            rw [hX] at hMU
            generalize ((10 ^ k : Nat) : Int) = M at hT hFI hMU
            have HT := Lib.hid hT
            have HFI := Lib.hid hFI
            have HMU := Lib.hid hMU
            have HX1 := Lib.hid (fun w => fClass_any (tickX p scale) w t6)
            have HX2 := Lib.hid (fun w h => fParts_any (tickX p scale) w t6 h)
            have HX3 := Lib.hid (fun w h => fParts0_any (tickX p scale) w t6 h)
            have HX4 := Lib.hid (fun h => FL.cls_inf (a := tickX p scale) h)
            have HX5 := Lib.hid (fun h => (FL.cls_fin (a := tickX p scale) h).2.1)
            have HX6 := Lib.hid (fun m e k hu hk => v_whole (x := tickX p scale) (m := m) (e := e) (k := k) hu hk)
            have HX7 := Lib.hid (fun m e k hu hk => v_part (x := tickX p scale) (m := m) (e := e) (k := k) hu hk)
            have HX8 := Lib.hid (fun h => v_zero (x := tickX p scale) h)
            clear hgood h0 h1 h2 hfin HTF HB1 hT hFI hMU hX fM hten hsk t1 t2 t3 t4 t6 t7 t8
            generalize tickX p scale = X at *
            generalize FL.cls X = cX at *
            subst hk
            go_wp2_with fail
            refine (HT.out _).mono ?_
            rintro e w5 ⟨rfl, rfl⟩
            go_wp2_with fail
            refine (HFI.out _).mono ?_
            rintro e w6 ⟨rfl, hb6⟩
            have HB6 := Lib.hid (HB4.out.trans (hb6.mono HB4.out.size))
            clear hb6
            go_wp2_with fail
            refine (HMU.out _).mono ?_
            rintro e w7 ⟨rfl, hb7⟩
            have HB7 := Lib.hid (HB6.out.trans (hb7.mono HB6.out.size))
            clear hb7
            go_wp2_with fail
            refine (HX1.out _).mono ?_
            rintro e w8 ⟨rfl, hb8⟩
            have HB8 := Lib.hid (HB7.out.trans (hb8.mono HB7.out.size))
            clear hb8 HT HFI HMU HX1
            by_cases hXi : FL.rg X = FL.INF
            · have dx : (cX == 1) = true := by rw [HX4.out hXi]; rfl
              have HAA := Lib.hid (HB2.out (.inl hXi))
              clear hXi t5
              go_wp2_with fail
              go_ret2
              exact ⟨_, _, rfl, HAA.out, HB8.out⟩
            · have hXf : FL.rg X < FL.INF := by omega
              have dx : (cX == 1) = false := by have := HX5.out hXf; simp [this]
              have HOV := Lib.hid (fun h : 2 ^ 63 ≤ FL.vOf X => HB2.out (.inr h))
              have HOK := Lib.hid (fun h : ¬ 2 ^ 63 ≤ FL.vOf X => HB3.out (fun c => c.elim hXi h))
              by_cases hX0 : FL.rg X = 0
              · have hv := HX8.out hX0
                have HAA := Lib.hid (by have := HOK.out (by rw [hv]; decide); rw [hv] at this; exact this)
                have HPZ := Lib.hid (fun w => HX3.out w hX0)
                clear hXi hXf hX0 hv t5
                go_wp2_with fail
                refine (HPZ.out _).mono ?_
                rintro e w9 ⟨rfl, hb9⟩
                have HB9 := Lib.hid (HB8.out.trans (hb9.mono HB8.out.size))
                clear hb9
                go_wp2_with fail
                refine (refList_any 0 _ (by decide)).mono ?_
                rintro e w10 ⟨v10, rfl, hU10, hb10⟩
                have HB10 := Lib.hid (HB9.out.trans (hb10.mono HB9.out.size))
                have HU10 := Lib.hid hU10
                clear hb10 hU10
                go_wp2_with fail
                refine (refList_any 1 _ (by decide)).mono ?_
                rintro e w11 ⟨v11, rfl, hU11, hb11⟩
                have HB11 := Lib.hid (HB10.out.trans (hb11.mono HB10.out.size))
                have HU10 := Lib.hid (HU10.out.below hb11)
                have HU11 := Lib.hid hU11
                clear hb11 hU11
                go_wp2_with fail
                refine (fUp_any 1 1074 _ _ (by rw [DG.dig_one]; decide) (by decide) HU11.out).mono ?_
                rintro e w12 ⟨v12, rfl, hU12, hb12⟩
                have HB12 := Lib.hid (HB11.out.trans (hb12.mono HB11.out.size))
                have HU10 := Lib.hid (HU10.out.below hb12)
                obtain ⟨K, hK⟩ : ∃ K : Nat, K = 1074 := ⟨_, rfl⟩
                rw [← hK] at hU12
                have HU12 := Lib.hid hU12
                have hle := len_two52 K (by omega)
                have hRD := fun w (h1 : Ur w v10 (DG.dig 0)) (h2 : Ur w v12 (DG.dig (1 * 2 ^ K))) => refRounded_any 0 (1 * 2 ^ K) 3 w h1 h2 (by rw [Nat.one_mul]; exact Nat.two_pow_pos _) (by rw [DG.dig_zero]; decide) hle
                have hr : DG.rounded 0 (1 * 2 ^ K) 3 = (0, 0) := by
                  unfold DG.rounded
                  rw [quo_rne]
                  have := FL.rne_exact 0 (1 * 2 ^ K) (by rw [Nat.one_mul]; exact Nat.two_pow_pos _)
                  rw [Nat.zero_mul] at this
                  rw [this]
                  rfl
                rw [hr] at hRD
                have HRD := Lib.hid hRD
                clear hb12 hU12 hK hle hRD hr
                go_wp2_with fail
                refine (HRD.out _ HU10.out HU12.out).mono ?_
                rintro e w13 ⟨rfl, hb13⟩
                have HB13 := Lib.hid (HB12.out.trans (hb13.mono HB12.out.size))
                clear hb13
                go_wp2_with fail
                go_ret2
                exact ⟨_, _, rfl, HAA.out, HB13.out⟩
              · have HPZ := Lib.hid (fun w => HX2.out w hXf)
                have HX0 := Lib.hid hX0
                clear hXi hXf hX0 t5
                go_wp2_with fail
                refine (HPZ.out _).mono ?_
                rintro e w9 ⟨m, e', rfl, hu, hm, he, hmz, hb9⟩
                have HB9 := Lib.hid (HB8.out.trans (hb9.mono HB8.out.size))
                have hm0 : m ≠ 0 := fun c => HX0.out (hmz.1 c)
                have HL1 := Lib.hid (fun w => refList_any m w (by omega))
                clear hb9 hmz
                by_cases he0 : 1074 ≤ e'
                · obtain ⟨j, hj⟩ : ∃ j : Nat, e' = j + 1074 := ⟨e' - 1074, by omega⟩
                  have hv := HX6.out m e' j hu hj
                  obtain ⟨L, hL⟩ := DG.exists_BL m
                  have hup := bl_up (k := j) hL hm0
                  have hL64 : L ≤ 32 * 2 := DG.bl_len hL (FL.len53 hm)
                  have hEj : (-1074 : Int) + (e' : Int) = (j : Int) := by omega
                  rw [hEj]
                  have dg : decide ((j : Int) ≥ 0) = true := decide_eq_true (by omega)
                  have HBI := Lib.hid (fun v w (h : Ur w v (DG.dig m)) => fBits_any m L v w (Nat.le_trans (FL.len53 hm) (by decide)) hL h)
                  by_cases ho : 2 ^ 63 ≤ FL.vOf X
                  · have HAA := Lib.hid (HOV.out ho)
                    rw [hv] at ho
                    have ho2 := hup.2 ho
                    have do_ : decide ((L : Int) + (j : Int) > 63) = true := decide_eq_true (by omega)
                    have hj971 : j ≤ 971 := by omega
                    clear hv hL hup ho hu hm hm0 hEj hj he0 ho2
                    go_wp2_with fail
                    refine (HL1.out _).mono ?_
                    rintro e w10 ⟨v10, rfl, hU10, hb10⟩
                    have HB10 := Lib.hid (HB9.out.trans (hb10.mono HB9.out.size))
                    have HU10 := Lib.hid hU10
                    clear hb10 hU10
                    go_wp2_with fail
                    refine (HBI.out _ _ HU10.out).mono ?_
                    rintro e w11 ⟨rfl, hb11⟩
                    have HB11 := Lib.hid (HB10.out.trans (hb11.mono HB10.out.size))
                    clear hb11
                    go_wp2_with fail
                    go_ret2
                    exact ⟨_, _, rfl, HAA.out, HB11.out⟩
                  · have HAA := Lib.hid (HOK.out ho)
                    rw [hv] at ho HAA
                    have ho2 : ¬ 63 < L + j := fun c => ho (hup.1 c)
                    have do_ : decide ((L : Int) + (j : Int) > 63) = false := decide_eq_false (by omega)
                    have hj64 : j ≤ 64 := by omega
                    have hsh := shl_nat (m := m) (k := j) (by omega) hj64
                    generalize hW : m * 2 ^ j = W at *
                    have hpw : (m : Int) * 2 ^ j = (W : Int) := by rw [← hW, Int.natCast_mul, Int.natCast_pow]; rfl
                    have hww : wrap64 (IntKind.u64.wrap ((m : Int) * 2 ^ j)) = (W : Int) := by rw [hpw, DG.wu (by omega), DG.w64 (by omega) (by omega)]
                    rw [← hww] at HAA
                    clear hsh hpw hww hW
                    clear hv hL hup ho hu hm hm0 hEj hj he0 ho2
                    go_wp2_with fail
                    refine (HL1.out _).mono ?_
                    rintro e w10 ⟨v10, rfl, hU10, hb10⟩
                    have HB10 := Lib.hid (HB9.out.trans (hb10.mono HB9.out.size))
                    have HU10 := Lib.hid hU10
                    clear hb10 hU10
                    go_wp2_with fail
                    refine (HBI.out _ _ HU10.out).mono ?_
                    rintro e w11 ⟨rfl, hb11⟩
                    have HB11 := Lib.hid (HB10.out.trans (hb11.mono HB10.out.size))
                    clear hb11
                    go_wp2_with fail
                    go_ret2
                    exact ⟨_, _, rfl, HAA.out, HB11.out⟩
                · obtain ⟨j, hj⟩ : ∃ j : Nat, 1074 = e' + j := ⟨1074 - e', by omega⟩
                  have hv := HX7.out m e' j hu hj
                  have hEj : (-1074 : Int) + (e' : Int) = -(j : Int) := by omega
                  rw [hEj]
                  have hj0 : 1 ≤ j := by omega
                  have hj1 : j ≤ 1074 := by omega
                  have dg : decide (-(j : Int) ≥ 0) = false := decide_eq_false (by omega)
                  have hle := len_two52 j (by omega)
                  have hRD := fun v10 v12 w (h1 : Ur w v10 (DG.dig m)) (h2 : Ur w v12 (DG.dig (1 * 2 ^ j))) => refRounded_any m (1 * 2 ^ j) 3 w h1 h2 (by rw [Nat.one_mul]; exact Nat.two_pow_pos _) (Nat.le_trans (FL.len53 hm) (by decide)) hle
                  have hr : TickIs p k (DG.rounded m (1 * 2 ^ j) 3).1 (DG.rounded m (1 * 2 ^ j) 3).2 := by
                    unfold DG.rounded
                    rw [quo_rne, Nat.one_mul, ← hv]
                    by_cases ho : FL.vOf X < 9223372036854775808
                    · rw [if_pos ho]; exact HOK.out (by omega)
                    · rw [if_neg ho]; exact HOV.out (by omega)
                  have HR := Lib.hid hr
                  have HRD := Lib.hid hRD
                  have HUP := Lib.hid (fun v w (h : Ur w v (DG.dig 1)) => fUp_any 1 j v w (by rw [DG.dig_one]; decide) (by omega) h)
                  generalize DG.rounded m (1 * 2 ^ j) 3 = RR at *
                  clear hv hu hm hm0 hEj hj he0 hle hRD hr
                  go_wp2_with fail
                  refine (HL1.out _).mono ?_
                  rintro e w10 ⟨v10, rfl, hU10, hb10⟩
                  have HB10 := Lib.hid (HB9.out.trans (hb10.mono HB9.out.size))
                  have HU10 := Lib.hid hU10
                  clear hb10 hU10
                  go_wp2_with fail
                  refine (refList_any 1 _ (by decide)).mono ?_
                  rintro e w11 ⟨v11, rfl, hU11, hb11⟩
                  have HB11 := Lib.hid (HB10.out.trans (hb11.mono HB10.out.size))
                  have HU10 := Lib.hid (HU10.out.below hb11)
                  have HU11 := Lib.hid hU11
                  clear hb11 hU11
                  go_wp2_with fail
                  refine (HUP.out _ _ HU11.out).mono ?_
                  rintro e w12 ⟨v12, rfl, hU12, hb12⟩
                  have HB12 := Lib.hid (HB11.out.trans (hb12.mono HB11.out.size))
                  have HU10 := Lib.hid (HU10.out.below hb12)
                  have HU12 := Lib.hid hU12
                  clear hb12 hU12
                  go_wp2_with fail
                  refine (HRD.out _ _ _ HU10.out HU12.out).mono ?_
                  rintro e w13 ⟨rfl, hb13⟩
                  have HB13 := Lib.hid (HB12.out.trans (hb13.mono HB12.out.size))
                  clear hb13
                  go_wp2_with fail
                  go_ret2
                  exact ⟨_, _, rfl, HR.out, HB13.out⟩
end Go.Proofs.YtmepjcnpbjdlkaaGreatDoor
/- a call of a function of the model's own, as one operation. -/
namespace Go.Proofs.YtmepjcnpbjdlkaaGreatDoor
set_option linter.unusedVariables false
set_option linter.unusedSimpArgs false
open Go.RowKit
attribute [local irreducible] Go.wpStill

theorem exec_ext {P : Program} {w : World} {a : Act} {o : Oper} {x : Operand} {f : FuncId} {t : TypeId} {v r : Value} (ho : o.op = .call { callee := .value (.func f), args := #[x], argTypes := #[t] }) (hx : a.eval x = v) (hr : (callFunc f #[v]).run P w = .ok (.value r) w) : (execOp a.eval o).run P w = .ok (.value r) w := by
  have hf : a.eval (.func f) = .func (.func f) #[] #[] := rfl
  generalize a.eval = ev at hx hf ⊢
  unfold execOp
  rw [ho]
  simp [go_sem, hx, hf, hr]
end Go.Proofs.YtmepjcnpbjdlkaaGreatDoor
