/- texts of this claim, laid together: PriceParts. -/
import Derived.Test.YtmepjcnpbjdlkaaGreatDoorQbWorksP
/- the law PriceParts by contract. -/
namespace Go.Proofs.YtmepjcnpbjdlkaaGreatDoor
set_option linter.unusedVariables false
set_option linter.unusedSimpArgs false
open Go.RowKit
attribute [local irreducible] Go.wpStill

theorem bond_less (at_ scale : Int) : cleanR bondV (-1) at_ scale 0 = (0, 1) := by
  unfold cleanR
  rw [if_neg (by rw [bond_ok]; decide), if_neg (by decide), if_pos (.inl (by decide))]
set_option maxRecDepth 100000 in
set_option maxHeartbeats 16000000 in
theorem priceParts_any (s : SecV) (q r at_ scale day : Int) (w : World) (hcs : s.cur.size ≤ 140737488351232) (hok : Ok w) (hq : q < 9223372036854775808) (hr : r < 9223372036854775808) (hql : -9223372036854775808 ≤ q) (hrl : -9223372036854775808 ≤ r) (hp : at_ < 9223372036854775808) (hf : s.face < 9223372036854775808) : Calls Tryz.prog 7 #[.agg (secC s), .int .i64 q, .int .i64 r, .int .i64 at_, .int .i64 scale, .int .i64 day] w (FlatP true w) := by
  have HW := Lib.hid (fun w hok => worksP_any w hok)
  have HB := Lib.hid (fun w => bondLit_any w)
  have hc0 := fun w hok => clean_any bondV (-1) at_ scale 0 w (by decide) hok (by decide) hp (by decide)
  unfold CleanP at hc0
  rw [bond_less] at hc0
  obtain ⟨R, hR⟩ : ∃ R : Int → Int → Int × Int, ∀ i x, cleanR s x at_ scale i = R i x := ⟨fun i x => cleanR s x at_ scale i, fun _ _ => rfl⟩
  have hc : ∀ (i x : Int) (w : World), Ok w → x < 9223372036854775808 → Calls Tryz.prog 28 #[.agg (secC s), .int .i64 x, .int .i64 at_, .int .i64 scale, .int .i64 i] w fun e w' => ∃ v2, e = .returned (.tuple #[.int .i64 (R i x).1, v2]) ∧ ErrP v2 (R i x).2 none ∧ Below w.heap.size w w' := fun i x w hok hx => by
    have := clean_any s x at_ scale i w hcs hok hx hp hf
    unfold CleanP at this
    rw [hR] at this
    exact this
  have ha := fun (i x : Int) (w : World) hok hx => accrued_any s x day i w hcs hok hx hf
  unfold AccP at ha
  have hpa := fun (i a e b f t g : Int) (hi : i = 0 ∨ i = 1) h0 h0' h1 h2 h3 => acc_parts (s := s) (q := q) (r := r) (day := day) (mode := i) (a := a) (e := e) (b := b) (f := f) (t := t) (g := g) h0 h0' hi h1 h2 h3
  have hpc := fun (i : Int) (hi : i = 0 ∨ i = 1) h0 h0' => clean_parts s q r at_ scale i h0 h0' hi
  unfold PartsOk at hpa hpc
  simp only [hR] at hpc
  clear hR
  have HSZ := Lib.hid (show (Tryz.prog.info? 25).map (·.size) = some (secC s).size by kernel_rfl)
  have HG := Lib.hid (heap_alloc_new w (.cells (secC s) 25))
  have HZ0 := Lib.hid ((Below.refl w.heap.size w).alloc (Nat.le_refl _) (.cells (secC s) 25))
  have HOK := Lib.hid hok
  have HC0 := Lib.hid hc0
  have HC := Lib.hid hc
  have HA := Lib.hid ha
  have HPA := Lib.hid hpa
  have HPC := Lib.hid hpc
  clear hc0 hc ha hpa hpc hok hcs hp hf
  generalize AccIs s = AI at *
  generalize secC s = SV at *
  generalize secC bondV = BV at *
  go_enter Tryz.func7, Tryz.ntmps7
  go_wp2_with fail
  refine (HW.out _ (HOK.out.below HZ0.out)).mono ?_
  rintro e w1 ⟨rfl, hb1⟩
  have HY := Lib.hid hb1
  clear hb1 HW
  by_cases hneg : q < 0 ∨ r < 0 ∨ 9223372036854775807 - r < q
  · by_cases g0 : q < 0
    · have d0 : decide (q < 0) = true := decide_eq_true g0
      clear hneg g0
      go_wp2_with fail
      refine (HB.out _).mono ?_
      rintro e w2 ⟨rfl, hb2⟩
      have HY2 := Lib.hid (HY.out.trans (hb2.mono HY.out.size))
      clear hb2
      go_wp2_with fail
      refine (HC0.out _ (HOK.out.below (HZ0.out.trans (HY2.out.mono (by simp))))).mono ?_
      rintro e w3 ⟨v3, rfl, hE, hb3⟩
      have HE := Lib.hid hE
      have HY3 := Lib.hid (HY2.out.trans (hb3.mono HY2.out.size))
      have HX3 := Lib.hid (HZ0.out.trans (HY3.out.mono (by simp)))
      clear hE hb3
      go_wp2_with fail
      refine (plain_any v3 1 1 none true w3 HE.out (by simp) (HOK.out.below HX3.out).1).mono ?_
      rintro e w4 ⟨rfl, hb4⟩
      have HX4 := Lib.hid (HX3.out.trans (hb4.mono HX3.out.size))
      clear hb4
      go_wp2_with fail
      go_ret
      exact ⟨rfl, HX4.out⟩
    · have d0 : decide (q < 0) = false := decide_eq_false g0
      by_cases g1 : r < 0
      · have d1 : decide (r < 0) = true := decide_eq_true g1
        clear hneg g0 g1
        go_wp2_with fail
        refine (HB.out _).mono ?_
        rintro e w2 ⟨rfl, hb2⟩
        have HY2 := Lib.hid (HY.out.trans (hb2.mono HY.out.size))
        clear hb2
        go_wp2_with fail
        refine (HC0.out _ (HOK.out.below (HZ0.out.trans (HY2.out.mono (by simp))))).mono ?_
        rintro e w3 ⟨v3, rfl, hE, hb3⟩
        have HE := Lib.hid hE
        have HY3 := Lib.hid (HY2.out.trans (hb3.mono HY2.out.size))
        have HX3 := Lib.hid (HZ0.out.trans (HY3.out.mono (by simp)))
        clear hE hb3
        go_wp2_with fail
        refine (plain_any v3 1 1 none true w3 HE.out (by simp) (HOK.out.below HX3.out).1).mono ?_
        rintro e w4 ⟨rfl, hb4⟩
        have HX4 := Lib.hid (HX3.out.trans (hb4.mono HX3.out.size))
        clear hb4
        go_wp2_with fail
        go_ret
        exact ⟨rfl, HX4.out⟩
      · have d1 : decide (r < 0) = false := decide_eq_false g1
        have r0 : 0 ≤ r := by omega
        have d2 : decide (q > 9223372036854775807 - r) = true := decide_eq_true (by omega)
        clear hneg g0 g1
        go_wp2_with fail
        refine (HB.out _).mono ?_
        rintro e w2 ⟨rfl, hb2⟩
        have HY2 := Lib.hid (HY.out.trans (hb2.mono HY.out.size))
        clear hb2
        go_wp2_with fail
        refine (HC0.out _ (HOK.out.below (HZ0.out.trans (HY2.out.mono (by simp))))).mono ?_
        rintro e w3 ⟨v3, rfl, hE, hb3⟩
        have HE := Lib.hid hE
        have HY3 := Lib.hid (HY2.out.trans (hb3.mono HY2.out.size))
        have HX3 := Lib.hid (HZ0.out.trans (HY3.out.mono (by simp)))
        clear hE hb3
        go_wp2_with fail
        refine (plain_any v3 1 1 none true w3 HE.out (by simp) (HOK.out.below HX3.out).1).mono ?_
        rintro e w4 ⟨rfl, hb4⟩
        have HX4 := Lib.hid (HX3.out.trans (hb4.mono HX3.out.size))
        clear hb4
        go_wp2_with fail
        go_ret
        exact ⟨rfl, HX4.out⟩
  · have d0 : decide (q < 0) = false := decide_eq_false (by omega)
    have d1 : decide (r < 0) = false := decide_eq_false (by omega)
    have q0 : 0 ≤ q := by omega
    have r0 : 0 ≤ r := by omega
    have d2 : decide (q > 9223372036854775807 - r) = false := decide_eq_false (by omega)
    have hs : q + r ≤ 9223372036854775807 := by omega
    have HQ := Lib.hid hq
    have HR := Lib.hid hr
    have HQR := Lib.hid (show q + r < 9223372036854775808 by omega)
    have HPA := Lib.hid (fun i a e b f t g hi => HPA.out i a e b f t g hi q0 r0)
    have HPC := Lib.hid (fun i hi => HPC.out i hi q0 r0)
    clear hneg HC0 HB
    go_wp2_with fail
    go_loopw [15, 16, 17, 18, 19, 20, 21] (fun m x1 x2 x3 x4 x5 x6 wr => ∃ i : Int, m = .int .i64 i ∧ 0 ≤ i ∧ i ≤ 2 ∧ Below (w.alloc (.cells SV 25)).heap.size (w.alloc (.cells SV 25)) wr) (fun m _ _ _ _ _ _ _ => 2 - (intOf m).toNat)
    case atStart => exact ⟨0, rfl, by decide, by decide, HY.out⟩
    case round =>
      obtain ⟨i, rfl, hi0, hi2, hy⟩ := hrel
      have HY0 := Lib.hid hy
      clear hy HY
      by_cases hlt : i ≤ 1
      · have hd : decide (i ≤ 1) = true := decide_eq_true hlt
        have HI := Lib.hid (show i = 0 ∨ i = 1 by omega)
        clear hi2
        have HG0 := Lib.hid (rowAt_below HG.out HY0.out)
        go_wp2_with (refine wpList_val (.agg SV) (by kernel_rfl) (exec_load_row HG0.out rfl rfl Tryz.underlying25 rfl HSZ.out) ?_)
        refine (HC.out i q wr (HOK.out.below (HZ0.out.trans (HY0.out.mono (by simp)))) HQ.out).mono ?_
        rintro e w1 ⟨v1, rfl, hE1, hb1⟩
        have HY1 := Lib.hid (HY0.out.trans (hb1.mono HY0.out.size))
        have HG1 := Lib.hid (rowAt_below HG.out HY1.out)
        have HE1 := Lib.hid hE1
        clear hE1 hb1
        go_wp2_with (refine wpList_val (.agg SV) (by kernel_rfl) (exec_load_row HG1.out rfl rfl Tryz.underlying25 rfl HSZ.out) ?_)
        refine (HC.out i r w1 (HOK.out.below (HZ0.out.trans (HY1.out.mono (by simp)))) HR.out).mono ?_
        rintro e w2 ⟨v2, rfl, hE2, hb2⟩
        have HY2 := Lib.hid (HY1.out.trans (hb2.mono HY1.out.size))
        have HG2 := Lib.hid (rowAt_below HG.out HY2.out)
        have HE2 := Lib.hid hE2
        clear hE2 hb2
        go_wp2_with (refine wpList_val (.agg SV) (by kernel_rfl) (exec_load_row HG2.out rfl rfl Tryz.underlying25 rfl HSZ.out) ?_)
        refine (HC.out i (q + r) w2 (HOK.out.below (HZ0.out.trans (HY2.out.mono (by simp)))) HQR.out).mono ?_
        rintro e w3 ⟨v3, rfl, hE3, hb3⟩
        have HY3 := Lib.hid (HY2.out.trans (hb3.mono HY2.out.size))
        have HG3 := Lib.hid (rowAt_below HG.out HY3.out)
        have hE1 := HE1.out
        have hE2 := HE2.out
        obtain ⟨p1, p2, p3, p4, p5, p6, hPO⟩ := HPC.out i HI.out
        clear hb3 HE1 HE2 HG0 HG1 HG2
        generalize R i q = R1 at *
        generalize R i r = R2 at *
        generalize R i (q + r) = R3 at *
        obtain ⟨r1, e1⟩ := R1
        obtain ⟨r2, e2⟩ := R2
        obtain ⟨r3, e3⟩ := R3
        dsimp only at *
        by_cases hg : e3 = 0
        · obtain ⟨he, hf, n0, n1⟩ := hPO hg
          obtain ⟨rfl, _⟩ := hE1.zero he
          obtain ⟨rfl, _⟩ := hE2.zero hf
          obtain ⟨rfl, _⟩ := hE3.zero hg
          have HNE := Lib.hid (near_any r1 r2 r3 i w3 ⟨p1, p2⟩ ⟨p3, p4⟩ ⟨p5, p6⟩ n0 n1)
          clear hg he hf n0 n1 hPO hE1 hE2 hE3 p1 p2 p3 p4 p5 p6
          go_wp2_with fail
          refine HNE.out.mono ?_
          rintro e w3 ⟨rfl, rfl⟩
          go_wp2_with (refine wpList_val (.agg SV) (by kernel_rfl) (exec_load_row HG3.out rfl rfl Tryz.underlying25 rfl HSZ.out) ?_)
          refine (HA.out i q w3 (HOK.out.below (HZ0.out.trans (HY3.out.mono (by simp)))) HQ.out).mono ?_
          rintro e w4 ⟨z1, u1, n1, rfl, hE1, hA1, hb4⟩
          have HY4 := Lib.hid (HY3.out.trans (hb4.mono HY3.out.size))
          have HG4 := Lib.hid (rowAt_below HG.out HY4.out)
          have HE1 := Lib.hid hE1
          have HA1 := Lib.hid hA1
          clear hE1 hA1 hb4
          go_wp2_with (refine wpList_val (.agg SV) (by kernel_rfl) (exec_load_row HG4.out rfl rfl Tryz.underlying25 rfl HSZ.out) ?_)
          refine (HA.out i r w4 (HOK.out.below (HZ0.out.trans (HY4.out.mono (by simp)))) HR.out).mono ?_
          rintro e w5 ⟨z2, u2, n2, rfl, hE2, hA2, hb5⟩
          have HY5 := Lib.hid (HY4.out.trans (hb5.mono HY4.out.size))
          have HG5 := Lib.hid (rowAt_below HG.out HY5.out)
          have HE2 := Lib.hid hE2
          have HA2 := Lib.hid hA2
          clear hE2 hA2 hb5
          go_wp2_with (refine wpList_val (.agg SV) (by kernel_rfl) (exec_load_row HG5.out rfl rfl Tryz.underlying25 rfl HSZ.out) ?_)
          refine (HA.out i (q + r) w5 (HOK.out.below (HZ0.out.trans (HY5.out.mono (by simp)))) HQR.out).mono ?_
          rintro e w6 ⟨z3, u3, n3, rfl, hE3, hA3, hb6⟩
          have HY6 := Lib.hid (HY5.out.trans (hb6.mono HY5.out.size))
          have hE1 := HE1.out
          have hE2 := HE2.out
          obtain ⟨p1, p2, p3, p4, p5, p6, hPO⟩ := HPA.out i z1 n1 z2 n2 z3 n3 HI.out HA1.out HA2.out hA3
          clear hA3 hb6 HE1 HE2 HA1 HA2 HG4 HG5 HG3
          by_cases hg : n3 = 0
          · obtain ⟨he, hf, m0, m1⟩ := hPO hg
            obtain ⟨rfl, _⟩ := hE1.zero he
            obtain ⟨rfl, _⟩ := hE2.zero hf
            obtain ⟨rfl, _⟩ := hE3.zero hg
            have HNE := Lib.hid (near_any z1 z2 z3 i w6 ⟨p1, p2⟩ ⟨p3, p4⟩ ⟨p5, p6⟩ m0 m1)
            clear hg he hf m0 m1 hPO hE1 hE2 hE3 p1 p2 p3 p4 p5 p6
            go_wp2_with fail
            refine HNE.out.mono ?_
            rintro e w6 ⟨rfl, rfl⟩
            go_wp2_with fail
            refine ⟨⟨i + 1, by go_num, by omega, by omega, HY6.out⟩, by simp [intOf]; omega⟩
          · obtain ⟨t21, x21, rfl⟩ := hE3.held hg
            by_cases he : n1 = 0
            · obtain ⟨rfl, _⟩ := hE1.zero he
              by_cases hf : n2 = 0
              · obtain ⟨rfl, _⟩ := hE2.zero hf
                clear hg he hf hPO hE1 hE2 hE3 p1 p2 p3 p4 p5 p6
                go_wp2_with fail
                refine ⟨⟨i + 1, by go_num, by omega, by omega, HY6.out⟩, by simp [intOf]; omega⟩
              · obtain ⟨t19, x19, rfl⟩ := hE2.held hf
                clear hg he hf hPO hE1 hE2 hE3 p1 p2 p3 p4 p5 p6
                go_wp2_with fail
                refine ⟨⟨i + 1, by go_num, by omega, by omega, HY6.out⟩, by simp [intOf]; omega⟩
            · obtain ⟨t17, x17, rfl⟩ := hE1.held he
              by_cases hf : n2 = 0
              · obtain ⟨rfl, _⟩ := hE2.zero hf
                clear hg he hf hPO hE1 hE2 hE3 p1 p2 p3 p4 p5 p6
                go_wp2_with fail
                refine ⟨⟨i + 1, by go_num, by omega, by omega, HY6.out⟩, by simp [intOf]; omega⟩
              · obtain ⟨t19, x19, rfl⟩ := hE2.held hf
                clear hg he hf hPO hE1 hE2 hE3 p1 p2 p3 p4 p5 p6
                go_wp2_with fail
                refine ⟨⟨i + 1, by go_num, by omega, by omega, HY6.out⟩, by simp [intOf]; omega⟩
        · obtain ⟨t21, x21, rfl⟩ := hE3.held hg
          by_cases he : e1 = 0
          · obtain ⟨rfl, _⟩ := hE1.zero he
            by_cases hf : e2 = 0
            · obtain ⟨rfl, _⟩ := hE2.zero hf
              clear hg he hf hPO hE1 hE2 hE3 p1 p2 p3 p4 p5 p6
              go_wp2_with (refine wpList_val (.agg SV) (by kernel_rfl) (exec_load_row HG3.out rfl rfl Tryz.underlying25 rfl HSZ.out) ?_)
              refine (HA.out i q w3 (HOK.out.below (HZ0.out.trans (HY3.out.mono (by simp)))) HQ.out).mono ?_
              rintro e w4 ⟨z1, u1, n1, rfl, hE1, hA1, hb4⟩
              have HY4 := Lib.hid (HY3.out.trans (hb4.mono HY3.out.size))
              have HG4 := Lib.hid (rowAt_below HG.out HY4.out)
              have HE1 := Lib.hid hE1
              have HA1 := Lib.hid hA1
              clear hE1 hA1 hb4
              go_wp2_with (refine wpList_val (.agg SV) (by kernel_rfl) (exec_load_row HG4.out rfl rfl Tryz.underlying25 rfl HSZ.out) ?_)
              refine (HA.out i r w4 (HOK.out.below (HZ0.out.trans (HY4.out.mono (by simp)))) HR.out).mono ?_
              rintro e w5 ⟨z2, u2, n2, rfl, hE2, hA2, hb5⟩
              have HY5 := Lib.hid (HY4.out.trans (hb5.mono HY4.out.size))
              have HG5 := Lib.hid (rowAt_below HG.out HY5.out)
              have HE2 := Lib.hid hE2
              have HA2 := Lib.hid hA2
              clear hE2 hA2 hb5
              go_wp2_with (refine wpList_val (.agg SV) (by kernel_rfl) (exec_load_row HG5.out rfl rfl Tryz.underlying25 rfl HSZ.out) ?_)
              refine (HA.out i (q + r) w5 (HOK.out.below (HZ0.out.trans (HY5.out.mono (by simp)))) HQR.out).mono ?_
              rintro e w6 ⟨z3, u3, n3, rfl, hE3, hA3, hb6⟩
              have HY6 := Lib.hid (HY5.out.trans (hb6.mono HY5.out.size))
              have hE1 := HE1.out
              have hE2 := HE2.out
              obtain ⟨p1, p2, p3, p4, p5, p6, hPO⟩ := HPA.out i z1 n1 z2 n2 z3 n3 HI.out HA1.out HA2.out hA3
              clear hA3 hb6 HE1 HE2 HA1 HA2 HG4 HG5 HG3
              by_cases hg : n3 = 0
              · obtain ⟨he, hf, m0, m1⟩ := hPO hg
                obtain ⟨rfl, _⟩ := hE1.zero he
                obtain ⟨rfl, _⟩ := hE2.zero hf
                obtain ⟨rfl, _⟩ := hE3.zero hg
                have HNE := Lib.hid (near_any z1 z2 z3 i w6 ⟨p1, p2⟩ ⟨p3, p4⟩ ⟨p5, p6⟩ m0 m1)
                clear hg he hf m0 m1 hPO hE1 hE2 hE3 p1 p2 p3 p4 p5 p6
                go_wp2_with fail
                refine HNE.out.mono ?_
                rintro e w6 ⟨rfl, rfl⟩
                go_wp2_with fail
                refine ⟨⟨i + 1, by go_num, by omega, by omega, HY6.out⟩, by simp [intOf]; omega⟩
              · obtain ⟨t21, x21, rfl⟩ := hE3.held hg
                by_cases he : n1 = 0
                · obtain ⟨rfl, _⟩ := hE1.zero he
                  by_cases hf : n2 = 0
                  · obtain ⟨rfl, _⟩ := hE2.zero hf
                    clear hg he hf hPO hE1 hE2 hE3 p1 p2 p3 p4 p5 p6
                    go_wp2_with fail
                    refine ⟨⟨i + 1, by go_num, by omega, by omega, HY6.out⟩, by simp [intOf]; omega⟩
                  · obtain ⟨t19, x19, rfl⟩ := hE2.held hf
                    clear hg he hf hPO hE1 hE2 hE3 p1 p2 p3 p4 p5 p6
                    go_wp2_with fail
                    refine ⟨⟨i + 1, by go_num, by omega, by omega, HY6.out⟩, by simp [intOf]; omega⟩
                · obtain ⟨t17, x17, rfl⟩ := hE1.held he
                  by_cases hf : n2 = 0
                  · obtain ⟨rfl, _⟩ := hE2.zero hf
                    clear hg he hf hPO hE1 hE2 hE3 p1 p2 p3 p4 p5 p6
                    go_wp2_with fail
                    refine ⟨⟨i + 1, by go_num, by omega, by omega, HY6.out⟩, by simp [intOf]; omega⟩
                  · obtain ⟨t19, x19, rfl⟩ := hE2.held hf
                    clear hg he hf hPO hE1 hE2 hE3 p1 p2 p3 p4 p5 p6
                    go_wp2_with fail
                    refine ⟨⟨i + 1, by go_num, by omega, by omega, HY6.out⟩, by simp [intOf]; omega⟩
            · obtain ⟨t19, x19, rfl⟩ := hE2.held hf
              clear hg he hf hPO hE1 hE2 hE3 p1 p2 p3 p4 p5 p6
              go_wp2_with (refine wpList_val (.agg SV) (by kernel_rfl) (exec_load_row HG3.out rfl rfl Tryz.underlying25 rfl HSZ.out) ?_)
              refine (HA.out i q w3 (HOK.out.below (HZ0.out.trans (HY3.out.mono (by simp)))) HQ.out).mono ?_
              rintro e w4 ⟨z1, u1, n1, rfl, hE1, hA1, hb4⟩
              have HY4 := Lib.hid (HY3.out.trans (hb4.mono HY3.out.size))
              have HG4 := Lib.hid (rowAt_below HG.out HY4.out)
              have HE1 := Lib.hid hE1
              have HA1 := Lib.hid hA1
              clear hE1 hA1 hb4
              go_wp2_with (refine wpList_val (.agg SV) (by kernel_rfl) (exec_load_row HG4.out rfl rfl Tryz.underlying25 rfl HSZ.out) ?_)
              refine (HA.out i r w4 (HOK.out.below (HZ0.out.trans (HY4.out.mono (by simp)))) HR.out).mono ?_
              rintro e w5 ⟨z2, u2, n2, rfl, hE2, hA2, hb5⟩
              have HY5 := Lib.hid (HY4.out.trans (hb5.mono HY4.out.size))
              have HG5 := Lib.hid (rowAt_below HG.out HY5.out)
              have HE2 := Lib.hid hE2
              have HA2 := Lib.hid hA2
              clear hE2 hA2 hb5
              go_wp2_with (refine wpList_val (.agg SV) (by kernel_rfl) (exec_load_row HG5.out rfl rfl Tryz.underlying25 rfl HSZ.out) ?_)
              refine (HA.out i (q + r) w5 (HOK.out.below (HZ0.out.trans (HY5.out.mono (by simp)))) HQR.out).mono ?_
              rintro e w6 ⟨z3, u3, n3, rfl, hE3, hA3, hb6⟩
              have HY6 := Lib.hid (HY5.out.trans (hb6.mono HY5.out.size))
              have hE1 := HE1.out
              have hE2 := HE2.out
              obtain ⟨p1, p2, p3, p4, p5, p6, hPO⟩ := HPA.out i z1 n1 z2 n2 z3 n3 HI.out HA1.out HA2.out hA3
              clear hA3 hb6 HE1 HE2 HA1 HA2 HG4 HG5 HG3
              by_cases hg : n3 = 0
              · obtain ⟨he, hf, m0, m1⟩ := hPO hg
                obtain ⟨rfl, _⟩ := hE1.zero he
                obtain ⟨rfl, _⟩ := hE2.zero hf
                obtain ⟨rfl, _⟩ := hE3.zero hg
                have HNE := Lib.hid (near_any z1 z2 z3 i w6 ⟨p1, p2⟩ ⟨p3, p4⟩ ⟨p5, p6⟩ m0 m1)
                clear hg he hf m0 m1 hPO hE1 hE2 hE3 p1 p2 p3 p4 p5 p6
                go_wp2_with fail
                refine HNE.out.mono ?_
                rintro e w6 ⟨rfl, rfl⟩
                go_wp2_with fail
                refine ⟨⟨i + 1, by go_num, by omega, by omega, HY6.out⟩, by simp [intOf]; omega⟩
              · obtain ⟨t21, x21, rfl⟩ := hE3.held hg
                by_cases he : n1 = 0
                · obtain ⟨rfl, _⟩ := hE1.zero he
                  by_cases hf : n2 = 0
                  · obtain ⟨rfl, _⟩ := hE2.zero hf
                    clear hg he hf hPO hE1 hE2 hE3 p1 p2 p3 p4 p5 p6
                    go_wp2_with fail
                    refine ⟨⟨i + 1, by go_num, by omega, by omega, HY6.out⟩, by simp [intOf]; omega⟩
                  · obtain ⟨t19, x19, rfl⟩ := hE2.held hf
                    clear hg he hf hPO hE1 hE2 hE3 p1 p2 p3 p4 p5 p6
                    go_wp2_with fail
                    refine ⟨⟨i + 1, by go_num, by omega, by omega, HY6.out⟩, by simp [intOf]; omega⟩
                · obtain ⟨t17, x17, rfl⟩ := hE1.held he
                  by_cases hf : n2 = 0
                  · obtain ⟨rfl, _⟩ := hE2.zero hf
                    clear hg he hf hPO hE1 hE2 hE3 p1 p2 p3 p4 p5 p6
                    go_wp2_with fail
                    refine ⟨⟨i + 1, by go_num, by omega, by omega, HY6.out⟩, by simp [intOf]; omega⟩
                  · obtain ⟨t19, x19, rfl⟩ := hE2.held hf
                    clear hg he hf hPO hE1 hE2 hE3 p1 p2 p3 p4 p5 p6
                    go_wp2_with fail
                    refine ⟨⟨i + 1, by go_num, by omega, by omega, HY6.out⟩, by simp [intOf]; omega⟩
          · obtain ⟨t17, x17, rfl⟩ := hE1.held he
            by_cases hf : e2 = 0
            · obtain ⟨rfl, _⟩ := hE2.zero hf
              clear hg he hf hPO hE1 hE2 hE3 p1 p2 p3 p4 p5 p6
              go_wp2_with (refine wpList_val (.agg SV) (by kernel_rfl) (exec_load_row HG3.out rfl rfl Tryz.underlying25 rfl HSZ.out) ?_)
              refine (HA.out i q w3 (HOK.out.below (HZ0.out.trans (HY3.out.mono (by simp)))) HQ.out).mono ?_
              rintro e w4 ⟨z1, u1, n1, rfl, hE1, hA1, hb4⟩
              have HY4 := Lib.hid (HY3.out.trans (hb4.mono HY3.out.size))
              have HG4 := Lib.hid (rowAt_below HG.out HY4.out)
              have HE1 := Lib.hid hE1
              have HA1 := Lib.hid hA1
              clear hE1 hA1 hb4
              go_wp2_with (refine wpList_val (.agg SV) (by kernel_rfl) (exec_load_row HG4.out rfl rfl Tryz.underlying25 rfl HSZ.out) ?_)
              refine (HA.out i r w4 (HOK.out.below (HZ0.out.trans (HY4.out.mono (by simp)))) HR.out).mono ?_
              rintro e w5 ⟨z2, u2, n2, rfl, hE2, hA2, hb5⟩
              have HY5 := Lib.hid (HY4.out.trans (hb5.mono HY4.out.size))
              have HG5 := Lib.hid (rowAt_below HG.out HY5.out)
              have HE2 := Lib.hid hE2
              have HA2 := Lib.hid hA2
              clear hE2 hA2 hb5
              go_wp2_with (refine wpList_val (.agg SV) (by kernel_rfl) (exec_load_row HG5.out rfl rfl Tryz.underlying25 rfl HSZ.out) ?_)
              refine (HA.out i (q + r) w5 (HOK.out.below (HZ0.out.trans (HY5.out.mono (by simp)))) HQR.out).mono ?_
              rintro e w6 ⟨z3, u3, n3, rfl, hE3, hA3, hb6⟩
              have HY6 := Lib.hid (HY5.out.trans (hb6.mono HY5.out.size))
              have hE1 := HE1.out
              have hE2 := HE2.out
              obtain ⟨p1, p2, p3, p4, p5, p6, hPO⟩ := HPA.out i z1 n1 z2 n2 z3 n3 HI.out HA1.out HA2.out hA3
              clear hA3 hb6 HE1 HE2 HA1 HA2 HG4 HG5 HG3
              by_cases hg : n3 = 0
              · obtain ⟨he, hf, m0, m1⟩ := hPO hg
                obtain ⟨rfl, _⟩ := hE1.zero he
                obtain ⟨rfl, _⟩ := hE2.zero hf
                obtain ⟨rfl, _⟩ := hE3.zero hg
                have HNE := Lib.hid (near_any z1 z2 z3 i w6 ⟨p1, p2⟩ ⟨p3, p4⟩ ⟨p5, p6⟩ m0 m1)
                clear hg he hf m0 m1 hPO hE1 hE2 hE3 p1 p2 p3 p4 p5 p6
                go_wp2_with fail
                refine HNE.out.mono ?_
                rintro e w6 ⟨rfl, rfl⟩
                go_wp2_with fail
                refine ⟨⟨i + 1, by go_num, by omega, by omega, HY6.out⟩, by simp [intOf]; omega⟩
              · obtain ⟨t21, x21, rfl⟩ := hE3.held hg
                by_cases he : n1 = 0
                · obtain ⟨rfl, _⟩ := hE1.zero he
                  by_cases hf : n2 = 0
                  · obtain ⟨rfl, _⟩ := hE2.zero hf
                    clear hg he hf hPO hE1 hE2 hE3 p1 p2 p3 p4 p5 p6
                    go_wp2_with fail
                    refine ⟨⟨i + 1, by go_num, by omega, by omega, HY6.out⟩, by simp [intOf]; omega⟩
                  · obtain ⟨t19, x19, rfl⟩ := hE2.held hf
                    clear hg he hf hPO hE1 hE2 hE3 p1 p2 p3 p4 p5 p6
                    go_wp2_with fail
                    refine ⟨⟨i + 1, by go_num, by omega, by omega, HY6.out⟩, by simp [intOf]; omega⟩
                · obtain ⟨t17, x17, rfl⟩ := hE1.held he
                  by_cases hf : n2 = 0
                  · obtain ⟨rfl, _⟩ := hE2.zero hf
                    clear hg he hf hPO hE1 hE2 hE3 p1 p2 p3 p4 p5 p6
                    go_wp2_with fail
                    refine ⟨⟨i + 1, by go_num, by omega, by omega, HY6.out⟩, by simp [intOf]; omega⟩
                  · obtain ⟨t19, x19, rfl⟩ := hE2.held hf
                    clear hg he hf hPO hE1 hE2 hE3 p1 p2 p3 p4 p5 p6
                    go_wp2_with fail
                    refine ⟨⟨i + 1, by go_num, by omega, by omega, HY6.out⟩, by simp [intOf]; omega⟩
            · obtain ⟨t19, x19, rfl⟩ := hE2.held hf
              clear hg he hf hPO hE1 hE2 hE3 p1 p2 p3 p4 p5 p6
              go_wp2_with (refine wpList_val (.agg SV) (by kernel_rfl) (exec_load_row HG3.out rfl rfl Tryz.underlying25 rfl HSZ.out) ?_)
              refine (HA.out i q w3 (HOK.out.below (HZ0.out.trans (HY3.out.mono (by simp)))) HQ.out).mono ?_
              rintro e w4 ⟨z1, u1, n1, rfl, hE1, hA1, hb4⟩
              have HY4 := Lib.hid (HY3.out.trans (hb4.mono HY3.out.size))
              have HG4 := Lib.hid (rowAt_below HG.out HY4.out)
              have HE1 := Lib.hid hE1
              have HA1 := Lib.hid hA1
              clear hE1 hA1 hb4
              go_wp2_with (refine wpList_val (.agg SV) (by kernel_rfl) (exec_load_row HG4.out rfl rfl Tryz.underlying25 rfl HSZ.out) ?_)
              refine (HA.out i r w4 (HOK.out.below (HZ0.out.trans (HY4.out.mono (by simp)))) HR.out).mono ?_
              rintro e w5 ⟨z2, u2, n2, rfl, hE2, hA2, hb5⟩
              have HY5 := Lib.hid (HY4.out.trans (hb5.mono HY4.out.size))
              have HG5 := Lib.hid (rowAt_below HG.out HY5.out)
              have HE2 := Lib.hid hE2
              have HA2 := Lib.hid hA2
              clear hE2 hA2 hb5
              go_wp2_with (refine wpList_val (.agg SV) (by kernel_rfl) (exec_load_row HG5.out rfl rfl Tryz.underlying25 rfl HSZ.out) ?_)
              refine (HA.out i (q + r) w5 (HOK.out.below (HZ0.out.trans (HY5.out.mono (by simp)))) HQR.out).mono ?_
              rintro e w6 ⟨z3, u3, n3, rfl, hE3, hA3, hb6⟩
              have HY6 := Lib.hid (HY5.out.trans (hb6.mono HY5.out.size))
              have hE1 := HE1.out
              have hE2 := HE2.out
              obtain ⟨p1, p2, p3, p4, p5, p6, hPO⟩ := HPA.out i z1 n1 z2 n2 z3 n3 HI.out HA1.out HA2.out hA3
              clear hA3 hb6 HE1 HE2 HA1 HA2 HG4 HG5 HG3
              by_cases hg : n3 = 0
              · obtain ⟨he, hf, m0, m1⟩ := hPO hg
                obtain ⟨rfl, _⟩ := hE1.zero he
                obtain ⟨rfl, _⟩ := hE2.zero hf
                obtain ⟨rfl, _⟩ := hE3.zero hg
                have HNE := Lib.hid (near_any z1 z2 z3 i w6 ⟨p1, p2⟩ ⟨p3, p4⟩ ⟨p5, p6⟩ m0 m1)
                clear hg he hf m0 m1 hPO hE1 hE2 hE3 p1 p2 p3 p4 p5 p6
                go_wp2_with fail
                refine HNE.out.mono ?_
                rintro e w6 ⟨rfl, rfl⟩
                go_wp2_with fail
                refine ⟨⟨i + 1, by go_num, by omega, by omega, HY6.out⟩, by simp [intOf]; omega⟩
              · obtain ⟨t21, x21, rfl⟩ := hE3.held hg
                by_cases he : n1 = 0
                · obtain ⟨rfl, _⟩ := hE1.zero he
                  by_cases hf : n2 = 0
                  · obtain ⟨rfl, _⟩ := hE2.zero hf
                    clear hg he hf hPO hE1 hE2 hE3 p1 p2 p3 p4 p5 p6
                    go_wp2_with fail
                    refine ⟨⟨i + 1, by go_num, by omega, by omega, HY6.out⟩, by simp [intOf]; omega⟩
                  · obtain ⟨t19, x19, rfl⟩ := hE2.held hf
                    clear hg he hf hPO hE1 hE2 hE3 p1 p2 p3 p4 p5 p6
                    go_wp2_with fail
                    refine ⟨⟨i + 1, by go_num, by omega, by omega, HY6.out⟩, by simp [intOf]; omega⟩
                · obtain ⟨t17, x17, rfl⟩ := hE1.held he
                  by_cases hf : n2 = 0
                  · obtain ⟨rfl, _⟩ := hE2.zero hf
                    clear hg he hf hPO hE1 hE2 hE3 p1 p2 p3 p4 p5 p6
                    go_wp2_with fail
                    refine ⟨⟨i + 1, by go_num, by omega, by omega, HY6.out⟩, by simp [intOf]; omega⟩
                  · obtain ⟨t19, x19, rfl⟩ := hE2.held hf
                    clear hg he hf hPO hE1 hE2 hE3 p1 p2 p3 p4 p5 p6
                    go_wp2_with fail
                    refine ⟨⟨i + 1, by go_num, by omega, by omega, HY6.out⟩, by simp [intOf]; omega⟩
      · have hd : decide (i ≤ 1) = false := decide_eq_false hlt
        clear hi2 hlt
        go_wp2_with fail
        go_ret
        exact ⟨rfl, HZ0.out.trans (HY0.out.mono (by simp))⟩
end Go.Proofs.YtmepjcnpbjdlkaaGreatDoor
