/- texts of this claim, laid together: PriceFalls. -/
import Derived.Test.YtmepjcnpbjdlkaaGreatDoorQeErr
import Derived.Test.YtmepjcnpbjdlkaaGreatDoorQeWorksP
import Derived.Test.YtmepjcnpbjdlkaaGreatDoorQeFlL
/- the law PriceFalls by contract. -/
namespace Go.Proofs.YtmepjcnpbjdlkaaGreatDoor
set_option linter.unusedVariables false
set_option linter.unusedSimpArgs false
open Go.RowKit
attribute [local irreducible] Go.wpStill

theorem sub_self_fin {x : Nat} (h : FL.rg x < FL.INF) : floatBits .sub .f64 x x = some 0 := by
  obtain ⟨m, e, hr, -, -⟩ := FL.read_fin h
  show Ieee.double.sub x x = some 0
  unfold Ieee.Format.sub
  rw [hr]
  show some (Ieee.double.nearest _ _ _) = some 0
  have ht : Ieee.signed (FL.neg x) m ((-1074 + (e : Int)) - min (-1074 + (e : Int)) (-1074 + (e : Int))).toNat + Ieee.signed (!FL.neg x) m ((-1074 + (e : Int)) - min (-1074 + (e : Int)) (-1074 + (e : Int))).toNat = 0 := by
    cases FL.neg x <;> simp [Ieee.signed] <;> omega
  rw [ht]
  unfold Ieee.Format.nearest
  rw [if_pos rfl, FL.word_wd]
  cases FL.neg x <;> rfl
theorem sub_self_none {x : Nat} (h : ¬ FL.rg x < FL.INF) : FloatKind.f64.format.sub x x = none := by
  show Ieee.double.sub x x = none
  unfold Ieee.Format.sub
  by_cases hi : FL.rg x = FL.INF
  · rw [FL.read_inf hi]
    cases FL.neg x <;> rfl
  · rw [FL.read_nan (by omega)]
    rfl
/-- what the tape says of a difference that is none -/
noncomputable def nanW (x : Nat) (w : World) : Nat := (Question.nanBits .f64 x x).cut (w.tape w.drawn (Question.nanBits .f64 x x))
theorem run_sub_nan {x : Nat} (h : ¬ FL.rg x < FL.INF) (t : TypeId) (w : World) : (binOp .sub t (.float .f64 x) (.float .f64 x)).run Tryz.prog w = .ok (.float .f64 (nanW x w)) w.drew := by
  have hs := sub_self_none h
  unfold nanW
  simp [go_sem, binOp, Op.floatArith, hs, Question.forced]
theorem nanW_ne (x : Nat) (w : World) : (FloatKind.f64.format.order (nanW x w) 0 == some .eq) = false := by
  have hr : FL.INF < FL.rg (nanW x w) := by
    unfold nanW Question.cut
    generalize w.tape w.drawn (Question.nanBits .f64 x x) = t
    show FL.INF < ((t % 2) * 2 ^ 63 + 0x7ff0000000000000 + 1 + (t / 2) % (2 ^ 52 - 1)) % 2 ^ 63
    have h2 : (t / 2) % (2 ^ 52 - 1) < 2 ^ 52 - 1 := Nat.mod_lt _ (by decide)
    generalize (t / 2) % (2 ^ 52 - 1) = u at *
    have hI : FL.INF = 0x7ff0000000000000 := by decide
    rw [hI]
    have h3 : t % 2 = 0 ∨ t % 2 = 1 := by omega
    rcases h3 with h3 | h3 <;> rw [h3] <;> omega
  show (Ieee.double.order (nanW x w) 0 == some .eq) = false
  rw [FL.order_none (.inl hr)]
  decide

set_option maxRecDepth 100000 in
set_option maxHeartbeats 32000000 in
theorem priceFalls_any (s : SecV) (rate more : Nat) (day : Int) (a b : Nat) (scale n : Int) (w : World) (hcs : s.cur.size ≤ 140737488351232) (hok : Ok w) (hf : s.face < 9223372036854775808) (hr : rate < 2 ^ 64) (hm : more < 2 ^ 64) (ha : a < 2 ^ 64) (hb : b < 2 ^ 64) : Calls Tryz.prog 9 #[.agg (secC s), .int .u64 (rate : Int), .int .u64 (more : Int), .int .i64 day, .int .u64 (a : Int), .int .u64 (b : Int), .int .i64 scale, .int .i64 n] w (FlatP true w) := by
  have HWK := Lib.hid (fun w hok => worksP_any w hok)
  have hC := fun (x : Nat) (hx : x < 2 ^ 64) (d : Int) w hok => yield_any s x d w hcs hok hf hx
  have hD := fun (x : Nat) (hx : x < 2 ^ 64) (sc : Int) w => tick_any x sc w hx
  have hK := fun w hok => priceCheck_any s w hcs hok
  unfold YieldP at hC
  unfold TickP at hD
  unfold ErrR at hK
  have HC := Lib.hid hC
  have HD := Lib.hid hD
  have HK := Lib.hid hK
  have HYF := Lib.hid (fun x y d p q (h : YieldIs s x d p 0) (k : YieldIs s y d q 0) hle => yield_falls hf h k hle)
  have HYE := Lib.hid (fun x u n (h : YieldIs s x s.finish u n) h0 hk => yield_end hf h h0 hk)
  have HYZ := Lib.hid (fun v n (h : YieldIs s 0 s.start v n) h0 hk => yield_zero hf h h0 hk)
  have HBF := Lib.hid (fun h k => bill_facts (s := s) h k)
  have HF := Lib.hid hf
  have HR := Lib.hid hr
  have HM := Lib.hid hm
  have HA := Lib.hid ha
  have HB := Lib.hid hb
  have HSZ := Lib.hid (show (Tryz.prog.info? 25).map (·.size) = some (secC s).size by kernel_rfl)
  have HZ0 := Lib.hid ((Below.refl w.heap.size w).alloc (Nat.le_refl _) (.cells (secC s) 25))
  have hrow : ∀ w1, Below (w.alloc (.cells (secC s) 25)).heap.size (w.alloc (.cells (secC s) 25)) w1 → w1.heap[w.heap.size]? = some (.cells (secC s) 25 (0, 0)) ∧ w1.cell? ⟨w.heap.size, 12, none⟩ = some (.int .i64 s.kind) ∧ w1.cell? ⟨w.heap.size, 13, none⟩ = some (.int .i64 s.face) ∧ w1.cell? ⟨w.heap.size, 17, none⟩ = some (.int .i64 s.start) ∧ w1.cell? ⟨w.heap.size, 18, none⟩ = some (.int .i64 s.finish) ∧ Ok w1 ∧ Below w.heap.size w w1 := fun w1 h => by
    have e := rowAt_below (heap_alloc_new w (.cells (secC s) 25)) h
    have hb := HZ0.out.trans (h.mono (by simp))
    exact ⟨e, by rw [cell_of_row _ _ _ _ _ _ e]; rfl, by rw [cell_of_row _ _ _ _ _ _ e]; rfl, by rw [cell_of_row _ _ _ _ _ _ e]; rfl, by rw [cell_of_row _ _ _ _ _ _ e]; rfl, hok.below hb, hb⟩
  have HW := Lib.hid hrow
  have HR0 := Lib.hid (Below.refl (w.alloc (.cells (secC s) 25)).heap.size (w.alloc (.cells (secC s) 25)))
  have x1 := @run_callFunc_extern Tryz.prog 19 _ Extern.MathFloatBits.float64frombits Tryz.func19 (by kernel_rfl) (by kernel_rfl) (by kernel_rfl) (by kernel_rfl)
  have r1 : ∀ (n : Nat) (w : World), (Extern.MathFloatBits.float64frombits #[.int .u64 (n : Int)]).run Tryz.prog w = .ok (.float .f64 n) w := fun n w => run_frombits (n : Int) w
  have u2 := Tryz.underlying2
  have u43 := Tryz.underlying43
  have fo := floatOfInt_fint
  clear hC hD hK hok hcs hf hr hm ha hb hrow
  generalize secC s = SV at *
  generalize checkN s = kN at *
  generalize hW0 : w.alloc (.cells SV 25) = w0 at *
  go_enter Tryz.func9, Tryz.ntmps9
  go_wp2_with fail
  refine (HWK.out _ (HW.out _ HR0.out).2.2.2.2.2.1).mono ?_
  rintro e w1 ⟨rfl, hb1⟩
  have HB1 := Lib.hid hb1
  clear hb1
  go_wp2_with (refine wpList_val (.agg SV) (by kernel_rfl) (exec_load_row (HW.out _ HB1.out).1 rfl rfl Tryz.underlying25 rfl HSZ.out) ?_)
  refine (HC.out rate HR.out day _ (HW.out _ HB1.out).2.2.2.2.2.1).mono ?_
  rintro e w2 ⟨p, v1, n1, rfl, hE1, hY1, hb2⟩
  have HB2 := Lib.hid (HB1.out.trans (hb2.mono HB1.out.size))
  have HE1 := Lib.hid hE1
  have HY1 := Lib.hid hY1
  clear hb2 hE1 hY1
  go_wp2_with (refine wpList_val (.agg SV) (by kernel_rfl) (exec_load_row (HW.out _ HB2.out).1 rfl rfl Tryz.underlying25 rfl HSZ.out) ?_)
  refine (HC.out more HM.out day _ (HW.out _ HB2.out).2.2.2.2.2.1).mono ?_
  rintro e w3 ⟨q, v2, n2, rfl, hE2, hY2, hb3⟩
  have HB3 := Lib.hid (HB2.out.trans (hb3.mono HB2.out.size))
  have HE2 := Lib.hid hE2
  have HY2 := Lib.hid hY2
  clear hb3 hE2 hY2
  go_upto_region 7 with fail
  go_cut [78] (fun v wc => v = .bool false ∧ Below w0.heap.size w0 wc)
  case first => as_aux_lemma =>
    have hE1 := HE1.out
    have hE2 := HE2.out
    by_cases hn1 : n1 = 0
    · obtain rfl := (hE1.zero hn1).1
      by_cases hn2 : n2 = 0
      · obtain rfl := (hE2.zero hn2).1
        subst hn1 hn2
        have hL : FL.leB rate more = true → FL.gtB q p = false := fun h => by
          have hk := (FL.leB_true h).2.2
          obtain ⟨k1, k2, k3⟩ := HYF.out _ _ _ _ _ HY1.out HY2.out hk
          exact FL.gtB_false k3 k2 k1
        have hG : FL.geB rate more = true → FL.ltB q p = false := fun h => by
          have hk := (FL.geB_true h).2.2
          obtain ⟨k1, k2, k3⟩ := HYF.out _ _ _ _ _ HY2.out HY1.out hk
          exact FL.ltB_false k2 k3 k1
        have HL := Lib.hid hL
        have HG := Lib.hid hG
        clear hE1 hE2 hL hG
        cases hl : FL.leB rate more
        · cases hg : FL.geB rate more
          · unfold FL.leB at hl
            unfold FL.geB at hg
            go_wp2_with fail
            go_meet
            case rel => exact ⟨rfl, HB3.out⟩
          · have hq := HG.out hg
            unfold FL.leB at hl
            unfold FL.geB at hg
            unfold FL.ltB at hq
            go_wp2_with fail
            go_meet
            case rel => exact ⟨rfl, HB3.out⟩
        · have hp := HL.out hl
          cases hg : FL.geB rate more
          · unfold FL.leB at hl
            unfold FL.geB at hg
            unfold FL.gtB at hp
            go_wp2_with fail
            go_meet
            case rel => exact ⟨rfl, HB3.out⟩
          · have hq := HG.out hg
            unfold FL.leB at hl
            unfold FL.geB at hg
            unfold FL.ltB at hq
            unfold FL.gtB at hp
            go_wp2_with fail
            go_meet
            case rel => exact ⟨rfl, HB3.out⟩
      · obtain ⟨t2, y2, rfl⟩ := hE2.held hn2
        clear hE1 hE2 hn1 hn2
        go_wp2_with fail
        go_meet
        case rel => exact ⟨rfl, HB3.out⟩
    · obtain ⟨t1, y1, rfl⟩ := hE1.held hn1
      clear hE1 hE2 hn1
      go_wp2_with fail
      go_meet
      case rel => exact ⟨rfl, HB3.out⟩
  case rest => as_aux_lemma =>
    obtain ⟨rfl, hb⟩ := hcut
    have HB3 := Lib.hid hb
    clear hb HE1 HE2 HY1 HY2 HB1 HB2 HYF
    have HJ := Lib.hid (HW.out _ HB3.out)
    obtain ⟨w3, rfl⟩ : ∃ w3, w3 = wc := ⟨_, rfl⟩
    go_wp2_with (refine wpList_val (.agg SV) (by kernel_rfl) (exec_load_row (HW.out _ HB3.out).1 rfl rfl Tryz.underlying25 rfl HSZ.out) ?_)
    refine (HK.out _ HJ.out.2.2.2.2.2.1).mono ?_
    rintro e w4 ⟨v, rfl, hE, hb4⟩
    have HB4 := Lib.hid (HB3.out.trans (hb4.mono HB3.out.size))
    have HJ4 := Lib.hid (HW.out _ HB4.out)
    have j12 := HJ4.out.2.1
    clear hb4
    by_cases hk0 : kN = 0
    · obtain rfl := (hE.zero hk0).1
      clear hE
      by_cases hk : s.kind = 3
      · have d0 : (s.kind == 3) = true := by simp [hk]
        have HEND := Lib.hid (fun u n h => HYE.out rate u n h hk0 hk)
        have HZER := Lib.hid (fun v n h => HYZ.out v n h hk0 hk)
        have hbf := HBF.out hk0 hk
        have j13 := HJ4.out.2.2.1
        have j17 := HJ4.out.2.2.2.1
        have j18 := HJ4.out.2.2.2.2.1
        have hff : FL.rg (FL.fint s.face) ≤ FL.INF := Nat.le_of_lt (FL.fint_facts (n := s.face) (by omega) HF.out).1
        have hne := FL.neB_self hff
        unfold FL.neB at hne
        clear hk hk0 hbf hff
        go_wp2_with (refine wpList_val (.agg SV) (by kernel_rfl) (exec_load_row (HW.out _ HB4.out).1 rfl rfl Tryz.underlying25 rfl HSZ.out) ?_)
        refine (HC.out rate HR.out s.finish _ HJ4.out.2.2.2.2.2.1).mono ?_
        rintro e w5 ⟨u, v5, n5, rfl, hE5, hY5, hb5⟩
        have HB5 := Lib.hid (HB4.out.trans (hb5.mono HB4.out.size))
        have HJ5 := Lib.hid (HW.out _ HB5.out)
        have k13 := HJ5.out.2.2.1
        have k17 := HJ5.out.2.2.2.1
        have HE5 := Lib.hid hE5
        have hcase := HEND.out _ _ hY5
        have HCASE := Lib.hid hcase
        clear hb5 hE5 hY5 hcase j12 j13 j17 j18
        go_wp2_with (refine wpList_val (.agg SV) (by kernel_rfl) (exec_load_row (HW.out _ HB5.out).1 rfl rfl Tryz.underlying25 rfl HSZ.out) ?_)
        refine (HC.out 0 (by decide) s.start _ HJ5.out.2.2.2.2.2.1).mono ?_
        rintro e w6 ⟨v6, v7, n6, rfl, hE6, hY6, hb6⟩
        obtain ⟨rfl, rfl⟩ := HZER.out _ _ hY6
        obtain rfl := (hE6.zero rfl).1
        have HB6 := Lib.hid (HB5.out.trans (hb6.mono HB5.out.size))
        have HJ6 := Lib.hid (HW.out _ HB6.out)
        have l13 := HJ6.out.2.2.1
        clear hb6 hE6 hY6 k13 k17
        go_upto_region 12 with fail
        go_cut [27] (fun v wc => ∃ c : Bool, v = .bool c ∧ (c = true ↔ FL.rg rate < FL.INF) ∧ Below w0.heap.size w0 wc)
        case first => as_aux_lemma =>
          by_cases hfin : FL.rg rate < FL.INF
          · have z1 := fun w : World => run_float_arith (P := Tryz.prog) w .sub 43 .f64 _ _ _ (sub_self_fin hfin)
            have z2 : (FloatKind.f64.format.order 0 0 == some .eq) = true := by decide
            go_wp2_with fail
            go_meet
            case rel => exact ⟨true, rfl, ⟨fun _ => hfin, fun _ => rfl⟩, HB6.out⟩
          · have z1 := fun w : World => run_sub_nan hfin 43 w
            have z2 := fun w : World => nanW_ne rate w
            go_wp2_with fail
            go_meet
            case rel => exact ⟨false, rfl, ⟨fun h => (by cases h), fun h => absurd h hfin⟩, HB6.out.drew⟩
        case rest => as_aux_lemma =>
          obtain ⟨c, rfl, hiff, hb⟩ := hcut
          have HB6 := Lib.hid hb
          have HJ6 := Lib.hid (HW.out _ hb)
          have l13 := HJ6.out.2.2.1
          have HIFF := Lib.hid hiff
          clear hb hiff
          go_upto_region 13 with fail
          go_cut [137] (fun v wc => v = .bool false ∧ Below w0.heap.size w0 wc)
          case first => as_aux_lemma =>
            rcases HCASE.out with ⟨q1, q2, rfl⟩ | ⟨q1, q2⟩
            · have hc : c = true := HIFF.out.2 q1
              subst hc
              obtain rfl := (HE5.out.zero q2).1
              clear q1 q2
              go_wp2_with fail
              go_meet
              case rel => exact ⟨rfl, HB6.out⟩
            · have hc : c = false := by
                cases hcc : c
                · rfl
                · exact absurd (HIFF.out.1 hcc) q1
              subst hc q2
              clear q1
              go_wp2_with fail
              refine (plain_any v5 1 1 none true _ HE5.out (by simp) HJ6.out.2.2.2.2.2.1.1).mono ?_
              rintro e w7 ⟨rfl, hb7⟩
              have HB7 := Lib.hid (HB6.out.trans (hb7.mono HB6.out.size))
              clear hb7
              go_wp2_with fail
              go_meet
              case rel => exact ⟨rfl, HB7.out⟩
          case rest => as_aux_lemma =>
            obtain ⟨rfl, hb⟩ := hcut
            have HB6 := Lib.hid hb
            clear hb HE5 HCASE HB5 HB4 HB3 HEND HZER HYE HYZ HBF hne l13 HIFF
            obtain ⟨w6, rfl⟩ : ∃ w6, w6 = wc := ⟨_, rfl⟩
            go_wp2_with fail
            refine (HD.out a HA.out scale _).mono ?_
            rintro e w7 ⟨i, v3, m1, rfl, hE3, hT1, hb7⟩
            have HB7 := Lib.hid (HB6.out.trans (hb7.mono HB6.out.size))
            have HE3 := Lib.hid hE3
            have HT1 := Lib.hid hT1
            clear hb7 hE3 hT1
            go_wp2_with fail
            refine (HD.out b HB.out scale _).mono ?_
            rintro e w8 ⟨k, v4, m2, rfl, hE4, hT2, hb8⟩
            have HB8 := Lib.hid (HB7.out.trans (hb8.mono HB7.out.size))
            have HE4 := Lib.hid hE4
            have HT2 := Lib.hid hT2
            clear hb8 hE4 hT2
            go_upto_region 19 with fail
            go_cut [196] (fun v wc => v = .bool false ∧ Below w0.heap.size w0 wc)
            case first => as_aux_lemma =>
              have hE3 := HE3.out
              have hE4 := HE4.out
              by_cases hm2 : m2 = 0
              · obtain rfl := (hE4.zero hm2).1
                subst hm2
                by_cases hm1 : m1 = 0
                · obtain rfl := (hE3.zero hm1).1
                  subst hm1
                  have hL : FL.leB a b = true → i ≤ k := fun h => tick_rises HT1.out HT2.out (FL.leB_true h).2.2
                  have hG : FL.geB a b = true → k ≤ i := fun h => tick_rises HT2.out HT1.out (FL.geB_true h).2.2
                  have HL := Lib.hid hL
                  have HG := Lib.hid hG
                  clear hE3 hE4 hL hG
                  cases hl : FL.leB a b
                  · cases hg : FL.geB a b
                    · unfold FL.leB at hl
                      unfold FL.geB at hg
                      go_wp2_with fail
                      go_meet
                      case rel => exact ⟨rfl, HB8.out⟩
                    · have hq : decide (i < k) = false := decide_eq_false (by have := HG.out hg; omega)
                      unfold FL.leB at hl
                      unfold FL.geB at hg
                      go_wp2_with fail
                      go_meet
                      case rel => exact ⟨rfl, HB8.out⟩
                  · have hp : decide (i > k) = false := decide_eq_false (by have := HL.out hl; omega)
                    cases hz : FL.geB a 0
                    · cases hg : FL.geB a b
                      · unfold FL.leB at hl
                        unfold FL.geB at hg hz
                        go_wp2_with fail
                        go_meet
                        case rel => exact ⟨rfl, HB8.out⟩
                      · have hq : decide (i < k) = false := decide_eq_false (by have := HG.out hg; omega)
                        unfold FL.leB at hl
                        unfold FL.geB at hg hz
                        go_wp2_with fail
                        go_meet
                        case rel => exact ⟨rfl, HB8.out⟩
                    · cases hg : FL.geB a b
                      · unfold FL.leB at hl
                        unfold FL.geB at hg hz
                        go_wp2_with fail
                        go_meet
                        case rel => exact ⟨rfl, HB8.out⟩
                      · have hq : decide (i < k) = false := decide_eq_false (by have := HG.out hg; omega)
                        unfold FL.leB at hl
                        unfold FL.geB at hg hz
                        go_wp2_with fail
                        go_meet
                        case rel => exact ⟨rfl, HB8.out⟩
                · obtain ⟨t3, y3, rfl⟩ := hE3.held hm1
                  have hX := fun hl hz => tick_err HT1.out HT2.out hl hz
                  have HX := Lib.hid hX
                  clear hE3 hE4 hX
                  cases hl : FL.leB a b
                  · unfold FL.leB at hl
                    clear hm1
                    go_wp2_with fail
                    go_meet
                    case rel => exact ⟨rfl, HB8.out⟩
                  · cases hz : FL.geB a 0
                    · unfold FL.leB at hl
                      unfold FL.geB at hz
                      clear hm1
                      go_wp2_with fail
                      go_meet
                      case rel => exact ⟨rfl, HB8.out⟩
                    · exact absurd (HX.out hl hz) hm1
              · obtain ⟨t4, y4, rfl⟩ := hE4.held hm2
                clear hE4 hm2
                by_cases hm1 : m1 = 0
                · obtain rfl := (hE3.zero hm1).1
                  clear hE3 hm1
                  cases hl : FL.leB a b
                  · unfold FL.leB at hl
                    go_wp2_with fail
                    go_meet
                    case rel => exact ⟨rfl, HB8.out⟩
                  · cases hz : FL.geB a 0
                    · unfold FL.leB at hl
                      unfold FL.geB at hz
                      go_wp2_with fail
                      go_meet
                      case rel => exact ⟨rfl, HB8.out⟩
                    · unfold FL.leB at hl
                      unfold FL.geB at hz
                      go_wp2_with fail
                      go_meet
                      case rel => exact ⟨rfl, HB8.out⟩
                · obtain ⟨t3, y3, rfl⟩ := hE3.held hm1
                  clear hE3 hm1
                  cases hl : FL.leB a b
                  · unfold FL.leB at hl
                    go_wp2_with fail
                    go_meet
                    case rel => exact ⟨rfl, HB8.out⟩
                  · cases hz : FL.geB a 0
                    · unfold FL.leB at hl
                      unfold FL.geB at hz
                      go_wp2_with fail
                      go_meet
                      case rel => exact ⟨rfl, HB8.out⟩
                    · unfold FL.leB at hl
                      unfold FL.geB at hz
                      go_wp2_with fail
                      go_meet
                      case rel => exact ⟨rfl, HB8.out⟩
            case rest => as_aux_lemma =>
              obtain ⟨rfl, hb⟩ := hcut
              have HB9 := Lib.hid hb
              clear hb HE3 HE4 HT1 HT2 HB7 HB8
              by_cases h0 : n < 0
              · have d0 : decide (n < 0) = true := decide_eq_true h0
                clear h0
                go_wp2_with fail
                go_ret
                exact ⟨rfl, (HW.out _ HB9.out).2.2.2.2.2.2⟩
              · have d0 : decide (n < 0) = false := decide_eq_false h0
                by_cases h1 : n ≤ 9007199254740992
                · have d1 : decide (n > 9007199254740992) = false := decide_eq_false (by omega)
                  have HWH := Lib.hid (fun m e h => tick_whole (n := n) (m := m) (e := e) (by omega) h1 h)
                  have hfl : FL.fint n < 2 ^ 64 := (FL.fint_facts (n := n) (by omega) (by omega)).2.2.1
                  have HFL := Lib.hid hfl
                  clear h0 h1 hfl
                  go_wp2_with fail
                  refine (HD.out (FL.fint n) HFL.out 0 _).mono ?_
                  rintro e w10 ⟨z, v5, m5, rfl, hE5, hT5, hb10⟩
                  obtain ⟨rfl, rfl⟩ := HWH.out _ _ hT5
                  obtain rfl := (hE5.zero rfl).1
                  have HB10 := Lib.hid (HB9.out.trans (hb10.mono HB9.out.size))
                  clear hb10 hE5 hT5
                  go_wp2_with fail
                  go_ret
                  exact ⟨rfl, (HW.out _ HB10.out).2.2.2.2.2.2⟩
                · have d1 : decide (n > 9007199254740992) = true := decide_eq_true (by omega)
                  clear h0 h1
                  go_wp2_with fail
                  go_ret
                  exact ⟨rfl, (HW.out _ HB9.out).2.2.2.2.2.2⟩
      · have d0 : (s.kind == 3) = false := by simp [hk]
        have HB6 := Lib.hid HB4.out
        clear hk hk0 HB4 HB3 HYE HYZ HBF
        go_wp2_with fail
        refine (HD.out a HA.out scale _).mono ?_
        rintro e w7 ⟨i, v3, m1, rfl, hE3, hT1, hb7⟩
        have HB7 := Lib.hid (HB6.out.trans (hb7.mono HB6.out.size))
        have HE3 := Lib.hid hE3
        have HT1 := Lib.hid hT1
        clear hb7 hE3 hT1
        go_wp2_with fail
        refine (HD.out b HB.out scale _).mono ?_
        rintro e w8 ⟨k, v4, m2, rfl, hE4, hT2, hb8⟩
        have HB8 := Lib.hid (HB7.out.trans (hb8.mono HB7.out.size))
        have HE4 := Lib.hid hE4
        have HT2 := Lib.hid hT2
        clear hb8 hE4 hT2
        go_upto_region 19 with fail
        go_cut [196] (fun v wc => v = .bool false ∧ Below w0.heap.size w0 wc)
        case first => as_aux_lemma =>
          have hE3 := HE3.out
          have hE4 := HE4.out
          by_cases hm2 : m2 = 0
          · obtain rfl := (hE4.zero hm2).1
            subst hm2
            by_cases hm1 : m1 = 0
            · obtain rfl := (hE3.zero hm1).1
              subst hm1
              have hL : FL.leB a b = true → i ≤ k := fun h => tick_rises HT1.out HT2.out (FL.leB_true h).2.2
              have hG : FL.geB a b = true → k ≤ i := fun h => tick_rises HT2.out HT1.out (FL.geB_true h).2.2
              have HL := Lib.hid hL
              have HG := Lib.hid hG
              clear hE3 hE4 hL hG
              cases hl : FL.leB a b
              · cases hg : FL.geB a b
                · unfold FL.leB at hl
                  unfold FL.geB at hg
                  go_wp2_with fail
                  go_meet
                  case rel => exact ⟨rfl, HB8.out⟩
                · have hq : decide (i < k) = false := decide_eq_false (by have := HG.out hg; omega)
                  unfold FL.leB at hl
                  unfold FL.geB at hg
                  go_wp2_with fail
                  go_meet
                  case rel => exact ⟨rfl, HB8.out⟩
              · have hp : decide (i > k) = false := decide_eq_false (by have := HL.out hl; omega)
                cases hz : FL.geB a 0
                · cases hg : FL.geB a b
                  · unfold FL.leB at hl
                    unfold FL.geB at hg hz
                    go_wp2_with fail
                    go_meet
                    case rel => exact ⟨rfl, HB8.out⟩
                  · have hq : decide (i < k) = false := decide_eq_false (by have := HG.out hg; omega)
                    unfold FL.leB at hl
                    unfold FL.geB at hg hz
                    go_wp2_with fail
                    go_meet
                    case rel => exact ⟨rfl, HB8.out⟩
                · cases hg : FL.geB a b
                  · unfold FL.leB at hl
                    unfold FL.geB at hg hz
                    go_wp2_with fail
                    go_meet
                    case rel => exact ⟨rfl, HB8.out⟩
                  · have hq : decide (i < k) = false := decide_eq_false (by have := HG.out hg; omega)
                    unfold FL.leB at hl
                    unfold FL.geB at hg hz
                    go_wp2_with fail
                    go_meet
                    case rel => exact ⟨rfl, HB8.out⟩
            · obtain ⟨t3, y3, rfl⟩ := hE3.held hm1
              have hX := fun hl hz => tick_err HT1.out HT2.out hl hz
              have HX := Lib.hid hX
              clear hE3 hE4 hX
              cases hl : FL.leB a b
              · unfold FL.leB at hl
                clear hm1
                go_wp2_with fail
                go_meet
                case rel => exact ⟨rfl, HB8.out⟩
              · cases hz : FL.geB a 0
                · unfold FL.leB at hl
                  unfold FL.geB at hz
                  clear hm1
                  go_wp2_with fail
                  go_meet
                  case rel => exact ⟨rfl, HB8.out⟩
                · exact absurd (HX.out hl hz) hm1
          · obtain ⟨t4, y4, rfl⟩ := hE4.held hm2
            clear hE4 hm2
            by_cases hm1 : m1 = 0
            · obtain rfl := (hE3.zero hm1).1
              clear hE3 hm1
              cases hl : FL.leB a b
              · unfold FL.leB at hl
                go_wp2_with fail
                go_meet
                case rel => exact ⟨rfl, HB8.out⟩
              · cases hz : FL.geB a 0
                · unfold FL.leB at hl
                  unfold FL.geB at hz
                  go_wp2_with fail
                  go_meet
                  case rel => exact ⟨rfl, HB8.out⟩
                · unfold FL.leB at hl
                  unfold FL.geB at hz
                  go_wp2_with fail
                  go_meet
                  case rel => exact ⟨rfl, HB8.out⟩
            · obtain ⟨t3, y3, rfl⟩ := hE3.held hm1
              clear hE3 hm1
              cases hl : FL.leB a b
              · unfold FL.leB at hl
                go_wp2_with fail
                go_meet
                case rel => exact ⟨rfl, HB8.out⟩
              · cases hz : FL.geB a 0
                · unfold FL.leB at hl
                  unfold FL.geB at hz
                  go_wp2_with fail
                  go_meet
                  case rel => exact ⟨rfl, HB8.out⟩
                · unfold FL.leB at hl
                  unfold FL.geB at hz
                  go_wp2_with fail
                  go_meet
                  case rel => exact ⟨rfl, HB8.out⟩
        case rest => as_aux_lemma =>
          obtain ⟨rfl, hb⟩ := hcut
          have HB9 := Lib.hid hb
          clear hb HE3 HE4 HT1 HT2 HB7 HB8
          by_cases h0 : n < 0
          · have d0 : decide (n < 0) = true := decide_eq_true h0
            clear h0
            go_wp2_with fail
            go_ret
            exact ⟨rfl, (HW.out _ HB9.out).2.2.2.2.2.2⟩
          · have d0 : decide (n < 0) = false := decide_eq_false h0
            by_cases h1 : n ≤ 9007199254740992
            · have d1 : decide (n > 9007199254740992) = false := decide_eq_false (by omega)
              have HWH := Lib.hid (fun m e h => tick_whole (n := n) (m := m) (e := e) (by omega) h1 h)
              have hfl : FL.fint n < 2 ^ 64 := (FL.fint_facts (n := n) (by omega) (by omega)).2.2.1
              have HFL := Lib.hid hfl
              clear h0 h1 hfl
              go_wp2_with fail
              refine (HD.out (FL.fint n) HFL.out 0 _).mono ?_
              rintro e w10 ⟨z, v5, m5, rfl, hE5, hT5, hb10⟩
              obtain ⟨rfl, rfl⟩ := HWH.out _ _ hT5
              obtain rfl := (hE5.zero rfl).1
              have HB10 := Lib.hid (HB9.out.trans (hb10.mono HB9.out.size))
              clear hb10 hE5 hT5
              go_wp2_with fail
              go_ret
              exact ⟨rfl, (HW.out _ HB10.out).2.2.2.2.2.2⟩
            · have d1 : decide (n > 9007199254740992) = true := decide_eq_true (by omega)
              clear h0 h1
              go_wp2_with fail
              go_ret
              exact ⟨rfl, (HW.out _ HB9.out).2.2.2.2.2.2⟩
    · obtain ⟨t, x, rfl⟩ := hE.held hk0
      have HB6 := Lib.hid HB4.out
      clear hE hk0 HB4 HB3 HYE HYZ HBF j12
      go_wp2_with fail
      refine (HD.out a HA.out scale _).mono ?_
      rintro e w7 ⟨i, v3, m1, rfl, hE3, hT1, hb7⟩
      have HB7 := Lib.hid (HB6.out.trans (hb7.mono HB6.out.size))
      have HE3 := Lib.hid hE3
      have HT1 := Lib.hid hT1
      clear hb7 hE3 hT1
      go_wp2_with fail
      refine (HD.out b HB.out scale _).mono ?_
      rintro e w8 ⟨k, v4, m2, rfl, hE4, hT2, hb8⟩
      have HB8 := Lib.hid (HB7.out.trans (hb8.mono HB7.out.size))
      have HE4 := Lib.hid hE4
      have HT2 := Lib.hid hT2
      clear hb8 hE4 hT2
      go_upto_region 19 with fail
      go_cut [196] (fun v wc => v = .bool false ∧ Below w0.heap.size w0 wc)
      case first => as_aux_lemma =>
        have hE3 := HE3.out
        have hE4 := HE4.out
        by_cases hm2 : m2 = 0
        · obtain rfl := (hE4.zero hm2).1
          subst hm2
          by_cases hm1 : m1 = 0
          · obtain rfl := (hE3.zero hm1).1
            subst hm1
            have hL : FL.leB a b = true → i ≤ k := fun h => tick_rises HT1.out HT2.out (FL.leB_true h).2.2
            have hG : FL.geB a b = true → k ≤ i := fun h => tick_rises HT2.out HT1.out (FL.geB_true h).2.2
            have HL := Lib.hid hL
            have HG := Lib.hid hG
            clear hE3 hE4 hL hG
            cases hl : FL.leB a b
            · cases hg : FL.geB a b
              · unfold FL.leB at hl
                unfold FL.geB at hg
                go_wp2_with fail
                go_meet
                case rel => exact ⟨rfl, HB8.out⟩
              · have hq : decide (i < k) = false := decide_eq_false (by have := HG.out hg; omega)
                unfold FL.leB at hl
                unfold FL.geB at hg
                go_wp2_with fail
                go_meet
                case rel => exact ⟨rfl, HB8.out⟩
            · have hp : decide (i > k) = false := decide_eq_false (by have := HL.out hl; omega)
              cases hz : FL.geB a 0
              · cases hg : FL.geB a b
                · unfold FL.leB at hl
                  unfold FL.geB at hg hz
                  go_wp2_with fail
                  go_meet
                  case rel => exact ⟨rfl, HB8.out⟩
                · have hq : decide (i < k) = false := decide_eq_false (by have := HG.out hg; omega)
                  unfold FL.leB at hl
                  unfold FL.geB at hg hz
                  go_wp2_with fail
                  go_meet
                  case rel => exact ⟨rfl, HB8.out⟩
              · cases hg : FL.geB a b
                · unfold FL.leB at hl
                  unfold FL.geB at hg hz
                  go_wp2_with fail
                  go_meet
                  case rel => exact ⟨rfl, HB8.out⟩
                · have hq : decide (i < k) = false := decide_eq_false (by have := HG.out hg; omega)
                  unfold FL.leB at hl
                  unfold FL.geB at hg hz
                  go_wp2_with fail
                  go_meet
                  case rel => exact ⟨rfl, HB8.out⟩
          · obtain ⟨t3, y3, rfl⟩ := hE3.held hm1
            have hX := fun hl hz => tick_err HT1.out HT2.out hl hz
            have HX := Lib.hid hX
            clear hE3 hE4 hX
            cases hl : FL.leB a b
            · unfold FL.leB at hl
              clear hm1
              go_wp2_with fail
              go_meet
              case rel => exact ⟨rfl, HB8.out⟩
            · cases hz : FL.geB a 0
              · unfold FL.leB at hl
                unfold FL.geB at hz
                clear hm1
                go_wp2_with fail
                go_meet
                case rel => exact ⟨rfl, HB8.out⟩
              · exact absurd (HX.out hl hz) hm1
        · obtain ⟨t4, y4, rfl⟩ := hE4.held hm2
          clear hE4 hm2
          by_cases hm1 : m1 = 0
          · obtain rfl := (hE3.zero hm1).1
            clear hE3 hm1
            cases hl : FL.leB a b
            · unfold FL.leB at hl
              go_wp2_with fail
              go_meet
              case rel => exact ⟨rfl, HB8.out⟩
            · cases hz : FL.geB a 0
              · unfold FL.leB at hl
                unfold FL.geB at hz
                go_wp2_with fail
                go_meet
                case rel => exact ⟨rfl, HB8.out⟩
              · unfold FL.leB at hl
                unfold FL.geB at hz
                go_wp2_with fail
                go_meet
                case rel => exact ⟨rfl, HB8.out⟩
          · obtain ⟨t3, y3, rfl⟩ := hE3.held hm1
            clear hE3 hm1
            cases hl : FL.leB a b
            · unfold FL.leB at hl
              go_wp2_with fail
              go_meet
              case rel => exact ⟨rfl, HB8.out⟩
            · cases hz : FL.geB a 0
              · unfold FL.leB at hl
                unfold FL.geB at hz
                go_wp2_with fail
                go_meet
                case rel => exact ⟨rfl, HB8.out⟩
              · unfold FL.leB at hl
                unfold FL.geB at hz
                go_wp2_with fail
                go_meet
                case rel => exact ⟨rfl, HB8.out⟩
      case rest => as_aux_lemma =>
        obtain ⟨rfl, hb⟩ := hcut
        have HB9 := Lib.hid hb
        clear hb HE3 HE4 HT1 HT2 HB7 HB8
        by_cases h0 : n < 0
        · have d0 : decide (n < 0) = true := decide_eq_true h0
          clear h0
          go_wp2_with fail
          go_ret
          exact ⟨rfl, (HW.out _ HB9.out).2.2.2.2.2.2⟩
        · have d0 : decide (n < 0) = false := decide_eq_false h0
          by_cases h1 : n ≤ 9007199254740992
          · have d1 : decide (n > 9007199254740992) = false := decide_eq_false (by omega)
            have HWH := Lib.hid (fun m e h => tick_whole (n := n) (m := m) (e := e) (by omega) h1 h)
            have hfl : FL.fint n < 2 ^ 64 := (FL.fint_facts (n := n) (by omega) (by omega)).2.2.1
            have HFL := Lib.hid hfl
            clear h0 h1 hfl
            go_wp2_with fail
            refine (HD.out (FL.fint n) HFL.out 0 _).mono ?_
            rintro e w10 ⟨z, v5, m5, rfl, hE5, hT5, hb10⟩
            obtain ⟨rfl, rfl⟩ := HWH.out _ _ hT5
            obtain rfl := (hE5.zero rfl).1
            have HB10 := Lib.hid (HB9.out.trans (hb10.mono HB9.out.size))
            clear hb10 hE5 hT5
            go_wp2_with fail
            go_ret
            exact ⟨rfl, (HW.out _ HB10.out).2.2.2.2.2.2⟩
          · have d1 : decide (n > 9007199254740992) = true := decide_eq_true (by omega)
            clear h0 h1
            go_wp2_with fail
            go_ret
            exact ⟨rfl, (HW.out _ HB9.out).2.2.2.2.2.2⟩
end Go.Proofs.YtmepjcnpbjdlkaaGreatDoor
