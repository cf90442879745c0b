/- texts of this claim, laid together: BigJ, BigK. -/
import Derived.Test.YtmepjcnpbjdlkaaGreatDoorQePriceA
import Derived.Test.YtmepjcnpbjdlkaaGreatDoorQeBigI
import Derived.Deep.DeepCutAuto
import Derived.Deep.CutBlock
/- price.rounded by contract. -/
namespace Go.Proofs.YtmepjcnpbjdlkaaGreatDoor
set_option linter.unusedVariables false
set_option linter.unusedSimpArgs false
open Go.RowKit
attribute [local irreducible] Go.wpStill

def RndP (m n : Nat) (mode : Int) (w : World) (e : Ending) (w' : World) : Prop := ∃ v2, e = .returned (.tuple #[.int .i64 (DG.rounded m n mode).1, v2]) ∧ ErrP v2 (DG.rounded m n mode).2 none ∧ Below w.heap.size w w'
set_option maxRecDepth 100000 in
set_option maxHeartbeats 8000000 in
theorem rounded_any (q r : Nat) (m n : Nat) (mode : Int) (w : World) (hq : BigAt w q false m) (hr : BigAt w r false n) (hn : 0 < n) (hml : (DG.dig m).length ≤ 20000) (hnl : (DG.dig n).length ≤ 20000) : Calls Tryz.prog 64 #[.pointer (some ⟨q, 0, none⟩), .pointer (some ⟨r, 0, none⟩), .int .i64 mode] w (RndP m n mode w) := by
  have hz2 := ((Below.refl w.heap.size w).alloc (Nat.le_refl _) (.cells #[.bool false, .slice none 0 0] 171)).alloc (by simp) (.cells #[.bool false, .slice none 0 0] 171)
  have hp1 := heap_alloc2_old w (.cells #[.bool false, .slice none 0 0] 171) (.cells #[.bool false, .slice none 0 0] 171)
  have hp2 := heap_alloc2_new w (.cells #[.bool false, .slice none 0 0] 171) (.cells #[.bool false, .slice none 0 0] 171)
  have hqr := quoRem_any w.heap.size q r (w.heap.size + 1) _ _ _ _ m n _ hp1 hp2 (by omega) (hq.below hz2) (hr.below hz2) hn (by omega) (by omega)
  have hrl : (DG.dig (m % n)).length ≤ 20000 := Nat.le_trans (DG.len_mono (Nat.le_of_lt (Nat.mod_lt _ hn))) hnl
  have hql : (DG.dig (m / n)).length ≤ 20000 := Nat.le_trans (DG.len_mono (Nat.div_le_self ..)) hml
  have hup : ∀ k, mode = k → DG.goesUp (m / n) (m % n) n mode = decide (k = 1 ∧ 0 < m % n ∨ k = 2 ∧ n ≤ 2 * (m % n) ∨ k = 3 ∧ (n < 2 * (m % n) ∨ n = 2 * (m % n) ∧ m / n % 2 = 1)) := fun k hk => by subst hk; rfl
  have hqo : DG.quo m n mode = m / n + if DG.goesUp (m / n) (m % n) n mode then 1 else 0 := rfl
  have hro : DG.rounded m n mode = if DG.quo m n mode < 9223372036854775808 then (((DG.quo m n mode : Nat) : Int), 0) else (0, 9) := rfl
  unfold RndP
  rw [hqo] at hro
  have HR := Lib.hid hr
  have HQR := Lib.hid hqr
  have HZ2 := Lib.hid hz2
  have HUP := Lib.hid hup
  generalize DG.rounded m n mode = R at *
  clear hq hr hz2 hp1 hp2 hqr hqo hup
  generalize DG.goesUp (m / n) (m % n) n mode = up at *
  generalize m / n = qq at *
  generalize m % n = rr at *
  have HRO := Lib.hid hro
  clear hro
  go_enter Tryz.func64, Tryz.ntmps64
  go_wp2_with fail
  refine HQR.out.mono ?_
  rintro e w3 ⟨rfl, h1, h2, h3⟩
  have hb3 := HZ2.out.trans (h3 w.heap.size (by simp; omega) (Nat.le_refl _) (by omega))
  obtain ⟨v2, hp2, hv2⟩ := id h2
  have hlsh := lsh1_any (w.heap.size + 1) (w.heap.size + 1) _ _ rr w3 hp2 h2 (by omega)
  have H1 := Lib.hid h1
  have H2 := Lib.hid h2
  have HB3 := Lib.hid hb3
  have HL := Lib.hid hlsh
  clear h1 h2 h3 hb3 hp2 hv2 hlsh HQR
  go_wp2_with fail
  refine HL.out.mono ?_
  rintro e w4 ⟨rfl, h4, h5⟩
  have h1 := H1.out.other H2.out h5 (by omega)
  have hb4 := below_of_grown HB3.out HB3.out.size h5 (by omega)
  have hcmp := cmp_any (w.heap.size + 1) r (2 * rr) n w4 h4 (HR.out.below hb4)
  have H1 := Lib.hid h1
  have H4 := Lib.hid h4
  have HB4 := Lib.hid hb4
  have HC := Lib.hid hcmp
  clear h1 h4 h5 hb4 hcmp H2 HL HB3 HZ2
  go_wp2_with fail
  refine HC.out.mono ?_
  rintro e w5 ⟨rfl, hb5⟩
  have hs5 := sign_any _ _ _ w5 (H4.out.below hb5)
  have ht5 := bit0_any _ _ _ w5 (H1.out.below hb5)
  rw [if_neg (by decide)] at hs5
  have H15 := Lib.hid (H1.out.below hb5)
  have HB5 := Lib.hid (HB4.out.trans (hb5.mono HB4.out.size))
  have HS5 := Lib.hid hs5
  have HT5 := Lib.hid ht5
  clear hb5 hs5 ht5 H1 H4 HC HB4 HR
  have hC1 : n < 2 * rr → decide (DG.cmpN (2 * rr) n ≥ 0) = true ∧ decide (DG.cmpN (2 * rr) n > 0) = true := fun h => by
    unfold DG.cmpN; rw [if_neg (show ¬ 2 * rr < n by omega), if_pos h]; decide
  have hC2 : n = 2 * rr → decide (DG.cmpN (2 * rr) n ≥ 0) = true ∧ decide (DG.cmpN (2 * rr) n > 0) = false ∧ (DG.cmpN (2 * rr) n == 0) = true := fun h => by
    unfold DG.cmpN; rw [if_neg (show ¬ 2 * rr < n by omega), if_neg (show ¬ n < 2 * rr by omega)]; decide
  have hC3 : 2 * rr < n → decide (DG.cmpN (2 * rr) n ≥ 0) = false ∧ decide (DG.cmpN (2 * rr) n > 0) = false ∧ (DG.cmpN (2 * rr) n == 0) = false := fun h => by
    unfold DG.cmpN; rw [if_pos h]; decide
  generalize DG.cmpN (2 * rr) n = cmp at *
  have HC1 := Lib.hid hC1
  have HC2 := Lib.hid hC2
  have HC3 := Lib.hid hC3
  clear hC1 hC2 hC3
  go_upto_region 3 with fail
  go_cut [55] (fun v wc => v = .bool up ∧ wc = w5)
  case first =>
    by_cases m1 : mode = 1
    · subst m1
      have hup := HUP.out 1 rfl
      by_cases hr0 : 0 < rr
      · rw [decide_eq_true (by omega)] at hup
        rw [if_pos (by omega : 0 < 2 * rr)] at HS5
        have HU := Lib.hid hup
        clear hup
        go_wp2_with fail
        refine HS5.out.mono ?_
        rintro e w5 ⟨rfl, rfl⟩
        go_wp2_with fail
        go_meet
        case rel => exact ⟨by rw [HU.out], rfl⟩
      · rw [decide_eq_false (by omega)] at hup
        rw [if_neg (by omega : ¬ 0 < 2 * rr)] at HS5
        have HU := Lib.hid hup
        clear hup
        go_wp2_with fail
        refine HS5.out.mono ?_
        rintro e w5 ⟨rfl, rfl⟩
        go_wp2_with fail
        go_meet
        case rel => exact ⟨by rw [HU.out], rfl⟩
    · have m1b : (mode == 1) = false := by simp [m1]
      by_cases m2 : mode = 2
      · subst m2
        clear m1 m1b
        have hup := HUP.out 2 rfl
        by_cases hc : n ≤ 2 * rr
        · rw [decide_eq_true (by omega)] at hup
          have hge : decide (cmp ≥ 0) = true := by
            rcases Nat.lt_or_ge n (2 * rr) with h | h
            · exact (HC1.out h).1
            · exact (HC2.out (by omega)).1
          have HU := Lib.hid hup
          clear hup
          go_wp2_with fail
          go_meet
          case rel => exact ⟨by rw [HU.out], rfl⟩
        · rw [decide_eq_false (by omega)] at hup
          have hge : decide (cmp ≥ 0) = false := (HC3.out (by omega)).1
          have HU := Lib.hid hup
          clear hup
          go_wp2_with fail
          go_meet
          case rel => exact ⟨by rw [HU.out], rfl⟩
      · have m2b : (mode == 2) = false := by simp [m2]
        by_cases m3 : mode = 3
        · subst m3
          clear m1 m1b m2 m2b
          have hup := HUP.out 3 rfl
          rcases Nat.lt_trichotomy n (2 * rr) with hc | hc | hc
          · rw [decide_eq_true (by omega)] at hup
            obtain ⟨_, hcm⟩ := HC1.out hc
            have HU := Lib.hid hup
            clear hup
            go_wp2_with fail
            go_meet
            case rel => exact ⟨by rw [HU.out], rfl⟩
          · obtain ⟨_, hcm, hcm0⟩ := HC2.out hc
            by_cases hod : qq % 2 = 1
            · rw [decide_eq_true (by omega)] at hup
              rw [hod] at HT5
              have HU := Lib.hid hup
              clear hup hod
              go_wp2_with fail
              refine HT5.out.mono ?_
              rintro e w5 ⟨rfl, rfl⟩
              go_wp2_with fail
              go_meet
              case rel => exact ⟨by rw [HU.out], rfl⟩
            · have h0 : qq % 2 = 0 := by omega
              rw [decide_eq_false (by omega)] at hup
              rw [h0] at HT5
              have HU := Lib.hid hup
              clear hup hod h0
              go_wp2_with fail
              refine HT5.out.mono ?_
              rintro e w5 ⟨rfl, rfl⟩
              go_wp2_with fail
              go_meet
              case rel => exact ⟨by rw [HU.out], rfl⟩
          · rw [decide_eq_false (by omega)] at hup
            obtain ⟨_, hcm, hcm0⟩ := HC3.out hc
            have HU := Lib.hid hup
            clear hup
            go_wp2_with fail
            go_meet
            case rel => exact ⟨by rw [HU.out], rfl⟩
        · have m3b : (mode == 3) = false := by simp [m3]
          have hup := HUP.out mode rfl
          rw [decide_eq_false (by omega)] at hup
          have HU := Lib.hid hup
          clear hup m1 m2 m3
          go_wp2_with fail
          go_meet
          case rel => exact ⟨by rw [HU.out], rfl⟩
  case rest =>
    obtain ⟨rfl, rfl⟩ := hcut
    clear HUP HS5 HT5 HC1 HC2 HC3
    cases up
    · obtain ⟨wf, hwf⟩ : ∃ wf, wf = wc := ⟨_, rfl⟩
      subst hwf
      have HF := H15
      have HBF := HB5
      clear H15 HB5 H1
      by_cases hlt : qq < 9223372036854775808
      · have hd : decide (qq < 9223372036854775808) = true := decide_eq_true hlt
        have hi := isInt64_any _ _ wf HF.out
        have hv := int64_any _ _ wf HF.out hlt
        rw [hd] at hi
        have hres : R = (((qq : Nat) : Int), 0) := by
          rw [HRO.out, if_neg (by decide : ¬ (false = true)), Nat.add_zero, if_pos hlt]
        have HRES := Lib.hid hres
        clear hres
        have HI := Lib.hid hi
        have HV := Lib.hid hv
        clear hi hv hd hlt
        have HNN := Lib.hid (show True from trivial)
        go_wp2_with fail
        refine HI.out.mono ?_
        rintro e wf ⟨rfl, rfl⟩
        go_wp2_with fail
        refine HV.out.mono ?_
        rintro e wf ⟨rfl, rfl⟩
        go_wp2_with fail
        go_ret2
        refine ⟨.nilIface, ?_, ?_, HBF.out⟩
        · rw [HRES.out]; rfl
        · rw [HRES.out]; exact .nil
      · have hd : decide (qq < 9223372036854775808) = false := decide_eq_false hlt
        have hi := isInt64_any _ _ wf HF.out
        rw [hd] at hi
        have hres : R = (0, 9) := by
          rw [HRO.out, if_neg (by decide : ¬ (false = true)), Nat.add_zero, if_neg hlt]
        have HRES := Lib.hid hres
        clear hres
        have HI := Lib.hid hi
        clear hi hd hlt
        have HNN := Lib.hid (show True from trivial)
        go_wp2_with fail
        refine HI.out.mono ?_
        rintro e wf ⟨rfl, rfl⟩
        go_wp2_with fail
        go_ret2
        refine ⟨_, by rw [HRES.out]; rfl, ?_, HBF.out⟩
        rw [HRES.out]
        exact errP_pri _ (by decide) (by decide)
    · have hne := newInt_any 1 wc (by decide)
      have HN := Lib.hid hne
      clear hne
      go_wp2_with fail
      refine HN.out.mono ?_
      rintro e w6 ⟨pn, rfl, hpn, h6, hb6⟩
      have h16 := H15.out.below hb6
      obtain ⟨v6, hp6, hv6⟩ := id h16
      have hadd := add_any w.heap.size w.heap.size pn _ _ qq 1 w6 hp6 h16 h6 (by omega) (by rw [DG.dig_one]; simp)
      have HADD := Lib.hid hadd
      have HB6 := Lib.hid (HB5.out.trans (hb6.mono HB5.out.size))
      clear h6 hb6 h16 hp6 hv6 hadd HN
      go_wp2_with fail
      refine HADD.out.mono ?_
      rintro e wf ⟨rfl, h7, h8⟩
      have HF := Lib.hid h7
      have HBF := Lib.hid (below_of_grown HB6.out HB6.out.size h8 (Nat.le_refl _))
      clear h7 h8 HADD HB6 H15 HB5 H1
      by_cases hlt : (qq + 1) < 9223372036854775808
      · have hd : decide ((qq + 1) < 9223372036854775808) = true := decide_eq_true hlt
        have hi := isInt64_any _ _ wf HF.out
        have hv := int64_any _ _ wf HF.out hlt
        rw [hd] at hi
        have hres : R = ((((qq + 1) : Nat) : Int), 0) := by
          rw [HRO.out, if_pos trivial, if_pos hlt]
        have HRES := Lib.hid hres
        clear hres
        have HI := Lib.hid hi
        have HV := Lib.hid hv
        clear hi hv hd hlt
        have HNN := Lib.hid (show True from trivial)
        go_wp2_with fail
        refine HI.out.mono ?_
        rintro e wf ⟨rfl, rfl⟩
        go_wp2_with fail
        refine HV.out.mono ?_
        rintro e wf ⟨rfl, rfl⟩
        go_wp2_with fail
        go_ret2
        refine ⟨.nilIface, ?_, ?_, HBF.out⟩
        · rw [HRES.out]; rfl
        · rw [HRES.out]; exact .nil
      · have hd : decide ((qq + 1) < 9223372036854775808) = false := decide_eq_false hlt
        have hi := isInt64_any _ _ wf HF.out
        rw [hd] at hi
        have hres : R = (0, 9) := by
          rw [HRO.out, if_pos trivial, if_neg hlt]
        have HRES := Lib.hid hres
        clear hres
        have HI := Lib.hid hi
        clear hi hd hlt
        have HNN := Lib.hid (show True from trivial)
        go_wp2_with fail
        refine HI.out.mono ?_
        rintro e wf ⟨rfl, rfl⟩
        go_wp2_with fail
        go_ret2
        refine ⟨_, by rw [HRES.out]; rfl, ?_, HBF.out⟩
        rw [HRES.out]
        exact errP_pri _ (by decide) (by decide)
end Go.Proofs.YtmepjcnpbjdlkaaGreatDoor
/- price.product by contract. -/
namespace Go.Proofs.YtmepjcnpbjdlkaaGreatDoor
set_option linter.unusedVariables false
set_option linter.unusedSimpArgs false
open Go.RowKit
attribute [local irreducible] Go.wpStill

/-- a product -/
def prodN (l : List Nat) : Nat := l.foldl (· * ·) 1
theorem prodN_take (l : List Nat) (i : Nat) (h : i < l.length) : prodN (l.take (i + 1)) = prodN (l.take i) * l[i] := by
  unfold prodN
  rw [List.take_succ_eq_append_getElem h, List.foldl_append]
  rfl
theorem prodN_le (l : List Nat) (hx : ∀ x ∈ l, x < 9223372036854775808) : ∀ i, i ≤ l.length → prodN (l.take i) ≤ 2 ^ (63 * i) := by
  intro i
  induction i with
  | zero => intro _; exact Nat.le_refl _
  | succ i ih =>
    intro hi
    rw [prodN_take l i (by omega), Nat.mul_add, Nat.pow_add]
    exact Nat.mul_le_mul (ih (by omega)) (Nat.le_of_lt (hx _ (List.getElem_mem ..)))
theorem len_pow {x k : Nat} (h : x < 2 ^ (32 * k)) : (DG.dig x).length ≤ k := (DG.len_le_iff x k).2 (by rw [DG.pow_b]; exact h)
theorem prodN_len (l : List Nat) (hx : ∀ x ∈ l, x < 9223372036854775808) (hl : l.length ≤ 4) (i : Nat) (hi : i ≤ l.length) : (DG.dig (prodN (l.take i))).length ≤ 8 := by
  refine len_pow (Nat.lt_of_le_of_lt (prodN_le l hx i hi) (Nat.pow_lt_pow_right (by decide) (by omega)))
theorem len_one {x : Nat} (h : x < 9223372036854775808) : (DG.dig x).length ≤ 2 := len_pow (Nat.lt_of_lt_of_le h (by decide))
set_option maxHeartbeats 4000000 in
theorem product_any (g : Nat) (l : List Nat) (w : World) (hg : w.heap[g]? = some (.cells (l.map (fun x : Nat => Value.int .i64 (x : Int))).toArray 2 (0, 0))) (hl : l.length ≤ 4) (hx : ∀ x ∈ l, x < 9223372036854775808) : Calls Tryz.prog 214 #[.slice (some ⟨g, 0, none⟩) l.length l.length] w fun e w' => ∃ p, e = .returned (.pointer (some ⟨p, 0, none⟩)) ∧ w.heap.size ≤ p ∧ BigAt w' p false (prodN l) ∧ Below w.heap.size w w' := by
  have hgl := lt_of_block hg
  have hn1 := newInt_any 1 w (by decide)
  have hpl := prodN_len l hx hl
  have hstep := fun i (h : i < l.length) => prodN_take l i h
  have hcell : ∀ w1, Below w.heap.size w w1 → ∀ i (h : i < l.length), w1.cell? ⟨g, i, none⟩ = some (.int .i64 ((l[i] : Nat) : Int)) := fun w1 hb i h => by
    rw [cell_of_row _ _ _ _ _ _ ((hb.block g hgl).trans hg)]
    simp [h]
  have hx2 := fun i (h : i < l.length) => hx l[i] (List.getElem_mem ..)
  have hall : prodN (l.take l.length) = prodN l := by rw [List.take_length]
  have h0 : prodN (l.take 0) = 1 := rfl
  have HN1 := Lib.hid hn1
  have HPL := Lib.hid hpl
  have HST := Lib.hid hstep
  have HC := Lib.hid hcell
  have HX := Lib.hid hx2
  have HALL := Lib.hid hall
  have HP0 := Lib.hid h0
  clear hg hn1 hpl hstep hcell hx hx2 hall h0
  go_enter Tryz.func214, Tryz.ntmps214
  go_wp2_with fail
  refine HN1.out.mono ?_
  rintro e w1 ⟨p, rfl, hp, hB, hb1⟩
  have hB0 : BigAt w1 p false (prodN (l.take 0)) := by rw [HP0.out]; exact hB
  have HB0 := Lib.hid hB0
  have HB1 := Lib.hid hb1
  clear hB hB0 hb1 HN1
  go_wp2_with fail
  go_loopw [9] (fun k wr => ∃ i : Nat, k = .int .i64 i ∧ i ≤ l.length ∧ BigAt wr p false (prodN (l.take i)) ∧ Below w.heap.size w wr) (fun k _ => l.length - (intOf k).toNat)
  case atStart => exact ⟨0, rfl, Nat.zero_le _, HB0.out, HB1.out⟩
  case round =>
    obtain ⟨i, rfl, hi, hB, hW⟩ := hrel
    by_cases hlt : i < l.length
    · have hdl : decide (i < l.length) = true := decide_eq_true hlt
      have hc := HC.out wr hW i hlt
      have hs := HST.out i hlt
      have hne := newInt_any l[i] wr (HX.out i hlt)
      have hxl := len_one (HX.out i hlt)
      have hpl := HPL.out i hi
      generalize l[i] = x at *
      generalize prodN (l.take i) = P at *
      have HS := Lib.hid hs
      have HN := Lib.hid hne
      have HB := Lib.hid hB
      have HWW := Lib.hid hW
      clear hs hne hB hW
      go_wp2_with fail
      refine HN.out.mono ?_
      rintro e w2 ⟨pn, rfl, hpn, hBn, hb2⟩
      have hB2 := HB.out.below hb2
      obtain ⟨v, hp2, hv⟩ := id hB2
      have hm := mul_any p p pn _ _ P x w2 hp2 hB2 hBn (by omega) (by omega)
      rw [← HS.out] at hm
      have HM := Lib.hid hm
      have HW2 := Lib.hid (HWW.out.trans (hb2.mono HWW.out.size))
      clear hBn hb2 hB2 hp2 hv hm
      go_wp2_with fail
      refine HM.out.mono ?_
      rintro e w3 ⟨rfl, h1, h2⟩
      have H1 := Lib.hid h1
      have H2 := Lib.hid (below_of_grown HW2.out HW2.out.size h2 hp)
      clear h1 h2
      go_wp2_with fail
      exact ⟨⟨i + 1, by go_num, by omega, H1.out, H2.out⟩, by simp [intOf]; omega⟩
    · have hdl : decide (i < l.length) = false := decide_eq_false hlt
      have hil : i = l.length := by omega
      subst hil
      rw [HALL.out] at hB
      have HB := Lib.hid hB
      clear hB
      go_wp2_with fail
      go_ret
      exact ⟨p, rfl, hp, HB.out, hW⟩
end Go.Proofs.YtmepjcnpbjdlkaaGreatDoor
