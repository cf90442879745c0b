/- texts of this claim, laid together: FlW. -/
import Derived.Test.YtmepjcnpbjdlkaaGreatDoorQdFlD
import Derived.Test.YtmepjcnpbjdlkaaGreatDoorQdRefA
/- the document's numbers with a point by contract: classes, parts, sums, products, quotients, comparisons. -/
namespace Go.Proofs.YtmepjcnpbjdlkaaGreatDoor
set_option linter.unusedVariables false
set_option linter.unusedSimpArgs false
open Go.RowKit Go.Proofs.YtmepjcnpbjdlkaaGreatDoorW.PrintWords Go.Proofs.YtmepjcnpbjdlkaaGreatDoorW.PrintLast Go.Proofs.YtmepjcnpbjdlkaaGreatDoorW.PrintMore
open PPriceClean
attribute [local irreducible] Go.wpStill

/-- a call answers a word of 64 bits, in new memory -/
def RetU (r : Nat) (w : World) (e : Ending) (w' : World) : Prop := e = .returned (.int .u64 (r : Int)) ∧ Below w.heap.size w w'
theorem fClass_any (a : Nat) (w : World) (h : a < 2 ^ 64) : Calls Tryz.prog 45 #[.int .u64 (a : Int)] w fun e w' => e = .returned (.int .i64 (FL.cls a)) ∧ Below w.heap.size w w' := by
  obtain ⟨k, hk⟩ := (FL.class_ev h).rounds
  exact (custodyref04_Class.calls k _ _ w hk).mono fun e w' ⟨h1, h2⟩ => ⟨h1, h2.below⟩
theorem fNegative_any (a : Nat) (w : World) (h : a < 2 ^ 64) : Calls Tryz.prog 97 #[.int .u64 (a : Int)] w fun e w' => e = .returned (.bool (FL.neg a)) ∧ Below w.heap.size w w' :=
  (custodyref04_negative.calls _ _ w (FL.negative_f h)).mono fun e w' ⟨h1, h2⟩ => ⟨h1, h2.below⟩
theorem fSigned_any (s : Bool) (r : Nat) (w : World) (h : r < 2 ^ 63) : Calls Tryz.prog 98 #[.bool s, .int .u64 (r : Int)] w (RetU (FL.wd s r) w) :=
  (custodyref04_signed.calls _ _ _ w (FL.signed_f s h)).mono fun e w' ⟨h1, h2⟩ => ⟨h1, h2.below⟩
def PartsP (a : Nat) (w : World) (e : Ending) (w' : World) : Prop := ∃ m e' : Nat, e = .returned (.tuple #[.bool (FL.neg a), .int .u64 (m : Int), .int .i64 ((-1074 : Int) + e')]) ∧ m * 2 ^ e' = FL.U a ∧ m < 2 ^ 53 ∧ e' ≤ 2045 ∧ (m = 0 ↔ FL.rg a = 0) ∧ Below w.heap.size w w'
theorem fParts_any (a : Nat) (w : World) (h : a < 2 ^ 64) (hf : FL.rg a < FL.INF) : Calls Tryz.prog 53 #[.int .u64 (a : Int)] w (PartsP a w) := by
  obtain ⟨m, e, h1, h2, h3, h4, h5⟩ := FL.parts_f h hf
  exact (custodyref04_Parts.calls _ _ _ _ w h1).mono fun e' w' ⟨k1, k2⟩ => ⟨m, e, k1, h2, h3, h4, h5, k2.below⟩
theorem fRound_any (s : Bool) (n : Nat) (E : Int) (a b : Nat) (v : Value) (w : World) (hn : n ≠ 0) (hl : (DG.dig n).length ≤ 9000) (he0 : -3000 ≤ E) (he1 : E ≤ 3000) (hab : E + 1073 = (a : Int) - b) (hv : Ur w v (DG.dig n)) :
    Calls Tryz.prog 100 #[.bool s, v, .int .i64 E, .bool false] w (RetU (FL.wd s (FL.nearR (2 * n) a b)) w) := by
  obtain ⟨A, c, rfl, h2, h3⟩ := hv
  obtain ⟨k, hk⟩ := (FL.round_ev s false hn hl he0 he1 (fun h => by cases h) a b hab).rounds
  have := custodyref04_Round.calls k s A c (DG.I (DG.dig n)) E false _ w (by rw [DG.I_len]; exact h3) (by rw [DG.I_len]; exact h2) hk
  rw [DG.I_len] at this
  exact this
theorem fUp_any (x n : Nat) (v : Value) (w : World) (hlx : (DG.dig x).length ≤ 100000) (hn : n ≤ 3000000) (hv : Ur w v (DG.dig x)) :
    Calls Tryz.prog 57 #[v, .int .i64 (n : Int)] w fun e w' => ∃ u, e = .returned u ∧ Ur w' u (DG.dig (x * 2 ^ n)) ∧ Below w.heap.size w w' := by
  obtain ⟨A, c, rfl, h2, h3⟩ := hv
  obtain ⟨k, hk⟩ := (DG.up_ev hlx hn).rounds
  have := custodyref04_Up.calls k A c (DG.I (DG.dig x)) (n : Int) _ w (by rw [DG.I_len]; exact h3) (by rw [DG.I_len]; exact h2) hk
  rw [DG.I_len] at this
  exact this.mono fun e w' ⟨u, k1, k2, k3⟩ => ⟨u, k1, ur_of_kd k2, k3⟩
theorem fBits_any (x n : Nat) (v : Value) (w : World) (hlx : (DG.dig x).length ≤ 100000) (hn : DG.BL x n) (hv : Ur w v (DG.dig x)) :
    Calls Tryz.prog 54 #[v] w fun e w' => e = .returned (.int .i64 (n : Int)) ∧ Below w.heap.size w w' := by
  obtain ⟨A, c, rfl, h2, h3⟩ := hv
  obtain ⟨k, hk⟩ := (DG.bits_ev hn hlx).rounds
  have := custodyref04_Bits.calls k A c (DG.I (DG.dig x)) _ w (by rw [DG.I_len]; exact h3) (by rw [DG.I_len]; exact h2) hk
  rw [DG.I_len] at this
  exact this.mono fun e w' ⟨k1, k2⟩ => ⟨k1, k2.below⟩
theorem fFromInt_any (n : Int) (w : World) (h0 : 0 ≤ n) (h1 : n < 9223372036854775808) : Calls Tryz.prog 48 #[.int .i64 n] w (RetU (FL.fint n) w) := by
  obtain ⟨k, hk⟩ := (FL.fromInt_ev h0 h1).rounds
  exact custodyref04_FromInt.calls k _ _ w hk
theorem fDiv_any (x y : Nat) (w : World) (hx : x < 2 ^ 64) (hy : y < 2 ^ 64) (hfx : FL.rg x < FL.INF) (hfy : FL.rg y < FL.INF) (h0 : FL.rg y ≠ 0) : Calls Tryz.prog 47 #[.int .u64 (x : Int), .int .u64 (y : Int)] w (RetU (FL.fdiv x y) w) := by
  obtain ⟨k, hk⟩ := (FL.div_ev hx hy hfx hfy h0).rounds
  exact custodyref04_Div.calls k _ _ _ w hk
theorem fDivInf_any (x y : Nat) (w : World) (hx : x < 2 ^ 64) (hy : y < 2 ^ 64) (hfx : FL.rg x < FL.INF) (hfy : FL.rg y = FL.INF) : Calls Tryz.prog 47 #[.int .u64 (x : Int), .int .u64 (y : Int)] w (RetU (FL.wd (FL.neg x ^^ FL.neg y) 0) w) := by
  obtain ⟨k, hk⟩ := (FL.div_inf_ev hx hy hfx hfy).rounds
  exact custodyref04_Div.calls k _ _ _ w hk
theorem fAdd_any (x y : Nat) (w : World) (hx : x < 2 ^ 64) (hy : y < 2 ^ 64) (hfx : FL.rg x < FL.INF) (hfy : FL.rg y < FL.INF) : Calls Tryz.prog 49 #[.int .u64 (x : Int), .int .u64 (y : Int)] w (RetU (FL.fadd x y) w) := by
  obtain ⟨k, hk⟩ := (FL.add_ev hx hy hfx hfy).rounds
  exact custodyref04_Add.calls k _ _ _ w hk
theorem fAddInf_any (x y : Nat) (w : World) (hx : x < 2 ^ 64) (hy : y < 2 ^ 64) (hfx : FL.rg x < FL.INF) (hfy : FL.rg y = FL.INF) : Calls Tryz.prog 49 #[.int .u64 (x : Int), .int .u64 (y : Int)] w (RetU y w) := by
  obtain ⟨k, hk⟩ := (FL.add_inf_ev hx hy hfx hfy).rounds
  exact custodyref04_Add.calls k _ _ _ w hk
theorem fLess_any (x y : Nat) (w : World) (hx : x < 2 ^ 64) (hy : y < 2 ^ 64) (hfx : FL.rg x < FL.INF) (hfy : FL.rg y < FL.INF) : Calls Tryz.prog 51 #[.int .u64 (x : Int), .int .u64 (y : Int)] w fun e w' => e = .returned (.bool (decide (FL.S x < FL.S y))) ∧ Below w.heap.size w w' := by
  obtain ⟨k, hk⟩ := (FL.less_ev hx hy hfx hfy).rounds
  exact custodyref04_Less.calls k _ _ _ w hk
theorem fLessInf_any (x y : Nat) (w : World) (hx : x < 2 ^ 64) (hy : y < 2 ^ 64) (hfx : FL.rg x < FL.INF) (hfy : FL.rg y = FL.INF) : Calls Tryz.prog 51 #[.int .u64 (x : Int), .int .u64 (y : Int)] w fun e w' => e = .returned (.bool (!FL.neg y)) ∧ Below w.heap.size w w' := by
  obtain ⟨k, hk⟩ := (FL.less_inf_ev hx hy hfx hfy).rounds
  exact custodyref04_Less.calls k _ _ _ w hk
theorem mul_near {x y m n e f : Nat} (hu : m * 2 ^ e = FL.U x) (hu' : n * 2 ^ f = FL.U y) (hm : m < 2 ^ 53) (hn : n < 2 ^ 53) : ∃ a b : Nat, ((-1074 : Int) + e + (-1074 + f)) + 1073 = (a : Int) - b ∧ FL.wd (FL.neg x ^^ FL.neg y) (FL.nearR (2 * (m * n)) a b) = FL.fmul x y ∧ (DG.dig (m * n)).length ≤ 9000 := by
  obtain ⟨E, hE, hO⟩ := FL.one_is
  refine ⟨e + f, E + 1, by omega, ?_, ?_⟩
  · unfold FL.nearR FL.fmul
    rw [← hu, ← hu', hO]
    refine congrArg (fun r => FL.wd (FL.neg x ^^ FL.neg y) (min r FL.INF)) ?_
    refine FL.rung_eq (Nat.two_pow_pos _) (Nat.two_pow_pos _) ?_
    have e1 : (2 : Nat) ^ (E + 1) = 2 * 2 ^ E := by rw [Nat.pow_succ, Nat.mul_comm]
    rw [e1, Nat.pow_add]
    generalize (2 : Nat) ^ E = z
    ac_rfl
  · refine Nat.le_trans (FL.len_pow (n := m * n) (k := 4) ?_) (by decide)
    exact Nat.lt_of_lt_of_le (Nat.mul_lt_mul_of_lt_of_lt hm hn) (by decide)
set_option maxRecDepth 100000 in
set_option maxHeartbeats 8000000 in
theorem fMul_any (x y : Nat) (w : World) (hx : x < 2 ^ 64) (hy : y < 2 ^ 64) (hfx : FL.rg x < FL.INF) (hfy : FL.rg y < FL.INF) : Calls Tryz.prog 50 #[.int .u64 (x : Int), .int .u64 (y : Int)] w (RetU (FL.fmul x y) w) := by
  obtain ⟨a0, a1, a2⟩ := FL.cls_fin hfx
  obtain ⟨b0, b1, b2⟩ := FL.cls_fin hfy
  have HC1 := Lib.hid (fun w => fClass_any x w hx)
  have HC2 := Lib.hid (fun w => fClass_any y w hy)
  have HN1 := Lib.hid (fun w => fNegative_any x w hx)
  have HN2 := Lib.hid (fun w => fNegative_any y w hy)
  have HP1 := Lib.hid (fun w => fParts_any x w hx hfx)
  have HP2 := Lib.hid (fun w => fParts_any y w hy hfy)
  have HS := Lib.hid (fun s w => fSigned_any s 0 w (by decide))
  have hz : (FL.rg x = 0 ∨ FL.rg y = 0) → FL.fmul x y = FL.wd (FL.neg x ^^ FL.neg y) 0 := fun h => by
    have : FL.U x * FL.U y = 0 := by
      rcases h with h | h
      · rw [FL.U_zero.2 h, Nat.zero_mul]
      · rw [FL.U_zero.2 h, Nat.mul_zero]
    unfold FL.fmul
    rw [this, FL.rung_zero _ FL.one_pos, Nat.min_eq_left (Nat.zero_le _)]
  have HZ := Lib.hid hz
  have hxor : (FL.neg x ^^ FL.neg y) = (FL.neg x != FL.neg y) := rfl
  have HM := Lib.hid (fun m n e f hu hu' hm hn => mul_near (x := x) (y := y) (m := m) (n := n) (e := e) (f := f) hu hu' hm hn)
  rw [hxor] at HZ HM
  have HB0 := Lib.hid (Below.refl w.heap.size w)
  unfold RetU
  have e10 : (FL.cls x == 0) = false := by simp [a0]
  have e11 : (FL.cls x == 1) = false := by simp [a1]
  have e20 : (FL.cls y == 0) = false := by simp [b0]
  have e21 : (FL.cls y == 1) = false := by simp [b1]
  have f1 : (FL.cls x == 2) = decide (FL.rg x = 0) := by
    by_cases h : FL.rg x = 0
    · rw [decide_eq_true h, a2.2 h]; rfl
    · rw [decide_eq_false h]; simp; exact fun c => h (a2.1 c)
  have f2 : (FL.cls y == 2) = decide (FL.rg y = 0) := by
    by_cases h : FL.rg y = 0
    · rw [decide_eq_true h, b2.2 h]; rfl
    · rw [decide_eq_false h]; simp; exact fun c => h (b2.1 c)
  have HSS := Lib.hid (HS.out (FL.neg x != FL.neg y))
  by_cases hx0 : FL.rg x = 0
  · rw [decide_eq_true hx0] at f1
    have HG := Lib.hid (HZ.out (.inl hx0))
    clear a0 a1 a2 b0 b1 b2 hx hy hfx hfy hz hx0 HZ HM hxor f2
    generalize FL.cls x = cx at *
    generalize FL.cls y = cy at *
    go_enter Tryz.func50, Tryz.ntmps50
    go_wp2_with fail
    refine (HC1.out _).mono ?_
    rintro e w1 ⟨rfl, hb1⟩
    have HB1 := Lib.hid (HB0.out.trans (hb1.mono HB0.out.size))
    clear hb1
    go_wp2_with fail
    refine (HC2.out _).mono ?_
    rintro e w2 ⟨rfl, hb2⟩
    have HB2 := Lib.hid (HB1.out.trans (hb2.mono HB1.out.size))
    clear hb2
    go_wp2_with fail
    refine (HN1.out _).mono ?_
    rintro e w3 ⟨rfl, hb3⟩
    have HB3 := Lib.hid (HB2.out.trans (hb3.mono HB2.out.size))
    clear hb3
    go_wp2_with fail
    refine (HN2.out _).mono ?_
    rintro e w4 ⟨rfl, hb4⟩
    have HB4 := Lib.hid (HB3.out.trans (hb4.mono HB3.out.size))
    clear hb4
    go_wp2_with fail
    refine (HSS.out _).mono ?_
    rintro e w5 ⟨rfl, hb5⟩
    have HB5 := Lib.hid (HB4.out.trans (hb5.mono HB4.out.size))
    clear hb5
    go_wp2_with fail
    go_ret
    exact ⟨by rw [HG.out]; rfl, HB5.out⟩
  · rw [decide_eq_false hx0] at f1
    by_cases hy0 : FL.rg y = 0
    · rw [decide_eq_true hy0] at f2
      have HG := Lib.hid (HZ.out (.inr hy0))
      clear a0 a1 a2 b0 b1 b2 hx hy hfx hfy hz hx0 hy0 HZ HM hxor
      generalize FL.cls x = cx at *
      generalize FL.cls y = cy at *
      go_enter Tryz.func50, Tryz.ntmps50
      go_wp2_with fail
      refine (HC1.out _).mono ?_
      rintro e w1 ⟨rfl, hb1⟩
      have HB1 := Lib.hid (HB0.out.trans (hb1.mono HB0.out.size))
      clear hb1
      go_wp2_with fail
      refine (HC2.out _).mono ?_
      rintro e w2 ⟨rfl, hb2⟩
      have HB2 := Lib.hid (HB1.out.trans (hb2.mono HB1.out.size))
      clear hb2
      go_wp2_with fail
      refine (HN1.out _).mono ?_
      rintro e w3 ⟨rfl, hb3⟩
      have HB3 := Lib.hid (HB2.out.trans (hb3.mono HB2.out.size))
      clear hb3
      go_wp2_with fail
      refine (HN2.out _).mono ?_
      rintro e w4 ⟨rfl, hb4⟩
      have HB4 := Lib.hid (HB3.out.trans (hb4.mono HB3.out.size))
      clear hb4
      go_wp2_with fail
      refine (HSS.out _).mono ?_
      rintro e w5 ⟨rfl, hb5⟩
      have HB5 := Lib.hid (HB4.out.trans (hb5.mono HB4.out.size))
      clear hb5
      go_wp2_with fail
      go_ret
      exact ⟨by rw [HG.out]; rfl, HB5.out⟩
    · rw [decide_eq_false hy0] at f2
      have HX := Lib.hid hx0
      have HY := Lib.hid hy0
      clear a0 a1 a2 b0 b1 b2 hx hy hfx hfy hz hx0 hy0 HZ hxor HSS HS
      generalize FL.cls x = cx at *
      generalize FL.cls y = cy at *
      go_enter Tryz.func50, Tryz.ntmps50
      go_wp2_with fail
      refine (HC1.out _).mono ?_
      rintro e w1 ⟨rfl, hb1⟩
      have HB1 := Lib.hid (HB0.out.trans (hb1.mono HB0.out.size))
      clear hb1
      go_wp2_with fail
      refine (HC2.out _).mono ?_
      rintro e w2 ⟨rfl, hb2⟩
      have HB2 := Lib.hid (HB1.out.trans (hb2.mono HB1.out.size))
      clear hb2
      go_wp2_with fail
      refine (HN1.out _).mono ?_
      rintro e w3 ⟨rfl, hb3⟩
      have HB3 := Lib.hid (HB2.out.trans (hb3.mono HB2.out.size))
      clear hb3
      go_wp2_with fail
      refine (HN2.out _).mono ?_
      rintro e w4 ⟨rfl, hb4⟩
      have HB4 := Lib.hid (HB3.out.trans (hb4.mono HB3.out.size))
      clear hb4
      go_wp2_with fail
      refine (HP1.out _).mono ?_
      rintro e w5 ⟨m, e1, rfl, hu1, hm1, he1, hz1, hb5⟩
      have HB5 := Lib.hid (HB4.out.trans (hb5.mono HB4.out.size))
      have Q1 := Lib.hid (⟨hu1, hm1, he1, hz1⟩ : _ ∧ _ ∧ _ ∧ _)
      clear hb5 hu1 hm1 he1 hz1
      go_wp2_with fail
      refine (HP2.out _).mono ?_
      rintro e w6 ⟨n, e2, rfl, hu2, hm2, he2, hz2, hb6⟩
      have HB6 := Lib.hid (HB5.out.trans (hb6.mono HB5.out.size))
      have Q2 := Lib.hid (⟨hu2, hm2, he2, hz2⟩ : _ ∧ _ ∧ _ ∧ _)
      clear hb6 hu2 hm2 he2 hz2
      have L1 := Lib.hid (fun w => refList_any m w (by have := Q1.out.2.1; omega))
      have L2 := Lib.hid (fun w => refList_any n w (by have := Q2.out.2.1; omega))
      obtain ⟨a, b, hab, hr, hl⟩ := HM.out m n e1 e2 Q1.out.1 Q2.out.1 Q1.out.2.1 Q2.out.2.1
      have hmn : m * n ≠ 0 := fun h => by
        rcases Nat.mul_eq_zero.1 h with h | h
        · exact HX.out (Q1.out.2.2.2.1 h)
        · exact HY.out (Q2.out.2.2.2.1 h)
      have RD := Lib.hid (fun (E : Int) (v : Value) (w : World) (hE : E = (-1074 : Int) + e1 + (-1074 + e2)) (hv : Ur w v (DG.dig (m * n))) => fRound_any (FL.neg x != FL.neg y) (m * n) E a b v w hmn hl (by omega) (by have := Q1.out.2.2.1; have := Q2.out.2.2.1; omega) (by omega) hv)
      rw [hr] at RD
      have b1 := Q1.out.2.2.1
      have b2 := Q2.out.2.2.1
      have TM := Lib.hid (fun v1 v2 w (h1 : Ur w v1 (DG.dig m)) (h2 : Ur w v2 (DG.dig n)) => refTimes_any w h1 h2 (Nat.le_trans (FL.len53 Q1.out.2.1) (by decide)) (Nat.le_trans (FL.len53 Q2.out.2.1) (by decide)))
      clear hab hr hl hmn HM HP1 HP2 HX HY HC1 HC2 HN1 HN2
      go_wp2_with fail
      refine (L1.out _).mono ?_
      rintro e w7 ⟨v7, rfl, hU7, hb7⟩
      have HB7 := Lib.hid (HB6.out.trans (hb7.mono HB6.out.size))
      have HU7 := Lib.hid hU7
      clear hb7 hU7
      go_wp2_with fail
      refine (L2.out _).mono ?_
      rintro e w8 ⟨v8, rfl, hU8, hb8⟩
      have HU7 := Lib.hid (HU7.out.below hb8)
      have HB8 := Lib.hid (HB7.out.trans (hb8.mono HB7.out.size))
      have HU8 := Lib.hid hU8
      clear hb8 hU8
      go_wp2_with fail
      refine (TM.out _ _ _ HU7.out HU8.out).mono ?_
      rintro e w9 ⟨v9, rfl, hU9, hb9⟩
      have HB9 := Lib.hid (HB8.out.trans (hb9.mono HB8.out.size))
      have HU9 := Lib.hid hU9
      clear hb9 hU9
      go_wp2_with fail
      refine (RD.out _ _ _ (by go_num) HU9.out).mono ?_
      rintro e w10 ⟨rfl, hb10⟩
      have HB10 := Lib.hid (HB9.out.trans (hb10.mono HB9.out.size))
      clear hb10
      go_wp2_with fail
      go_ret
      exact ⟨rfl, HB10.out⟩
end Go.Proofs.YtmepjcnpbjdlkaaGreatDoor
