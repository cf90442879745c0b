/- texts of this claim, laid together: YieldA, YieldB, YieldC. -/
import Derived.Test.YtmepjcnpbjdlkaaGreatDoorQeFl
import Derived.Test.YtmepjcnpbjdlkaaGreatDoorQePriceC
import Derived.Test.YtmepjcnpbjdlkaaGreatDoorQeCalK
import Derived.Test.YtmepjcnpbjdlkaaGreatDoorQeFrac
import Derived.Test.YtmepjcnpbjdlkaaGreatDoorQeClA
import Derived.WalkLawsBesides
import Derived.Laws.BitsLemmas
import Derived.Laws.Externs
/- whether a number with a point is one, or infinite: by contract. -/
namespace Go.Proofs.YtmepjcnpbjdlkaaGreatDoor
set_option linter.unusedVariables false
set_option linter.unusedSimpArgs false
open Go.RowKit
attribute [local irreducible] Go.wpStill

theorem nan_order (a : Nat) : (FloatKind.f64.format.order a a != some .eq) = decide (FL.INF < FL.rg a) := by
  show (Ieee.double.order a a != some .eq) = _
  rcases Nat.lt_trichotomy (FL.rg a) FL.INF with c | c | c
  · rw [FL.order_fin c c, Int.compare_eq_eq.2 rfl, decide_eq_false (by omega)]; decide
  · have : Ieee.double.order a a = some .eq := by
      unfold Ieee.Format.order
      rw [FL.read_inf c]
      show some (compare _ _) = _
      rw [Nat.compare_eq_eq.2 rfl]
    rw [this, decide_eq_false (by omega)]; decide
  · have : Ieee.double.order a a = none := by
      unfold Ieee.Format.order
      rw [FL.read_nan c]
      rfl
    rw [this, decide_eq_true c]; decide
/-- the greatest finite one -/
def MAXF : Nat := 9218868437227405311
theorem inf_order {a : Nat} : (FloatKind.f64.format.order (FL.rg a) MAXF == some .gt) = decide (FL.rg a = FL.INF) := by
  show (Ieee.double.order (FL.rg a) MAXF == some .gt) = _
  have h63 : FL.rg a < 2 ^ 63 := Nat.mod_lt _ (by decide)
  have hr : FL.rg (FL.rg a) = FL.rg a := Nat.mod_eq_of_lt h63
  have hn : FL.neg (FL.rg a) = false := by
    unfold FL.neg
    rw [Nat.div_eq_of_lt h63]
    rfl
  have hm : FL.rg MAXF < FL.INF := by decide
  have hm2 : FL.neg MAXF = false := by decide
  have hm3 : FL.rg MAXF = FL.INF - 1 := by decide
  have hI : 0 < FL.INF := by decide
  rcases Nat.lt_trichotomy (FL.rg a) FL.INF with c | c | c
  · rw [FL.order_fin (by rw [hr]; exact c) hm, decide_eq_false (by omega)]
    have hle : FL.S (FL.rg a) ≤ FL.S MAXF := by
      unfold FL.S FL.U
      rw [hn, hm2, hr]
      have := FL.units_le (r := FL.rg a) (r' := FL.rg MAXF) (by omega)
      simp only [FL.sg, Bool.false_eq_true, if_false]
      omega
    rcases Int.lt_or_eq_of_le hle with d | d
    · rw [Int.compare_eq_lt.2 d]; decide
    · rw [Int.compare_eq_eq.2 d]; decide
  · rw [FL.order_inf_l (by rw [hr]; exact c) hm, hn, decide_eq_true c]; decide
  · have : Ieee.double.order (FL.rg a) MAXF = none := by
      unfold Ieee.Format.order
      rw [FL.read_nan (by rw [hr]; exact c)]
      rfl
    rw [this, decide_eq_false (by omega)]; decide
theorem andNot_top {n : Nat} (h : n < 2 ^ 64) : Go.bits .andNot .u64 (n : Int) 9223372036854775808 = ((FL.rg n : Nat) : Int) := by
  have e1 : Go.bits .andNot .u64 (n : Int) 9223372036854775808 = Go.bits .and .u64 (n : Int) 9223372036854775807 := by
    unfold Go.bits
    have : ~~~ (BitVec.ofInt (IntKind.bits .u64) 9223372036854775808) = BitVec.ofInt (IntKind.bits .u64) 9223372036854775807 := by decide
    simp only [this]
  rw [e1, show (9223372036854775807 : Int) = 2 ^ 63 - 1 by decide, bits_mask .u64 64 (by decide) (fun n h0 h1 => by simp [IntKind.wrap, IntKind.bits, IntKind.signed]; omega) 63 (by decide) (n : Int) (by omega) (by exact_mod_cast h)]
  unfold FL.rg
  simp
theorem run_frombits (n : Int) (w : World) : (Extern.MathFloatBits.float64frombits #[.int .u64 n]).run Tryz.prog w = .ok (.float .f64 n.toNat) w := rfl
theorem run_bits (b : Nat) (w : World) : (Extern.MathFloatBits.float64bits #[.float .f64 b]).run Tryz.prog w = .ok (.int .u64 b) w := rfl
theorem decode_read (x : Nat) : FloatKind.f64.decode x = Ieee.double.read x := rfl
section
attribute [local irreducible] FloatKind.decode
theorem run_rte {x : Nat} (hx : FL.rg x < FL.INF) (w : World) : (Extern.MathFloor.toIntegral "math.RoundToEven" .even #[.float .f64 x]).run Tryz.prog w = .ok (.float .f64 (FL.rte x)) w := by
  have h1 := FL.toIntegral_fin hx
  obtain ⟨m, e, hr, -, -⟩ := FL.read_fin hx
  have hd : FloatKind.f64.decode x = .number (FL.neg x) m (-1074 + (e : Int)) := (decode_read x).trans hr
  rw [hd] at h1
  rw [← h1]
  conv => lhs; arg 2; whnf
  rw [hd]
  rfl
theorem run_rte_inf {x : Nat} (hx : FL.rg x = FL.INF) (hl : x < 2 ^ 64) (w : World) : (Extern.MathFloor.toIntegral "math.RoundToEven" .even #[.float .f64 x]).run Tryz.prog w = .ok (.float .f64 x) w := by
  have hd : FloatKind.f64.decode x = .infinity (FL.neg x) := (decode_read x).trans (FL.read_inf hx)
  have hw : FloatKind.f64.encode ((Ieee.Datum.infinity (FL.neg x)).integral .even) = x := by
    show Ieee.double.word _ Ieee.double.infRung = x
    rw [FL.word_wd, FL.infRung_, ← hx, FL.wd_of hl]
  conv => lhs; arg 2; whnf
  rw [hd]
  show _ = Result.ok (Value.float .f64 x) w
  conv => rhs; rw [← hw]
  rfl
end

set_option maxHeartbeats 1000000 in
theorem isNaN_any (b : Nat) (w : World) : Calls Tryz.prog 58 #[.float .f64 b] w fun e w' => e = .returned (.bool (decide (FL.INF < FL.rg b))) ∧ w' = w := by
  have h := nan_order b
  go_enter Tryz.func58, Tryz.ntmps58
  go_wp2
  go_ret
  exact ⟨rfl, rfl⟩
set_option maxHeartbeats 1000000 in
theorem abs_any (b : Nat) (w : World) (hb : b < 2 ^ 64) : Calls Tryz.prog 109 #[.float .f64 b] w fun e w' => e = .returned (.float .f64 (FL.rg b)) ∧ w' = w := by
  have h := andNot_top hb
  have e1 := @run_callFunc_extern Tryz.prog 21 _ Extern.MathFloatBits.float64bits Tryz.func21 (by kernel_rfl) (by kernel_rfl) (by kernel_rfl) (by kernel_rfl)
  have e2 := @run_callFunc_extern Tryz.prog 19 _ Extern.MathFloatBits.float64frombits Tryz.func19 (by kernel_rfl) (by kernel_rfl) (by kernel_rfl) (by kernel_rfl)
  have r1 := run_bits
  have r2 := run_frombits
  go_enter Tryz.func109, Tryz.ntmps109
  go_wp2
  go_ret
  exact ⟨rfl, rfl⟩
set_option maxHeartbeats 1000000 in
theorem isInf_any (b : Nat) (w : World) (hb : b < 2 ^ 64) : Calls Tryz.prog 59 #[.float .f64 b, .int .i64 0] w fun e w' => e = .returned (.bool (decide (FL.rg b = FL.INF))) ∧ w' = w := by
  have h := inf_order (a := b)
  have ha := abs_any b w hb
  unfold MAXF at h
  generalize FL.rg b = rb at *
  go_enter Tryz.func59, Tryz.ntmps59
  go_wp2_with (go_at_call 109; refine ha.mono ?_; rintro e w' ⟨rfl, rfl⟩)
  go_ret
  exact ⟨rfl, rfl⟩
end Go.Proofs.YtmepjcnpbjdlkaaGreatDoor
/- price.Yield by contract. -/
namespace Go.Proofs.YtmepjcnpbjdlkaaGreatDoor
set_option linter.unusedVariables false
set_option linter.unusedSimpArgs false
open Go.RowKit
attribute [local irreducible] Go.wpStill

theorem bill_facts {s : SecV} (h : checkN s = 0) (hk : s.kind = 3) : 1 ≤ s.face ∧ 0 ≤ s.basis ∧ s.basis ≤ 3 ∧ 1 ≤ s.start ∧ s.start < s.finish ∧ s.finish ≤ 3652059 := by
  unfold checkN at h
  split at h
  · omega
  split at h
  · omega
  split at h
  · omega
  unfold kindN at h
  rw [if_neg (by omega), if_pos hk] at h
  unfold billN at h
  split at h
  · omega
  split at h
  · omega
  unfold termN at h
  split at h
  · rename_i hb
    split at h
    · rename_i hd
      obtain ⟨d1, d2, d3⟩ := hd
      simp [dayB] at d1 d2
      simp [basisB] at hb
      omega
    · omega
  · omega
/-- what a bill costs at a rate -/
def YieldIs (s : SecV) (rate : Nat) (day : Int) (z : Nat) (e : Int) : Prop :=
  (checkN s ≠ 0 ∧ z = 0 ∧ e = checkN s) ∨
  (checkN s = 0 ∧ s.kind ≠ 3 ∧ z = 0 ∧ e = 24) ∨
  (checkN s = 0 ∧ s.kind = 3 ∧ (day < s.start ∨ s.finish < day) ∧ z = 0 ∧ e = 8) ∨
  (checkN s = 0 ∧ s.kind = 3 ∧ ¬ (day < s.start ∨ s.finish < day) ∧ ¬ FL.rg rate < FL.INF ∧ z = 0 ∧ e = 1) ∨
  (checkN s = 0 ∧ s.kind = 3 ∧ ¬ (day < s.start ∨ s.finish < day) ∧ FL.rg rate < FL.INF ∧ ∃ A B, FracIs day s.finish s.basis A B ∧
    ((FL.leZ (FL.hOf A B rate) = true ∧ z = 0 ∧ e = 1) ∨ (FL.leZ (FL.hOf A B rate) = false ∧ z = FL.lastF s.face (FL.hOf A B rate) ∧ e = 0)))
theorem YieldIs.unique {s : SecV} {rate : Nat} {day : Int} {z z' : Nat} {e e' : Int} (h : YieldIs s rate day z e) (k : YieldIs s rate day z' e') : z = z' ∧ e = e' := by
  rcases h with ⟨h1, h2, h3⟩ | ⟨h1, h2, h3, h4⟩ | ⟨h1, h2, h3, h4, h5⟩ | ⟨h1, h2, h3, h4, h5, h6⟩ | ⟨h1, h2, h3, h4, A, B, h5, h6⟩ <;>
  rcases k with ⟨k1, k2, k3⟩ | ⟨k1, k2, k3, k4⟩ | ⟨k1, k2, k3, k4, k5⟩ | ⟨k1, k2, k3, k4, k5, k6⟩ | ⟨k1, k2, k3, k4, A', B', k5, k6⟩
  all_goals first | exact absurd k1 h1 | exact absurd h1 k1 | exact absurd k2 h2 | exact absurd h2 k2 | exact absurd k3 h3 | exact absurd h3 k3 | exact absurd k4 h4 | exact absurd h4 k4 | exact ⟨by rw [h2, k2], by rw [h3, k3]⟩ | exact ⟨by rw [h3, k3], by rw [h4, k4]⟩ | exact ⟨by rw [h4, k4], by rw [h5, k5]⟩ | exact ⟨by rw [h5, k5], by rw [h6, k6]⟩ | skip
  obtain ⟨rfl, rfl⟩ := h5.unique k5
  rcases h6 with ⟨m1, m2, m3⟩ | ⟨m1, m2, m3⟩ <;> rcases k6 with ⟨n1, n2, n3⟩ | ⟨n1, n2, n3⟩
  · exact ⟨by rw [m2, n2], by rw [m3, n3]⟩
  · rw [m1] at n1; cases n1
  · rw [m1] at n1; cases n1
  · exact ⟨by rw [m2, n2], by rw [m3, n3]⟩
def YieldP (s : SecV) (rate : Nat) (day : Int) (w : World) (e : Ending) (w' : World) : Prop := ∃ z v n, e = .returned (.tuple #[.float .f64 z, v]) ∧ ErrP v n none ∧ YieldIs s rate day z n ∧ Below w.heap.size w w'
theorem floatOfInt_fint (n : Int) : floatOfInt .f64 n = FL.fint n := FL.ofInt_ n
theorem unit_lit : (4607182418800017408 : Nat) = FL.UNIT := rfl
set_option maxRecDepth 100000 in
set_option maxHeartbeats 8000000 in
theorem yield_any (s : SecV) (rate : Nat) (day : Int) (w : World) (hcs : s.cur.size ≤ 140737488351232) (hok : Ok w) (hf : s.face < 9223372036854775808) (hr : rate < 2 ^ 64) :
    Calls Tryz.prog 18 #[.agg (secC s), .float .f64 rate, .int .i64 day] w (YieldP s rate day w) := by
  have hC := fun w hok => priceCheck_any s w hcs hok
  have hFr := fun w (h1 : 1 ≤ day) (h2 : day ≤ s.finish) (h3 : s.finish ≤ 3652059) (h4 : 0 ≤ s.basis) (h5 : s.basis ≤ 3) => fraction_any day s.finish s.basis w h1 h2 h3 h4 h5
  unfold FracP at hFr
  unfold ErrR at hC
  have hbf := fun h k => bill_facts (s := s) h k
  have hA1 : checkN s ≠ 0 → YieldIs s rate day 0 (checkN s) := fun h => .inl ⟨h, rfl, rfl⟩
  have hA2 : checkN s = 0 → s.kind ≠ 3 → YieldIs s rate day 0 24 := fun h k => .inr (.inl ⟨h, k, rfl, rfl⟩)
  have hA3 : checkN s = 0 → s.kind = 3 → (day < s.start ∨ s.finish < day) → YieldIs s rate day 0 8 := fun h k l => .inr (.inr (.inl ⟨h, k, l, rfl, rfl⟩))
  have hA4 : checkN s = 0 → s.kind = 3 → ¬ (day < s.start ∨ s.finish < day) → ¬ FL.rg rate < FL.INF → YieldIs s rate day 0 1 := fun h k l m => .inr (.inr (.inr (.inl ⟨h, k, l, m, rfl, rfl⟩)))
  have hA5 : checkN s = 0 → s.kind = 3 → ¬ (day < s.start ∨ s.finish < day) → FL.rg rate < FL.INF → ∀ A B, FracIs day s.finish s.basis A B → FL.leZ (FL.hOf A B rate) = true → YieldIs s rate day 0 1 := fun h k l m A B h1 h2 => .inr (.inr (.inr (.inr ⟨h, k, l, m, A, B, h1, .inl ⟨h2, rfl, rfl⟩⟩)))
  have hA6 : checkN s = 0 → s.kind = 3 → ¬ (day < s.start ∨ s.finish < day) → FL.rg rate < FL.INF → ∀ A B, FracIs day s.finish s.basis A B → FL.leZ (FL.hOf A B rate) = false → YieldIs s rate day (FL.lastF s.face (FL.hOf A B rate)) 0 := fun h k l m A B h1 h2 => .inr (.inr (.inr (.inr ⟨h, k, l, m, A, B, h1, .inr ⟨h2, rfl, rfl⟩⟩)))
  have hN := fun w => isNaN_any rate w
  have hI := fun w => isInf_any rate w hr
  unfold YieldP
  generalize YieldIs s rate day = YI at *
  have HSZ := Lib.hid (show (Tryz.prog.info? 25).map (·.size) = some (secC s).size by kernel_rfl)
  have HG := Lib.hid (heap_alloc_new w (.cells (secC s) 25))
  have HZ0 := Lib.hid ((Below.refl w.heap.size w).alloc (Nat.le_refl _) (.cells (secC s) 25))
  have hcell : ∀ w1, Below (w.alloc (.cells (secC s) 25)).heap.size (w.alloc (.cells (secC s) 25)) w1 → w1.cell? ⟨w.heap.size, 12, none⟩ = some (.int .i64 s.kind) ∧ w1.cell? ⟨w.heap.size, 13, none⟩ = some (.int .i64 s.face) ∧ w1.cell? ⟨w.heap.size, 16, none⟩ = some (.int .i64 s.basis) ∧ w1.cell? ⟨w.heap.size, 17, none⟩ = some (.int .i64 s.start) ∧ w1.cell? ⟨w.heap.size, 18, none⟩ = some (.int .i64 s.finish) ∧ Below w.heap.size w w1 := fun w1 h => by
    have e := rowAt_below (heap_alloc_new w (.cells (secC s) 25)) h
    have hb := HZ0.out.trans (h.mono (by simp))
    exact ⟨by rw [cell_of_row _ _ _ _ _ _ e]; rfl, by rw [cell_of_row _ _ _ _ _ _ e]; rfl, by rw [cell_of_row _ _ _ _ _ _ e]; rfl, by rw [cell_of_row _ _ _ _ _ _ e]; rfl, by rw [cell_of_row _ _ _ _ _ _ e]; rfl, hb⟩
  have HW := Lib.hid hcell
  have HC := Lib.hid hC
  have HFR := Lib.hid hFr
  have HBF := Lib.hid hbf
  have HOK := Lib.hid hok
  have HA1 := Lib.hid hA1
  have HA2 := Lib.hid hA2
  have HA3 := Lib.hid hA3
  have HA4 := Lib.hid hA4
  have HA5 := Lib.hid hA5
  have HA6 := Lib.hid hA6
  have HN := Lib.hid hN
  have HI := Lib.hid hI
  have HF := Lib.hid hf
  clear hC hFr hbf hok hA1 hA2 hA3 hA4 hA5 hA6 hN hI hcell hcs hf hr
  generalize secC s = SV at *
  generalize checkN s = kN at *
  go_enter Tryz.func18, Tryz.ntmps18
  go_wp2_with (refine wpList_val (.agg SV) (by kernel_rfl) (exec_load_row HG.out rfl rfl Tryz.underlying25 rfl HSZ.out) ?_)
  refine (HC.out _ (HOK.out.below HZ0.out)).mono ?_
  rintro e w1 ⟨v, rfl, hE, hb1⟩
  have HE := Lib.hid hE
  have HB1 := Lib.hid hb1
  have HJ := Lib.hid (HW.out _ hb1)
  clear hb1 HC HOK
  by_cases hk0 : kN = 0
  · obtain rfl := (hE.zero hk0).1
    have HK0 := Lib.hid hk0
    have j12 := HJ.out.1
    clear hE HG HSZ hk0
    by_cases hk : s.kind = 3
    · have d0 : (s.kind != 3) = false := by simp [hk]
      obtain ⟨f1, b1, b2, s1, s2, s3⟩ := HBF.out HK0.out hk
      have HKK := Lib.hid hk
      have j13 := HJ.out.2.1
      have j16 := HJ.out.2.2.1
      have j17 := HJ.out.2.2.2.1
      have j18 := HJ.out.2.2.2.2.1
      clear hk
      by_cases hd : day < s.start ∨ s.finish < day
      · have HAA := Lib.hid (HA3.out HK0.out HKK.out hd)
        by_cases g1 : day < s.start
        · have d1 : decide (day < s.start) = true := decide_eq_true g1
          clear hd g1
          go_wp2_with fail
          go_ret2
          exact ⟨_, _, _, rfl, errP_errno (by decide) (by decide), HAA.out, HJ.out.2.2.2.2.2⟩
        · have d1 : decide (day < s.start) = false := decide_eq_false g1
          have d2 : decide (day > s.finish) = true := decide_eq_true (by omega)
          clear hd g1
          go_wp2_with fail
          go_ret2
          exact ⟨_, _, _, rfl, errP_errno (by decide) (by decide), HAA.out, HJ.out.2.2.2.2.2⟩
      · have d1 : decide (day < s.start) = false := decide_eq_false (by omega)
        have d2 : decide (day > s.finish) = false := decide_eq_false (by omega)
        have HA4 := Lib.hid (HA4.out HK0.out HKK.out hd)
        have HA5 := Lib.hid (HA5.out HK0.out HKK.out hd)
        have HA6 := Lib.hid (HA6.out HK0.out HKK.out hd)
        have hdd : 1 ≤ day ∧ day ≤ s.finish := by omega
        have HFR := Lib.hid (fun w => HFR.out w hdd.1 hdd.2 s3 b1 b2)
        clear hd HA3 HA2 HA1 HBF HE
        by_cases hn : FL.INF < FL.rg rate
        · have hNt : decide (FL.INF < FL.rg rate) = true := decide_eq_true hn
          have HAA := Lib.hid (HA4.out (by omega))
          clear hn
          have hC1 := HN.out
          rw [hNt] at hC1
          have HC1 := Lib.hid hC1
          clear hC1 hNt
          go_wp2_with (go_at_call 58; refine (HC1.out _).mono ?_; rintro e w' ⟨rfl, rfl⟩)
          go_ret2
          exact ⟨_, _, _, rfl, errP_errno (by decide) (by decide), HAA.out, HJ.out.2.2.2.2.2⟩
        · have hNt : decide (FL.INF < FL.rg rate) = false := decide_eq_false hn
          have hC1 := HN.out
          rw [hNt] at hC1
          have HC1 := Lib.hid hC1
          clear hC1 hNt
          by_cases hi : FL.rg rate = FL.INF
          · have hIt : decide (FL.rg rate = FL.INF) = true := decide_eq_true hi
            have HAA := Lib.hid (HA4.out (by omega))
            have hC2 := HI.out
            rw [hIt] at hC2
            have HC2 := Lib.hid hC2
            clear hC2 hIt hi hn
            go_wp2_with (first | (go_at_call 58; refine (HC1.out _).mono ?_; rintro e w' ⟨rfl, rfl⟩) | (go_at_call 59; refine (HC2.out _).mono ?_; rintro e w' ⟨rfl, rfl⟩))
            go_ret2
            exact ⟨_, _, _, rfl, errP_errno (by decide) (by decide), HAA.out, HJ.out.2.2.2.2.2⟩
          · have hIt : decide (FL.rg rate = FL.INF) = false := decide_eq_false hi
            have hfin : FL.rg rate < FL.INF := by omega
            have hC2 := HI.out
            rw [hIt] at hC2
            have HC2 := Lib.hid hC2
            have HA5 := Lib.hid (HA5.out hfin)
            have HA6 := Lib.hid (HA6.out hfin)
            have HFN := Lib.hid hfin
            clear hC2 hIt hi hn hfin
            go_wp2_with (first | (go_at_call 58; refine (HC1.out _).mono ?_; rintro e w' ⟨rfl, rfl⟩) | (go_at_call 59; refine (HC2.out _).mono ?_; rintro e w' ⟨rfl, rfl⟩))
            refine (HFR.out _).mono ?_
            rintro e w2 ⟨A, B, rfl, hFI, hb2⟩
            have hAB := hFI.bounds hdd.1 hdd.2 s3 b1
            have HB2 := Lib.hid (HB1.out.trans (hb2.mono HB1.out.size))
            have HJ2 := Lib.hid (HW.out _ HB2.out)
            have k13 := HJ2.out.2.1
            have hface : 0 ≤ s.face := by omega
            have p1 := FL.part_facts (A := A) (B := B) hAB.1 (by omega) (by omega) (by omega)
            have q1 := FL.quo_part (A := A) (B := B) hAB.1 (by omega) (by omega) (by omega)
            have q2 := FL.mul_bits HFN.out p1.1
            have q3 := FL.add_hOf A B rate
            have hh := (FL.hOf_facts A B rate).1
            have q4 := FL.leZ_order hh
            have q5 := fun hz => FL.quo_last (face := s.face) (h := FL.hOf A B rate) hface HF.out hh hz
            have HA5 := Lib.hid (HA5.out A B hFI)
            have HA6 := Lib.hid (HA6.out A B hFI)
            have e1 := fun w : World => run_float_arith (P := Tryz.prog) w .quo 43 .f64 _ _ _ q1
            have e2 := fun w : World => run_float_arith (P := Tryz.prog) w .mul 43 .f64 _ _ _ q2
            have e3 := fun w : World => run_float_arith (P := Tryz.prog) w .add 43 .f64 _ _ _ q3
            rw [← unit_lit] at e3
            have u3 := Tryz.underlying3
            have u2 := Tryz.underlying2
            have u43 := Tryz.underlying43
            have fo := floatOfInt_fint
            have Q4 := Lib.hid q4
            have Q5 := Lib.hid q5
            clear hFI hAB hb2 hface p1 q1 q2 q3 q4 q5 hh HC1 HC2 HFR HN HI
            generalize FL.fmul rate (FL.fdiv (FL.fint A) (FL.fint B)) = g at *
            generalize FL.fdiv (FL.fint A) (FL.fint B) = f at *
            generalize FL.hOf A B rate = h at *
            cases hz : FL.leZ h
            · have e4 := fun w : World => run_float_arith (P := Tryz.prog) w .quo 43 .f64 _ _ _ (Q5.out hz)
              have q4 := Q4.out
              rw [hz] at q4
              have HAA := Lib.hid (HA6.out hz)
              clear hz
              go_wp2_with fail
              go_ret2
              exact ⟨_, _, _, rfl, .nil, HAA.out, HJ2.out.2.2.2.2.2⟩
            · have q4 := Q4.out
              rw [hz] at q4
              have HAA := Lib.hid (HA5.out hz)
              clear hz
              go_wp2_with fail
              go_ret2
              exact ⟨_, _, _, rfl, errP_pri _ (by decide) (by decide), HAA.out, HJ2.out.2.2.2.2.2⟩
    · have d0 : (s.kind != 3) = true := by simp [hk]
      have HAA := Lib.hid (HA2.out HK0.out hk)
      clear hk
      go_wp2_with fail
      go_ret2
      exact ⟨_, _, _, rfl, errP_errno (by decide) (by decide), HAA.out, HJ.out.2.2.2.2.2⟩
  · obtain ⟨t, x, rfl⟩ := hE.held hk0
    have HAA := Lib.hid (HA1.out hk0)
    clear hE hk0
    go_wp2_with fail
    go_ret2
    exact ⟨_, _, _, rfl, HE.out, HAA.out, HJ.out.2.2.2.2.2⟩
end Go.Proofs.YtmepjcnpbjdlkaaGreatDoor
/- price.Tick by contract. -/
namespace Go.Proofs.YtmepjcnpbjdlkaaGreatDoor
set_option linter.unusedVariables false
set_option linter.unusedSimpArgs false
open Go.RowKit
attribute [local irreducible] Go.wpStill

/-- the price in ticks -/
def tickX (p : Nat) (scale : Int) : Nat := FL.fmul p (FL.fint ((10 ^ scale.toNat : Nat) : Int))
def TickBad (p : Nat) (scale : Int) : Prop := ¬ FL.rg p < FL.INF ∨ FL.S p < 0 ∨ scale < 0 ∨ 18 < scale
def TickIs (p : Nat) (scale : Int) (z n : Int) : Prop :=
  (TickBad p scale ∧ z = 0 ∧ n = 1) ∨
  (¬ TickBad p scale ∧ (FL.rg (tickX p scale) = FL.INF ∨ 2 ^ 63 ≤ FL.vOf (tickX p scale)) ∧ z = 0 ∧ n = 9) ∨
  (¬ TickBad p scale ∧ ¬ (FL.rg (tickX p scale) = FL.INF ∨ 2 ^ 63 ≤ FL.vOf (tickX p scale)) ∧ z = FL.vOf (tickX p scale) ∧ n = 0)
theorem TickIs.unique {p : Nat} {scale z n z' n' : Int} (h : TickIs p scale z n) (k : TickIs p scale z' n') : z = z' ∧ n = n' := by
  rcases h with ⟨h1, h2, h3⟩ | ⟨h1, h2, h3, h4⟩ | ⟨h1, h2, h3, h4⟩ <;> rcases k with ⟨k1, k2, k3⟩ | ⟨k1, k2, k3, k4⟩ | ⟨k1, k2, k3, k4⟩
  all_goals first | exact absurd k1 h1 | exact absurd h1 k1 | exact absurd k2 h2 | exact absurd h2 k2 | exact ⟨by rw [h2, k2], by rw [h3, k3]⟩ | exact ⟨by rw [h3, k3], by rw [h4, k4]⟩
theorem ten18 (k : Nat) (hk : k ≤ 18) : 1 ≤ 10 ^ k ∧ 10 ^ k ≤ 1000000000000000000 := by
  have h1 : 0 < 10 ^ k := Nat.pow_pos (by decide)
  have h2 : 10 ^ k ≤ 10 ^ 18 := Nat.pow_le_pow_right (by decide) hk
  exact ⟨h1, h2⟩
theorem tick_facts {p : Nat} {scale : Int} (h : ¬ TickBad p scale) : FL.rg p < FL.INF ∧ 0 ≤ scale ∧ scale ≤ 18 ∧ FL.rg (FL.fint ((10 ^ scale.toNat : Nat) : Int)) < FL.INF ∧ FL.rg (tickX p scale) ≤ FL.INF ∧ tickX p scale < 2 ^ 64 ∧ FL.neg (tickX p scale) = FL.neg p ∧ (FL.neg p = true → FL.U p = 0 ∧ FL.rg (tickX p scale) = 0 ∧ FL.vOf (tickX p scale) = 0) := by
  unfold TickBad at h
  have h1 : FL.rg p < FL.INF := Classical.byContradiction fun c => h (.inl c)
  have h2 : ¬ FL.S p < 0 := fun c => h (.inr (.inl c))
  have h3 : ¬ scale < 0 := fun c => h (.inr (.inr (.inl c)))
  have h4 : ¬ 18 < scale := fun c => h (.inr (.inr (.inr c)))
  have ht := ten18 scale.toNat (by omega)
  obtain ⟨f1, f2, f3, f4, f5⟩ := FL.fint_facts (n := ((10 ^ scale.toNat : Nat) : Int)) (by omega) (by omega)
  obtain ⟨g1, g2⟩ := FL.rg_fmul p (FL.fint ((10 ^ scale.toNat : Nat) : Int))
  have hneg : FL.neg (tickX p scale) = FL.neg p := by
    unfold tickX FL.fmul
    rw [FL.neg_wd (FL.cap_lt _), f2, Bool.xor_false]
  refine ⟨h1, by omega, by omega, f1, g1, g2, hneg, fun hn => ?_⟩
  have hU : FL.U p = 0 := by
    unfold FL.S at h2
    rw [hn] at h2
    simp only [FL.sg, if_true] at h2
    omega
  have hr : FL.rg (tickX p scale) = 0 := by
    unfold tickX FL.fmul
    rw [FL.rg_wd (FL.cap_lt _), hU, Nat.zero_mul, FL.rung_zero _ FL.one_pos]
    exact Nat.min_eq_left (Nat.zero_le _)
  refine ⟨hU, hr, ?_⟩
  unfold FL.vOf
  rw [FL.U_zero.2 hr]
  have := FL.rne_exact 0 FL.ONE FL.one_pos
  rwa [Nat.zero_mul] at this
theorem C63_lit : (4890909195324358656 : Nat) = FL.C63 := rfl
theorem lss0 {p : Nat} (h : FL.rg p < FL.INF) : (FloatKind.f64.format.order p 0 == some .lt) = decide (FL.S p < 0) := by
  show (Ieee.double.order p 0 == some .lt) = _
  rw [FL.order_fin h (by decide), FL.S_0]
  rcases Int.lt_trichotomy (FL.S p) 0 with c | c | c
  · rw [Int.compare_eq_lt.2 c, decide_eq_true c]; decide
  · rw [c, Int.compare_eq_eq.2 rfl]; decide
  · rw [Int.compare_eq_gt.2 c, decide_eq_false (by omega)]; decide
theorem ge63_inf {x : Nat} (hx : FL.rg x = FL.INF) (hn : FL.neg x = false) : (FloatKind.f64.format.order x FL.C63 == some .gt || FloatKind.f64.format.order x FL.C63 == some .eq) = true := by
  show (Ieee.double.order x FL.C63 == some .gt || Ieee.double.order x FL.C63 == some .eq) = true
  rw [FL.order_inf_l hx FL.C63_facts.1, hn]
  decide
def TickP (p : Nat) (scale : Int) (w : World) (e : Ending) (w' : World) : Prop := ∃ z v n, e = .returned (.tuple #[.int .i64 z, v]) ∧ ErrP v n none ∧ TickIs p scale z n ∧ Below w.heap.size w w'
set_option maxRecDepth 100000 in
set_option maxHeartbeats 8000000 in
theorem tick_any (p : Nat) (scale : Int) (w : World) (hp : p < 2 ^ 64) : Calls Tryz.prog 20 #[.float .f64 p, .int .i64 scale] w (TickP p scale w) := by
  have hN := fun w => isNaN_any p w
  have hI := fun w => isInf_any p w hp
  have hB1 : TickBad p scale → TickIs p scale 0 1 := fun h => .inl ⟨h, rfl, rfl⟩
  have hB2 : ¬ TickBad p scale → (FL.rg (tickX p scale) = FL.INF ∨ 2 ^ 63 ≤ FL.vOf (tickX p scale)) → TickIs p scale 0 9 := fun h k => .inr (.inl ⟨h, k, rfl, rfl⟩)
  have hB3 : ¬ TickBad p scale → ¬ (FL.rg (tickX p scale) = FL.INF ∨ 2 ^ 63 ≤ FL.vOf (tickX p scale)) → TickIs p scale (FL.vOf (tickX p scale)) 0 := fun h k => .inr (.inr ⟨h, k, rfl, rfl⟩)
  have hTF := fun h => tick_facts (p := p) (scale := scale) h
  unfold TickP
  have HN := Lib.hid hN
  have HI := Lib.hid hI
  have HB1 := Lib.hid hB1
  have HB2 := Lib.hid hB2
  have HB3 := Lib.hid hB3
  have HTF := Lib.hid hTF
  have HZ := Lib.hid (Below.refl w.heap.size w)
  clear hN hI hB1 hB2 hB3 hTF hp
  by_cases hn : FL.INF < FL.rg p
  · have hC1 := HN.out
    rw [decide_eq_true hn] at hC1
    have HC1 := Lib.hid hC1
    have HAA := Lib.hid (HB1.out (.inl (by omega)))
    clear hC1 hn
    go_enter Tryz.func20, Tryz.ntmps20
    go_wp2_with (go_at_call 58; refine (HC1.out _).mono ?_; rintro e w' ⟨rfl, rfl⟩)
    go_ret2
    exact ⟨_, _, _, rfl, errP_errno (by decide) (by decide), HAA.out, HZ.out⟩
  · have hC1 := HN.out
    rw [decide_eq_false hn] at hC1
    have HC1 := Lib.hid hC1
    clear hC1
    by_cases hi : FL.rg p = FL.INF
    · have hC2 := HI.out
      rw [decide_eq_true hi] at hC2
      have HC2 := Lib.hid hC2
      have HAA := Lib.hid (HB1.out (.inl (by omega)))
      clear hC2 hn hi
      go_enter Tryz.func20, Tryz.ntmps20
      go_wp2_with (first | (go_at_call 58; refine (HC1.out _).mono ?_; rintro e w' ⟨rfl, rfl⟩) | (go_at_call 59; refine (HC2.out _).mono ?_; rintro e w' ⟨rfl, rfl⟩))
      go_ret2
      exact ⟨_, _, _, rfl, errP_errno (by decide) (by decide), HAA.out, HZ.out⟩
    · have hC2 := HI.out
      rw [decide_eq_false hi] at hC2
      have HC2 := Lib.hid hC2
      have hfin : FL.rg p < FL.INF := by omega
      have l0 := lss0 hfin
      clear hC2 hn hi
      by_cases h0 : FL.S p < 0
      · rw [decide_eq_true h0] at l0
        have HAA := Lib.hid (HB1.out (.inr (.inl h0)))
        clear h0 hfin
        go_enter Tryz.func20, Tryz.ntmps20
        go_wp2_with (first | (go_at_call 58; refine (HC1.out _).mono ?_; rintro e w' ⟨rfl, rfl⟩) | (go_at_call 59; refine (HC2.out _).mono ?_; rintro e w' ⟨rfl, rfl⟩))
        go_ret2
        exact ⟨_, _, _, rfl, errP_errno (by decide) (by decide), HAA.out, HZ.out⟩
      · rw [decide_eq_false h0] at l0
        by_cases h1 : scale < 0
        · have d1 : decide (scale < 0) = true := decide_eq_true h1
          have HAA := Lib.hid (HB1.out (.inr (.inr (.inl h1))))
          clear h0 h1 hfin
          go_enter Tryz.func20, Tryz.ntmps20
          go_wp2_with (first | (go_at_call 58; refine (HC1.out _).mono ?_; rintro e w' ⟨rfl, rfl⟩) | (go_at_call 59; refine (HC2.out _).mono ?_; rintro e w' ⟨rfl, rfl⟩))
          go_ret2
          exact ⟨_, _, _, rfl, errP_errno (by decide) (by decide), HAA.out, HZ.out⟩
        · have d1 : decide (scale < 0) = false := decide_eq_false h1
          by_cases h2 : 18 < scale
          · have d2 : decide (scale > 18) = true := decide_eq_true h2
            have HAA := Lib.hid (HB1.out (.inr (.inr (.inr h2))))
            clear h0 h1 h2 hfin
            go_enter Tryz.func20, Tryz.ntmps20
            go_wp2_with (first | (go_at_call 58; refine (HC1.out _).mono ?_; rintro e w' ⟨rfl, rfl⟩) | (go_at_call 59; refine (HC2.out _).mono ?_; rintro e w' ⟨rfl, rfl⟩))
            go_ret2
            exact ⟨_, _, _, rfl, errP_errno (by decide) (by decide), HAA.out, HZ.out⟩
          · have d2 : decide (scale > 18) = false := decide_eq_false h2
            have hgood : ¬ TickBad p scale := by
              unfold TickBad
              rintro (c | c | c | c)
              · exact c hfin
              · exact h0 c
              · exact h1 c
              · exact h2 c
            obtain ⟨t1, t2, t3, t4, t5, t6, t7, t8⟩ := HTF.out hgood
            have HB2 := Lib.hid (HB2.out hgood)
            have HB3 := Lib.hid (HB3.out hgood)
            obtain ⟨k, hk⟩ := Int.eq_ofNat_of_zero_le (show 0 ≤ scale by omega)
            have hT := fun w => ten_any k w (by omega)
            have q2 := FL.mul_bits hfin t4
            have hX : FL.fmul p (FL.fint ((10 ^ scale.toNat : Nat) : Int)) = tickX p scale := rfl
            rw [hX] at q2
            have hsk : scale.toNat = k := by omega
            rw [hsk] at q2
            generalize ((10 ^ k : Nat) : Int) = M at hT q2
            have HT := Lib.hid hT
            clear hT
            have e2 := fun w : World => run_float_arith (P := Tryz.prog) w .mul 43 .f64 _ _ _ q2
            have u2 := Tryz.underlying2
            have u43 := Tryz.underlying43
            have fo := floatOfInt_fint
            have x1 := @run_callFunc_extern Tryz.prog 61 _ (Extern.MathFloor.toIntegral "math.RoundToEven" .even) Tryz.func61 (by kernel_rfl) (by kernel_rfl) (by kernel_rfl) (by kernel_rfl)
            clear hgood h0 h1 h2 hfin HTF HN HI HB1 t2 t3 t4 q2 hX hsk
            generalize tickX p scale = X at *
            subst hk
            by_cases hXi : FL.rg X = FL.INF
            · have hnp : FL.neg X = false := by
                cases hq : FL.neg p
                · rw [t7, hq]
                · have := (t8 hq).2.1
                  rw [hXi] at this
                  exact absurd this (by decide)
              have x2 := fun w => run_rte_inf hXi t6 w
              have x3 := ge63_inf hXi hnp
              rw [← C63_lit] at x3
              have HAA := Lib.hid (HB2.out (.inl hXi))
              clear hXi hnp t1 t5 t6 t7 t8
              go_enter Tryz.func20, Tryz.ntmps20
              go_wp2_with (first | (go_at_call 58; refine (HC1.out _).mono ?_; rintro e w' ⟨rfl, rfl⟩) | (go_at_call 59; refine (HC2.out _).mono ?_; rintro e w' ⟨rfl, rfl⟩) | (go_at_call 62; refine (HT.out _).mono ?_; rintro e w' ⟨rfl, rfl⟩))
              go_ret2
              exact ⟨_, _, _, rfl, errP_errno (by decide) (by decide), HAA.out, HZ.out⟩
            · have hXf : FL.rg X < FL.INF := by omega
              have x2 := fun w => run_rte hXf w
              have x3 := FL.ge63 hXf
              rw [← C63_lit] at x3
              have hneg : FL.neg X = true → FL.vOf X = 0 := fun h => (t8 (by rw [← t7, h])).2.2
              by_cases hv : 2 ^ 63 ≤ FL.vOf X
              · have hnp : FL.neg X = false := by
                  cases hq : FL.neg X
                  · rfl
                  · have := hneg hq; omega
                rw [hnp, decide_eq_true hv] at x3
                have HAA := Lib.hid (HB2.out (.inr hv))
                clear hXi hXf hneg hv hnp t1 t5 t6 t7 t8
                go_enter Tryz.func20, Tryz.ntmps20
                go_wp2_with (first | (go_at_call 58; refine (HC1.out _).mono ?_; rintro e w' ⟨rfl, rfl⟩) | (go_at_call 59; refine (HC2.out _).mono ?_; rintro e w' ⟨rfl, rfl⟩) | (go_at_call 62; refine (HT.out _).mono ?_; rintro e w' ⟨rfl, rfl⟩))
                go_ret2
                exact ⟨_, _, _, rfl, errP_errno (by decide) (by decide), HAA.out, HZ.out⟩
              · rw [decide_eq_false hv, Bool.and_false] at x3
                have x4 := FL.toInt_rte hXf hneg (by omega)
                have x5 := fun w : World => run_convert_float_int (P := Tryz.prog) w 43 2 .f64 .i64 _ _ (by rw [u43]; rfl) u2 x4
                have HAA := Lib.hid (HB3.out (fun h => by rcases h with h | h; exact hXi h; exact hv h))
                clear hXi hXf hneg hv x4 t1 t5 t6 t7 t8
                go_enter Tryz.func20, Tryz.ntmps20
                go_wp2_with (first | (go_at_call 58; refine (HC1.out _).mono ?_; rintro e w' ⟨rfl, rfl⟩) | (go_at_call 59; refine (HC2.out _).mono ?_; rintro e w' ⟨rfl, rfl⟩) | (go_at_call 62; refine (HT.out _).mono ?_; rintro e w' ⟨rfl, rfl⟩))
                go_ret2
                exact ⟨_, _, _, rfl, .nil, HAA.out, HZ.out⟩
end Go.Proofs.YtmepjcnpbjdlkaaGreatDoor
