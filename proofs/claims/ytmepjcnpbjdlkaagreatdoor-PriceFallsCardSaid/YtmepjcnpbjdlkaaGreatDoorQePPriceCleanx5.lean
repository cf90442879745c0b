/- texts of this claim, laid together: PPriceCleanx5. -/
import Derived.Test.YtmepjcnpbjdlkaaGreatDoorQeWEqStruct
import Derived.Test.YtmepjcnpbjdlkaaGreatDoorQePPriceCleanx3
import Derived.Test.YtmepjcnpbjdlkaaGreatDoorQePPriceCleanx4
namespace Go.Proofs.YtmepjcnpbjdlkaaGreatDoor.PPriceClean
open Go.RowKit Go.Proofs.YtmepjcnpbjdlkaaGreatDoorW.PrintWords Go.Proofs.YtmepjcnpbjdlkaaGreatDoorW.PrintLast Go.Proofs.YtmepjcnpbjdlkaaGreatDoorW.PrintMore
attribute [local go_sem] max2_int min2_int max_two min_two max_three min_three max_four min_four   -- for this text's walks alone
set_option linter.unusedVariables false
set_option linter.unusedSimpArgs false

/-! ### custodyref04_Small: function 108 -/
def custodyref04_Small.f (l0 : List Int) : Option (Int) := if (l0.length : Int) > 0 then (if 0 < (l0.length : Int) then (if (l0.length : Int) > 1 then (if 1 < (l0.length : Int) then (some (IntKind.u64.wrap ((rd l0 0) + (IntKind.u64.wrap ((rd l0 1) * 4294967296))))) else (none)) else (some (rd l0 0))) else (none)) else (if (l0.length : Int) > 1 then (if 1 < (l0.length : Int) then (some (IntKind.u64.wrap (0 + (IntKind.u64.wrap ((rd l0 1) * 4294967296))))) else (none)) else (some 0))
set_option maxHeartbeats 8000000 in
set_option maxRecDepth 100000 in
theorem custodyref04_Small.calls (A0 : Option Addr) (c0 : Nat) (l0 : List Int) (r : Int) (w : World) (hr0 : Kd.C (Kd.int .u64) w A0 l0.length l0) (hc0 : l0.length ≤ c0) (h : custodyref04_Small.f l0 = some r) :
    Calls Tryz.prog 108 #[.slice A0 l0.length c0] w fun e w' => e = .returned (.int .u64 r) ∧ Drawn0 w w' := by
  have HR0 := Aside0.mk hr0
  have HC0 := Aside0.mk hc0
  clear hr0 hc0
  have H : (if (l0.length : Int) > 0 then (if 0 < (l0.length : Int) then (if (l0.length : Int) > 1 then (if 1 < (l0.length : Int) then (some (IntKind.u64.wrap ((rd l0 0) + (IntKind.u64.wrap ((rd l0 1) * 4294967296))))) else (none)) else (some (rd l0 0))) else (none)) else (if (l0.length : Int) > 1 then (if 1 < (l0.length : Int) then (some (IntKind.u64.wrap (0 + (IntKind.u64.wrap ((rd l0 1) * 4294967296))))) else (none)) else (some 0))) = some r := h
  clear h
  by_cases c2 : (l0.length : Int) > 0
  · rw [if_pos c2] at H
    have c2b0 : decide (0 < (l0.length : Int)) = true := decide_eq_true c2
    have c2b1 : decide (0 < l0.length) = true := decide_eq_true (by omega)
    clear c2
    by_cases c3 : 0 < (l0.length : Int)
    · rw [if_pos c3] at H
      have c3b0 : decide (0 < (l0.length : Int)) = true := decide_eq_true c3
      have c3b1 : decide (0 < l0.length) = true := decide_eq_true (by omega)
      clear c3
      by_cases c4 : (l0.length : Int) > 1
      · rw [if_pos c4] at H
        have c4b0 : decide (1 < (l0.length : Int)) = true := decide_eq_true c4
        have c4b1 : decide (1 < l0.length) = true := decide_eq_true (by omega)
        clear c4
        by_cases c5 : 1 < (l0.length : Int)
        · rw [if_pos c5] at H
          have c5b0 : decide (1 < (l0.length : Int)) = true := decide_eq_true c5
          have c5b1 : decide (1 < l0.length) = true := decide_eq_true (by omega)
          clear c5
          obtain rfl := Option.some.inj H
          have p276 : 0 ≤ (0 : Int) := (by omega)
          have q276 : 0 < (l0.length : Int) := of_decide_eq_true (by first | (with_reducible assumption) | assumption)
          obtain ⟨ad276, e276, hx276_0⟩ := Kd.at_int HR0.out 0 p276 q276
          cases e276
          have qi276 : (0 < l0.length) = True := eq_true (by omega)
          (try rw [show ((0 : Int)).toNat = 0 from rfl] at hx276_0)
          (try rw [Addr.add_zero'] at hx276_0)
          replace p276 := eq_true p276
          replace q276 := eq_true q276
          have p277 : 0 ≤ (1 : Int) := (by omega)
          have q277 : 1 < (l0.length : Int) := of_decide_eq_true (by first | (with_reducible assumption) | assumption)
          obtain ⟨ad277, e277, hx277_0⟩ := Kd.at_int HR0.out 1 p277 q277
          obtain rfl : ad276 = ad277 := (by injection e277)
          (try simp only [show (1 : Int).toNat = 1 from rfl, Nat.reduceMul, Nat.reduceEqDiff, Go.Addr.add, ↓reduceIte] at hx277_0)
          have qi277 : (1 < l0.length) = True := eq_true (by omega)
          (try rw [show ((1 : Int)).toNat = 1 from rfl] at hx277_0)
          replace p277 := eq_true p277
          replace q277 := eq_true q277
          go_enter Tryz.func108, Tryz.ntmps108
          go_wp2
          go_ret
          exact ⟨by first | rfl | (simp; done) | (simp [*]; done), by repeat (first | exact Drawn0.refl _ | apply Drawn0.step)⟩
        · rw [if_neg c5] at H
          exact absurd H (by simp)
      · rw [if_neg c4] at H
        have c4b0 : decide (1 < (l0.length : Int)) = false := decide_eq_false c4
        have c4b1 : decide (1 < l0.length) = false := decide_eq_false (by omega)
        clear c4
        obtain rfl := Option.some.inj H
        have p276 : 0 ≤ (0 : Int) := (by omega)
        have q276 : 0 < (l0.length : Int) := of_decide_eq_true (by first | (with_reducible assumption) | assumption)
        obtain ⟨ad276, e276, hx276_0⟩ := Kd.at_int HR0.out 0 p276 q276
        cases e276
        have qi276 : (0 < l0.length) = True := eq_true (by omega)
        (try rw [show ((0 : Int)).toNat = 0 from rfl] at hx276_0)
        (try rw [Addr.add_zero'] at hx276_0)
        replace p276 := eq_true p276
        replace q276 := eq_true q276
        go_enter Tryz.func108, Tryz.ntmps108
        go_wp2
        go_ret
        exact ⟨by first | rfl | (simp; done) | (simp [*]; done), by repeat (first | exact Drawn0.refl _ | apply Drawn0.step)⟩
    · rw [if_neg c3] at H
      exact absurd H (by simp)
  · rw [if_neg c2] at H
    have c2b0 : decide (0 < (l0.length : Int)) = false := decide_eq_false c2
    have c2b1 : decide (0 < l0.length) = false := decide_eq_false (by omega)
    clear c2
    by_cases c6 : (l0.length : Int) > 1
    · rw [if_pos c6] at H
      have c6b0 : decide (1 < (l0.length : Int)) = true := decide_eq_true c6
      have c6b1 : decide (1 < l0.length) = true := decide_eq_true (by omega)
      clear c6
      by_cases c7 : 1 < (l0.length : Int)
      · rw [if_pos c7] at H
        have c7b0 : decide (1 < (l0.length : Int)) = true := decide_eq_true c7
        have c7b1 : decide (1 < l0.length) = true := decide_eq_true (by omega)
        clear c7
        obtain rfl := Option.some.inj H
        have p278 : 0 ≤ (1 : Int) := (by omega)
        have q278 : 1 < (l0.length : Int) := of_decide_eq_true (by first | (with_reducible assumption) | assumption)
        obtain ⟨ad278, e278, hx278_0⟩ := Kd.at_int HR0.out 1 p278 q278
        cases e278
        (try simp only [show (1 : Int).toNat = 1 from rfl, Nat.reduceMul, Nat.reduceEqDiff, Go.Addr.add, ↓reduceIte] at hx278_0)
        have qi278 : (1 < l0.length) = True := eq_true (by omega)
        (try rw [show ((1 : Int)).toNat = 1 from rfl] at hx278_0)
        replace p278 := eq_true p278
        replace q278 := eq_true q278
        go_enter Tryz.func108, Tryz.ntmps108
        go_wp2
        go_ret
        exact ⟨by first | rfl | (simp; done) | (simp [*]; done), by repeat (first | exact Drawn0.refl _ | apply Drawn0.step)⟩
      · rw [if_neg c7] at H
        exact absurd H (by simp)
    · rw [if_neg c6] at H
      have c6b0 : decide (1 < (l0.length : Int)) = false := decide_eq_false c6
      have c6b1 : decide (1 < l0.length) = false := decide_eq_false (by omega)
      clear c6
      obtain rfl := Option.some.inj H
      go_enter Tryz.func108, Tryz.ntmps108
      go_wp2
      go_ret
      exact ⟨by first | rfl | (simp; done) | (simp [*]; done), by repeat (first | exact Drawn0.refl _ | apply Drawn0.step)⟩

/-! ### custodyref04_Rounded: function 56 -/
mutual
def custodyref04_Rounded.j0 : Nat → List Int → Bool → Option (Int × Int)
  | 0, _, _ => none
  | k + 1, x8, x12 => if x12 = true then ((custodyref04_List.f k 1).bind fun t293 => ((custodyref04_Plus.f k x8 t293).bind fun t296 => (custodyref04_Rounded.j1 k t296))) else (custodyref04_Rounded.j1 k x8)
def custodyref04_Rounded.j1 : Nat → List Int → Option (Int × Int)
  | 0, _ => none
  | k + 1, x8 => (custodyref04_Bits.f k x8).bind fun t299 => (if t299 > 63 then (some (0, 9)) else ((custodyref04_Small.f x8).bind fun t300 => (some (wrap64 (t300), 0))))
end
def custodyref04_Rounded.f (k : Nat) (l0 : List Int) (l1 : List Int) (a2 : Int) : Option (Int × Int) := (custodyref04_Over.f k l0 l1).bind fun bt279 => ((custodyref04_Plus.f k bt279.2 bt279.2).bind fun t285 => ((custodyref04_Cmp.f k t285 l1).bind fun t288 => ((custodyref04_Bit.f bt279.1 0).bind fun t289 => (if a2 = 1 then ((custodyref04_Trim.f k bt279.2).bind fun t290 => (if (t290.length : Int) > 0 then (custodyref04_Rounded.j0 k bt279.1 true) else (if a2 = 2 then (if t288 ≥ 0 then (custodyref04_Rounded.j0 k bt279.1 true) else (if a2 = 3 then (if t288 > 0 then (custodyref04_Rounded.j0 k bt279.1 true) else (if t288 = 0 then (custodyref04_Rounded.j0 k bt279.1 (t289 == 1)) else (custodyref04_Rounded.j0 k bt279.1 false))) else (custodyref04_Rounded.j0 k bt279.1 false))) else (if a2 = 3 then (if t288 > 0 then (custodyref04_Rounded.j0 k bt279.1 true) else (if t288 = 0 then (custodyref04_Rounded.j0 k bt279.1 (t289 == 1)) else (custodyref04_Rounded.j0 k bt279.1 false))) else (custodyref04_Rounded.j0 k bt279.1 false))))) else (if a2 = 2 then (if t288 ≥ 0 then (custodyref04_Rounded.j0 k bt279.1 true) else (if a2 = 3 then (if t288 > 0 then (custodyref04_Rounded.j0 k bt279.1 true) else (if t288 = 0 then (custodyref04_Rounded.j0 k bt279.1 (t289 == 1)) else (custodyref04_Rounded.j0 k bt279.1 false))) else (custodyref04_Rounded.j0 k bt279.1 false))) else (if a2 = 3 then (if t288 > 0 then (custodyref04_Rounded.j0 k bt279.1 true) else (if t288 = 0 then (custodyref04_Rounded.j0 k bt279.1 (t289 == 1)) else (custodyref04_Rounded.j0 k bt279.1 false))) else (custodyref04_Rounded.j0 k bt279.1 false)))))))
theorem custodyref04_Rounded.mono_l : ∀ k, (∀ y0 y1, LeO (custodyref04_Rounded.j0 k y0 y1) (custodyref04_Rounded.j0 (k + 1) y0 y1)) ∧ (∀ y0, LeO (custodyref04_Rounded.j1 k y0) (custodyref04_Rounded.j1 (k + 1) y0))
  | 0 => ⟨fun _ _ r h => by simp [custodyref04_Rounded.j0] at h, fun _ r h => by simp [custodyref04_Rounded.j1] at h⟩
  | k + 1 => by
    obtain ⟨ih0, ih1⟩ := custodyref04_Rounded.mono_l k
    refine ⟨?_, ?_⟩
    · intro y0 y1
      unfold custodyref04_Rounded.j0
      repeat' first
      | (with_reducible exact ih0 _ _)
      | (with_reducible exact ih1 _)
      | (with_reducible exact custodyref04_Bits.mono _ _)
      | (with_reducible exact custodyref04_Cmp.mono _ _ _)
      | (with_reducible exact custodyref04_List.mono _ _)
      | (with_reducible exact custodyref04_Over.mono _ _ _)
      | (with_reducible exact custodyref04_Plus.mono _ _ _)
      | (with_reducible exact custodyref04_Trim.mono _ _)
      | (with_reducible exact LeO.refl _)
      | (with_reducible exact LeO.none _)
      | (with_reducible refine LeO.ite ?_ ?_)
      | (with_reducible refine LeO.bind ?_ (fun _ => ?_))
      | exact ih0 _ _
      | exact ih1 _
      | exact custodyref04_Bits.mono _ _
      | exact custodyref04_Cmp.mono _ _ _
      | exact custodyref04_List.mono _ _
      | exact custodyref04_Over.mono _ _ _
      | exact custodyref04_Plus.mono _ _ _
      | exact custodyref04_Trim.mono _ _
      | exact LeO.none _
      | refine LeO.ite ?_ ?_
      | refine LeO.bind ?_ (fun _ => ?_)
    · intro y0
      unfold custodyref04_Rounded.j1
      repeat' first
      | (with_reducible exact ih0 _ _)
      | (with_reducible exact ih1 _)
      | (with_reducible exact custodyref04_Bits.mono _ _)
      | (with_reducible exact custodyref04_Cmp.mono _ _ _)
      | (with_reducible exact custodyref04_List.mono _ _)
      | (with_reducible exact custodyref04_Over.mono _ _ _)
      | (with_reducible exact custodyref04_Plus.mono _ _ _)
      | (with_reducible exact custodyref04_Trim.mono _ _)
      | (with_reducible exact LeO.refl _)
      | (with_reducible exact LeO.none _)
      | (with_reducible refine LeO.ite ?_ ?_)
      | (with_reducible refine LeO.bind ?_ (fun _ => ?_))
      | exact ih0 _ _
      | exact ih1 _
      | exact custodyref04_Bits.mono _ _
      | exact custodyref04_Cmp.mono _ _ _
      | exact custodyref04_List.mono _ _
      | exact custodyref04_Over.mono _ _ _
      | exact custodyref04_Plus.mono _ _ _
      | exact custodyref04_Trim.mono _ _
      | exact LeO.none _
      | refine LeO.ite ?_ ?_
      | refine LeO.bind ?_ (fun _ => ?_)
theorem custodyref04_Rounded.mono : ∀ a0 a1 a2 k, LeO (custodyref04_Rounded.f k a0 a1 a2) (custodyref04_Rounded.f (k + 1) a0 a1 a2) := by
  intro a0 a1 a2 k
  obtain ⟨ih0, ih1⟩ := custodyref04_Rounded.mono_l k
  unfold custodyref04_Rounded.f
  repeat' first
      | (with_reducible exact ih0 _ _)
      | (with_reducible exact ih1 _)
      | (with_reducible exact custodyref04_Bits.mono _ _)
      | (with_reducible exact custodyref04_Cmp.mono _ _ _)
      | (with_reducible exact custodyref04_List.mono _ _)
      | (with_reducible exact custodyref04_Over.mono _ _ _)
      | (with_reducible exact custodyref04_Plus.mono _ _ _)
      | (with_reducible exact custodyref04_Trim.mono _ _)
      | (with_reducible exact LeO.refl _)
      | (with_reducible exact LeO.none _)
      | (with_reducible refine LeO.ite ?_ ?_)
      | (with_reducible refine LeO.bind ?_ (fun _ => ?_))
      | exact ih0 _ _
      | exact ih1 _
      | exact custodyref04_Bits.mono _ _
      | exact custodyref04_Cmp.mono _ _ _
      | exact custodyref04_List.mono _ _
      | exact custodyref04_Over.mono _ _ _
      | exact custodyref04_Plus.mono _ _ _
      | exact custodyref04_Trim.mono _ _
      | exact LeO.none _
      | refine LeO.ite ?_ ?_
      | refine LeO.bind ?_ (fun _ => ?_)
set_option maxHeartbeats 8000000 in
set_option maxRecDepth 100000 in
theorem custodyref04_Rounded.calls (k : Nat) (A0 : Option Addr) (c0 : Nat) (l0 : List Int) (A1 : Option Addr) (c1 : Nat) (l1 : List Int) (a2 : Int) (r1 : Int) (r2 : Int) (w : World) (hr0 : Kd.C (Kd.int .u64) w A0 l0.length l0) (hc0 : l0.length ≤ c0) (hr1 : Kd.C (Kd.int .u64) w A1 l1.length l1) (hc1 : l1.length ≤ c1) (h : custodyref04_Rounded.f k l0 l1 a2 = some (r1, r2)) :
    Calls Tryz.prog 56 #[.slice A0 l0.length c0, .slice A1 l1.length c1, .int .i64 a2] w fun e w' => e = .returned (.tuple #[.int .i64 r1, .int .i64 r2]) ∧ Below w.heap.size w w' := by
  have HR0 := Aside0.mk hr0
  have HC0 := Aside0.mk hc0
  clear hr0 hc0
  have HR1 := Aside0.mk hr1
  have HC1 := Aside0.mk hc1
  clear hr1 hc1
  have HB := Aside0.mk (Below.refl w.heap.size w)
  have H : ((custodyref04_Over.f k l0 l1).bind fun bt279 => ((custodyref04_Plus.f k bt279.2 bt279.2).bind fun t285 => ((custodyref04_Cmp.f k t285 l1).bind fun t288 => ((custodyref04_Bit.f bt279.1 0).bind fun t289 => (if a2 = 1 then ((custodyref04_Trim.f k bt279.2).bind fun t290 => (if (t290.length : Int) > 0 then (custodyref04_Rounded.j0 k bt279.1 true) else (if a2 = 2 then (if t288 ≥ 0 then (custodyref04_Rounded.j0 k bt279.1 true) else (if a2 = 3 then (if t288 > 0 then (custodyref04_Rounded.j0 k bt279.1 true) else (if t288 = 0 then (custodyref04_Rounded.j0 k bt279.1 (t289 == 1)) else (custodyref04_Rounded.j0 k bt279.1 false))) else (custodyref04_Rounded.j0 k bt279.1 false))) else (if a2 = 3 then (if t288 > 0 then (custodyref04_Rounded.j0 k bt279.1 true) else (if t288 = 0 then (custodyref04_Rounded.j0 k bt279.1 (t289 == 1)) else (custodyref04_Rounded.j0 k bt279.1 false))) else (custodyref04_Rounded.j0 k bt279.1 false))))) else (if a2 = 2 then (if t288 ≥ 0 then (custodyref04_Rounded.j0 k bt279.1 true) else (if a2 = 3 then (if t288 > 0 then (custodyref04_Rounded.j0 k bt279.1 true) else (if t288 = 0 then (custodyref04_Rounded.j0 k bt279.1 (t289 == 1)) else (custodyref04_Rounded.j0 k bt279.1 false))) else (custodyref04_Rounded.j0 k bt279.1 false))) else (if a2 = 3 then (if t288 > 0 then (custodyref04_Rounded.j0 k bt279.1 true) else (if t288 = 0 then (custodyref04_Rounded.j0 k bt279.1 (t289 == 1)) else (custodyref04_Rounded.j0 k bt279.1 false))) else (custodyref04_Rounded.j0 k bt279.1 false)))))))) = some (r1, r2) := h
  clear h
  replace H := Option.bind_eq_some_iff.mp H
  obtain ⟨⟨t279, t280⟩, A40, H⟩ := H
  replace H : ((custodyref04_Plus.f k t280 t280).bind fun t285 => ((custodyref04_Cmp.f k t285 l1).bind fun t288 => ((custodyref04_Bit.f t279 0).bind fun t289 => (if a2 = 1 then ((custodyref04_Trim.f k t280).bind fun t290 => (if (t290.length : Int) > 0 then (custodyref04_Rounded.j0 k t279 true) else (if a2 = 2 then (if t288 ≥ 0 then (custodyref04_Rounded.j0 k t279 true) else (if a2 = 3 then (if t288 > 0 then (custodyref04_Rounded.j0 k t279 true) else (if t288 = 0 then (custodyref04_Rounded.j0 k t279 (t289 == 1)) else (custodyref04_Rounded.j0 k t279 false))) else (custodyref04_Rounded.j0 k t279 false))) else (if a2 = 3 then (if t288 > 0 then (custodyref04_Rounded.j0 k t279 true) else (if t288 = 0 then (custodyref04_Rounded.j0 k t279 (t289 == 1)) else (custodyref04_Rounded.j0 k t279 false))) else (custodyref04_Rounded.j0 k t279 false))))) else (if a2 = 2 then (if t288 ≥ 0 then (custodyref04_Rounded.j0 k t279 true) else (if a2 = 3 then (if t288 > 0 then (custodyref04_Rounded.j0 k t279 true) else (if t288 = 0 then (custodyref04_Rounded.j0 k t279 (t289 == 1)) else (custodyref04_Rounded.j0 k t279 false))) else (custodyref04_Rounded.j0 k t279 false))) else (if a2 = 3 then (if t288 > 0 then (custodyref04_Rounded.j0 k t279 true) else (if t288 = 0 then (custodyref04_Rounded.j0 k t279 (t289 == 1)) else (custodyref04_Rounded.j0 k t279 false))) else (custodyref04_Rounded.j0 k t279 false))))))) = some (r1, r2) := H
  have A4 := Aside0.mk A40
  clear A40
  replace H := Option.bind_eq_some_iff.mp H
  obtain ⟨t285, A50, H⟩ := H
  replace H : ((custodyref04_Cmp.f k t285 l1).bind fun t288 => ((custodyref04_Bit.f t279 0).bind fun t289 => (if a2 = 1 then ((custodyref04_Trim.f k t280).bind fun t290 => (if (t290.length : Int) > 0 then (custodyref04_Rounded.j0 k t279 true) else (if a2 = 2 then (if t288 ≥ 0 then (custodyref04_Rounded.j0 k t279 true) else (if a2 = 3 then (if t288 > 0 then (custodyref04_Rounded.j0 k t279 true) else (if t288 = 0 then (custodyref04_Rounded.j0 k t279 (t289 == 1)) else (custodyref04_Rounded.j0 k t279 false))) else (custodyref04_Rounded.j0 k t279 false))) else (if a2 = 3 then (if t288 > 0 then (custodyref04_Rounded.j0 k t279 true) else (if t288 = 0 then (custodyref04_Rounded.j0 k t279 (t289 == 1)) else (custodyref04_Rounded.j0 k t279 false))) else (custodyref04_Rounded.j0 k t279 false))))) else (if a2 = 2 then (if t288 ≥ 0 then (custodyref04_Rounded.j0 k t279 true) else (if a2 = 3 then (if t288 > 0 then (custodyref04_Rounded.j0 k t279 true) else (if t288 = 0 then (custodyref04_Rounded.j0 k t279 (t289 == 1)) else (custodyref04_Rounded.j0 k t279 false))) else (custodyref04_Rounded.j0 k t279 false))) else (if a2 = 3 then (if t288 > 0 then (custodyref04_Rounded.j0 k t279 true) else (if t288 = 0 then (custodyref04_Rounded.j0 k t279 (t289 == 1)) else (custodyref04_Rounded.j0 k t279 false))) else (custodyref04_Rounded.j0 k t279 false)))))) = some (r1, r2) := H
  have A5 := Aside0.mk A50
  clear A50
  replace H := Option.bind_eq_some_iff.mp H
  obtain ⟨t288, A60, H⟩ := H
  replace H : ((custodyref04_Bit.f t279 0).bind fun t289 => (if a2 = 1 then ((custodyref04_Trim.f k t280).bind fun t290 => (if (t290.length : Int) > 0 then (custodyref04_Rounded.j0 k t279 true) else (if a2 = 2 then (if t288 ≥ 0 then (custodyref04_Rounded.j0 k t279 true) else (if a2 = 3 then (if t288 > 0 then (custodyref04_Rounded.j0 k t279 true) else (if t288 = 0 then (custodyref04_Rounded.j0 k t279 (t289 == 1)) else (custodyref04_Rounded.j0 k t279 false))) else (custodyref04_Rounded.j0 k t279 false))) else (if a2 = 3 then (if t288 > 0 then (custodyref04_Rounded.j0 k t279 true) else (if t288 = 0 then (custodyref04_Rounded.j0 k t279 (t289 == 1)) else (custodyref04_Rounded.j0 k t279 false))) else (custodyref04_Rounded.j0 k t279 false))))) else (if a2 = 2 then (if t288 ≥ 0 then (custodyref04_Rounded.j0 k t279 true) else (if a2 = 3 then (if t288 > 0 then (custodyref04_Rounded.j0 k t279 true) else (if t288 = 0 then (custodyref04_Rounded.j0 k t279 (t289 == 1)) else (custodyref04_Rounded.j0 k t279 false))) else (custodyref04_Rounded.j0 k t279 false))) else (if a2 = 3 then (if t288 > 0 then (custodyref04_Rounded.j0 k t279 true) else (if t288 = 0 then (custodyref04_Rounded.j0 k t279 (t289 == 1)) else (custodyref04_Rounded.j0 k t279 false))) else (custodyref04_Rounded.j0 k t279 false))))) = some (r1, r2) := H
  have A6 := Aside0.mk A60
  clear A60
  replace H := Option.bind_eq_some_iff.mp H
  obtain ⟨t289, A70, H⟩ := H
  replace H : (if a2 = 1 then ((custodyref04_Trim.f k t280).bind fun t290 => (if (t290.length : Int) > 0 then (custodyref04_Rounded.j0 k t279 true) else (if a2 = 2 then (if t288 ≥ 0 then (custodyref04_Rounded.j0 k t279 true) else (if a2 = 3 then (if t288 > 0 then (custodyref04_Rounded.j0 k t279 true) else (if t288 = 0 then (custodyref04_Rounded.j0 k t279 (t289 == 1)) else (custodyref04_Rounded.j0 k t279 false))) else (custodyref04_Rounded.j0 k t279 false))) else (if a2 = 3 then (if t288 > 0 then (custodyref04_Rounded.j0 k t279 true) else (if t288 = 0 then (custodyref04_Rounded.j0 k t279 (t289 == 1)) else (custodyref04_Rounded.j0 k t279 false))) else (custodyref04_Rounded.j0 k t279 false))))) else (if a2 = 2 then (if t288 ≥ 0 then (custodyref04_Rounded.j0 k t279 true) else (if a2 = 3 then (if t288 > 0 then (custodyref04_Rounded.j0 k t279 true) else (if t288 = 0 then (custodyref04_Rounded.j0 k t279 (t289 == 1)) else (custodyref04_Rounded.j0 k t279 false))) else (custodyref04_Rounded.j0 k t279 false))) else (if a2 = 3 then (if t288 > 0 then (custodyref04_Rounded.j0 k t279 true) else (if t288 = 0 then (custodyref04_Rounded.j0 k t279 (t289 == 1)) else (custodyref04_Rounded.j0 k t279 false))) else (custodyref04_Rounded.j0 k t279 false)))) = some (r1, r2) := H
  have A7 := Aside0.mk A70
  clear A70
  have HC8 := Aside0.mk H
  clear H
  go_enter Tryz.func56, Tryz.ntmps56
  go_upto_region 4 with (first | ((with_reducible refine gate_callee (f := 99) rfl ?_); refine goesL_ (some 16) rfl rfl Tryz.func99 (by kernel_rfl) rfl #[.slice A0 l0.length c0, .slice A1 l1.length c1] rfl (by (try simp only [List.map_toArray, List.map_cons, List.map_nil]); first | done | rfl | (simp only [List.length_drop, List.length_take]; rfl)) ?_; (with_reducible refine (custodyref04_Over.calls k _ _ l0 _ _ l1 t279 t280 _ ?side1 ?side2 ?side3 ?side4 A4.out).mono ?_); (case side1 => repeat (first | exact HR0.out | (with_reducible refine Kd.C_alloc ?_ _) | (with_reducible refine Kd.C_drewN ?_ _) | (with_reducible refine Kd.C_drew ?_))); (case side2 => exact HC0.out); (case side3 => repeat (first | exact HR1.out | (with_reducible refine Kd.C_alloc ?_ _) | (with_reducible refine Kd.C_drewN ?_ _) | (with_reducible refine Kd.C_drew ?_))); (case side4 => exact HC1.out); rintro e w9 ⟨v281, v283, rfl, ho0, ho1, hb⟩; refine ⟨_, rfl, ?_⟩; have n0_ := Aside0.mk (Kd.R_lower ho0 (below_size (by repeat (first | (with_reducible first | exact HB.out | apply below_alloc | apply pw_below_drewN | apply below_drew1) | exact HB.out)))); have n1_ := Aside0.mk (Kd.R_lower ho1 (below_size (by repeat (first | (with_reducible first | exact HB.out | apply below_alloc | apply pw_below_drewN | apply below_drew1) | exact HB.out)))); have n2_ := Aside0.mk (below_step (by repeat (first | (with_reducible first | exact HB.out | apply below_alloc | apply pw_below_drewN | apply below_drew1) | exact HB.out)) hb); clear HB; have HO282 := n0_; have HO284 := n1_; have HB := n2_; clear n0_ n1_ n2_; (try clear hb); (try clear hb2); (try clear hk); (try clear hi); (try clear ho0); (try clear ho1); obtain ⟨Ao10, co10, eo10⟩ := Kd.R_slice HO284.out; subst eo10) | ((with_reducible refine gate_callee (f := 106) rfl ?_); refine goesL_ (some 21) rfl rfl Tryz.func106 (by kernel_rfl) rfl #[.slice Ao10 t280.length co10, .slice Ao10 t280.length co10] rfl (by (try simp only [List.map_toArray, List.map_cons, List.map_nil]); first | done | rfl | (simp only [List.length_drop, List.length_take]; rfl)) ?_; (with_reducible refine (custodyref04_Plus.calls k _ _ t280 _ _ t280 t285 _ ?side1 ?side2 ?side3 ?side4 A5.out).mono ?_); (case side1 => repeat (first | exact (Kd.R_reads' HO284.out).2.2 | (with_reducible refine Kd.C_alloc ?_ _) | (with_reducible refine Kd.C_drewN ?_ _) | (with_reducible refine Kd.C_drew ?_))); (case side2 => exact (Kd.R_reads' HO284.out).2.1); (case side3 => repeat (first | exact (Kd.R_reads' HO284.out).2.2 | (with_reducible refine Kd.C_alloc ?_ _) | (with_reducible refine Kd.C_drewN ?_ _) | (with_reducible refine Kd.C_drew ?_))); (case side4 => exact (Kd.R_reads' HO284.out).2.1); rintro e w11 ⟨v286, rfl, ho0, hb⟩; refine ⟨_, rfl, ?_⟩; have n0_ := Aside0.mk (Kd.R_elder' (by (with_reducible repeat (first | apply Kd.R_alloc | apply Kd.R_drewN | apply Kd.R_drew)); exact HO282.out) (Kd.R_base ho0) hb); have n1_ := Aside0.mk (Kd.R_elder' (by (with_reducible repeat (first | apply Kd.R_alloc | apply Kd.R_drewN | apply Kd.R_drew)); exact HO284.out) (Kd.R_base ho0) hb); have n2_ := Aside0.mk (Kd.R_lower (Kd.R_new' (Kd.R_new' ho0 (Kd.R_lt (by (with_reducible repeat (first | apply Kd.R_alloc | apply Kd.R_drewN | apply Kd.R_drew)); exact HO282.out))) (Kd.R_lt (by (with_reducible repeat (first | apply Kd.R_alloc | apply Kd.R_drewN | apply Kd.R_drew)); exact HO284.out))) (below_size (by repeat (first | (with_reducible first | exact HB.out | apply below_alloc | apply pw_below_drewN | apply below_drew1) | exact HB.out)))); have n3_ := Aside0.mk (below_step (by repeat (first | (with_reducible first | exact HB.out | apply below_alloc | apply pw_below_drewN | apply below_drew1) | exact HB.out)) hb); clear HO282; clear HO284; clear HB; have HO282 := n0_; have HO284 := n1_; have HO287 := n2_; have HB := n3_; clear n0_ n1_ n2_ n3_; (try clear hb); (try clear hb2); (try clear hk); (try clear hi); (try clear ho0); obtain ⟨Ao12, co12, eo12⟩ := Kd.R_slice HO287.out; subst eo12) | ((with_reducible refine gate_callee (f := 105) rfl ?_); refine goesL_ (some 23) rfl rfl Tryz.func105 (by kernel_rfl) rfl #[.slice Ao12 t285.length co12, .slice A1 l1.length c1] rfl (by (try simp only [List.map_toArray, List.map_cons, List.map_nil]); first | done | rfl | (simp only [List.length_drop, List.length_take]; rfl)) ?_; (with_reducible refine (custodyref04_Cmp.calls k _ _ t285 _ _ l1 t288 _ ?side1 ?side2 ?side3 ?side4 A6.out).mono ?_); (case side1 => repeat (first | exact (Kd.R_reads' HO287.out).2.2 | (with_reducible refine Kd.C_alloc ?_ _) | (with_reducible refine Kd.C_drewN ?_ _) | (with_reducible refine Kd.C_drew ?_))); (case side2 => exact (Kd.R_reads' HO287.out).2.1); (case side3 => repeat (first | exact (Kd.C_below HR1.out HB.out) | (with_reducible refine Kd.C_alloc ?_ _) | (with_reducible refine Kd.C_drewN ?_ _) | (with_reducible refine Kd.C_drew ?_))); (case side4 => exact HC1.out); rintro e w' ⟨rfl, ⟨nd, rfl⟩⟩; refine ⟨_, rfl, ?_⟩; obtain ⟨Ao13, co13, eo13⟩ := Kd.R_slice HO282.out; subst eo13) | ((with_reducible refine gate_callee (f := 107) rfl ?_); refine goesL_ (some 25) rfl rfl Tryz.func107 (by kernel_rfl) rfl #[.slice Ao13 t279.length co13, .int .i64 0] rfl (by (try simp only [List.map_toArray, List.map_cons, List.map_nil]); first | done | rfl | (simp only [List.length_drop, List.length_take]; rfl)) ?_; (with_reducible refine (custodyref04_Bit.calls _ _ t279 0 t289 _ ?side1 ?side2 A7.out).mono ?_); (case side1 => repeat (first | exact (Kd.R_reads' HO282.out).2.2 | (with_reducible refine Kd.C_alloc ?_ _) | (with_reducible refine Kd.C_drewN ?_ _) | (with_reducible refine Kd.C_drew ?_))); (case side2 => exact (Kd.R_reads' HO282.out).2.1); rintro e w' ⟨rfl, ⟨nd, rfl⟩⟩; refine ⟨_, rfl, ?_⟩))
  (try simp only [Act.put, List.setIfInBounds_toArray, List.set_cons_zero, List.set_cons_succ])
  go_cut [12] (fun v12 wc => ∃ (kq : Nat) (x12_7 : Bool), v12 = .bool x12_7 ∧ Aside0 (custodyref04_Rounded.j0 kq t279 x12_7 = some (r1, r2)) ∧ Aside0 (kq ≤ k) ∧ Aside0 (Kd.R (Kd.int .u64) 38 wc w.heap.size (fun _ => True) (.slice Ao13 t279.length co13) t279) ∧ Aside0 (Below w.heap.size w wc))
  case first =>
    have H := HC8.out
    clear HC8
    by_cases c14 : a2 = 1
    · rw [if_pos c14] at H
      have c14b0 : (a2 == 1) = true := beq_iff_eq.mpr c14
      have c14b1 : (a2 != 1) = false := bne_eq_false_iff_eq.mpr c14
      clear c14
      (first | rw [c14b0] | (simp only [i64_w, i32_w]; rw [c14b0]) | skip)
      replace H := Option.bind_eq_some_iff.mp H
      obtain ⟨t290, A150, H⟩ := H
      replace H : (if (t290.length : Int) > 0 then (custodyref04_Rounded.j0 k t279 true) else (if a2 = 2 then (if t288 ≥ 0 then (custodyref04_Rounded.j0 k t279 true) else (if a2 = 3 then (if t288 > 0 then (custodyref04_Rounded.j0 k t279 true) else (if t288 = 0 then (custodyref04_Rounded.j0 k t279 (t289 == 1)) else (custodyref04_Rounded.j0 k t279 false))) else (custodyref04_Rounded.j0 k t279 false))) else (if a2 = 3 then (if t288 > 0 then (custodyref04_Rounded.j0 k t279 true) else (if t288 = 0 then (custodyref04_Rounded.j0 k t279 (t289 == 1)) else (custodyref04_Rounded.j0 k t279 false))) else (custodyref04_Rounded.j0 k t279 false)))) = some (r1, r2) := H
      have A15 := Aside0.mk A150
      clear A150
      by_cases c16 : (t290.length : Int) > 0
      · rw [if_pos c16] at H
        have c16b0 : decide (0 < (t290.length : Int)) = true := decide_eq_true c16
        have c16b1 : decide (0 < t290.length) = true := decide_eq_true (by omega)
        clear c16
        have H' := Aside0.mk H
        clear H
        go_wp2_with (first | (go_at_call 104; (with_reducible refine (custodyref04_Trim.calls k (fun k_ => some k_ = (.slice Ao10 t280.length co10 : Value).ownBlock) (.slice Ao10 t280.length co10) t280 t290 w _ ?side1 ?side2 A15.out).mono ?_); (case side1 => repeat (first | (with_reducible first | exact HB.out | apply below_alloc | apply pw_below_drewN | apply below_drew1) | exact HB.out)); (case side2 => exact Kd.R_tight rfl HO284.out); rintro e w17 ⟨v291, rfl, ho0, hb, hkp⟩; have n0_ := Aside0.mk (Kd.R_mono (ok' := fun k_ => some k_ ≠ (.slice Ao12 t285.length co12 : Value).ownBlock ∧ some k_ ≠ (v291 : Value).ownBlock) (Kd.R_keptB (HO282.out) hkp (fun k_ hk_ hs_ => (hk_.1) hs_)) (fun k_ hk_ => ⟨hk_.1.2, fun e_ => Or.elim (ho0.1 k_ e_.symm) (fun hs_ => hk_.2.1 hs_) (fun hn_ => Nat.not_le.2 hk_.2.2 hn_)⟩)); have n1_ := Aside0.mk (Kd.R_mono (ok' := fun k_ => some k_ ≠ (.slice Ao13 t279.length co13 : Value).ownBlock ∧ some k_ ≠ (v291 : Value).ownBlock) (Kd.R_keptB (HO287.out) hkp (fun k_ hk_ hs_ => (hk_.2) hs_)) (fun k_ hk_ => ⟨hk_.1.1.2, fun e_ => Or.elim (ho0.1 k_ e_.symm) (fun hs_ => hk_.2.1 hs_) (fun hn_ => Nat.not_le.2 hk_.2.2 hn_)⟩)); have n2_ := Aside0.mk (Kd.R_mono (ok' := fun k_ => some k_ ≠ (.slice Ao13 t279.length co13 : Value).ownBlock ∧ some k_ ≠ (.slice Ao12 t285.length co12 : Value).ownBlock) ho0 (fun k_ hk_ => ⟨Or.elim hk_ (fun hs_ => fun e_ => (((HO282.out).1 k_ e_.symm).1) hs_) (fun hn_ => (Kd.fresh' (Kd.R_lt (by (with_reducible repeat (first | apply Kd.R_alloc | apply Kd.R_drewN | apply Kd.R_drew)); exact HO282.out)) k_ hn_)), Or.elim hk_ (fun hs_ => fun e_ => (((HO287.out).1 k_ e_.symm).2) hs_) (fun hn_ => (Kd.fresh' (Kd.R_lt (by (with_reducible repeat (first | apply Kd.R_alloc | apply Kd.R_drewN | apply Kd.R_drew)); exact HO287.out)) k_ hn_))⟩)); have n3_ := Aside0.mk (hb); clear HO282; clear HO287; clear HB; clear HO284; have HO282 := n0_; have HO287 := n1_; have HO292 := n2_; have HB := n3_; clear n0_ n1_ n2_ n3_; (try clear hb); (try clear hkp); (try clear ho0); obtain ⟨Ao18, co18, eo18⟩ := Kd.R_slice HO292.out; subst eo18))
        go_meet
        case rel => exact ⟨_, (true), (by first | rfl | (simp; done) | (simp [*]; done)), H', ⟨by first | omega | exact Nat.le_refl _⟩, ⟨by (with_reducible repeat (first | apply Kd.R_alloc | apply Kd.R_drewN | apply Kd.R_drew)); exact Kd.R_mono HO282.out (fun _ hk => trivial)⟩, ⟨by repeat (first | (with_reducible first | exact HB.out | apply below_alloc | apply pw_below_drewN | apply below_drew1) | exact HB.out)⟩⟩
      · rw [if_neg c16] at H
        have c16b0 : decide (0 < (t290.length : Int)) = false := decide_eq_false c16
        have c16b1 : decide (0 < t290.length) = false := decide_eq_false (by omega)
        clear c16
        by_cases c19 : a2 = 2
        · rw [if_pos c19] at H
          have c19b0 : (a2 == 2) = true := beq_iff_eq.mpr c19
          have c19b1 : (a2 != 2) = false := bne_eq_false_iff_eq.mpr c19
          clear c19
          by_cases c20 : t288 ≥ 0
          · rw [if_pos c20] at H
            have c20b0 : decide (0 ≤ t288) = true := decide_eq_true c20
            clear c20
            have H' := Aside0.mk H
            clear H
            go_wp2_with (first | (go_at_call 104; (with_reducible refine (custodyref04_Trim.calls k (fun k_ => some k_ = (.slice Ao10 t280.length co10 : Value).ownBlock) (.slice Ao10 t280.length co10) t280 t290 w _ ?side1 ?side2 A15.out).mono ?_); (case side1 => repeat (first | (with_reducible first | exact HB.out | apply below_alloc | apply pw_below_drewN | apply below_drew1) | exact HB.out)); (case side2 => exact Kd.R_tight rfl HO284.out); rintro e w21 ⟨v291, rfl, ho0, hb, hkp⟩; have n0_ := Aside0.mk (Kd.R_mono (ok' := fun k_ => some k_ ≠ (.slice Ao12 t285.length co12 : Value).ownBlock ∧ some k_ ≠ (v291 : Value).ownBlock) (Kd.R_keptB (HO282.out) hkp (fun k_ hk_ hs_ => (hk_.1) hs_)) (fun k_ hk_ => ⟨hk_.1.2, fun e_ => Or.elim (ho0.1 k_ e_.symm) (fun hs_ => hk_.2.1 hs_) (fun hn_ => Nat.not_le.2 hk_.2.2 hn_)⟩)); have n1_ := Aside0.mk (Kd.R_mono (ok' := fun k_ => some k_ ≠ (.slice Ao13 t279.length co13 : Value).ownBlock ∧ some k_ ≠ (v291 : Value).ownBlock) (Kd.R_keptB (HO287.out) hkp (fun k_ hk_ hs_ => (hk_.2) hs_)) (fun k_ hk_ => ⟨hk_.1.1.2, fun e_ => Or.elim (ho0.1 k_ e_.symm) (fun hs_ => hk_.2.1 hs_) (fun hn_ => Nat.not_le.2 hk_.2.2 hn_)⟩)); have n2_ := Aside0.mk (Kd.R_mono (ok' := fun k_ => some k_ ≠ (.slice Ao13 t279.length co13 : Value).ownBlock ∧ some k_ ≠ (.slice Ao12 t285.length co12 : Value).ownBlock) ho0 (fun k_ hk_ => ⟨Or.elim hk_ (fun hs_ => fun e_ => (((HO282.out).1 k_ e_.symm).1) hs_) (fun hn_ => (Kd.fresh' (Kd.R_lt (by (with_reducible repeat (first | apply Kd.R_alloc | apply Kd.R_drewN | apply Kd.R_drew)); exact HO282.out)) k_ hn_)), Or.elim hk_ (fun hs_ => fun e_ => (((HO287.out).1 k_ e_.symm).2) hs_) (fun hn_ => (Kd.fresh' (Kd.R_lt (by (with_reducible repeat (first | apply Kd.R_alloc | apply Kd.R_drewN | apply Kd.R_drew)); exact HO287.out)) k_ hn_))⟩)); have n3_ := Aside0.mk (hb); clear HO282; clear HO287; clear HB; clear HO284; have HO282 := n0_; have HO287 := n1_; have HO292 := n2_; have HB := n3_; clear n0_ n1_ n2_ n3_; (try clear hb); (try clear hkp); (try clear ho0); obtain ⟨Ao22, co22, eo22⟩ := Kd.R_slice HO292.out; subst eo22))
            go_meet
            case rel => exact ⟨_, (true), (by first | rfl | (simp; done) | (simp [*]; done)), H', ⟨by first | omega | exact Nat.le_refl _⟩, ⟨by (with_reducible repeat (first | apply Kd.R_alloc | apply Kd.R_drewN | apply Kd.R_drew)); exact Kd.R_mono HO282.out (fun _ hk => trivial)⟩, ⟨by repeat (first | (with_reducible first | exact HB.out | apply below_alloc | apply pw_below_drewN | apply below_drew1) | exact HB.out)⟩⟩
          · rw [if_neg c20] at H
            have c20b0 : decide (0 ≤ t288) = false := decide_eq_false c20
            clear c20
            by_cases c23 : a2 = 3
            · rw [if_pos c23] at H
              have c23b0 : (a2 == 3) = true := beq_iff_eq.mpr c23
              have c23b1 : (a2 != 3) = false := bne_eq_false_iff_eq.mpr c23
              clear c23
              by_cases c24 : t288 > 0
              · rw [if_pos c24] at H
                have c24b0 : decide (0 < t288) = true := decide_eq_true c24
                clear c24
                have H' := Aside0.mk H
                clear H
                go_wp2_with (first | (go_at_call 104; (with_reducible refine (custodyref04_Trim.calls k (fun k_ => some k_ = (.slice Ao10 t280.length co10 : Value).ownBlock) (.slice Ao10 t280.length co10) t280 t290 w _ ?side1 ?side2 A15.out).mono ?_); (case side1 => repeat (first | (with_reducible first | exact HB.out | apply below_alloc | apply pw_below_drewN | apply below_drew1) | exact HB.out)); (case side2 => exact Kd.R_tight rfl HO284.out); rintro e w25 ⟨v291, rfl, ho0, hb, hkp⟩; have n0_ := Aside0.mk (Kd.R_mono (ok' := fun k_ => some k_ ≠ (.slice Ao12 t285.length co12 : Value).ownBlock ∧ some k_ ≠ (v291 : Value).ownBlock) (Kd.R_keptB (HO282.out) hkp (fun k_ hk_ hs_ => (hk_.1) hs_)) (fun k_ hk_ => ⟨hk_.1.2, fun e_ => Or.elim (ho0.1 k_ e_.symm) (fun hs_ => hk_.2.1 hs_) (fun hn_ => Nat.not_le.2 hk_.2.2 hn_)⟩)); have n1_ := Aside0.mk (Kd.R_mono (ok' := fun k_ => some k_ ≠ (.slice Ao13 t279.length co13 : Value).ownBlock ∧ some k_ ≠ (v291 : Value).ownBlock) (Kd.R_keptB (HO287.out) hkp (fun k_ hk_ hs_ => (hk_.2) hs_)) (fun k_ hk_ => ⟨hk_.1.1.2, fun e_ => Or.elim (ho0.1 k_ e_.symm) (fun hs_ => hk_.2.1 hs_) (fun hn_ => Nat.not_le.2 hk_.2.2 hn_)⟩)); have n2_ := Aside0.mk (Kd.R_mono (ok' := fun k_ => some k_ ≠ (.slice Ao13 t279.length co13 : Value).ownBlock ∧ some k_ ≠ (.slice Ao12 t285.length co12 : Value).ownBlock) ho0 (fun k_ hk_ => ⟨Or.elim hk_ (fun hs_ => fun e_ => (((HO282.out).1 k_ e_.symm).1) hs_) (fun hn_ => (Kd.fresh' (Kd.R_lt (by (with_reducible repeat (first | apply Kd.R_alloc | apply Kd.R_drewN | apply Kd.R_drew)); exact HO282.out)) k_ hn_)), Or.elim hk_ (fun hs_ => fun e_ => (((HO287.out).1 k_ e_.symm).2) hs_) (fun hn_ => (Kd.fresh' (Kd.R_lt (by (with_reducible repeat (first | apply Kd.R_alloc | apply Kd.R_drewN | apply Kd.R_drew)); exact HO287.out)) k_ hn_))⟩)); have n3_ := Aside0.mk (hb); clear HO282; clear HO287; clear HB; clear HO284; have HO282 := n0_; have HO287 := n1_; have HO292 := n2_; have HB := n3_; clear n0_ n1_ n2_ n3_; (try clear hb); (try clear hkp); (try clear ho0); obtain ⟨Ao26, co26, eo26⟩ := Kd.R_slice HO292.out; subst eo26))
                go_meet
                case rel => exact ⟨_, (true), (by first | rfl | (simp; done) | (simp [*]; done)), H', ⟨by first | omega | exact Nat.le_refl _⟩, ⟨by (with_reducible repeat (first | apply Kd.R_alloc | apply Kd.R_drewN | apply Kd.R_drew)); exact Kd.R_mono HO282.out (fun _ hk => trivial)⟩, ⟨by repeat (first | (with_reducible first | exact HB.out | apply below_alloc | apply pw_below_drewN | apply below_drew1) | exact HB.out)⟩⟩
              · rw [if_neg c24] at H
                have c24b0 : decide (0 < t288) = false := decide_eq_false c24
                clear c24
                by_cases c27 : t288 = 0
                · rw [if_pos c27] at H
                  have c27b0 : (t288 == 0) = true := beq_iff_eq.mpr c27
                  have c27b1 : (t288 != 0) = false := bne_eq_false_iff_eq.mpr c27
                  clear c27
                  have H' := Aside0.mk H
                  clear H
                  go_wp2_with (first | (go_at_call 104; (with_reducible refine (custodyref04_Trim.calls k (fun k_ => some k_ = (.slice Ao10 t280.length co10 : Value).ownBlock) (.slice Ao10 t280.length co10) t280 t290 w _ ?side1 ?side2 A15.out).mono ?_); (case side1 => repeat (first | (with_reducible first | exact HB.out | apply below_alloc | apply pw_below_drewN | apply below_drew1) | exact HB.out)); (case side2 => exact Kd.R_tight rfl HO284.out); rintro e w28 ⟨v291, rfl, ho0, hb, hkp⟩; have n0_ := Aside0.mk (Kd.R_mono (ok' := fun k_ => some k_ ≠ (.slice Ao12 t285.length co12 : Value).ownBlock ∧ some k_ ≠ (v291 : Value).ownBlock) (Kd.R_keptB (HO282.out) hkp (fun k_ hk_ hs_ => (hk_.1) hs_)) (fun k_ hk_ => ⟨hk_.1.2, fun e_ => Or.elim (ho0.1 k_ e_.symm) (fun hs_ => hk_.2.1 hs_) (fun hn_ => Nat.not_le.2 hk_.2.2 hn_)⟩)); have n1_ := Aside0.mk (Kd.R_mono (ok' := fun k_ => some k_ ≠ (.slice Ao13 t279.length co13 : Value).ownBlock ∧ some k_ ≠ (v291 : Value).ownBlock) (Kd.R_keptB (HO287.out) hkp (fun k_ hk_ hs_ => (hk_.2) hs_)) (fun k_ hk_ => ⟨hk_.1.1.2, fun e_ => Or.elim (ho0.1 k_ e_.symm) (fun hs_ => hk_.2.1 hs_) (fun hn_ => Nat.not_le.2 hk_.2.2 hn_)⟩)); have n2_ := Aside0.mk (Kd.R_mono (ok' := fun k_ => some k_ ≠ (.slice Ao13 t279.length co13 : Value).ownBlock ∧ some k_ ≠ (.slice Ao12 t285.length co12 : Value).ownBlock) ho0 (fun k_ hk_ => ⟨Or.elim hk_ (fun hs_ => fun e_ => (((HO282.out).1 k_ e_.symm).1) hs_) (fun hn_ => (Kd.fresh' (Kd.R_lt (by (with_reducible repeat (first | apply Kd.R_alloc | apply Kd.R_drewN | apply Kd.R_drew)); exact HO282.out)) k_ hn_)), Or.elim hk_ (fun hs_ => fun e_ => (((HO287.out).1 k_ e_.symm).2) hs_) (fun hn_ => (Kd.fresh' (Kd.R_lt (by (with_reducible repeat (first | apply Kd.R_alloc | apply Kd.R_drewN | apply Kd.R_drew)); exact HO287.out)) k_ hn_))⟩)); have n3_ := Aside0.mk (hb); clear HO282; clear HO287; clear HB; clear HO284; have HO282 := n0_; have HO287 := n1_; have HO292 := n2_; have HB := n3_; clear n0_ n1_ n2_ n3_; (try clear hb); (try clear hkp); (try clear ho0); obtain ⟨Ao29, co29, eo29⟩ := Kd.R_slice HO292.out; subst eo29))
                  go_meet
                  case rel => exact ⟨_, ((t289 == 1)), (by first | rfl | (simp; done) | (simp [*]; done)), H', ⟨by first | omega | exact Nat.le_refl _⟩, ⟨by (with_reducible repeat (first | apply Kd.R_alloc | apply Kd.R_drewN | apply Kd.R_drew)); exact Kd.R_mono HO282.out (fun _ hk => trivial)⟩, ⟨by repeat (first | (with_reducible first | exact HB.out | apply below_alloc | apply pw_below_drewN | apply below_drew1) | exact HB.out)⟩⟩
                · rw [if_neg c27] at H
                  have c27b0 : (t288 == 0) = false := beq_eq_false_iff_ne.mpr c27
                  have c27b1 : (t288 != 0) = true := bne_iff_ne.mpr c27
                  have H' := Aside0.mk H
                  clear H
                  go_wp2_with (first | (go_at_call 104; (with_reducible refine (custodyref04_Trim.calls k (fun k_ => some k_ = (.slice Ao10 t280.length co10 : Value).ownBlock) (.slice Ao10 t280.length co10) t280 t290 w _ ?side1 ?side2 A15.out).mono ?_); (case side1 => repeat (first | (with_reducible first | exact HB.out | apply below_alloc | apply pw_below_drewN | apply below_drew1) | exact HB.out)); (case side2 => exact Kd.R_tight rfl HO284.out); rintro e w30 ⟨v291, rfl, ho0, hb, hkp⟩; have n0_ := Aside0.mk (Kd.R_mono (ok' := fun k_ => some k_ ≠ (.slice Ao12 t285.length co12 : Value).ownBlock ∧ some k_ ≠ (v291 : Value).ownBlock) (Kd.R_keptB (HO282.out) hkp (fun k_ hk_ hs_ => (hk_.1) hs_)) (fun k_ hk_ => ⟨hk_.1.2, fun e_ => Or.elim (ho0.1 k_ e_.symm) (fun hs_ => hk_.2.1 hs_) (fun hn_ => Nat.not_le.2 hk_.2.2 hn_)⟩)); have n1_ := Aside0.mk (Kd.R_mono (ok' := fun k_ => some k_ ≠ (.slice Ao13 t279.length co13 : Value).ownBlock ∧ some k_ ≠ (v291 : Value).ownBlock) (Kd.R_keptB (HO287.out) hkp (fun k_ hk_ hs_ => (hk_.2) hs_)) (fun k_ hk_ => ⟨hk_.1.1.2, fun e_ => Or.elim (ho0.1 k_ e_.symm) (fun hs_ => hk_.2.1 hs_) (fun hn_ => Nat.not_le.2 hk_.2.2 hn_)⟩)); have n2_ := Aside0.mk (Kd.R_mono (ok' := fun k_ => some k_ ≠ (.slice Ao13 t279.length co13 : Value).ownBlock ∧ some k_ ≠ (.slice Ao12 t285.length co12 : Value).ownBlock) ho0 (fun k_ hk_ => ⟨Or.elim hk_ (fun hs_ => fun e_ => (((HO282.out).1 k_ e_.symm).1) hs_) (fun hn_ => (Kd.fresh' (Kd.R_lt (by (with_reducible repeat (first | apply Kd.R_alloc | apply Kd.R_drewN | apply Kd.R_drew)); exact HO282.out)) k_ hn_)), Or.elim hk_ (fun hs_ => fun e_ => (((HO287.out).1 k_ e_.symm).2) hs_) (fun hn_ => (Kd.fresh' (Kd.R_lt (by (with_reducible repeat (first | apply Kd.R_alloc | apply Kd.R_drewN | apply Kd.R_drew)); exact HO287.out)) k_ hn_))⟩)); have n3_ := Aside0.mk (hb); clear HO282; clear HO287; clear HB; clear HO284; have HO282 := n0_; have HO287 := n1_; have HO292 := n2_; have HB := n3_; clear n0_ n1_ n2_ n3_; (try clear hb); (try clear hkp); (try clear ho0); obtain ⟨Ao31, co31, eo31⟩ := Kd.R_slice HO292.out; subst eo31))
                  go_meet
                  case rel => exact ⟨_, (false), (by first | rfl | (simp; done) | (simp [*]; done)), H', ⟨by first | omega | exact Nat.le_refl _⟩, ⟨by (with_reducible repeat (first | apply Kd.R_alloc | apply Kd.R_drewN | apply Kd.R_drew)); exact Kd.R_mono HO282.out (fun _ hk => trivial)⟩, ⟨by repeat (first | (with_reducible first | exact HB.out | apply below_alloc | apply pw_below_drewN | apply below_drew1) | exact HB.out)⟩⟩
            · rw [if_neg c23] at H
              have c23b0 : (a2 == 3) = false := beq_eq_false_iff_ne.mpr c23
              have c23b1 : (a2 != 3) = true := bne_iff_ne.mpr c23
              have H' := Aside0.mk H
              clear H
              go_wp2_with (first | (go_at_call 104; (with_reducible refine (custodyref04_Trim.calls k (fun k_ => some k_ = (.slice Ao10 t280.length co10 : Value).ownBlock) (.slice Ao10 t280.length co10) t280 t290 w _ ?side1 ?side2 A15.out).mono ?_); (case side1 => repeat (first | (with_reducible first | exact HB.out | apply below_alloc | apply pw_below_drewN | apply below_drew1) | exact HB.out)); (case side2 => exact Kd.R_tight rfl HO284.out); rintro e w32 ⟨v291, rfl, ho0, hb, hkp⟩; have n0_ := Aside0.mk (Kd.R_mono (ok' := fun k_ => some k_ ≠ (.slice Ao12 t285.length co12 : Value).ownBlock ∧ some k_ ≠ (v291 : Value).ownBlock) (Kd.R_keptB (HO282.out) hkp (fun k_ hk_ hs_ => (hk_.1) hs_)) (fun k_ hk_ => ⟨hk_.1.2, fun e_ => Or.elim (ho0.1 k_ e_.symm) (fun hs_ => hk_.2.1 hs_) (fun hn_ => Nat.not_le.2 hk_.2.2 hn_)⟩)); have n1_ := Aside0.mk (Kd.R_mono (ok' := fun k_ => some k_ ≠ (.slice Ao13 t279.length co13 : Value).ownBlock ∧ some k_ ≠ (v291 : Value).ownBlock) (Kd.R_keptB (HO287.out) hkp (fun k_ hk_ hs_ => (hk_.2) hs_)) (fun k_ hk_ => ⟨hk_.1.1.2, fun e_ => Or.elim (ho0.1 k_ e_.symm) (fun hs_ => hk_.2.1 hs_) (fun hn_ => Nat.not_le.2 hk_.2.2 hn_)⟩)); have n2_ := Aside0.mk (Kd.R_mono (ok' := fun k_ => some k_ ≠ (.slice Ao13 t279.length co13 : Value).ownBlock ∧ some k_ ≠ (.slice Ao12 t285.length co12 : Value).ownBlock) ho0 (fun k_ hk_ => ⟨Or.elim hk_ (fun hs_ => fun e_ => (((HO282.out).1 k_ e_.symm).1) hs_) (fun hn_ => (Kd.fresh' (Kd.R_lt (by (with_reducible repeat (first | apply Kd.R_alloc | apply Kd.R_drewN | apply Kd.R_drew)); exact HO282.out)) k_ hn_)), Or.elim hk_ (fun hs_ => fun e_ => (((HO287.out).1 k_ e_.symm).2) hs_) (fun hn_ => (Kd.fresh' (Kd.R_lt (by (with_reducible repeat (first | apply Kd.R_alloc | apply Kd.R_drewN | apply Kd.R_drew)); exact HO287.out)) k_ hn_))⟩)); have n3_ := Aside0.mk (hb); clear HO282; clear HO287; clear HB; clear HO284; have HO282 := n0_; have HO287 := n1_; have HO292 := n2_; have HB := n3_; clear n0_ n1_ n2_ n3_; (try clear hb); (try clear hkp); (try clear ho0); obtain ⟨Ao33, co33, eo33⟩ := Kd.R_slice HO292.out; subst eo33))
              go_meet
              case rel => exact ⟨_, (false), (by first | rfl | (simp; done) | (simp [*]; done)), H', ⟨by first | omega | exact Nat.le_refl _⟩, ⟨by (with_reducible repeat (first | apply Kd.R_alloc | apply Kd.R_drewN | apply Kd.R_drew)); exact Kd.R_mono HO282.out (fun _ hk => trivial)⟩, ⟨by repeat (first | (with_reducible first | exact HB.out | apply below_alloc | apply pw_below_drewN | apply below_drew1) | exact HB.out)⟩⟩
        · rw [if_neg c19] at H
          have c19b0 : (a2 == 2) = false := beq_eq_false_iff_ne.mpr c19
          have c19b1 : (a2 != 2) = true := bne_iff_ne.mpr c19
          by_cases c34 : a2 = 3
          · rw [if_pos c34] at H
            have c34b0 : (a2 == 3) = true := beq_iff_eq.mpr c34
            have c34b1 : (a2 != 3) = false := bne_eq_false_iff_eq.mpr c34
            clear c34
            by_cases c35 : t288 > 0
            · rw [if_pos c35] at H
              have c35b0 : decide (0 < t288) = true := decide_eq_true c35
              clear c35
              have H' := Aside0.mk H
              clear H
              go_wp2_with (first | (go_at_call 104; (with_reducible refine (custodyref04_Trim.calls k (fun k_ => some k_ = (.slice Ao10 t280.length co10 : Value).ownBlock) (.slice Ao10 t280.length co10) t280 t290 w _ ?side1 ?side2 A15.out).mono ?_); (case side1 => repeat (first | (with_reducible first | exact HB.out | apply below_alloc | apply pw_below_drewN | apply below_drew1) | exact HB.out)); (case side2 => exact Kd.R_tight rfl HO284.out); rintro e w36 ⟨v291, rfl, ho0, hb, hkp⟩; have n0_ := Aside0.mk (Kd.R_mono (ok' := fun k_ => some k_ ≠ (.slice Ao12 t285.length co12 : Value).ownBlock ∧ some k_ ≠ (v291 : Value).ownBlock) (Kd.R_keptB (HO282.out) hkp (fun k_ hk_ hs_ => (hk_.1) hs_)) (fun k_ hk_ => ⟨hk_.1.2, fun e_ => Or.elim (ho0.1 k_ e_.symm) (fun hs_ => hk_.2.1 hs_) (fun hn_ => Nat.not_le.2 hk_.2.2 hn_)⟩)); have n1_ := Aside0.mk (Kd.R_mono (ok' := fun k_ => some k_ ≠ (.slice Ao13 t279.length co13 : Value).ownBlock ∧ some k_ ≠ (v291 : Value).ownBlock) (Kd.R_keptB (HO287.out) hkp (fun k_ hk_ hs_ => (hk_.2) hs_)) (fun k_ hk_ => ⟨hk_.1.1.2, fun e_ => Or.elim (ho0.1 k_ e_.symm) (fun hs_ => hk_.2.1 hs_) (fun hn_ => Nat.not_le.2 hk_.2.2 hn_)⟩)); have n2_ := Aside0.mk (Kd.R_mono (ok' := fun k_ => some k_ ≠ (.slice Ao13 t279.length co13 : Value).ownBlock ∧ some k_ ≠ (.slice Ao12 t285.length co12 : Value).ownBlock) ho0 (fun k_ hk_ => ⟨Or.elim hk_ (fun hs_ => fun e_ => (((HO282.out).1 k_ e_.symm).1) hs_) (fun hn_ => (Kd.fresh' (Kd.R_lt (by (with_reducible repeat (first | apply Kd.R_alloc | apply Kd.R_drewN | apply Kd.R_drew)); exact HO282.out)) k_ hn_)), Or.elim hk_ (fun hs_ => fun e_ => (((HO287.out).1 k_ e_.symm).2) hs_) (fun hn_ => (Kd.fresh' (Kd.R_lt (by (with_reducible repeat (first | apply Kd.R_alloc | apply Kd.R_drewN | apply Kd.R_drew)); exact HO287.out)) k_ hn_))⟩)); have n3_ := Aside0.mk (hb); clear HO282; clear HO287; clear HB; clear HO284; have HO282 := n0_; have HO287 := n1_; have HO292 := n2_; have HB := n3_; clear n0_ n1_ n2_ n3_; (try clear hb); (try clear hkp); (try clear ho0); obtain ⟨Ao37, co37, eo37⟩ := Kd.R_slice HO292.out; subst eo37))
              go_meet
              case rel => exact ⟨_, (true), (by first | rfl | (simp; done) | (simp [*]; done)), H', ⟨by first | omega | exact Nat.le_refl _⟩, ⟨by (with_reducible repeat (first | apply Kd.R_alloc | apply Kd.R_drewN | apply Kd.R_drew)); exact Kd.R_mono HO282.out (fun _ hk => trivial)⟩, ⟨by repeat (first | (with_reducible first | exact HB.out | apply below_alloc | apply pw_below_drewN | apply below_drew1) | exact HB.out)⟩⟩
            · rw [if_neg c35] at H
              have c35b0 : decide (0 < t288) = false := decide_eq_false c35
              clear c35
              by_cases c38 : t288 = 0
              · rw [if_pos c38] at H
                have c38b0 : (t288 == 0) = true := beq_iff_eq.mpr c38
                have c38b1 : (t288 != 0) = false := bne_eq_false_iff_eq.mpr c38
                clear c38
                have H' := Aside0.mk H
                clear H
                go_wp2_with (first | (go_at_call 104; (with_reducible refine (custodyref04_Trim.calls k (fun k_ => some k_ = (.slice Ao10 t280.length co10 : Value).ownBlock) (.slice Ao10 t280.length co10) t280 t290 w _ ?side1 ?side2 A15.out).mono ?_); (case side1 => repeat (first | (with_reducible first | exact HB.out | apply below_alloc | apply pw_below_drewN | apply below_drew1) | exact HB.out)); (case side2 => exact Kd.R_tight rfl HO284.out); rintro e w39 ⟨v291, rfl, ho0, hb, hkp⟩; have n0_ := Aside0.mk (Kd.R_mono (ok' := fun k_ => some k_ ≠ (.slice Ao12 t285.length co12 : Value).ownBlock ∧ some k_ ≠ (v291 : Value).ownBlock) (Kd.R_keptB (HO282.out) hkp (fun k_ hk_ hs_ => (hk_.1) hs_)) (fun k_ hk_ => ⟨hk_.1.2, fun e_ => Or.elim (ho0.1 k_ e_.symm) (fun hs_ => hk_.2.1 hs_) (fun hn_ => Nat.not_le.2 hk_.2.2 hn_)⟩)); have n1_ := Aside0.mk (Kd.R_mono (ok' := fun k_ => some k_ ≠ (.slice Ao13 t279.length co13 : Value).ownBlock ∧ some k_ ≠ (v291 : Value).ownBlock) (Kd.R_keptB (HO287.out) hkp (fun k_ hk_ hs_ => (hk_.2) hs_)) (fun k_ hk_ => ⟨hk_.1.1.2, fun e_ => Or.elim (ho0.1 k_ e_.symm) (fun hs_ => hk_.2.1 hs_) (fun hn_ => Nat.not_le.2 hk_.2.2 hn_)⟩)); have n2_ := Aside0.mk (Kd.R_mono (ok' := fun k_ => some k_ ≠ (.slice Ao13 t279.length co13 : Value).ownBlock ∧ some k_ ≠ (.slice Ao12 t285.length co12 : Value).ownBlock) ho0 (fun k_ hk_ => ⟨Or.elim hk_ (fun hs_ => fun e_ => (((HO282.out).1 k_ e_.symm).1) hs_) (fun hn_ => (Kd.fresh' (Kd.R_lt (by (with_reducible repeat (first | apply Kd.R_alloc | apply Kd.R_drewN | apply Kd.R_drew)); exact HO282.out)) k_ hn_)), Or.elim hk_ (fun hs_ => fun e_ => (((HO287.out).1 k_ e_.symm).2) hs_) (fun hn_ => (Kd.fresh' (Kd.R_lt (by (with_reducible repeat (first | apply Kd.R_alloc | apply Kd.R_drewN | apply Kd.R_drew)); exact HO287.out)) k_ hn_))⟩)); have n3_ := Aside0.mk (hb); clear HO282; clear HO287; clear HB; clear HO284; have HO282 := n0_; have HO287 := n1_; have HO292 := n2_; have HB := n3_; clear n0_ n1_ n2_ n3_; (try clear hb); (try clear hkp); (try clear ho0); obtain ⟨Ao40, co40, eo40⟩ := Kd.R_slice HO292.out; subst eo40))
                go_meet
                case rel => exact ⟨_, ((t289 == 1)), (by first | rfl | (simp; done) | (simp [*]; done)), H', ⟨by first | omega | exact Nat.le_refl _⟩, ⟨by (with_reducible repeat (first | apply Kd.R_alloc | apply Kd.R_drewN | apply Kd.R_drew)); exact Kd.R_mono HO282.out (fun _ hk => trivial)⟩, ⟨by repeat (first | (with_reducible first | exact HB.out | apply below_alloc | apply pw_below_drewN | apply below_drew1) | exact HB.out)⟩⟩
              · rw [if_neg c38] at H
                have c38b0 : (t288 == 0) = false := beq_eq_false_iff_ne.mpr c38
                have c38b1 : (t288 != 0) = true := bne_iff_ne.mpr c38
                have H' := Aside0.mk H
                clear H
                go_wp2_with (first | (go_at_call 104; (with_reducible refine (custodyref04_Trim.calls k (fun k_ => some k_ = (.slice Ao10 t280.length co10 : Value).ownBlock) (.slice Ao10 t280.length co10) t280 t290 w _ ?side1 ?side2 A15.out).mono ?_); (case side1 => repeat (first | (with_reducible first | exact HB.out | apply below_alloc | apply pw_below_drewN | apply below_drew1) | exact HB.out)); (case side2 => exact Kd.R_tight rfl HO284.out); rintro e w41 ⟨v291, rfl, ho0, hb, hkp⟩; have n0_ := Aside0.mk (Kd.R_mono (ok' := fun k_ => some k_ ≠ (.slice Ao12 t285.length co12 : Value).ownBlock ∧ some k_ ≠ (v291 : Value).ownBlock) (Kd.R_keptB (HO282.out) hkp (fun k_ hk_ hs_ => (hk_.1) hs_)) (fun k_ hk_ => ⟨hk_.1.2, fun e_ => Or.elim (ho0.1 k_ e_.symm) (fun hs_ => hk_.2.1 hs_) (fun hn_ => Nat.not_le.2 hk_.2.2 hn_)⟩)); have n1_ := Aside0.mk (Kd.R_mono (ok' := fun k_ => some k_ ≠ (.slice Ao13 t279.length co13 : Value).ownBlock ∧ some k_ ≠ (v291 : Value).ownBlock) (Kd.R_keptB (HO287.out) hkp (fun k_ hk_ hs_ => (hk_.2) hs_)) (fun k_ hk_ => ⟨hk_.1.1.2, fun e_ => Or.elim (ho0.1 k_ e_.symm) (fun hs_ => hk_.2.1 hs_) (fun hn_ => Nat.not_le.2 hk_.2.2 hn_)⟩)); have n2_ := Aside0.mk (Kd.R_mono (ok' := fun k_ => some k_ ≠ (.slice Ao13 t279.length co13 : Value).ownBlock ∧ some k_ ≠ (.slice Ao12 t285.length co12 : Value).ownBlock) ho0 (fun k_ hk_ => ⟨Or.elim hk_ (fun hs_ => fun e_ => (((HO282.out).1 k_ e_.symm).1) hs_) (fun hn_ => (Kd.fresh' (Kd.R_lt (by (with_reducible repeat (first | apply Kd.R_alloc | apply Kd.R_drewN | apply Kd.R_drew)); exact HO282.out)) k_ hn_)), Or.elim hk_ (fun hs_ => fun e_ => (((HO287.out).1 k_ e_.symm).2) hs_) (fun hn_ => (Kd.fresh' (Kd.R_lt (by (with_reducible repeat (first | apply Kd.R_alloc | apply Kd.R_drewN | apply Kd.R_drew)); exact HO287.out)) k_ hn_))⟩)); have n3_ := Aside0.mk (hb); clear HO282; clear HO287; clear HB; clear HO284; have HO282 := n0_; have HO287 := n1_; have HO292 := n2_; have HB := n3_; clear n0_ n1_ n2_ n3_; (try clear hb); (try clear hkp); (try clear ho0); obtain ⟨Ao42, co42, eo42⟩ := Kd.R_slice HO292.out; subst eo42))
                go_meet
                case rel => exact ⟨_, (false), (by first | rfl | (simp; done) | (simp [*]; done)), H', ⟨by first | omega | exact Nat.le_refl _⟩, ⟨by (with_reducible repeat (first | apply Kd.R_alloc | apply Kd.R_drewN | apply Kd.R_drew)); exact Kd.R_mono HO282.out (fun _ hk => trivial)⟩, ⟨by repeat (first | (with_reducible first | exact HB.out | apply below_alloc | apply pw_below_drewN | apply below_drew1) | exact HB.out)⟩⟩
          · rw [if_neg c34] at H
            have c34b0 : (a2 == 3) = false := beq_eq_false_iff_ne.mpr c34
            have c34b1 : (a2 != 3) = true := bne_iff_ne.mpr c34
            have H' := Aside0.mk H
            clear H
            go_wp2_with (first | (go_at_call 104; (with_reducible refine (custodyref04_Trim.calls k (fun k_ => some k_ = (.slice Ao10 t280.length co10 : Value).ownBlock) (.slice Ao10 t280.length co10) t280 t290 w _ ?side1 ?side2 A15.out).mono ?_); (case side1 => repeat (first | (with_reducible first | exact HB.out | apply below_alloc | apply pw_below_drewN | apply below_drew1) | exact HB.out)); (case side2 => exact Kd.R_tight rfl HO284.out); rintro e w43 ⟨v291, rfl, ho0, hb, hkp⟩; have n0_ := Aside0.mk (Kd.R_mono (ok' := fun k_ => some k_ ≠ (.slice Ao12 t285.length co12 : Value).ownBlock ∧ some k_ ≠ (v291 : Value).ownBlock) (Kd.R_keptB (HO282.out) hkp (fun k_ hk_ hs_ => (hk_.1) hs_)) (fun k_ hk_ => ⟨hk_.1.2, fun e_ => Or.elim (ho0.1 k_ e_.symm) (fun hs_ => hk_.2.1 hs_) (fun hn_ => Nat.not_le.2 hk_.2.2 hn_)⟩)); have n1_ := Aside0.mk (Kd.R_mono (ok' := fun k_ => some k_ ≠ (.slice Ao13 t279.length co13 : Value).ownBlock ∧ some k_ ≠ (v291 : Value).ownBlock) (Kd.R_keptB (HO287.out) hkp (fun k_ hk_ hs_ => (hk_.2) hs_)) (fun k_ hk_ => ⟨hk_.1.1.2, fun e_ => Or.elim (ho0.1 k_ e_.symm) (fun hs_ => hk_.2.1 hs_) (fun hn_ => Nat.not_le.2 hk_.2.2 hn_)⟩)); have n2_ := Aside0.mk (Kd.R_mono (ok' := fun k_ => some k_ ≠ (.slice Ao13 t279.length co13 : Value).ownBlock ∧ some k_ ≠ (.slice Ao12 t285.length co12 : Value).ownBlock) ho0 (fun k_ hk_ => ⟨Or.elim hk_ (fun hs_ => fun e_ => (((HO282.out).1 k_ e_.symm).1) hs_) (fun hn_ => (Kd.fresh' (Kd.R_lt (by (with_reducible repeat (first | apply Kd.R_alloc | apply Kd.R_drewN | apply Kd.R_drew)); exact HO282.out)) k_ hn_)), Or.elim hk_ (fun hs_ => fun e_ => (((HO287.out).1 k_ e_.symm).2) hs_) (fun hn_ => (Kd.fresh' (Kd.R_lt (by (with_reducible repeat (first | apply Kd.R_alloc | apply Kd.R_drewN | apply Kd.R_drew)); exact HO287.out)) k_ hn_))⟩)); have n3_ := Aside0.mk (hb); clear HO282; clear HO287; clear HB; clear HO284; have HO282 := n0_; have HO287 := n1_; have HO292 := n2_; have HB := n3_; clear n0_ n1_ n2_ n3_; (try clear hb); (try clear hkp); (try clear ho0); obtain ⟨Ao44, co44, eo44⟩ := Kd.R_slice HO292.out; subst eo44))
            go_meet
            case rel => exact ⟨_, (false), (by first | rfl | (simp; done) | (simp [*]; done)), H', ⟨by first | omega | exact Nat.le_refl _⟩, ⟨by (with_reducible repeat (first | apply Kd.R_alloc | apply Kd.R_drewN | apply Kd.R_drew)); exact Kd.R_mono HO282.out (fun _ hk => trivial)⟩, ⟨by repeat (first | (with_reducible first | exact HB.out | apply below_alloc | apply pw_below_drewN | apply below_drew1) | exact HB.out)⟩⟩
    · rw [if_neg c14] at H
      have c14b0 : (a2 == 1) = false := beq_eq_false_iff_ne.mpr c14
      have c14b1 : (a2 != 1) = true := bne_iff_ne.mpr c14
      (first | rw [c14b0] | (simp only [i64_w, i32_w]; rw [c14b0]) | skip)
      by_cases c45 : a2 = 2
      · rw [if_pos c45] at H
        have c45b0 : (a2 == 2) = true := beq_iff_eq.mpr c45
        have c45b1 : (a2 != 2) = false := bne_eq_false_iff_eq.mpr c45
        clear c45
        by_cases c46 : t288 ≥ 0
        · rw [if_pos c46] at H
          have c46b0 : decide (0 ≤ t288) = true := decide_eq_true c46
          clear c46
          have H' := Aside0.mk H
          clear H
          go_wp2
          go_meet
          case rel => exact ⟨_, (true), (by first | rfl | (simp; done) | (simp [*]; done)), H', ⟨by first | omega | exact Nat.le_refl _⟩, ⟨by (with_reducible repeat (first | apply Kd.R_alloc | apply Kd.R_drewN | apply Kd.R_drew)); exact Kd.R_mono HO282.out (fun _ hk => trivial)⟩, ⟨by repeat (first | (with_reducible first | exact HB.out | apply below_alloc | apply pw_below_drewN | apply below_drew1) | exact HB.out)⟩⟩
        · rw [if_neg c46] at H
          have c46b0 : decide (0 ≤ t288) = false := decide_eq_false c46
          clear c46
          by_cases c47 : a2 = 3
          · rw [if_pos c47] at H
            have c47b0 : (a2 == 3) = true := beq_iff_eq.mpr c47
            have c47b1 : (a2 != 3) = false := bne_eq_false_iff_eq.mpr c47
            clear c47
            by_cases c48 : t288 > 0
            · rw [if_pos c48] at H
              have c48b0 : decide (0 < t288) = true := decide_eq_true c48
              clear c48
              have H' := Aside0.mk H
              clear H
              go_wp2
              go_meet
              case rel => exact ⟨_, (true), (by first | rfl | (simp; done) | (simp [*]; done)), H', ⟨by first | omega | exact Nat.le_refl _⟩, ⟨by (with_reducible repeat (first | apply Kd.R_alloc | apply Kd.R_drewN | apply Kd.R_drew)); exact Kd.R_mono HO282.out (fun _ hk => trivial)⟩, ⟨by repeat (first | (with_reducible first | exact HB.out | apply below_alloc | apply pw_below_drewN | apply below_drew1) | exact HB.out)⟩⟩
            · rw [if_neg c48] at H
              have c48b0 : decide (0 < t288) = false := decide_eq_false c48
              clear c48
              by_cases c49 : t288 = 0
              · rw [if_pos c49] at H
                have c49b0 : (t288 == 0) = true := beq_iff_eq.mpr c49
                have c49b1 : (t288 != 0) = false := bne_eq_false_iff_eq.mpr c49
                clear c49
                have H' := Aside0.mk H
                clear H
                go_wp2
                go_meet
                case rel => exact ⟨_, ((t289 == 1)), (by first | rfl | (simp; done) | (simp [*]; done)), H', ⟨by first | omega | exact Nat.le_refl _⟩, ⟨by (with_reducible repeat (first | apply Kd.R_alloc | apply Kd.R_drewN | apply Kd.R_drew)); exact Kd.R_mono HO282.out (fun _ hk => trivial)⟩, ⟨by repeat (first | (with_reducible first | exact HB.out | apply below_alloc | apply pw_below_drewN | apply below_drew1) | exact HB.out)⟩⟩
              · rw [if_neg c49] at H
                have c49b0 : (t288 == 0) = false := beq_eq_false_iff_ne.mpr c49
                have c49b1 : (t288 != 0) = true := bne_iff_ne.mpr c49
                have H' := Aside0.mk H
                clear H
                go_wp2
                go_meet
                case rel => exact ⟨_, (false), (by first | rfl | (simp; done) | (simp [*]; done)), H', ⟨by first | omega | exact Nat.le_refl _⟩, ⟨by (with_reducible repeat (first | apply Kd.R_alloc | apply Kd.R_drewN | apply Kd.R_drew)); exact Kd.R_mono HO282.out (fun _ hk => trivial)⟩, ⟨by repeat (first | (with_reducible first | exact HB.out | apply below_alloc | apply pw_below_drewN | apply below_drew1) | exact HB.out)⟩⟩
          · rw [if_neg c47] at H
            have c47b0 : (a2 == 3) = false := beq_eq_false_iff_ne.mpr c47
            have c47b1 : (a2 != 3) = true := bne_iff_ne.mpr c47
            have H' := Aside0.mk H
            clear H
            go_wp2
            go_meet
            case rel => exact ⟨_, (false), (by first | rfl | (simp; done) | (simp [*]; done)), H', ⟨by first | omega | exact Nat.le_refl _⟩, ⟨by (with_reducible repeat (first | apply Kd.R_alloc | apply Kd.R_drewN | apply Kd.R_drew)); exact Kd.R_mono HO282.out (fun _ hk => trivial)⟩, ⟨by repeat (first | (with_reducible first | exact HB.out | apply below_alloc | apply pw_below_drewN | apply below_drew1) | exact HB.out)⟩⟩
      · rw [if_neg c45] at H
        have c45b0 : (a2 == 2) = false := beq_eq_false_iff_ne.mpr c45
        have c45b1 : (a2 != 2) = true := bne_iff_ne.mpr c45
        by_cases c50 : a2 = 3
        · rw [if_pos c50] at H
          have c50b0 : (a2 == 3) = true := beq_iff_eq.mpr c50
          have c50b1 : (a2 != 3) = false := bne_eq_false_iff_eq.mpr c50
          clear c50
          by_cases c51 : t288 > 0
          · rw [if_pos c51] at H
            have c51b0 : decide (0 < t288) = true := decide_eq_true c51
            clear c51
            have H' := Aside0.mk H
            clear H
            go_wp2
            go_meet
            case rel => exact ⟨_, (true), (by first | rfl | (simp; done) | (simp [*]; done)), H', ⟨by first | omega | exact Nat.le_refl _⟩, ⟨by (with_reducible repeat (first | apply Kd.R_alloc | apply Kd.R_drewN | apply Kd.R_drew)); exact Kd.R_mono HO282.out (fun _ hk => trivial)⟩, ⟨by repeat (first | (with_reducible first | exact HB.out | apply below_alloc | apply pw_below_drewN | apply below_drew1) | exact HB.out)⟩⟩
          · rw [if_neg c51] at H
            have c51b0 : decide (0 < t288) = false := decide_eq_false c51
            clear c51
            by_cases c52 : t288 = 0
            · rw [if_pos c52] at H
              have c52b0 : (t288 == 0) = true := beq_iff_eq.mpr c52
              have c52b1 : (t288 != 0) = false := bne_eq_false_iff_eq.mpr c52
              clear c52
              have H' := Aside0.mk H
              clear H
              go_wp2
              go_meet
              case rel => exact ⟨_, ((t289 == 1)), (by first | rfl | (simp; done) | (simp [*]; done)), H', ⟨by first | omega | exact Nat.le_refl _⟩, ⟨by (with_reducible repeat (first | apply Kd.R_alloc | apply Kd.R_drewN | apply Kd.R_drew)); exact Kd.R_mono HO282.out (fun _ hk => trivial)⟩, ⟨by repeat (first | (with_reducible first | exact HB.out | apply below_alloc | apply pw_below_drewN | apply below_drew1) | exact HB.out)⟩⟩
            · rw [if_neg c52] at H
              have c52b0 : (t288 == 0) = false := beq_eq_false_iff_ne.mpr c52
              have c52b1 : (t288 != 0) = true := bne_iff_ne.mpr c52
              have H' := Aside0.mk H
              clear H
              go_wp2
              go_meet
              case rel => exact ⟨_, (false), (by first | rfl | (simp; done) | (simp [*]; done)), H', ⟨by first | omega | exact Nat.le_refl _⟩, ⟨by (with_reducible repeat (first | apply Kd.R_alloc | apply Kd.R_drewN | apply Kd.R_drew)); exact Kd.R_mono HO282.out (fun _ hk => trivial)⟩, ⟨by repeat (first | (with_reducible first | exact HB.out | apply below_alloc | apply pw_below_drewN | apply below_drew1) | exact HB.out)⟩⟩
        · rw [if_neg c50] at H
          have c50b0 : (a2 == 3) = false := beq_eq_false_iff_ne.mpr c50
          have c50b1 : (a2 != 3) = true := bne_iff_ne.mpr c50
          have H' := Aside0.mk H
          clear H
          go_wp2
          go_meet
          case rel => exact ⟨_, (false), (by first | rfl | (simp; done) | (simp [*]; done)), H', ⟨by first | omega | exact Nat.le_refl _⟩, ⟨by (with_reducible repeat (first | apply Kd.R_alloc | apply Kd.R_drewN | apply Kd.R_drew)); exact Kd.R_mono HO282.out (fun _ hk => trivial)⟩, ⟨by repeat (first | (with_reducible first | exact HB.out | apply below_alloc | apply pw_below_drewN | apply below_drew1) | exact HB.out)⟩⟩
  case rest =>
    clear HC8
    try clear c1
    try clear c2
    try clear p2
    try clear c3
    try clear c4
    try clear c5
    try clear c9
    try clear c10
    try clear c14
    try clear c14b0
    try clear c14b1
    try clear c16
    try clear c16b0
    try clear c16b1
    try clear c19
    try clear c19b0
    try clear c19b1
    try clear c20
    try clear c20b0
    try clear c23
    try clear c23b0
    try clear c23b1
    try clear c24
    try clear c24b0
    try clear c27
    try clear c27b0
    try clear c27b1
    try clear c34
    try clear c34b0
    try clear c34b1
    try clear c35
    try clear c35b0
    try clear c38
    try clear c38b0
    try clear c38b1
    try clear c45
    try clear c45b0
    try clear c45b1
    try clear c46
    try clear c46b0
    try clear c47
    try clear c47b0
    try clear c47b1
    try clear c48
    try clear c48b0
    try clear c49
    try clear c49b0
    try clear c49b1
    try clear c50
    try clear c50b0
    try clear c50b1
    try clear c51
    try clear c51b0
    try clear c52
    try clear c52b0
    try clear c52b1
    obtain ⟨kq, x12_7, rfl, HA, HJ7, HO_8, HB⟩ := hcut
    cases kq with
    | zero => exact absurd HA.out (by simp [custodyref04_Rounded.j0])
    | succ kj7 =>
      have H := HA.out
      clear HA
      simp only [custodyref04_Rounded.j0] at H
      have HC53 := Aside0.mk H
      clear H
      go_upto_if 58 with (fail)
      go_cut [8] (fun v8 wc => ∃ (kq : Nat) (x8_52 : List Int), Aside0 (custodyref04_Rounded.j1 kq x8_52 = some (r1, r2)) ∧ Aside0 (kq ≤ kj7) ∧ Aside0 (Kd.R (Kd.int .u64) 38 wc w.heap.size (fun _ => True) v8 x8_52) ∧ Aside0 (Below w.heap.size w wc))
      case first =>
        have H := HC53.out
        clear HC53
        by_cases c54 : x12_7 = true
        · subst c54
          have H1 : ((custodyref04_List.f kj7 1).bind fun t293 => ((custodyref04_Plus.f kj7 t279 t293).bind fun t296 => (custodyref04_Rounded.j1 kj7 t296))) = some (r1, r2) := by rw [if_pos rfl] at H; exact H
          clear H
          have H := H1
          clear H1
          replace H := Option.bind_eq_some_iff.mp H
          obtain ⟨t293, A550, H⟩ := H
          replace H : ((custodyref04_Plus.f kj7 t279 t293).bind fun t296 => (custodyref04_Rounded.j1 kj7 t296)) = some (r1, r2) := H
          have A55 := Aside0.mk A550
          clear A550
          replace H := Option.bind_eq_some_iff.mp H
          obtain ⟨t296, A560, H⟩ := H
          replace H : (custodyref04_Rounded.j1 kj7 t296) = some (r1, r2) := H
          have A56 := Aside0.mk A560
          clear A560
          have H' := Aside0.mk H
          clear H
          go_wp2_with (first | ((with_reducible refine gate_callee (f := 55) rfl ?_); refine goesL_ (some 60) rfl rfl Tryz.func55 (by kernel_rfl) rfl #[.int .u64 1] rfl (by (try simp only [List.map_toArray, List.map_cons, List.map_nil]); first | done | rfl | (simp only [List.length_drop, List.length_take]; rfl)) ?_; (with_reducible refine (custodyref04_List.calls kj7 1 t293 _ A55.out).mono ?_); rintro e w57 ⟨v294, rfl, ho0, hb⟩; refine ⟨_, rfl, ?_⟩; have n0_ := Aside0.mk (Kd.R_elder' (by (with_reducible repeat (first | apply Kd.R_alloc | apply Kd.R_drewN | apply Kd.R_drew)); exact HO_8.out) (Kd.R_base ho0) hb); have n1_ := Aside0.mk (Kd.R_lower (Kd.R_new' ho0 (Kd.R_lt (by (with_reducible repeat (first | apply Kd.R_alloc | apply Kd.R_drewN | apply Kd.R_drew)); exact HO_8.out))) (below_size (by repeat (first | (with_reducible first | exact HB.out | apply below_alloc | apply pw_below_drewN | apply below_drew1) | exact HB.out)))); have n2_ := Aside0.mk (below_step (by repeat (first | (with_reducible first | exact HB.out | apply below_alloc | apply pw_below_drewN | apply below_drew1) | exact HB.out)) hb); clear HO_8; clear HB; have HO_8 := n0_; have HO295 := n1_; have HB := n2_; clear n0_ n1_ n2_; (try clear hb); (try clear hb2); (try clear hk); (try clear hi); (try clear ho0); obtain ⟨Ao58, co58, eo58⟩ := Kd.R_slice HO295.out; subst eo58) | ((with_reducible refine gate_callee (f := 106) rfl ?_); refine goesL_ (some 61) rfl rfl Tryz.func106 (by kernel_rfl) rfl #[.slice Ao13 t279.length co13, .slice Ao58 t293.length co58] rfl (by (try simp only [List.map_toArray, List.map_cons, List.map_nil]); first | done | rfl | (simp only [List.length_drop, List.length_take]; rfl)) ?_; (with_reducible refine (custodyref04_Plus.calls kj7 _ _ t279 _ _ t293 t296 _ ?side1 ?side2 ?side3 ?side4 A56.out).mono ?_); (case side1 => repeat (first | exact (Kd.R_reads' HO_8.out).2.2 | (with_reducible refine Kd.C_alloc ?_ _) | (with_reducible refine Kd.C_drewN ?_ _) | (with_reducible refine Kd.C_drew ?_))); (case side2 => exact (Kd.R_reads' HO_8.out).2.1); (case side3 => repeat (first | exact (Kd.R_reads' HO295.out).2.2 | (with_reducible refine Kd.C_alloc ?_ _) | (with_reducible refine Kd.C_drewN ?_ _) | (with_reducible refine Kd.C_drew ?_))); (case side4 => exact (Kd.R_reads' HO295.out).2.1); rintro e w59 ⟨v297, rfl, ho0, hb⟩; refine ⟨_, rfl, ?_⟩; have n0_ := Aside0.mk (Kd.R_elder' (by (with_reducible repeat (first | apply Kd.R_alloc | apply Kd.R_drewN | apply Kd.R_drew)); exact HO_8.out) (Kd.R_base ho0) hb); have n1_ := Aside0.mk (Kd.R_elder' (by (with_reducible repeat (first | apply Kd.R_alloc | apply Kd.R_drewN | apply Kd.R_drew)); exact HO295.out) (Kd.R_base ho0) hb); have n2_ := Aside0.mk (Kd.R_lower (Kd.R_new' (Kd.R_new' ho0 (Kd.R_lt (by (with_reducible repeat (first | apply Kd.R_alloc | apply Kd.R_drewN | apply Kd.R_drew)); exact HO_8.out))) (Kd.R_lt (by (with_reducible repeat (first | apply Kd.R_alloc | apply Kd.R_drewN | apply Kd.R_drew)); exact HO295.out))) (below_size (by repeat (first | (with_reducible first | exact HB.out | apply below_alloc | apply pw_below_drewN | apply below_drew1) | exact HB.out)))); have n3_ := Aside0.mk (below_step (by repeat (first | (with_reducible first | exact HB.out | apply below_alloc | apply pw_below_drewN | apply below_drew1) | exact HB.out)) hb); clear HO_8; clear HO295; clear HB; have HO_8 := n0_; have HO295 := n1_; have HO298 := n2_; have HB := n3_; clear n0_ n1_ n2_ n3_; (try clear hb); (try clear hb2); (try clear hk); (try clear hi); (try clear ho0)))
          go_meet
          case rel => exact ⟨_, (t296), H', ⟨by have := HJ7.out; first | omega | exact Nat.le_refl _⟩, ⟨by (with_reducible repeat (first | apply Kd.R_alloc | apply Kd.R_drewN | apply Kd.R_drew)); exact Kd.R_mono HO298.out (fun _ hk => trivial)⟩, ⟨by repeat (first | (with_reducible first | exact HB.out | apply below_alloc | apply pw_below_drewN | apply below_drew1) | exact HB.out)⟩⟩
        · replace c54 := Bool.eq_false_iff.mpr c54
          subst c54
          have H1 : (custodyref04_Rounded.j1 kj7 t279) = some (r1, r2) := by rw [if_neg (show ¬ (false = true) by decide)] at H; exact H
          clear H
          have H := H1
          clear H1
          have H' := Aside0.mk H
          clear H
          go_wp2
          go_meet
          case rel => exact ⟨_, (t279), H', ⟨by have := HJ7.out; first | omega | exact Nat.le_refl _⟩, ⟨by (with_reducible repeat (first | apply Kd.R_alloc | apply Kd.R_drewN | apply Kd.R_drew)); exact HO_8.out⟩, ⟨by repeat (first | (with_reducible first | exact HB.out | apply below_alloc | apply pw_below_drewN | apply below_drew1) | exact HB.out)⟩⟩
      case rest =>
        clear HC53
        try clear c1
        try clear c2
        try clear p2
        try clear c3
        try clear c4
        try clear c5
        try clear c9
        try clear c10
        try clear c14
        try clear c14b0
        try clear c14b1
        try clear c16
        try clear c16b0
        try clear c16b1
        try clear c19
        try clear c19b0
        try clear c19b1
        try clear c20
        try clear c20b0
        try clear c23
        try clear c23b0
        try clear c23b1
        try clear c24
        try clear c24b0
        try clear c27
        try clear c27b0
        try clear c27b1
        try clear c34
        try clear c34b0
        try clear c34b1
        try clear c35
        try clear c35b0
        try clear c38
        try clear c38b0
        try clear c38b1
        try clear c45
        try clear c45b0
        try clear c45b1
        try clear c46
        try clear c46b0
        try clear c47
        try clear c47b0
        try clear c47b1
        try clear c48
        try clear c48b0
        try clear c49
        try clear c49b0
        try clear c49b1
        try clear c50
        try clear c50b0
        try clear c50b1
        try clear c51
        try clear c51b0
        try clear c52
        try clear c52b0
        try clear c52b1
        try clear c54
        try clear c55
        try clear c56
        try clear p2
        obtain ⟨kq, x8_52, HA, HJ52, HO_8, HB⟩ := hcut
        cases kq with
        | zero => exact absurd HA.out (by simp [custodyref04_Rounded.j1])
        | succ kj52 =>
          have H := HA.out
          clear HA
          simp only [custodyref04_Rounded.j1] at H
          replace H := Option.bind_eq_some_iff.mp H
          obtain ⟨t299, A600, H⟩ := H
          replace H : (if t299 > 63 then (some (0, 9)) else ((custodyref04_Small.f x8_52).bind fun t300 => (some (wrap64 (t300), 0)))) = some (r1, r2) := H
          have A60 := Aside0.mk A600
          clear A600
          by_cases c61 : t299 > 63
          · rw [if_pos c61] at H
            have c61b0 : decide (63 < t299) = true := decide_eq_true c61
            clear c61
            simp only [Option.some.injEq, Prod.mk.injEq] at H
            obtain ⟨rfl, rfl⟩ := H
            obtain ⟨Ao62, co62, eo62⟩ := Kd.R_slice HO_8.out
            subst eo62
            go_wp2_with (first | ((with_reducible refine gate_callee (f := 54) rfl ?_); refine goesL_ (some 63) rfl rfl Tryz.func54 (by kernel_rfl) rfl #[.slice Ao62 x8_52.length co62] rfl (by (try simp only [List.map_toArray, List.map_cons, List.map_nil]); first | done | rfl | (simp only [List.length_drop, List.length_take]; rfl)) ?_; (with_reducible refine (custodyref04_Bits.calls kj52 _ _ x8_52 t299 _ ?side1 ?side2 A60.out).mono ?_); (case side1 => repeat (first | exact (Kd.R_reads' HO_8.out).2.2 | (with_reducible refine Kd.C_alloc ?_ _) | (with_reducible refine Kd.C_drewN ?_ _) | (with_reducible refine Kd.C_drew ?_))); (case side2 => exact (Kd.R_reads' HO_8.out).2.1); rintro e w' ⟨rfl, ⟨nd, rfl⟩⟩; refine ⟨_, rfl, ?_⟩))
            go_ret2
            exact ⟨by first | rfl | (simp [errW_none, errW_some] <;> rfl) | (simp [*, errW_none, errW_some] <;> rfl), by repeat (first | (with_reducible first | exact HB.out | apply below_alloc | apply pw_below_drewN | apply below_drew1) | exact HB.out)⟩
          · rw [if_neg c61] at H
            have c61b0 : decide (63 < t299) = false := decide_eq_false c61
            clear c61
            replace H := Option.bind_eq_some_iff.mp H
            obtain ⟨t300, A630, H⟩ := H
            replace H : (some (wrap64 (t300), 0)) = some (r1, r2) := H
            have A63 := Aside0.mk A630
            clear A630
            simp only [Option.some.injEq, Prod.mk.injEq] at H
            obtain ⟨rfl, rfl⟩ := H
            obtain ⟨Ao64, co64, eo64⟩ := Kd.R_slice HO_8.out
            subst eo64
            go_wp2_with (first | ((with_reducible refine gate_callee (f := 54) rfl ?_); refine goesL_ (some 63) rfl rfl Tryz.func54 (by kernel_rfl) rfl #[.slice Ao64 x8_52.length co64] rfl (by (try simp only [List.map_toArray, List.map_cons, List.map_nil]); first | done | rfl | (simp only [List.length_drop, List.length_take]; rfl)) ?_; (with_reducible refine (custodyref04_Bits.calls kj52 _ _ x8_52 t299 _ ?side1 ?side2 A60.out).mono ?_); (case side1 => repeat (first | exact (Kd.R_reads' HO_8.out).2.2 | (with_reducible refine Kd.C_alloc ?_ _) | (with_reducible refine Kd.C_drewN ?_ _) | (with_reducible refine Kd.C_drew ?_))); (case side2 => exact (Kd.R_reads' HO_8.out).2.1); rintro e w' ⟨rfl, ⟨nd, rfl⟩⟩; refine ⟨_, rfl, ?_⟩) | ((with_reducible refine gate_callee (f := 108) rfl ?_); refine goesL_ (some 66) rfl rfl Tryz.func108 (by kernel_rfl) rfl #[.slice Ao64 x8_52.length co64] rfl (by (try simp only [List.map_toArray, List.map_cons, List.map_nil]); first | done | rfl | (simp only [List.length_drop, List.length_take]; rfl)) ?_; (with_reducible refine (custodyref04_Small.calls _ _ x8_52 t300 _ ?side1 ?side2 A63.out).mono ?_); (case side1 => repeat (first | exact (Kd.R_reads' HO_8.out).2.2 | (with_reducible refine Kd.C_alloc ?_ _) | (with_reducible refine Kd.C_drewN ?_ _) | (with_reducible refine Kd.C_drew ?_))); (case side2 => exact (Kd.R_reads' HO_8.out).2.1); rintro e w' ⟨rfl, ⟨nd, rfl⟩⟩; refine ⟨_, rfl, ?_⟩))
            go_ret2
            exact ⟨by first | rfl | (simp [errW_none, errW_some] <;> rfl) | (simp [*, errW_none, errW_some] <;> rfl), by repeat (first | (with_reducible first | exact HB.out | apply below_alloc | apply pw_below_drewN | apply below_drew1) | exact HB.out)⟩

/-! ### custodyref04_modes: function 72 -/
def custodyref04_modes.f (a0 : Int) : Option (Bool) := if a0 ≥ 0 then (some (decide (a0 ≤ 3))) else (some false)
set_option maxHeartbeats 8000000 in
set_option maxRecDepth 100000 in
theorem custodyref04_modes.calls (a0 : Int) (r : Bool) (w : World) (h : custodyref04_modes.f a0 = some r) :
    Calls Tryz.prog 72 #[.int .i64 a0] w fun e w' => e = .returned (.bool r) ∧ Drawn0 w w' := by
  have H : (if a0 ≥ 0 then (some (decide (a0 ≤ 3))) else (some false)) = some r := h
  clear h
  by_cases c2 : a0 ≥ 0
  · rw [if_pos c2] at H
    have c2b0 : decide (0 ≤ a0) = true := decide_eq_true c2
    clear c2
    obtain rfl := Option.some.inj H
    go_enter Tryz.func72, Tryz.ntmps72
    go_wp2
    go_ret
    exact ⟨by first | rfl | (simp; done) | (simp [*]; done), by repeat (first | exact Drawn0.refl _ | apply Drawn0.step)⟩
  · rw [if_neg c2] at H
    have c2b0 : decide (0 ≤ a0) = false := decide_eq_false c2
    clear c2
    obtain rfl := Option.some.inj H
    go_enter Tryz.func72, Tryz.ntmps72
    go_wp2
    go_ret
    exact ⟨by first | rfl | (simp; done) | (simp [*]; done), by repeat (first | exact Drawn0.refl _ | apply Drawn0.step)⟩

end Go.Proofs.YtmepjcnpbjdlkaaGreatDoor.PPriceClean
