/- texts of this claim, laid together: CalA, CalB. -/
import Derived.Test.YtmepjcnpbjdlkaaGreatDoorQeBase
import Derived.Test.YtmepjcnpbjdlkaaGreatDoorQeCal
import Derived.Test.YtmepjcnpbjdlkaaGreatDoorQeErr
/- calendar's ahead, leap, length, isDay, date, Of: by contract. -/
namespace Go.Proofs.YtmepjcnpbjdlkaaGreatDoor
set_option linter.unusedVariables false
set_option linter.unusedSimpArgs false
open Go.RowKit
attribute [local irreducible] Go.wpStill

def RetI (n : Int) (w : World) (e : Ending) (w' : World) : Prop := e = .returned (.int .i64 n) ∧ Below w.heap.size w w'
def RetB0 (b : Bool) (w : World) (e : Ending) (w' : World) : Prop := e = .returned (.bool b) ∧ w = w'
theorem thirteen {m : Int} (h0 : 1 ≤ m) (h1 : m ≤ 13) : m = 1 ∨ m = 2 ∨ m = 3 ∨ m = 4 ∨ m = 5 ∨ m = 6 ∨ m = 7 ∨ m = 8 ∨ m = 9 ∨ m = 10 ∨ m = 11 ∨ m = 12 ∨ m = 13 := by omega
set_option maxHeartbeats 2000000 in
theorem ahead_any (m : Int) (w : World) (h0 : 1 ≤ m) (h1 : m ≤ 13) : Calls Tryz.prog 124 #[.int .i64 m] w (RetI (Cal.aheadM m) w) := by
  obtain h | h | h | h | h | h | h | h | h | h | h | h | h := thirteen h0 h1 <;> subst h <;> clear h0 h1
  all_goals
    go_enter Tryz.func124, Tryz.ntmps124
    go_wp2_with fail
    go_ret
    exact ⟨rfl, (Below.refl _ _).alloc (Nat.le_refl _) _⟩
theorem leap_any (y : Int) (w : World) (h0 : 0 ≤ y) : Calls Tryz.prog 125 #[.int .i64 y] w (RetB0 (Cal.lpB y) w) := by
  cases h4 : (y % 4 == 0)
  · have hb : Cal.lpB y = false := by unfold Cal.lpB; simp at h4; simp [h4]
    rw [hb]
    clear hb
    go_enter Tryz.func125, Tryz.ntmps125
    go_wp2_with fail
    go_ret
    exact ⟨rfl, rfl⟩
  · cases h100 : (y % 100 != 0)
    · cases h400 : (y % 400 == 0)
      · have hb : Cal.lpB y = false := by unfold Cal.lpB; simp at h4 h100 h400; simp [h100, h400]
        rw [hb]
        clear hb
        go_enter Tryz.func125, Tryz.ntmps125
        go_wp2_with fail
        go_ret
        exact ⟨rfl, rfl⟩
      · have hb : Cal.lpB y = true := by unfold Cal.lpB; simp at h4 h100 h400; simp [h4, h400]
        rw [hb]
        clear hb
        go_enter Tryz.func125, Tryz.ntmps125
        go_wp2_with fail
        go_ret
        exact ⟨rfl, rfl⟩
    · have hb : Cal.lpB y = true := by unfold Cal.lpB; simp at h4 h100; simp [h4, h100]
      rw [hb]
      clear hb
      go_enter Tryz.func125, Tryz.ntmps125
      go_wp2_with fail
      go_ret
      exact ⟨rfl, rfl⟩
set_option maxHeartbeats 1000000 in
theorem length_any (y m : Int) (w : World) (hy : 0 ≤ y) (h0 : 1 ≤ m) (h1 : m ≤ 12) : Calls Tryz.prog 70 #[.int .i64 y, .int .i64 m] w (RetI (Cal.mlen y m) w) := by
  have hb1 := Cal.aheadM_bd (m + 1)
  have hb2 := Cal.aheadM_bd m
  have hA1 := fun w => ahead_any (m + 1) w (by omega) (by omega)
  have hA2 := fun w => ahead_any m w h0 (by omega)
  have hL := fun w => leap_any y w hy
  have hml : Cal.mlen y m = Cal.aheadM (m + 1) - Cal.aheadM m + (if m = 2 then Cal.lpN y else 0) := rfl
  rw [hml]
  generalize Cal.aheadM (m + 1) = a1 at *
  generalize Cal.aheadM m = a2 at *
  have HA1 := Lib.hid hA1
  have HA2 := Lib.hid hA2
  have HL := Lib.hid hL
  unfold Cal.lpN
  clear hA1 hA2 hL hml
  by_cases h2 : m = 2
  · rw [if_pos h2]
    have hm2 : (m == 2) = true := by simpa using h2
    clear h2
    cases hlp : Cal.lpB y
    · have HP := Lib.hid hlp
      clear hlp
      go_enter Tryz.func70, Tryz.ntmps70
      go_wp2_with fail
      refine (HA1.out _).mono ?_
      rintro e w1 ⟨rfl, hB1⟩
      go_wp2_with fail
      refine (HA2.out _).mono ?_
      rintro e w2 ⟨rfl, hB2⟩
      go_wp2_with fail
      refine (HL.out _).mono ?_
      rintro e w3 ⟨rfl, rfl⟩
      rw [HP.out]
      go_wp2_with fail
      go_ret
      exact ⟨by simp, hB1.trans (hB2.mono hB1.size)⟩
    · have HP := Lib.hid hlp
      clear hlp
      go_enter Tryz.func70, Tryz.ntmps70
      go_wp2_with fail
      refine (HA1.out _).mono ?_
      rintro e w1 ⟨rfl, hB1⟩
      go_wp2_with fail
      refine (HA2.out _).mono ?_
      rintro e w2 ⟨rfl, hB2⟩
      go_wp2_with fail
      refine (HL.out _).mono ?_
      rintro e w3 ⟨rfl, rfl⟩
      rw [HP.out]
      go_wp2_with fail
      go_ret
      exact ⟨by simp, hB1.trans (hB2.mono hB1.size)⟩
  · rw [if_neg h2]
    have hm2 : (m == 2) = false := by simpa using h2
    clear h2
    go_enter Tryz.func70, Tryz.ntmps70
    go_wp2_with fail
    refine (HA1.out _).mono ?_
    rintro e w1 ⟨rfl, hB1⟩
    go_wp2_with fail
    refine (HA2.out _).mono ?_
    rintro e w2 ⟨rfl, hB2⟩
    go_wp2_with fail
    go_ret
    exact ⟨by simp, hB1.trans (hB2.mono hB1.size)⟩
def dayB (n : Int) : Bool := decide (1 ≤ n) && decide (n ≤ 3652059)
theorem isDay_any (n : Int) (w : World) : Calls Tryz.prog 67 #[.int .i64 n] w (RetB0 (dayB n) w) := by
  unfold dayB
  cases h1 : decide (1 ≤ n) <;> cases h2 : decide (n ≤ 3652059)
  all_goals
    go_enter Tryz.func67, Tryz.ntmps67
    go_wp2_with fail
    go_ret
    exact ⟨rfl, rfl⟩
end Go.Proofs.YtmepjcnpbjdlkaaGreatDoor
/- calendar's date: by contract. -/
namespace Go.Proofs.YtmepjcnpbjdlkaaGreatDoor
set_option linter.unusedVariables false
set_option linter.unusedSimpArgs false
open Go.RowKit
attribute [local irreducible] Go.wpStill

def DateP (n : Int) (w : World) (e : Ending) (w' : World) : Prop := ∃ y m d : Int, e = .returned (.agg #[.int .i64 y, .int .i64 m, .int .i64 d]) ∧ Cal.Is n y m d ∧ Below w.heap.size w w'
set_option maxHeartbeats 4000000 in
theorem date_1 (n q r : Int) (w : World) (h0 : 1 ≤ n) (h1 : n ≤ 3652059) (hq : (n - 1) / 146097 = q) (hr : (n - 1) % 146097 = r) (hA : r / 36524 ≤ 3) (hB : ((r - r / 36524 * 36524) - (r - r / 36524 * 36524) / 1461 * 1461) / 365 ≤ 3) : Calls Tryz.prog 69 #[.int .i64 n] w (DateP n w) := by
  have q0 : 0 ≤ q ∧ q ≤ 24 := by omega
  have r0 : 0 ≤ r ∧ r ≤ 146096 := by omega
  obtain ⟨c, hc⟩ : ∃ c, r / 36524 = c := ⟨_, rfl⟩
  obtain ⟨r2, hr2⟩ : ∃ r2, r - c * 36524 = r2 := ⟨_, rfl⟩
  obtain ⟨f, hf⟩ : ∃ f, r2 / 1461 = f := ⟨_, rfl⟩
  obtain ⟨r3, hr3⟩ : ∃ r3, r2 - f * 1461 = r3 := ⟨_, rfl⟩
  obtain ⟨o, ho⟩ : ∃ o, r3 / 365 = o := ⟨_, rfl⟩
  obtain ⟨r4, hr4⟩ : ∃ r4, r3 - o * 365 = r4 := ⟨_, rfl⟩
  obtain ⟨y, hy⟩ : ∃ y, 400 * q + 1 + (100 * c + 4 * f + o) = y := ⟨_, rfl⟩
  have c3 : c ≤ 3 := by omega
  rw [hc, hr2, hf, hr3, ho] at hB
  have hS := Cal.steps_right (n := n) (q := q) (r := r) (c := c) (r2 := r2) (f := f) (r3 := r3) (o := o) (r4 := r4) (y := y) ⟨by omega, by omega, by omega, by omega, by omega, by omega, by omega, by omega, by omega⟩ h0 h1
  obtain ⟨y1, y2, r41, r42, hn⟩ := hS
  have r20 : 0 ≤ r2 ∧ r2 ≤ 36524 := by omega
  have f0 : 0 ≤ f ∧ f ≤ 24 := by omega
  have r30 : 0 ≤ r3 ∧ r3 ≤ 1460 := by omega
  have hlp := Cal.lpN_01 y
  have HN := Lib.hid hn
  clear hn
  go_enter Tryz.func69, Tryz.ntmps69
  go_wp2_with fail
  clear hq hr hc hr2 hf hr3 ho hr4 hy
  go_loopw [0, 7] (fun t k wr => ∃ m : Int, 1 ≤ m ∧ m ≤ 12 ∧ k = .int .i64 m ∧ 0 ≤ r4 - Cal.cum y m ∧ t = .int .i64 (r4 - Cal.cum y m) ∧ Below (w.alloc (.cells #[.int .i64 0, .int .i64 0, .int .i64 0] 72)).heap.size (w.alloc (.cells #[.int .i64 0, .int .i64 0, .int .i64 0] 72)) wr) (fun _ k _ => (13 - intOf k).toNat)
  case atStart => exact ⟨1, by omega, by omega, rfl, by rw [Cal.cum_one]; omega, by rw [Cal.cum_one, Int.sub_zero], Below.refl _ _⟩
  case round =>
    obtain ⟨m, hm0, hm1, rfl, hp, rfl, hW⟩ := hrel
    have hs := Cal.cum_succ y m hm0 hm1
    have hb := Cal.mlen_bd y m hm0 hm1
    have hcb := Cal.cum_bd y m hm0 hm1
    have he := Cal.cum_end y
    have hlt : r4 - Cal.cum y (m + 1) < 0 ∨ m + 1 ≤ 12 := by
      by_cases e : m = 12
      · subst e
        left
        have : Cal.cum y (12 + 1) = 365 + Cal.lpN y := he
        omega
      · right; omega
    have HE := Lib.hid he
    have HS := Lib.hid hs
    have HLT := Lib.hid hlt
    clear he hs hlt
    generalize hC : Cal.cum y m = C at *
    generalize hM : Cal.mlen y m = M at *
    have hlen := fun w => length_any y m w (by omega) hm0 hm1
    rw [hM] at hlen
    have HC := Lib.hid hC
    have HL := Lib.hid hlen
    have HM := Lib.hid hM
    clear hC hM hlen
    by_cases hge : M ≤ r4 - C
    · go_wp2_with fail
      refine (HL.out _).mono ?_
      rintro e w1 ⟨rfl, hB1⟩
      go_wp2_with fail
      refine (HL.out _).mono ?_
      rintro e w2 ⟨rfl, hB2⟩
      go_wp2_with fail
      have hs := HS.out
      have hm12 : m + 1 ≤ 12 := by
        rcases HLT.out with h | h
        · omega
        · exact h
      exact ⟨⟨m + 1, by omega, hm12, rfl, by omega, by rw [hs]; exact congrArg (Value.int .i64) (by omega), hW.trans ((hB1.trans (hB2.mono hB1.size)).mono hW.size)⟩, by simp [intOf]; omega⟩
    · go_wp2_with fail
      refine (HL.out _).mono ?_
      rintro e w1 ⟨rfl, hB1⟩
      have hW1 := hW.trans (hB1.mono hW.size)
      have hG : w1.heap[w.heap.size]? = some (.cells #[.int .i64 0, .int .i64 0, .int .i64 0] 72 (0, 0)) := (hW1.block _ (by simp)).trans (heap_alloc_new w _)
      have HG := Lib.hid hG
      clear hG
      go_wp2_with (refine wpList_store_any rfl 72 _ _ rfl w.heap.size #[.int .i64 y, .int .i64 m, .int .i64 (r4 - C + 1)] rfl rfl _ _ HG.out (by kernel_rfl) rfl (by simp [Value.oneCell']) ?_; intro w3 h3 s3 bl3 ot3; have H3 := Lib.hid h3; have HBL := Lib.hid bl3; clear h3 bl3 ot3)
      refine bodyPost_ret (v := .agg #[.int .i64 y, .int .i64 m, .int .i64 (r4 - C + 1)]) (results_cell_row rfl _ _ w.heap.size 72 _ (0, 0) _ rfl H3.out Tryz.underlying72 rfl (by kernel_rfl)) rfl ?_
      exact ⟨y, m, _, rfl, ⟨y1, y2, hm0, hm1, by omega, by rw [HM.out]; omega, by unfold Cal.numOf; have := HN.out; rw [HC.out]; omega⟩, HBL.out _ _ (((Below.refl _ _).alloc (Nat.le_refl _) _).trans (hW1.mono (by simp))) (Nat.le_refl _)⟩
set_option maxHeartbeats 4000000 in
theorem date_3 (n q r : Int) (w : World) (h0 : 1 ≤ n) (h1 : n ≤ 3652059) (hq : (n - 1) / 146097 = q) (hr : (n - 1) % 146097 = r) (hA : r / 36524 ≤ 3) (hB : ¬ ((r - r / 36524 * 36524) - (r - r / 36524 * 36524) / 1461 * 1461) / 365 ≤ 3) : Calls Tryz.prog 69 #[.int .i64 n] w (DateP n w) := by
  have q0 : 0 ≤ q ∧ q ≤ 24 := by omega
  have r0 : 0 ≤ r ∧ r ≤ 146096 := by omega
  obtain ⟨c, hc⟩ : ∃ c, r / 36524 = c := ⟨_, rfl⟩
  obtain ⟨r2, hr2⟩ : ∃ r2, r - c * 36524 = r2 := ⟨_, rfl⟩
  obtain ⟨f, hf⟩ : ∃ f, r2 / 1461 = f := ⟨_, rfl⟩
  obtain ⟨r3, hr3⟩ : ∃ r3, r2 - f * 1461 = r3 := ⟨_, rfl⟩
  obtain ⟨y, hy⟩ : ∃ y, 400 * q + 1 + (100 * c + 4 * f + 3) = y := ⟨_, rfl⟩
  have c3 : c ≤ 3 := by omega
  rw [hc, hr2, hf, hr3] at hB
  have r31 : r3 = 1460 := by omega
  subst r31
  have hS := Cal.steps_right (n := n) (q := q) (r := r) (c := c) (r2 := r2) (f := f) (r3 := 1460) (o := 3) (r4 := 365) (y := y) ⟨by omega, by omega, by omega, by omega, by omega, by omega, by omega, by omega, by omega⟩ h0 h1
  obtain ⟨y1, y2, r41, r42, hn⟩ := hS
  have r20 : 0 ≤ r2 ∧ r2 ≤ 36524 := by omega
  have f0 : 0 ≤ f ∧ f ≤ 24 := by omega
  have hlp := Cal.lpN_01 y
  clear hB
  have HN := Lib.hid hn
  clear hn
  go_enter Tryz.func69, Tryz.ntmps69
  go_wp2_with fail
  clear hq hr hc hr2 hf hr3 hy
  go_loopw [0, 7] (fun t k wr => ∃ m : Int, 1 ≤ m ∧ m ≤ 12 ∧ k = .int .i64 m ∧ 0 ≤ 365 - Cal.cum y m ∧ t = .int .i64 (365 - Cal.cum y m) ∧ Below (w.alloc (.cells #[.int .i64 0, .int .i64 0, .int .i64 0] 72)).heap.size (w.alloc (.cells #[.int .i64 0, .int .i64 0, .int .i64 0] 72)) wr) (fun _ k _ => (13 - intOf k).toNat)
  case atStart => exact ⟨1, by omega, by omega, rfl, by rw [Cal.cum_one]; omega, by rw [Cal.cum_one, Int.sub_zero], Below.refl _ _⟩
  case round =>
    obtain ⟨m, hm0, hm1, rfl, hp, rfl, hW⟩ := hrel
    have hs := Cal.cum_succ y m hm0 hm1
    have hb := Cal.mlen_bd y m hm0 hm1
    have hcb := Cal.cum_bd y m hm0 hm1
    have he := Cal.cum_end y
    have hlt : 365 - Cal.cum y (m + 1) < 0 ∨ m + 1 ≤ 12 := by
      by_cases e : m = 12
      · subst e
        left
        have : Cal.cum y (12 + 1) = 365 + Cal.lpN y := he
        omega
      · right; omega
    have HE := Lib.hid he
    have HS := Lib.hid hs
    have HLT := Lib.hid hlt
    clear he hs hlt
    generalize hC : Cal.cum y m = C at *
    generalize hM : Cal.mlen y m = M at *
    have hlen := fun w => length_any y m w (by omega) hm0 hm1
    rw [hM] at hlen
    have HC := Lib.hid hC
    have HL := Lib.hid hlen
    have HM := Lib.hid hM
    clear hC hM hlen
    by_cases hge : M ≤ 365 - C
    · go_wp2_with fail
      refine (HL.out _).mono ?_
      rintro e w1 ⟨rfl, hB1⟩
      go_wp2_with fail
      refine (HL.out _).mono ?_
      rintro e w2 ⟨rfl, hB2⟩
      go_wp2_with fail
      have hs := HS.out
      have hm12 : m + 1 ≤ 12 := by
        rcases HLT.out with h | h
        · omega
        · exact h
      exact ⟨⟨m + 1, by omega, hm12, rfl, by omega, by rw [hs]; exact congrArg (Value.int .i64) (by omega), hW.trans ((hB1.trans (hB2.mono hB1.size)).mono hW.size)⟩, by simp [intOf]; omega⟩
    · go_wp2_with fail
      refine (HL.out _).mono ?_
      rintro e w1 ⟨rfl, hB1⟩
      have hW1 := hW.trans (hB1.mono hW.size)
      have hG : w1.heap[w.heap.size]? = some (.cells #[.int .i64 0, .int .i64 0, .int .i64 0] 72 (0, 0)) := (hW1.block _ (by simp)).trans (heap_alloc_new w _)
      have HG := Lib.hid hG
      clear hG
      go_wp2_with (refine wpList_store_any rfl 72 _ _ rfl w.heap.size #[.int .i64 y, .int .i64 m, .int .i64 (365 - C + 1)] rfl rfl _ _ HG.out (by kernel_rfl) rfl (by simp [Value.oneCell']) ?_; intro w3 h3 s3 bl3 ot3; have H3 := Lib.hid h3; have HBL := Lib.hid bl3; clear h3 bl3 ot3)
      refine bodyPost_ret (v := .agg #[.int .i64 y, .int .i64 m, .int .i64 (365 - C + 1)]) (results_cell_row rfl _ _ w.heap.size 72 _ (0, 0) _ rfl H3.out Tryz.underlying72 rfl (by kernel_rfl)) rfl ?_
      exact ⟨y, m, _, rfl, ⟨y1, y2, hm0, hm1, by omega, by rw [HM.out]; omega, by unfold Cal.numOf; have := HN.out; rw [HC.out]; omega⟩, HBL.out _ _ (((Below.refl _ _).alloc (Nat.le_refl _) _).trans (hW1.mono (by simp))) (Nat.le_refl _)⟩
set_option maxHeartbeats 4000000 in
theorem date_4 (n q : Int) (w : World) (h0 : 1 ≤ n) (h1 : n ≤ 3652059) (hq : (n - 1) / 146097 = q) (hr : (n - 1) % 146097 = 146096) : Calls Tryz.prog 69 #[.int .i64 n] w (DateP n w) := by
  have q0 : 0 ≤ q ∧ q ≤ 24 := by omega
  obtain ⟨y, hy⟩ : ∃ y, 400 * q + 1 + 399 = y := ⟨_, rfl⟩
  have hS := Cal.steps_right (n := n) (q := q) (r := 146096) (c := 3) (r2 := 36524) (f := 24) (r3 := 1460) (o := 3) (r4 := 365) (y := y) ⟨by omega, by omega, by omega, by omega, by omega, by omega, by omega, by omega, by omega⟩ h0 h1
  obtain ⟨y1, y2, r41, r42, hn⟩ := hS
  have hlp := Cal.lpN_01 y
  have HN := Lib.hid hn
  clear hn
  go_enter Tryz.func69, Tryz.ntmps69
  go_wp2_with fail
  clear hq hr hy
  go_loopw [0, 7] (fun t k wr => ∃ m : Int, 1 ≤ m ∧ m ≤ 12 ∧ k = .int .i64 m ∧ 0 ≤ 365 - Cal.cum y m ∧ t = .int .i64 (365 - Cal.cum y m) ∧ Below (w.alloc (.cells #[.int .i64 0, .int .i64 0, .int .i64 0] 72)).heap.size (w.alloc (.cells #[.int .i64 0, .int .i64 0, .int .i64 0] 72)) wr) (fun _ k _ => (13 - intOf k).toNat)
  case atStart => exact ⟨1, by omega, by omega, rfl, by rw [Cal.cum_one]; omega, by rw [Cal.cum_one, Int.sub_zero], Below.refl _ _⟩
  case round =>
    obtain ⟨m, hm0, hm1, rfl, hp, rfl, hW⟩ := hrel
    have hs := Cal.cum_succ y m hm0 hm1
    have hb := Cal.mlen_bd y m hm0 hm1
    have hcb := Cal.cum_bd y m hm0 hm1
    have he := Cal.cum_end y
    have hlt : 365 - Cal.cum y (m + 1) < 0 ∨ m + 1 ≤ 12 := by
      by_cases e : m = 12
      · subst e
        left
        have : Cal.cum y (12 + 1) = 365 + Cal.lpN y := he
        omega
      · right; omega
    have HE := Lib.hid he
    have HS := Lib.hid hs
    have HLT := Lib.hid hlt
    clear he hs hlt
    generalize hC : Cal.cum y m = C at *
    generalize hM : Cal.mlen y m = M at *
    have hlen := fun w => length_any y m w (by omega) hm0 hm1
    rw [hM] at hlen
    have HC := Lib.hid hC
    have HL := Lib.hid hlen
    have HM := Lib.hid hM
    clear hC hM hlen
    by_cases hge : M ≤ 365 - C
    · go_wp2_with fail
      refine (HL.out _).mono ?_
      rintro e w1 ⟨rfl, hB1⟩
      go_wp2_with fail
      refine (HL.out _).mono ?_
      rintro e w2 ⟨rfl, hB2⟩
      go_wp2_with fail
      have hs := HS.out
      have hm12 : m + 1 ≤ 12 := by
        rcases HLT.out with h | h
        · omega
        · exact h
      exact ⟨⟨m + 1, by omega, hm12, rfl, by omega, by rw [hs]; exact congrArg (Value.int .i64) (by omega), hW.trans ((hB1.trans (hB2.mono hB1.size)).mono hW.size)⟩, by simp [intOf]; omega⟩
    · go_wp2_with fail
      refine (HL.out _).mono ?_
      rintro e w1 ⟨rfl, hB1⟩
      have hW1 := hW.trans (hB1.mono hW.size)
      have hG : w1.heap[w.heap.size]? = some (.cells #[.int .i64 0, .int .i64 0, .int .i64 0] 72 (0, 0)) := (hW1.block _ (by simp)).trans (heap_alloc_new w _)
      have HG := Lib.hid hG
      clear hG
      go_wp2_with (refine wpList_store_any rfl 72 _ _ rfl w.heap.size #[.int .i64 y, .int .i64 m, .int .i64 (365 - C + 1)] rfl rfl _ _ HG.out (by kernel_rfl) rfl (by simp [Value.oneCell']) ?_; intro w3 h3 s3 bl3 ot3; have H3 := Lib.hid h3; have HBL := Lib.hid bl3; clear h3 bl3 ot3)
      refine bodyPost_ret (v := .agg #[.int .i64 y, .int .i64 m, .int .i64 (365 - C + 1)]) (results_cell_row rfl _ _ w.heap.size 72 _ (0, 0) _ rfl H3.out Tryz.underlying72 rfl (by kernel_rfl)) rfl ?_
      exact ⟨y, m, _, rfl, ⟨y1, y2, hm0, hm1, by omega, by rw [HM.out]; omega, by unfold Cal.numOf; have := HN.out; rw [HC.out]; omega⟩, HBL.out _ _ (((Below.refl _ _).alloc (Nat.le_refl _) _).trans (hW1.mono (by simp))) (Nat.le_refl _)⟩
set_option maxHeartbeats 4000000 in
theorem date_any (n : Int) (w : World) (h0 : 1 ≤ n) (h1 : n ≤ 3652059) : Calls Tryz.prog 69 #[.int .i64 n] w (DateP n w) := by
  by_cases hA : ((n - 1) % 146097) / 36524 ≤ 3
  · by_cases hB : ((((n - 1) % 146097) - ((n - 1) % 146097) / 36524 * 36524) - (((n - 1) % 146097) - ((n - 1) % 146097) / 36524 * 36524) / 1461 * 1461) / 365 ≤ 3
    · exact date_1 n _ _ w h0 h1 rfl rfl hA hB
    · exact date_3 n _ _ w h0 h1 rfl rfl hA hB
  · exact date_4 n _ w h0 h1 rfl (by omega)
end Go.Proofs.YtmepjcnpbjdlkaaGreatDoor
