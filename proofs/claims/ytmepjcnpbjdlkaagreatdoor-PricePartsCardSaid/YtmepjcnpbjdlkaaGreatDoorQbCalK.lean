/- texts of this claim, laid together: CalK. -/
import Derived.Test.YtmepjcnpbjdlkaaGreatDoorQbCalR
import Derived.Test.YtmepjcnpbjdlkaaGreatDoorQbPriceB
/- the document's months back of a date, and the date of a day: by contract. -/
namespace Go.Proofs.YtmepjcnpbjdlkaaGreatDoor
set_option linter.unusedVariables false
set_option linter.unusedSimpArgs false
open Go.RowKit
attribute [local irreducible] Go.wpStill

set_option maxHeartbeats 4000000 in
theorem back_any (y m d k : Int) (w : World) (h1 : 1 ≤ y) (h2 : y ≤ 9999) (h3 : 1 ≤ m) (h4 : m ≤ 12) (h5 : 1 ≤ d) (h6 : d ≤ 31) (hk0 : 0 ≤ k) (hk1 : k ≤ 1000000000) : Calls Tryz.prog 41 #[.agg #[.int .i64 y, .int .i64 m, .int .i64 d], .int .i64 k] w (BackP y m d k w) := by
  have hM : 12 * y + m - 1 - k = Cal.mon y m - k := by unfold Cal.mon; omega
  unfold BackP
  have hon := fun h0 => Cal.onM_is (M := Cal.mon y m - k) (d := d) h0 (by unfold Cal.mon; omega) h5
  have hlt : Cal.mon y m - k < 120000 := by unfold Cal.mon; omega
  generalize Cal.mon y m - k = M at *
  have hrow := heap_alloc_new w (.cells #[.int .i64 y, .int .i64 m, .int .i64 d] 72)
  rcases Int.lt_or_le M 12 with hM12 | hM12
  · rw [if_pos hM12]
    have hl2 : decide (12 * y + m - 1 - k < 12) = true := decide_eq_true (by omega)
    clear hon hM hrow
    go_enter Tryz.func41, Tryz.ntmps41
    go_wp2_with fail
    go_ret
    exact ⟨rfl, (Below.refl _ _).alloc (Nat.le_refl _) _⟩
  · rw [if_neg (by omega)]
    have hl2 : decide (12 * y + m - 1 - k < 12) = false := decide_eq_false (by omega)
    have h120 : 12 ≤ 12 * y + m - 1 - k := by omega
    have h121 : 12 * y + m - 1 - k < 120000 := by omega
    have hon := hon hM12
    have hY3 := hon.2.1
    have hY4 := hon.1
    have hHE := hon.2.2.2.2.2.2
    have hD5 := hon.2.2.2.2.1
    have hD6 := hon.2.2.2.2.2.1
    have hY : 1 ≤ M % 12 + 1 ∧ M % 12 + 1 ≤ 12 := by omega
    obtain ⟨hY1, hY2⟩ := hY
    have HM := Lib.hid hM
    have hr4 := heap_alloc_new (w.alloc (.cells #[.int .i64 y, .int .i64 m, .int .i64 d] 72)) (.cells #[.int .i64 (M / 12), .int .i64 (M % 12 + 1), .int .i64 d] 72)
    have hb4 : Below w.heap.size w ((w.alloc (.cells #[.int .i64 y, .int .i64 m, .int .i64 d] 72)).alloc (.cells #[.int .i64 (M / 12), .int .i64 (M % 12 + 1), .int .i64 d] 72)) := ((Below.refl _ _).alloc (Nat.le_refl _) _).alloc (by simp) _
    have hsz : (w.alloc (.cells #[.int .i64 y, .int .i64 m, .int .i64 d] 72)).heap.size = w.heap.size + 1 := by simp
    rw [hsz] at hr4
    have HR4 := Lib.hid hr4
    have HB4 := Lib.hid hb4
    clear hon hM hrow hr4 hb4 hsz
    have HHE := Lib.hid hHE
    clear hHE
    go_enter Tryz.func41, Tryz.ntmps41
    go_wp2_with fail
    rename_i HK
    rw [HM.out]
    clear h120 h121 hl2
    generalize ((w.alloc (.cells #[.int .i64 y, .int .i64 m, .int .i64 d] 72)).alloc (.cells #[.int .i64 (M / 12), .int .i64 (M % 12 + 1), .int .i64 d] 72)) = w4 at *
    have hms : w.heap.size ≤ w.heap.size + 1 := Nat.le_succ _
    generalize hg : w.heap.size + 1 = g at *
    generalize hYY : M / 12 = Y at *
    generalize hMo : M % 12 + 1 = Mo at *
    have HYY := Lib.hid hYY
    have HMo := Lib.hid hMo
    clear hYY hMo hg
    have hML := Lib.hid (fun w => refMonthDays_any Y Mo w (by omega) hY1 hY2)
    have hmlb := Cal.mlen_bd Y Mo hY1 hY2
    have hNum := Lib.hid (fun w => refNumber_any Y Mo (min d (Cal.mlen Y Mo)) w hY4 hY3 hY1 hY2 hD5 hD6)
    generalize Cal.mlen Y Mo = L at *
    by_cases hc : L < d
    · have hgt := Lib.hid (decide_eq_true hc)
      have hmin : min d L = L := by omega
      rw [hmin] at hNum HHE
      clear hmin
      refine wp_region_held_drew (S := fun w' => w'.heap[g]? = some (.cells #[.int .i64 Y, .int .i64 Mo, .int .i64 d] 72 (0, 0)) ∧ Below w.heap.size w w') (by kernel_rfl) ⟨HR4.out, HB4.out.drew⟩ (fun hHeld => ?_)
      (refine rg_yes 0 ?v1 (by simp only [List.getElem?_toArray, List.getElem?_cons_succ, List.getElem?_cons_zero]; rfl) (by kernel_rfl) (by kernel_rfl) (by kernel_rfl) (by exact fun _ _ _ h => h) (by kernel_rfl) (by assumption) ?y1 ?z1; case y1 => (intro w hSw; (try dsimp only at hSw); go_simp; (try (rw [if_neg (by omega)])); (try with_reducible rfl)))
      (try simp only [Act.put, List.setIfInBounds_toArray, List.set_cons_zero, List.set_cons_succ])
      refine rg_yes 1 _ (by simp only [List.getElem?_toArray, List.getElem?_cons_succ, List.getElem?_cons_zero]; rfl) (by kernel_rfl) (by kernel_rfl) (by kernel_rfl) (by exact fun _ _ _ h => h) (by kernel_rfl) (by assumption) (by exact fun w' hS => (exec_load_one (v := .int .i64 d) (b := g) hS.1 rfl rfl rfl (fun w => by kernel_rfl))) ?_
      (try simp only [Act.put, List.setIfInBounds_toArray, List.set_cons_zero, List.set_cons_succ])
      (refine rg_yes 2 ?v2 (by simp only [List.getElem?_toArray, List.getElem?_cons_succ, List.getElem?_cons_zero]; rfl) (by kernel_rfl) (by kernel_rfl) (by kernel_rfl) (by exact fun _ _ _ h => h) (by kernel_rfl) (by assumption) ?y2 ?z2; case y2 => (intro w hSw; (try dsimp only at hSw); go_simp; (try (rw [if_neg (by omega)])); (try with_reducible rfl)))
      (try simp only [Act.put, List.setIfInBounds_toArray, List.set_cons_zero, List.set_cons_succ])
      refine rg_yes 3 _ (by simp only [List.getElem?_toArray, List.getElem?_cons_succ, List.getElem?_cons_zero]; rfl) (by kernel_rfl) (by kernel_rfl) (by kernel_rfl) (by exact fun _ _ _ h => h) (by kernel_rfl) (by assumption) (by exact fun w' hS => (exec_load_one (v := .int .i64 Y) (b := g) hS.1 rfl rfl rfl (fun w => by kernel_rfl))) ?_
      (try simp only [Act.put, List.setIfInBounds_toArray, List.set_cons_zero, List.set_cons_succ])
      (refine rg_yes 4 ?v3 (by simp only [List.getElem?_toArray, List.getElem?_cons_succ, List.getElem?_cons_zero]; rfl) (by kernel_rfl) (by kernel_rfl) (by kernel_rfl) (by exact fun _ _ _ h => h) (by kernel_rfl) (by assumption) ?y3 ?z3; case y3 => (intro w hSw; (try dsimp only at hSw); go_simp; (try (rw [if_neg (by omega)])); (try with_reducible rfl)))
      (try simp only [Act.put, List.setIfInBounds_toArray, List.set_cons_zero, List.set_cons_succ])
      refine rg_yes 5 _ (by simp only [List.getElem?_toArray, List.getElem?_cons_succ, List.getElem?_cons_zero]; rfl) (by kernel_rfl) (by kernel_rfl) (by kernel_rfl) (by exact fun _ _ _ h => h) (by kernel_rfl) (by assumption) (by exact fun w' hS => (exec_load_one (v := .int .i64 Mo) (b := g) hS.1 rfl rfl rfl (fun w => by kernel_rfl))) ?_
      (try simp only [Act.put, List.setIfInBounds_toArray, List.set_cons_zero, List.set_cons_succ])
      refine rg_call 6 _ _ (by simp only [List.getElem?_toArray, List.getElem?_cons_succ, List.getElem?_cons_zero]; rfl) (by kernel_rfl) (by kernel_rfl) (fun w => by go_simp; exact ⟨rfl, rfl⟩) ?_
      refine (hML.out _).mono ?_
      rintro e w5 ⟨rfl, he⟩
      rw [he] at hHeld
      clear he
      refine ⟨_, rfl, hHeld, fun hHeld => ?_⟩
      refine rg_yes 7 _ (by simp only [List.getElem?_toArray, List.getElem?_cons_succ, List.getElem?_cons_zero]; rfl) (by kernel_rfl) (by kernel_rfl) (by kernel_rfl) (by exact fun _ _ _ h => h) (by kernel_rfl) (by assumption) (by exact fun w' hS => (exec_gtr_int rfl rfl rfl hgt.out)) ?_
      (try simp only [Act.put, List.setIfInBounds_toArray, List.set_cons_zero, List.set_cons_succ])
      refine wpAnyH_done (by kernel_rfl) ?_ _
      apply HK
      obtain ⟨hr, hbw⟩ := hHeld
      obtain ⟨c0, c1, c2⟩ := cells_of_row3 hr
      have hz : ∀ o, w5.frozen? ⟨g, o, none⟩ = false := fun o => by simp [World.frozen?, hr]
      have h6 : (w5.setCell ⟨g, 2, none⟩ (.int .i64 L)).heap[g]? = some (.cells #[.int .i64 Y, .int .i64 Mo, .int .i64 L] 72 (0, 0)) := setCell_row hr 2 _
      have hb6 := below_setCell_ge (p := ⟨g, 2, none⟩) hbw hms (.int .i64 L)
      have H6 := Lib.hid h6
      have HRR := Lib.hid hr
      clear h6 hr hbw
      go_wp2_with fail
      refine (hML.out _).mono ?_
      rintro e w6 ⟨rfl, rfl⟩
      go_wp2_with (refine wpList_val (.agg #[.int .i64 Y, .int .i64 Mo, .int .i64 L]) (by kernel_rfl) (exec_load_row H6.out rfl rfl Tryz.underlying72 rfl (by kernel_rfl)) ?_)
      refine (hNum.out _).mono ?_
      rintro e w7 ⟨rfl, hb7⟩
      go_wp2_with fail
      go_ret
      exact ⟨by rw [HHE.out]; rfl, hb6.trans (hb7.mono hb6.size)⟩
    · have hgt := Lib.hid (decide_eq_false hc)
      have hmin : min d L = d := by omega
      rw [hmin] at hNum HHE
      clear hmin
      refine wp_region_held_drew (S := fun w' => w'.heap[g]? = some (.cells #[.int .i64 Y, .int .i64 Mo, .int .i64 d] 72 (0, 0)) ∧ Below w.heap.size w w') (by kernel_rfl) ⟨HR4.out, HB4.out.drew⟩ (fun hHeld => ?_)
      (refine rg_yes 0 ?v4 (by simp only [List.getElem?_toArray, List.getElem?_cons_succ, List.getElem?_cons_zero]; rfl) (by kernel_rfl) (by kernel_rfl) (by kernel_rfl) (by exact fun _ _ _ h => h) (by kernel_rfl) (by assumption) ?y4 ?z4; case y4 => (intro w hSw; (try dsimp only at hSw); go_simp; (try (rw [if_neg (by omega)])); (try with_reducible rfl)))
      (try simp only [Act.put, List.setIfInBounds_toArray, List.set_cons_zero, List.set_cons_succ])
      refine rg_yes 1 _ (by simp only [List.getElem?_toArray, List.getElem?_cons_succ, List.getElem?_cons_zero]; rfl) (by kernel_rfl) (by kernel_rfl) (by kernel_rfl) (by exact fun _ _ _ h => h) (by kernel_rfl) (by assumption) (by exact fun w' hS => (exec_load_one (v := .int .i64 d) (b := g) hS.1 rfl rfl rfl (fun w => by kernel_rfl))) ?_
      (try simp only [Act.put, List.setIfInBounds_toArray, List.set_cons_zero, List.set_cons_succ])
      (refine rg_yes 2 ?v5 (by simp only [List.getElem?_toArray, List.getElem?_cons_succ, List.getElem?_cons_zero]; rfl) (by kernel_rfl) (by kernel_rfl) (by kernel_rfl) (by exact fun _ _ _ h => h) (by kernel_rfl) (by assumption) ?y5 ?z5; case y5 => (intro w hSw; (try dsimp only at hSw); go_simp; (try (rw [if_neg (by omega)])); (try with_reducible rfl)))
      (try simp only [Act.put, List.setIfInBounds_toArray, List.set_cons_zero, List.set_cons_succ])
      refine rg_yes 3 _ (by simp only [List.getElem?_toArray, List.getElem?_cons_succ, List.getElem?_cons_zero]; rfl) (by kernel_rfl) (by kernel_rfl) (by kernel_rfl) (by exact fun _ _ _ h => h) (by kernel_rfl) (by assumption) (by exact fun w' hS => (exec_load_one (v := .int .i64 Y) (b := g) hS.1 rfl rfl rfl (fun w => by kernel_rfl))) ?_
      (try simp only [Act.put, List.setIfInBounds_toArray, List.set_cons_zero, List.set_cons_succ])
      (refine rg_yes 4 ?v6 (by simp only [List.getElem?_toArray, List.getElem?_cons_succ, List.getElem?_cons_zero]; rfl) (by kernel_rfl) (by kernel_rfl) (by kernel_rfl) (by exact fun _ _ _ h => h) (by kernel_rfl) (by assumption) ?y6 ?z6; case y6 => (intro w hSw; (try dsimp only at hSw); go_simp; (try (rw [if_neg (by omega)])); (try with_reducible rfl)))
      (try simp only [Act.put, List.setIfInBounds_toArray, List.set_cons_zero, List.set_cons_succ])
      refine rg_yes 5 _ (by simp only [List.getElem?_toArray, List.getElem?_cons_succ, List.getElem?_cons_zero]; rfl) (by kernel_rfl) (by kernel_rfl) (by kernel_rfl) (by exact fun _ _ _ h => h) (by kernel_rfl) (by assumption) (by exact fun w' hS => (exec_load_one (v := .int .i64 Mo) (b := g) hS.1 rfl rfl rfl (fun w => by kernel_rfl))) ?_
      (try simp only [Act.put, List.setIfInBounds_toArray, List.set_cons_zero, List.set_cons_succ])
      refine rg_call 6 _ _ (by simp only [List.getElem?_toArray, List.getElem?_cons_succ, List.getElem?_cons_zero]; rfl) (by kernel_rfl) (by kernel_rfl) (fun w => by go_simp; exact ⟨rfl, rfl⟩) ?_
      refine (hML.out _).mono ?_
      rintro e w5 ⟨rfl, he⟩
      rw [he] at hHeld
      clear he
      refine ⟨_, rfl, hHeld, fun hHeld => ?_⟩
      refine rg_yes 7 _ (by simp only [List.getElem?_toArray, List.getElem?_cons_succ, List.getElem?_cons_zero]; rfl) (by kernel_rfl) (by kernel_rfl) (by kernel_rfl) (by exact fun _ _ _ h => h) (by kernel_rfl) (by assumption) (by exact fun w' hS => (exec_gtr_int rfl rfl rfl hgt.out)) ?_
      (try simp only [Act.put, List.setIfInBounds_toArray, List.set_cons_zero, List.set_cons_succ])
      refine wpAnyH_done (by kernel_rfl) ?_ _
      apply HK
      obtain ⟨hr, hb6⟩ := hHeld
      have H6 := Lib.hid hr
      clear hr
      go_wp2_with (refine wpList_val (.agg #[.int .i64 Y, .int .i64 Mo, .int .i64 d]) (by kernel_rfl) (exec_load_row H6.out rfl rfl Tryz.underlying72 rfl (by kernel_rfl)) ?_)
      refine (hNum.out _).mono ?_
      rintro e w7 ⟨rfl, hb7⟩
      go_wp2_with fail
      go_ret
      exact ⟨by rw [HHE.out]; rfl, hb6.trans (hb7.mono hb6.size)⟩

def OfR (n : Int) (w : World) (e : Ending) (w' : World) : Prop := ∃ y m d : Int, e = .returned (.tuple #[.agg #[.int .i64 y, .int .i64 m, .int .i64 d], .int .i64 0]) ∧ Cal.Is n y m d ∧ Below w.heap.size w w'
/-- the two rows of Of: the result's, and the date under way -/
structure Two (w wr : World) (g2 g4 : Nat) (c q : Int) : Prop where
  r2 : wr.heap[g2]? = some (.cells #[.int .i64 0, .int .i64 0, .int .i64 0] 72 (0, 0))
  r4 : wr.heap[g4]? = some (.cells #[.int .i64 c, .int .i64 q, .int .i64 0] 72 (0, 0))
  bl : Below w.heap.size w wr
theorem Two.drew {w wr : World} {g2 g4 : Nat} {c q : Int} (h : Two w wr g2 g4 c q) : Two w wr.drew g2 g4 c q := ⟨h.r2, h.r4, h.bl.drew⟩
theorem Two.year {w wr : World} {g2 g4 : Nat} {c q : Int} (h : Two w wr g2 g4 c q) (hne : g2 ≠ g4) (hg : w.heap.size ≤ g4) (c' : Int) : Two w (wr.setCell ⟨g4, 0, none⟩ (.int .i64 c')) g2 g4 c' q :=
  ⟨(heap_setCell_other _ _ _ _ hne).trans h.r2, setCell_row h.r4 0 _, below_setCell_ge (p := ⟨g4, 0, none⟩) h.bl hg _⟩
theorem Two.month {w wr : World} {g2 g4 : Nat} {c q : Int} (h : Two w wr g2 g4 c q) (hne : g2 ≠ g4) (hg : w.heap.size ≤ g4) (q' : Int) : Two w (wr.setCell ⟨g4, 1, none⟩ (.int .i64 q')) g2 g4 c q' :=
  ⟨(heap_setCell_other _ _ _ _ hne).trans h.r2, setCell_row h.r4 1 _, below_setCell_ge (p := ⟨g4, 1, none⟩) h.bl hg _⟩
theorem frozen_of_row {w : World} {g : Nat} {cs : Array Value} {t : TypeId} (h : w.heap[g]? = some (.cells cs t (0, 0))) : ∀ o, w.frozen? ⟨g, o, none⟩ = false := fun o => by simp [World.frozen?, h]
set_option maxHeartbeats 4000000 in
theorem refOf_any (n : Int) (w : World) (h0 : 1 ≤ n) (h1 : n ≤ 3652059) : Calls Tryz.prog 40 #[.int .i64 n] w (OfR n w) := by
  have hd : dayB n = true := by simp [dayB]; omega
  have HD := Lib.hid hd
  clear hd
  have hTw : Two w ((w.alloc (.cells #[.int .i64 0, .int .i64 0, .int .i64 0] 72)).alloc (.cells #[.int .i64 1, .int .i64 1, .int .i64 0] 72)) w.heap.size (w.heap.size + 1) 1 1 := by
    have a := heap_alloc_new w (.cells #[.int .i64 0, .int .i64 0, .int .i64 0] 72)
    have b := heap_alloc_new (w.alloc (.cells #[.int .i64 0, .int .i64 0, .int .i64 0] 72)) (.cells #[.int .i64 1, .int .i64 1, .int .i64 0] 72)
    have hsz : (w.alloc (.cells #[.int .i64 0, .int .i64 0, .int .i64 0] 72)).heap.size = w.heap.size + 1 := by simp
    rw [hsz] at b
    exact ⟨rowAt_below a ((Below.refl _ _).alloc (Nat.le_refl _) _), b, ((Below.refl _ _).alloc (Nat.le_refl _) _).alloc (by simp) _⟩
  have HT := Lib.hid hTw
  clear hTw
  go_enter Tryz.func40, Tryz.ntmps40
  go_wp2_with (refine (is03_any n _).mono ?_; rintro e w1 ⟨rfl, rfl⟩; rw [HD.out])
  have hms : w.heap.size ≤ w.heap.size + 1 := Nat.le_succ _
  have hne : w.heap.size ≠ w.heap.size + 1 := by omega
  obtain ⟨c0, c1, c2⟩ := cells_of_row3 HT.out.r4
  have hz := frozen_of_row HT.out.r4
  generalize ((w.alloc (.cells #[.int .i64 0, .int .i64 0, .int .i64 0] 72)).alloc (.cells #[.int .i64 1, .int .i64 1, .int .i64 0] 72)) = w4 at *
  generalize hg4 : w.heap.size + 1 = g4 at *
  generalize hg2 : w.heap.size = g2 at *
  clear hg4
  go_loopw [0] (fun t wr => ∃ c : Int, 1 ≤ c ∧ c ≤ 9999 ∧ t = .int .i64 (n - Cal.ys c) ∧ 1 ≤ n - Cal.ys c ∧ Two w wr g2 g4 c 1) (fun t _ => (intOf t).toNat)
  case atStart => exact ⟨1, by omega, by omega, by rw [show Cal.ys 1 = 0 by decide]; go_num, by rw [show Cal.ys 1 = 0 by decide]; omega, HT.out⟩
  case round =>
    obtain ⟨c, hc1, hc9, rfl, hp, hTr⟩ := hrel
    clear c0 c1 c2 hz
    obtain ⟨c0, c1, c2⟩ := cells_of_row3 hTr.r4
    have hz := frozen_of_row hTr.r4
    have hys := Cal.ys_succ c hc1
    have hyb : 0 ≤ Cal.ys c ∧ Cal.ys c ≤ 3651695 := by unfold Cal.ys; omega
    have hl := Cal.lpN_01 c
    have hYD := Lib.hid (fun w => refYearDays_any c w (by omega))
    have hlast : c = 9999 → n - Cal.ys c ≤ 365 + Cal.lpN c := by rintro rfl; have h10 : Cal.ys (9999 + 1) = 3652059 := Cal.ys_last; omega
    have HYS := Lib.hid hys
    have HTR := Lib.hid hTr
    clear hys hTr
    generalize hZ : Cal.ys c = Z at *
    generalize hLP : Cal.lpN c = lp at *
    have HZ := Lib.hid hZ
    have HLP := Lib.hid hLP
    clear hZ hLP
    by_cases hlt : 365 + lp < n - Z
    · have hd : decide (365 + lp < n - Z) = true := decide_eq_true hlt
      have hc99 : c < 9999 := by
        by_cases e : c = 9999
        · have := hlast e; omega
        · omega
      clear hlast
      go_wp2_with fail
      refine (hYD.out _).mono ?_
      rintro e w3 ⟨rfl, rfl⟩
      go_wp2_with fail
      refine (hYD.out _).mono ?_
      rintro e w3 ⟨rfl, rfl⟩
      go_wp2_with fail
      have hys := HYS.out
      exact ⟨⟨c + 1, by omega, by omega, by rw [hys]; go_num, by omega, HTR.out.year hne (by omega) _⟩, by simp [intOf]; omega⟩
    · have hd : decide (365 + lp < n - Z) = false := decide_eq_false hlt
      clear hlast
      go_wp2_with fail
      refine (hYD.out _).mono ?_
      rintro e w3 ⟨rfl, rfl⟩
      go_wp2_with fail
      clear hd c0 c1 c2 hz hYD
      go_loopw [0] (fun t wq => ∃ q : Int, 1 ≤ q ∧ q ≤ 12 ∧ t = .int .i64 (n - Z - Cal.cum c q) ∧ 1 ≤ n - Z - Cal.cum c q ∧ Two w wq g2 g4 c q) (fun t _ => (intOf t).toNat)
      case atStart => exact ⟨1, by omega, by omega, by rw [Cal.cum_one]; go_num, by rw [Cal.cum_one]; omega, HTR.out⟩
      case round =>
        obtain ⟨q, hq1, hq12, rfl, hp2, hTq⟩ := hrel
        obtain ⟨c0, c1, c2⟩ := cells_of_row3 hTq.r4
        have hz := frozen_of_row hTq.r4
        have hcs := Cal.cum_succ c q hq1 hq12
        have hcb := Cal.cum_bd c q hq1 hq12
        have hmb := Cal.mlen_bd c q hq1 hq12
        have hMD := Lib.hid (fun w => refMonthDays_any c q w (by omega) hq1 hq12)
        have hlast : q = 12 → n - Z - Cal.cum c q ≤ Cal.mlen c q := by
          rintro rfl
          have he : Cal.cum c (12 + 1) = 365 + Cal.lpN c := Cal.cum_end c
          rw [HLP.out] at he
          omega
        have HCS := Lib.hid hcs
        have HTQ := Lib.hid hTq
        clear hcs hTq
        generalize hC : Cal.cum c q = C at *
        generalize hL : Cal.mlen c q = L at *
        have HC := Lib.hid hC
        have HL := Lib.hid hL
        clear hC hL
        by_cases hlt2 : L < n - Z - C
        · have hd : decide (L < n - Z - C) = true := decide_eq_true hlt2
          have hq11 : q < 12 := by
            by_cases e : q = 12
            · have := hlast e; omega
            · omega
          clear hlast
          go_wp2_with fail
          refine (hMD.out _).mono ?_
          rintro e w3 ⟨rfl, rfl⟩
          go_wp2_with fail
          refine (hMD.out _).mono ?_
          rintro e w3 ⟨rfl, rfl⟩
          go_wp2_with fail
          have hcs := HCS.out
          exact ⟨⟨q + 1, by omega, by omega, by rw [hcs]; go_num, by omega, HTQ.out.month hne (by omega) _⟩, by simp [intOf]; omega⟩
        · have hd : decide (L < n - Z - C) = false := decide_eq_false hlt2
          clear hlast
          go_wp2_with fail
          refine (hMD.out _).mono ?_
          rintro e w3 ⟨rfl, rfl⟩
          have h6 : (wr.setCell ⟨g4, 2, none⟩ (.int .i64 (n - Z - C))).heap[g4]? = some (.cells #[.int .i64 c, .int .i64 q, .int .i64 (n - Z - C)] 72 (0, 0)) := setCell_row HTQ.out.r4 2 _
          have h62 := (heap_setCell_other wr ⟨g4, 2, none⟩ _ (.int .i64 (n - Z - C)) hne).trans HTQ.out.r2
          have hb6 := below_setCell_ge (p := ⟨g4, 2, none⟩) HTQ.out.bl (by show w.heap.size ≤ g4; omega) (.int .i64 (n - Z - C))
          have H6 := Lib.hid h6
          have H62 := Lib.hid h62
          have HB6 := Lib.hid hb6
          clear h6 h62 hb6
          go_wp2_with (first | refine wpList_val (.agg #[.int .i64 c, .int .i64 q, .int .i64 (n - Z - C)]) (by kernel_rfl) (exec_load_row H6.out rfl rfl Tryz.underlying72 rfl (by kernel_rfl)) ?_ | (refine wpList_store_any rfl 72 _ _ rfl g2 #[.int .i64 c, .int .i64 q, .int .i64 (n - Z - C)] rfl rfl _ _ H62.out (by kernel_rfl) rfl (by simp [Value.oneCell']) ?_; intro w7 h7 s7 bl7 ot7; have H7 := Lib.hid h7; have HBL := Lib.hid bl7; clear h7 bl7 ot7))
          refine bodyPost_ret (v := _) (results_cell_row_tmp rfl _ _ g2 72 _ (0, 0) _ rfl H7.out Tryz.underlying72 rfl (by kernel_rfl)) rfl ?_
          refine ⟨c, q, n - Z - C, rfl, ⟨hc1, hc9, hq1, hq12, hp2, by rw [HL.out]; omega, by unfold Cal.numOf; rw [HZ.out, HC.out]; omega⟩, HBL.out _ _ HB6.out (by omega)⟩
end Go.Proofs.YtmepjcnpbjdlkaaGreatDoor
