/- texts of this claim, laid together: CalR. -/
import Derived.Test.YtmepjcnpbjdlkaaGreatDoorQbCalM
/- the document's own calendar: Leap, MonthDays, yearDays: by contract. -/
namespace Go.Proofs.YtmepjcnpbjdlkaaGreatDoor
set_option linter.unusedVariables false
set_option linter.unusedSimpArgs false
open Go.RowKit
attribute [local irreducible] Go.wpStill

def RetI0 (n : Int) (w : World) (e : Ending) (w' : World) : Prop := e = .returned (.int .i64 n) ∧ w = w'
theorem refLeap_any (y : Int) (w : World) (h0 : 0 ≤ y) : Calls Tryz.prog 129 #[.int .i64 y] w (RetB0 (Cal.lpB y) w) := by
  cases h4 : (y % 4 == 0)
  · have hb : Cal.lpB y = false := by unfold Cal.lpB; simp at h4; simp [h4]
    rw [hb]
    clear hb
    go_enter Tryz.func129, Tryz.ntmps129
    go_wp2_with fail
    go_ret
    exact ⟨rfl, rfl⟩
  · cases h100 : (y % 100 != 0)
    · cases h400 : (y % 400 == 0)
      · have hb : Cal.lpB y = false := by unfold Cal.lpB; simp at h4 h100 h400; simp [h100, h400]
        rw [hb]
        clear hb
        go_enter Tryz.func129, Tryz.ntmps129
        go_wp2_with fail
        go_ret
        exact ⟨rfl, rfl⟩
      · have hb : Cal.lpB y = true := by unfold Cal.lpB; simp at h4 h100 h400; simp [h4, h400]
        rw [hb]
        clear hb
        go_enter Tryz.func129, Tryz.ntmps129
        go_wp2_with fail
        go_ret
        exact ⟨rfl, rfl⟩
    · have hb : Cal.lpB y = true := by unfold Cal.lpB; simp at h4 h100; simp [h4, h100]
      rw [hb]
      clear hb
      go_enter Tryz.func129, Tryz.ntmps129
      go_wp2_with fail
      go_ret
      exact ⟨rfl, rfl⟩
theorem refYearDays_any (y : Int) (w : World) (h0 : 0 ≤ y) : Calls Tryz.prog 90 #[.int .i64 y] w (RetI0 (365 + Cal.lpN y) w) := by
  have hL := Lib.hid (fun w => refLeap_any y w h0)
  clear h0
  unfold Cal.lpN
  cases hb : Cal.lpB y <;> (have HB := Lib.hid hb; clear hb)
  all_goals
    go_enter Tryz.func90, Tryz.ntmps90
    go_wp2_with (refine (hL.out _).mono ?_; rintro e w1 ⟨rfl, rfl⟩; rw [HB.out])
    go_ret
    exact ⟨rfl, rfl⟩
set_option maxHeartbeats 2000000 in
theorem refMonthDays_any (y m : Int) (w : World) (hy : 0 ≤ y) (h0 : 1 ≤ m) (h1 : m ≤ 12) : Calls Tryz.prog 91 #[.int .i64 y, .int .i64 m] w (RetI0 (Cal.mlen y m) w) := by
  have hL := Lib.hid (fun w => refLeap_any y w hy)
  clear hy
  obtain h | h | h | h | h | h | h | h | h | h | h | h := Cal.twelve h0 h1 <;> subst h <;> clear h0 h1
  case inr.inl =>
    have e2 : Cal.mlen y 2 = 28 + Cal.lpN y := by simp [Cal.mlen, Cal.aheadM]
    rw [e2]
    clear e2
    unfold Cal.lpN
    cases hb : Cal.lpB y <;> (have HB := Lib.hid hb; clear hb)
    all_goals
      go_enter Tryz.func91, Tryz.ntmps91
      go_wp2_with (refine (hL.out _).mono ?_; rintro e w1 ⟨rfl, rfl⟩; rw [HB.out])
      go_ret
      exact ⟨rfl, rfl⟩
  all_goals
    go_enter Tryz.func91, Tryz.ntmps91
    go_wp2_with fail
    go_ret
    exact ⟨by simp [Cal.mlen, Cal.aheadM], rfl⟩

theorem exec_geq_int {P : Program} {w : World} {a : Act} {o : Oper} {x y : Operand} {k : IntKind} {i j : Int} {b : Bool} {T T2 : TypeId} (ho : o.op = .binOp .geq T x y T2) (hx : a.eval x = .int k i) (hy : a.eval y = .int k j) (h : decide (j ≤ i) = b) : (execOp a.eval o).run P w = .ok (.value (.bool b)) w := by
  subst h
  unfold execOp
  simp only [ho, hx, hy]
  simp [go_sem]
theorem exec_leq_int {P : Program} {w : World} {a : Act} {o : Oper} {x y : Operand} {k : IntKind} {i j : Int} {b : Bool} {T T2 : TypeId} (ho : o.op = .binOp .leq T x y T2) (hx : a.eval x = .int k i) (hy : a.eval y = .int k j) (h : decide (i ≤ j) = b) : (execOp a.eval o).run P w = .ok (.value (.bool b)) w := by
  subst h
  unfold execOp
  simp only [ho, hx, hy]
  simp [go_sem]
theorem exec_gtr_int {P : Program} {w : World} {a : Act} {o : Oper} {x y : Operand} {k : IntKind} {i j : Int} {b : Bool} {T T2 : TypeId} (ho : o.op = .binOp .gtr T x y T2) (hx : a.eval x = .int k i) (hy : a.eval y = .int k j) (h : decide (j < i) = b) : (execOp a.eval o).run P w = .ok (.value (.bool b)) w := by
  subst h
  unfold execOp
  simp only [ho, hx, hy]
  simp [go_sem]
set_option maxHeartbeats 2000000 in
/-- of a date that is right -/
theorem refRight_any (y m d : Int) (w : World) (h1 : 1 ≤ y) (h2 : y ≤ 9999) (h3 : 1 ≤ m) (h4 : m ≤ 12) (h5 : 1 ≤ d) (h6 : d ≤ Cal.mlen y m) : Calls Tryz.prog 130 #[.agg #[.int .i64 y, .int .i64 m, .int .i64 d]] w (fun e w' => e = .returned (.bool true) ∧ Below w.heap.size w w') := by
  have hM := Lib.hid (fun w => refMonthDays_any y m w (by omega) h3 h4)
  have g1 := Lib.hid (decide_eq_true h1)
  have g2 := Lib.hid (decide_eq_true h2)
  have g3 := Lib.hid (decide_eq_true h3)
  have g4 := Lib.hid (decide_eq_true h4)
  have g5 := Lib.hid (decide_eq_true h5)
  have g6 := Lib.hid (decide_eq_true h6)
  have hrow := heap_alloc_new w (.cells #[.int .i64 y, .int .i64 m, .int .i64 d] 72)
  have HROW := Lib.hid hrow
  clear hrow h1 h2 h3 h4 h5 h6
  generalize Cal.mlen y m = L at *
  go_enter Tryz.func130, Tryz.ntmps130
  go_wp2_with fail
  rename_i HK
  refine wp_region_held_drew (S := fun w' => w'.heap[w.heap.size]? = some (.cells #[.int .i64 y, .int .i64 m, .int .i64 d] 72 (0, 0)) ∧ Below w.heap.size w w') (by kernel_rfl) ⟨HROW.out, ((Below.refl _ _).alloc (Nat.le_refl _) _).drew⟩ (fun hHeld => ?_)
  (refine rg_yes 0 ?v1 (by simp only [List.getElem?_toArray, List.getElem?_cons_succ, List.getElem?_cons_zero]; rfl) (by kernel_rfl) (by kernel_rfl) (by kernel_rfl) (by exact fun _ _ _ h => h) (by kernel_rfl) (by assumption) ?y1 ?z1; case y1 => (intro w hSw; (try dsimp only at hSw); go_simp; (try (rw [if_neg (by omega)])); (try with_reducible rfl)))
  (try simp only [Act.put, List.setIfInBounds_toArray, List.set_cons_zero, List.set_cons_succ])
  refine rg_yes 1 _ (by simp only [List.getElem?_toArray, List.getElem?_cons_succ, List.getElem?_cons_zero]; rfl) (by kernel_rfl) (by kernel_rfl) (by kernel_rfl) (by exact fun _ _ _ h => h) (by kernel_rfl) (by assumption) (by exact fun w' hS => (exec_load_one (v := .int .i64 y) (b := w.heap.size) hS.1 rfl rfl rfl (fun w => by kernel_rfl))) ?_
  (try simp only [Act.put, List.setIfInBounds_toArray, List.set_cons_zero, List.set_cons_succ])
  refine rg_yes 2 _ (by simp only [List.getElem?_toArray, List.getElem?_cons_succ, List.getElem?_cons_zero]; rfl) (by kernel_rfl) (by kernel_rfl) (by kernel_rfl) (by exact fun _ _ _ h => h) (by kernel_rfl) (by assumption) (by exact fun w' hS => (exec_geq_int rfl rfl rfl g1.out)) ?_
  (try simp only [Act.put, List.setIfInBounds_toArray, List.set_cons_zero, List.set_cons_succ])
  (refine rg_yes 3 ?v2 (by simp only [List.getElem?_toArray, List.getElem?_cons_succ, List.getElem?_cons_zero]; rfl) (by kernel_rfl) (by kernel_rfl) (by kernel_rfl) (by exact fun _ _ _ h => h) (by kernel_rfl) (by assumption) ?y2 ?z2; case y2 => (intro w hSw; (try dsimp only at hSw); go_simp; (try (rw [if_neg (by omega)])); (try with_reducible rfl)))
  (try simp only [Act.put, List.setIfInBounds_toArray, List.set_cons_zero, List.set_cons_succ])
  (refine rg_yes 4 ?v3 (by simp only [List.getElem?_toArray, List.getElem?_cons_succ, List.getElem?_cons_zero]; rfl) (by kernel_rfl) (by kernel_rfl) (by kernel_rfl) (by exact fun _ _ _ h => h) (by kernel_rfl) (by assumption) ?y3 ?z3; case y3 => (intro w hSw; (try dsimp only at hSw); go_simp; (try (rw [if_neg (by omega)])); (try with_reducible rfl)))
  (try simp only [Act.put, List.setIfInBounds_toArray, List.set_cons_zero, List.set_cons_succ])
  refine rg_yes 5 _ (by simp only [List.getElem?_toArray, List.getElem?_cons_succ, List.getElem?_cons_zero]; rfl) (by kernel_rfl) (by kernel_rfl) (by kernel_rfl) (by exact fun _ _ _ h => h) (by kernel_rfl) (by assumption) (by exact fun w' hS => (exec_load_one (v := .int .i64 y) (b := w.heap.size) hS.1 rfl rfl rfl (fun w => by kernel_rfl))) ?_
  (try simp only [Act.put, List.setIfInBounds_toArray, List.set_cons_zero, List.set_cons_succ])
  refine rg_yes 6 _ (by simp only [List.getElem?_toArray, List.getElem?_cons_succ, List.getElem?_cons_zero]; rfl) (by kernel_rfl) (by kernel_rfl) (by kernel_rfl) (by exact fun _ _ _ h => h) (by kernel_rfl) (by assumption) (by exact fun w' hS => (exec_leq_int rfl rfl rfl g2.out)) ?_
  (try simp only [Act.put, List.setIfInBounds_toArray, List.set_cons_zero, List.set_cons_succ])
  (refine rg_yes 7 ?v4 (by simp only [List.getElem?_toArray, List.getElem?_cons_succ, List.getElem?_cons_zero]; rfl) (by kernel_rfl) (by kernel_rfl) (by kernel_rfl) (by exact fun _ _ _ h => h) (by kernel_rfl) (by assumption) ?y4 ?z4; case y4 => (intro w hSw; (try dsimp only at hSw); go_simp; (try (rw [if_neg (by omega)])); (try with_reducible rfl)))
  (try simp only [Act.put, List.setIfInBounds_toArray, List.set_cons_zero, List.set_cons_succ])
  (refine rg_yes 8 ?v5 (by simp only [List.getElem?_toArray, List.getElem?_cons_succ, List.getElem?_cons_zero]; rfl) (by kernel_rfl) (by kernel_rfl) (by kernel_rfl) (by exact fun _ _ _ h => h) (by kernel_rfl) (by assumption) ?y5 ?z5; case y5 => (intro w hSw; (try dsimp only at hSw); go_simp; (try (rw [if_neg (by omega)])); (try with_reducible rfl)))
  (try simp only [Act.put, List.setIfInBounds_toArray, List.set_cons_zero, List.set_cons_succ])
  (refine rg_yes 9 ?v6 (by simp only [List.getElem?_toArray, List.getElem?_cons_succ, List.getElem?_cons_zero]; rfl) (by kernel_rfl) (by kernel_rfl) (by kernel_rfl) (by exact fun _ _ _ h => h) (by kernel_rfl) (by assumption) ?y6 ?z6; case y6 => (intro w hSw; (try dsimp only at hSw); go_simp; (try (rw [if_neg (by omega)])); (try with_reducible rfl)))
  (try simp only [Act.put, List.setIfInBounds_toArray, List.set_cons_zero, List.set_cons_succ])
  refine rg_yes 10 _ (by simp only [List.getElem?_toArray, List.getElem?_cons_succ, List.getElem?_cons_zero]; rfl) (by kernel_rfl) (by kernel_rfl) (by kernel_rfl) (by exact fun _ _ _ h => h) (by kernel_rfl) (by assumption) (by exact fun w' hS => (exec_load_one (v := .int .i64 m) (b := w.heap.size) hS.1 rfl rfl rfl (fun w => by kernel_rfl))) ?_
  (try simp only [Act.put, List.setIfInBounds_toArray, List.set_cons_zero, List.set_cons_succ])
  refine rg_yes 11 _ (by simp only [List.getElem?_toArray, List.getElem?_cons_succ, List.getElem?_cons_zero]; rfl) (by kernel_rfl) (by kernel_rfl) (by kernel_rfl) (by exact fun _ _ _ h => h) (by kernel_rfl) (by assumption) (by exact fun w' hS => (exec_geq_int rfl rfl rfl g3.out)) ?_
  (try simp only [Act.put, List.setIfInBounds_toArray, List.set_cons_zero, List.set_cons_succ])
  (refine rg_yes 12 ?v7 (by simp only [List.getElem?_toArray, List.getElem?_cons_succ, List.getElem?_cons_zero]; rfl) (by kernel_rfl) (by kernel_rfl) (by kernel_rfl) (by exact fun _ _ _ h => h) (by kernel_rfl) (by assumption) ?y7 ?z7; case y7 => (intro w hSw; (try dsimp only at hSw); go_simp; (try (rw [if_neg (by omega)])); (try with_reducible rfl)))
  (try simp only [Act.put, List.setIfInBounds_toArray, List.set_cons_zero, List.set_cons_succ])
  (refine rg_yes 13 ?v8 (by simp only [List.getElem?_toArray, List.getElem?_cons_succ, List.getElem?_cons_zero]; rfl) (by kernel_rfl) (by kernel_rfl) (by kernel_rfl) (by exact fun _ _ _ h => h) (by kernel_rfl) (by assumption) ?y8 ?z8; case y8 => (intro w hSw; (try dsimp only at hSw); go_simp; (try (rw [if_neg (by omega)])); (try with_reducible rfl)))
  (try simp only [Act.put, List.setIfInBounds_toArray, List.set_cons_zero, List.set_cons_succ])
  (refine rg_yes 14 ?v9 (by simp only [List.getElem?_toArray, List.getElem?_cons_succ, List.getElem?_cons_zero]; rfl) (by kernel_rfl) (by kernel_rfl) (by kernel_rfl) (by exact fun _ _ _ h => h) (by kernel_rfl) (by assumption) ?y9 ?z9; case y9 => (intro w hSw; (try dsimp only at hSw); go_simp; (try (rw [if_neg (by omega)])); (try with_reducible rfl)))
  (try simp only [Act.put, List.setIfInBounds_toArray, List.set_cons_zero, List.set_cons_succ])
  refine rg_yes 15 _ (by simp only [List.getElem?_toArray, List.getElem?_cons_succ, List.getElem?_cons_zero]; rfl) (by kernel_rfl) (by kernel_rfl) (by kernel_rfl) (by exact fun _ _ _ h => h) (by kernel_rfl) (by assumption) (by exact fun w' hS => (exec_load_one (v := .int .i64 m) (b := w.heap.size) hS.1 rfl rfl rfl (fun w => by kernel_rfl))) ?_
  (try simp only [Act.put, List.setIfInBounds_toArray, List.set_cons_zero, List.set_cons_succ])
  refine rg_yes 16 _ (by simp only [List.getElem?_toArray, List.getElem?_cons_succ, List.getElem?_cons_zero]; rfl) (by kernel_rfl) (by kernel_rfl) (by kernel_rfl) (by exact fun _ _ _ h => h) (by kernel_rfl) (by assumption) (by exact fun w' hS => (exec_leq_int rfl rfl rfl g4.out)) ?_
  (try simp only [Act.put, List.setIfInBounds_toArray, List.set_cons_zero, List.set_cons_succ])
  (refine rg_yes 17 ?v10 (by simp only [List.getElem?_toArray, List.getElem?_cons_succ, List.getElem?_cons_zero]; rfl) (by kernel_rfl) (by kernel_rfl) (by kernel_rfl) (by exact fun _ _ _ h => h) (by kernel_rfl) (by assumption) ?y10 ?z10; case y10 => (intro w hSw; (try dsimp only at hSw); go_simp; (try (rw [if_neg (by omega)])); (try with_reducible rfl)))
  (try simp only [Act.put, List.setIfInBounds_toArray, List.set_cons_zero, List.set_cons_succ])
  (refine rg_yes 18 ?v11 (by simp only [List.getElem?_toArray, List.getElem?_cons_succ, List.getElem?_cons_zero]; rfl) (by kernel_rfl) (by kernel_rfl) (by kernel_rfl) (by exact fun _ _ _ h => h) (by kernel_rfl) (by assumption) ?y11 ?z11; case y11 => (intro w hSw; (try dsimp only at hSw); go_simp; (try (rw [if_neg (by omega)])); (try with_reducible rfl)))
  (try simp only [Act.put, List.setIfInBounds_toArray, List.set_cons_zero, List.set_cons_succ])
  (refine rg_yes 19 ?v12 (by simp only [List.getElem?_toArray, List.getElem?_cons_succ, List.getElem?_cons_zero]; rfl) (by kernel_rfl) (by kernel_rfl) (by kernel_rfl) (by exact fun _ _ _ h => h) (by kernel_rfl) (by assumption) ?y12 ?z12; case y12 => (intro w hSw; (try dsimp only at hSw); go_simp; (try (rw [if_neg (by omega)])); (try with_reducible rfl)))
  (try simp only [Act.put, List.setIfInBounds_toArray, List.set_cons_zero, List.set_cons_succ])
  refine rg_yes 20 _ (by simp only [List.getElem?_toArray, List.getElem?_cons_succ, List.getElem?_cons_zero]; rfl) (by kernel_rfl) (by kernel_rfl) (by kernel_rfl) (by exact fun _ _ _ h => h) (by kernel_rfl) (by assumption) (by exact fun w' hS => (exec_load_one (v := .int .i64 d) (b := w.heap.size) hS.1 rfl rfl rfl (fun w => by kernel_rfl))) ?_
  (try simp only [Act.put, List.setIfInBounds_toArray, List.set_cons_zero, List.set_cons_succ])
  refine rg_yes 21 _ (by simp only [List.getElem?_toArray, List.getElem?_cons_succ, List.getElem?_cons_zero]; rfl) (by kernel_rfl) (by kernel_rfl) (by kernel_rfl) (by exact fun _ _ _ h => h) (by kernel_rfl) (by assumption) (by exact fun w' hS => (exec_geq_int rfl rfl rfl g5.out)) ?_
  (try simp only [Act.put, List.setIfInBounds_toArray, List.set_cons_zero, List.set_cons_succ])
  (refine rg_yes 22 ?v13 (by simp only [List.getElem?_toArray, List.getElem?_cons_succ, List.getElem?_cons_zero]; rfl) (by kernel_rfl) (by kernel_rfl) (by kernel_rfl) (by exact fun _ _ _ h => h) (by kernel_rfl) (by assumption) ?y13 ?z13; case y13 => (intro w hSw; (try dsimp only at hSw); go_simp; (try (rw [if_neg (by omega)])); (try with_reducible rfl)))
  (try simp only [Act.put, List.setIfInBounds_toArray, List.set_cons_zero, List.set_cons_succ])
  (refine rg_yes 23 ?v14 (by simp only [List.getElem?_toArray, List.getElem?_cons_succ, List.getElem?_cons_zero]; rfl) (by kernel_rfl) (by kernel_rfl) (by kernel_rfl) (by exact fun _ _ _ h => h) (by kernel_rfl) (by assumption) ?y14 ?z14; case y14 => (intro w hSw; (try dsimp only at hSw); go_simp; (try (rw [if_neg (by omega)])); (try with_reducible rfl)))
  (try simp only [Act.put, List.setIfInBounds_toArray, List.set_cons_zero, List.set_cons_succ])
  (refine rg_yes 24 ?v15 (by simp only [List.getElem?_toArray, List.getElem?_cons_succ, List.getElem?_cons_zero]; rfl) (by kernel_rfl) (by kernel_rfl) (by kernel_rfl) (by exact fun _ _ _ h => h) (by kernel_rfl) (by assumption) ?y15 ?z15; case y15 => (intro w hSw; (try dsimp only at hSw); go_simp; (try (rw [if_neg (by omega)])); (try with_reducible rfl)))
  (try simp only [Act.put, List.setIfInBounds_toArray, List.set_cons_zero, List.set_cons_succ])
  refine rg_yes 25 _ (by simp only [List.getElem?_toArray, List.getElem?_cons_succ, List.getElem?_cons_zero]; rfl) (by kernel_rfl) (by kernel_rfl) (by kernel_rfl) (by exact fun _ _ _ h => h) (by kernel_rfl) (by assumption) (by exact fun w' hS => (exec_load_one (v := .int .i64 d) (b := w.heap.size) hS.1 rfl rfl rfl (fun w => by kernel_rfl))) ?_
  (try simp only [Act.put, List.setIfInBounds_toArray, List.set_cons_zero, List.set_cons_succ])
  (refine rg_yes 26 ?v16 (by simp only [List.getElem?_toArray, List.getElem?_cons_succ, List.getElem?_cons_zero]; rfl) (by kernel_rfl) (by kernel_rfl) (by kernel_rfl) (by exact fun _ _ _ h => h) (by kernel_rfl) (by assumption) ?y16 ?z16; case y16 => (intro w hSw; (try dsimp only at hSw); go_simp; (try (rw [if_neg (by omega)])); (try with_reducible rfl)))
  (try simp only [Act.put, List.setIfInBounds_toArray, List.set_cons_zero, List.set_cons_succ])
  refine rg_yes 27 _ (by simp only [List.getElem?_toArray, List.getElem?_cons_succ, List.getElem?_cons_zero]; rfl) (by kernel_rfl) (by kernel_rfl) (by kernel_rfl) (by exact fun _ _ _ h => h) (by kernel_rfl) (by assumption) (by exact fun w' hS => (exec_load_one (v := .int .i64 y) (b := w.heap.size) hS.1 rfl rfl rfl (fun w => by kernel_rfl))) ?_
  (try simp only [Act.put, List.setIfInBounds_toArray, List.set_cons_zero, List.set_cons_succ])
  (refine rg_yes 28 ?v17 (by simp only [List.getElem?_toArray, List.getElem?_cons_succ, List.getElem?_cons_zero]; rfl) (by kernel_rfl) (by kernel_rfl) (by kernel_rfl) (by exact fun _ _ _ h => h) (by kernel_rfl) (by assumption) ?y17 ?z17; case y17 => (intro w hSw; (try dsimp only at hSw); go_simp; (try (rw [if_neg (by omega)])); (try with_reducible rfl)))
  (try simp only [Act.put, List.setIfInBounds_toArray, List.set_cons_zero, List.set_cons_succ])
  refine rg_yes 29 _ (by simp only [List.getElem?_toArray, List.getElem?_cons_succ, List.getElem?_cons_zero]; rfl) (by kernel_rfl) (by kernel_rfl) (by kernel_rfl) (by exact fun _ _ _ h => h) (by kernel_rfl) (by assumption) (by exact fun w' hS => (exec_load_one (v := .int .i64 m) (b := w.heap.size) hS.1 rfl rfl rfl (fun w => by kernel_rfl))) ?_
  (try simp only [Act.put, List.setIfInBounds_toArray, List.set_cons_zero, List.set_cons_succ])
  refine rg_call 30 _ _ (by simp only [List.getElem?_toArray, List.getElem?_cons_succ, List.getElem?_cons_zero]; rfl) (by kernel_rfl) (by kernel_rfl) (fun w => by go_simp; exact ⟨rfl, rfl⟩) ?_
  refine (hM.out _).mono ?_
  rintro e w1 ⟨rfl, rfl⟩
  refine ⟨_, rfl, hHeld, fun hHeld => ?_⟩
  refine rg_yes 31 _ (by simp only [List.getElem?_toArray, List.getElem?_cons_succ, List.getElem?_cons_zero]; rfl) (by kernel_rfl) (by kernel_rfl) (by kernel_rfl) (by exact fun _ _ _ h => h) (by kernel_rfl) (by assumption) (by exact fun w' hS => (exec_leq_int rfl rfl rfl g6.out)) ?_
  (try simp only [Act.put, List.setIfInBounds_toArray, List.set_cons_zero, List.set_cons_succ])
  (refine rg_yes 32 ?v18 (by simp only [List.getElem?_toArray, List.getElem?_cons_succ, List.getElem?_cons_zero]; rfl) (by kernel_rfl) (by kernel_rfl) (by kernel_rfl) (by exact fun _ _ _ h => h) (by kernel_rfl) (by assumption) ?y18 ?z18; case y18 => (intro w hSw; (try dsimp only at hSw); go_simp; (try (rw [if_neg (by omega)])); (try with_reducible rfl)))
  (try simp only [Act.put, List.setIfInBounds_toArray, List.set_cons_zero, List.set_cons_succ])
  (refine rg_yes 33 ?v19 (by simp only [List.getElem?_toArray, List.getElem?_cons_succ, List.getElem?_cons_zero]; rfl) (by kernel_rfl) (by kernel_rfl) (by kernel_rfl) (by exact fun _ _ _ h => h) (by kernel_rfl) (by assumption) ?y19 ?z19; case y19 => (intro w hSw; (try dsimp only at hSw); go_simp; (try (rw [if_neg (by omega)])); (try with_reducible rfl)))
  (try simp only [Act.put, List.setIfInBounds_toArray, List.set_cons_zero, List.set_cons_succ])
  refine wpAnyH_done (by kernel_rfl) ?_ _
  apply HK
  go_wp2_with fail
  go_ret
  exact ⟨rfl, hHeld.2⟩

theorem cells_of_row3 {w : World} {g : Nat} {x y z : Value} {t : TypeId} (h : w.heap[g]? = some (.cells #[x, y, z] t (0, 0))) : w.cell? ⟨g, 0, none⟩ = some x ∧ w.cell? ⟨g, 1, none⟩ = some y ∧ w.cell? ⟨g, 2, none⟩ = some z := by
  refine ⟨?_, ?_, ?_⟩ <;> (simp only [World.cell?, h]; rfl)
set_option maxHeartbeats 2000000 in
theorem refNumber_any (y m d : Int) (w : World) (h1 : 1 ≤ y) (h2 : y ≤ 9999) (h3 : 1 ≤ m) (h4 : m ≤ 12) (h5 : 1 ≤ d) (h6 : d ≤ Cal.mlen y m) : Calls Tryz.prog 92 #[.agg #[.int .i64 y, .int .i64 m, .int .i64 d]] w (fun e w' => e = .returned (.tuple #[.int .i64 (Cal.numOf y m d), .int .i64 0]) ∧ Below w.heap.size w w') := by
  have hR := Lib.hid (fun w => refRight_any y m d w h1 h2 h3 h4 h5 h6)
  have hd31 : d ≤ 31 := by have := Cal.mlen_bd y m h3 h4; omega
  have hrow := heap_alloc_new w (.cells #[.int .i64 y, .int .i64 m, .int .i64 d] 72)
  have HROW := Lib.hid hrow
  clear hrow h6
  go_enter Tryz.func92, Tryz.ntmps92
  go_wp2_with fail
  refine (hR.out _).mono ?_
  rintro e w1 ⟨rfl, hB1⟩
  have hbw : Below w.heap.size w w1 := ((Below.refl _ _).alloc (Nat.le_refl _) _).trans (hB1.mono (by simp))
  have hr1 := rowAt_below HROW.out hB1
  obtain ⟨c0, c1, c2⟩ := cells_of_row3 hr1
  have HR1 := Lib.hid hr1
  have HBW := Lib.hid hbw
  clear hr1 hbw hB1 HROW
  generalize w.heap.size = g at c0 c1 c2 HR1 ⊢
  go_wp2_with fail
  go_loopw [4, 5] (fun t k wr => ∃ c : Int, 1 ≤ c ∧ c ≤ y ∧ k = .int .i64 c ∧ t = .int .i64 (Cal.ys c + d) ∧ Below w1.heap.size w1 wr) (fun _ k _ => (y - intOf k).toNat)
  case atStart => exact ⟨1, by omega, h1, rfl, by rw [show Cal.ys 1 = 0 by decide]; go_num, Below.refl _ _⟩
  case round =>
    obtain ⟨c, hc1, hcy, rfl, rfl, hW⟩ := hrel
    have hr2 := rowAt_below HR1.out hW
    clear c0 c1 c2
    obtain ⟨c0, c1, c2⟩ := cells_of_row3 hr2
    have HR2 := Lib.hid hr2
    clear hr2
    have hys := Cal.ys_succ c hc1
    have hyb : 0 ≤ Cal.ys c ∧ Cal.ys c ≤ 3651695 := by unfold Cal.ys; omega
    have hl := Cal.lpN_01 c
    have hYD := Lib.hid (fun w => refYearDays_any c w (by omega))
    have HYS := Lib.hid hys
    clear hys
    generalize hZ : Cal.ys c = Z at *
    generalize Cal.lpN c = lp at *
    have HZ := Lib.hid hZ
    clear hZ
    by_cases hlt : c < y
    · have hd : decide (c < y) = true := decide_eq_true hlt
      go_wp2_with fail
      refine (hYD.out _).mono ?_
      rintro e w3 ⟨rfl, rfl⟩
      go_wp2_with fail
      have hys := HYS.out
      exact ⟨⟨c + 1, by omega, by omega, by go_num, by rw [hys]; go_num, hW⟩, by simp [intOf]; omega⟩
    · have hd : decide (c < y) = false := decide_eq_false hlt
      obtain rfl : c = y := by omega
      rename_i HK
      go_wp2_with fail
      clear hd hlt hYD HYS
      go_loopw [4, 6] (fun t k wq => ∃ q : Int, 1 ≤ q ∧ q ≤ m ∧ k = .int .i64 q ∧ t = .int .i64 (Z + Cal.cum c q + d) ∧ Below wr.heap.size wr wq) (fun _ k _ => (m - intOf k).toNat)
      case atStart => exact ⟨1, by omega, h3, rfl, by rw [Cal.cum_one]; go_num, Below.refl _ _⟩
      case round =>
        obtain ⟨q, hq1, hqm, rfl, rfl, hV⟩ := hrel
        have hr3 := rowAt_below HR2.out hV
        clear c0 c1 c2
        obtain ⟨c0, c1, c2⟩ := cells_of_row3 hr3
        clear hr3
        have hcs := Cal.cum_succ c q hq1 (by omega)
        have hcb := Cal.cum_bd c q hq1 (by omega)
        have hmb := Cal.mlen_bd c q hq1 (by omega)
        have hMD := Lib.hid (fun w => refMonthDays_any c q w (by omega) hq1 (by omega))
        have HCS := Lib.hid hcs
        clear hcs
        generalize hC : Cal.cum c q = C at *
        generalize Cal.mlen c q = L at *
        have HC := Lib.hid hC
        clear hC
        by_cases hlt : q < m
        · have hd : decide (q < m) = true := decide_eq_true hlt
          go_wp2_with fail
          refine (hMD.out _).mono ?_
          rintro e w3 ⟨rfl, rfl⟩
          go_wp2_with fail
          have hcs := HCS.out
          exact ⟨⟨q + 1, by omega, by omega, by go_num, by rw [hcs]; go_num, hV⟩, by simp [intOf]; omega⟩
        · have hd : decide (q < m) = false := decide_eq_false hlt
          go_wp2_with fail
          go_ret2
          refine ⟨?_, HBW.out.trans ((hW.trans (hV.mono hW.size)).mono HBW.out.size)⟩
          obtain rfl : q = m := by omega
          have e1 : Cal.numOf c q d = Z + C + d := by unfold Cal.numOf; rw [HZ.out, HC.out]
          rw [e1]
          rfl
/-- of a date that is right: months ahead, or there is none -/
def BackP (y m d k : Int) (w : World) (e : Ending) (w' : World) : Prop := e = .returned (.int .i64 (if Cal.mon y m - k < 12 then 0 else Cal.onM (Cal.mon y m - k) d)) ∧ Below w.heap.size w w'
end Go.Proofs.YtmepjcnpbjdlkaaGreatDoor
