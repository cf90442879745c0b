/- The calendar of business days: by contract. -/
import Derived.Test.YtkhhkbigpaoinaaRawM
import Derived.Test.YtkhhkbigpaoinaaRowE
import Derived.Test.YtkhhkbigpaoinaaRegK
import Derived.Test.YtkhhkbigpaoinaaArr
namespace Go.Proofs.Ytkhhkbigpaoinaa
set_option linter.unusedVariables false
set_option linter.unusedSimpArgs false
open Go.RowKit Go.Maps
attribute [local irreducible] Go.wpStill

def dayB (n : Int) : Bool := decide (1 ≤ n) && decide (n ≤ 3652059)
theorem isDay_any (n : Int) (w : World) : Calls Try.prog 30 #[.int .i64 n] w fun e w' => e = .returned (.bool (dayB n)) ∧ w = w' := by
  unfold dayB
  cases h1 : decide (1 ≤ n) <;> cases h2 : decide (n ≤ 3652059)
  all_goals
    go_enter Try.func30, Try.ntmps30
    go_wp2_with fail
    go_ret
    exact ⟨rfl, rfl⟩
theorem is03_any (n : Int) (w : World) : Calls Try.prog 22 #[.int .i64 n] w fun e w' => e = .returned (.bool (dayB n)) ∧ w = w' := by
  unfold dayB
  cases h1 : decide (1 ≤ n) <;> cases h2 : decide (n ≤ 3652059)
  all_goals
    go_enter Try.func22, Try.ntmps22
    go_wp2_with fail
    go_ret
    exact ⟨rfl, rfl⟩
/-- the day of the week -/
def wd (n : Int) : Nat := ((n + 6) % 7).toNat
theorem dayB_lt {n : Int} (h : dayB n = true) : 1 ≤ n ∧ n ≤ 3652059 := by simpa [dayB] using h
theorem wd_lt (n : Int) : wd n < 7 := by unfold wd; omega
theorem weekday_any (n : Int) (w : World) (h : dayB n = true) : Calls Try.prog 31 #[.int .i64 n] w fun e w' => e = .returned (.int .i64 (wd n)) ∧ w = w' := by
  have hb := dayB_lt h
  have hw : ((wd n : Nat) : Int) = (n + 6) % 7 := by unfold wd; omega
  have HW := Lib.hid hw
  have h1 : IntKind.i64.wrap (n + 6) = n + 6 := IntWalk.i64_in _ (by omega)
  clear h hw
  go_enter Try.func31, Try.ntmps31
  go_wp2_with fail
  go_ret
  exact ⟨by rw [HW.out]; rfl, rfl⟩
theorem noDay_any (w : World) : Calls Try.prog 33 #[] w (fun e w' => ∃ t x, e = .returned (.iface t x) ∧ w = w') := by
  go_enter Try.func33, Try.ntmps33
  go_wp2_with fail
  go_ret
  exact ⟨_, _, rfl, rfl⟩
/-- nil, or not -/
def ErrB (v : Value) (b : Bool) : Prop := (b = true ∧ v = .nilIface) ∨ (b = false ∧ ∃ t x, v = .iface t x)
theorem weekdayP_any (n : Int) (w : World) : Calls Try.prog 21 #[.int .i64 n] w fun e w' => ∃ (k : Int) (v : Value), e = .returned (.tuple #[.int .i64 k, v]) ∧ ErrB v (dayB n) ∧ w = w' := by
  have hi := isDay_any n
  cases hd : dayB n with
  | false =>
    rw [hd] at hi
    have HI := Lib.hid hi
    clear hi hd
    go_enter Try.func21, Try.ntmps21
    go_wp2_with fail
    refine (HI.out _).mono ?_
    rintro e w1 ⟨rfl, rfl⟩
    go_wp2_with fail
    refine (noDay_any _).mono ?_
    rintro e w1 ⟨t, x, rfl, rfl⟩
    go_wp2_with fail
    go_ret2
    exact ⟨_, _, rfl, .inr ⟨rfl, t, x, rfl⟩, rfl⟩
  | true =>
    have HW := Lib.hid (fun w => weekday_any n w hd)
    rw [hd] at hi
    have HI := Lib.hid hi
    clear hi hd
    go_enter Try.func21, Try.ntmps21
    go_wp2_with fail
    refine (HI.out _).mono ?_
    rintro e w1 ⟨rfl, rfl⟩
    go_wp2_with fail
    refine (HW.out _).mono ?_
    rintro e w1 ⟨rfl, rfl⟩
    go_wp2_with fail
    go_ret2
    exact ⟨_, _, rfl, .inl ⟨rfl, rfl⟩, rfl⟩
noncomputable def keyD : KeyK Try.prog 3 Int := keyInt Try.underlying3
def freeF (fs : List Int) : Int → Option Value := fun x => if x ∈ fs then some (.agg #[]) else none
/-- a calendar in memory: its weekend's seven Bools and the map of its free days -/
def CalR (w : World) (cb : Nat) (we : List Bool) (fs : List Int) : Prop := we.length = 7 ∧ ∃ mb n, n ≤ fs.length ∧ w.heap[cb]? = some (.cells (we.map Value.bool ++ [Value.map (some mb)]).toArray 79 (0, 0)) ∧ MapAt keyD w mb n (freeF fs)
theorem CalR.blocks {w w' : World} {cb : Nat} {we : List Bool} {fs : List Int} (h : CalR w cb we fs) (hk : ∀ k, k < w.heap.size → w'.heap[k]? = w.heap[k]?) : CalR w' cb we fs := by
  obtain ⟨h0, mb, n, h1, h2, h3⟩ := h
  exact ⟨h0, mb, n, h1, (hk _ (lt_of_block h2)).trans h2, h3.block keyD (hk _ (h3.lt keyD))⟩
theorem CalR.below {w w' : World} {cb : Nat} {we : List Bool} {fs : List Int} (h : CalR w cb we fs) (hb : Below w.heap.size w w') : CalR w' cb we fs := h.blocks hb.block
def busy (we : List Bool) (fs : List Int) (n : Int) : Bool := dayB n && !(we.getD (wd n) false) && !decide (n ∈ fs)
theorem freeF_snoc (fs : List Int) (x : Int) : updM (freeF fs) x (some (.agg #[])) = freeF (fs ++ [x]) := by
  funext k
  unfold updM freeF
  by_cases h : k = x
  · subst h; simp
  · simp [h]
theorem zeroE (w : World) : (zeroValue 80).run Try.prog w = .ok (.agg #[]) w := by kernel_rfl
theorem wf_day {n : Int} (h : dayB n = true) : (Lit.int .i64 n).wf = true := by
  have := dayB_lt h
  simp [Lit.wf, IntKind.min, IntKind.max, IntKind.signed, IntKind.bits]
  omega
def busyR (b : Bool) (w : World) (e : Ending) (w' : World) : Prop := e = .returned (.bool b) ∧ Below w.heap.size w w'
set_option maxRecDepth 100000 in
set_option maxHeartbeats 2000000 in
theorem business_any (cb : Nat) (we : List Bool) (fs : List Int) (n : Int) (w : World) (h : CalR w cb we fs) : Calls Try.prog 15 #[.pointer (some ⟨cb, 0, none⟩), .int .i64 n] w (busyR (busy we fs n) w) := by
  obtain ⟨hl, mb, nn, hnn, hb, hm⟩ := h
  have hi := isDay_any n
  cases hd : dayB n with
  | false =>
    rw [show busy we fs n = false by simp [busy, hd]]
    rw [hd] at hi
    have HI := Lib.hid hi
    clear hi hd
    go_enter Try.func15, Try.ntmps15
    go_wp2_with fail
    rename_i HK
    refine wp_region_held_drew (S := fun w' => Below w.heap.size w w') (by kernel_rfl) (Below.refl _ _).drew (fun hHeld => ?_)
    (refine rg_yes 0 ?v1 (by simp only [List.getElem?_toArray, List.getElem?_cons_succ, List.getElem?_cons_zero]; rfl) (by kernel_rfl) (by kernel_rfl) (by kernel_rfl) (by exact fun _ _ _ h => h) (by kernel_rfl) (by assumption) ?y1 ?z1; case y1 => (intro w hSw; (try dsimp only at hSw); go_simp; (try (rw [if_neg (by omega)])); (try (rw [if_pos (by omega)])); (try with_reducible rfl)))
    (try simp only [Act.put, List.setIfInBounds_toArray, List.set_cons_zero, List.set_cons_succ])
    refine rg_call 1 _ _ (by simp only [List.getElem?_toArray, List.getElem?_cons_succ, List.getElem?_cons_zero]; rfl) (by kernel_rfl) (by kernel_rfl) (fun w => by go_simp; exact ⟨rfl, rfl⟩) ?_
    refine (HI.out _).mono ?_
    rintro e w5 ⟨rfl, rfl⟩
    refine ⟨_, rfl, hHeld, fun hHeld => ?_⟩
    (refine rg_yes 2 ?v2 (by simp only [List.getElem?_toArray, List.getElem?_cons_succ, List.getElem?_cons_zero]; rfl) (by kernel_rfl) (by kernel_rfl) (by kernel_rfl) (by exact fun _ _ _ h => h) (by kernel_rfl) (by assumption) ?y2 ?z2; case y2 => (intro w hSw; (try dsimp only at hSw); go_simp; (try (rw [if_neg (by omega)])); (try (rw [if_pos (by omega)])); (try with_reducible rfl)))
    (try simp only [Act.put, List.setIfInBounds_toArray, List.set_cons_zero, List.set_cons_succ])
    (refine rg_yes 3 ?v3 (by simp only [List.getElem?_toArray, List.getElem?_cons_succ, List.getElem?_cons_zero]; rfl) (by kernel_rfl) (by kernel_rfl) (by kernel_rfl) (by exact fun _ _ _ h => h) (by kernel_rfl) (by assumption) ?y3 ?z3; case y3 => (intro w hSw; (try dsimp only at hSw); go_simp; (try (rw [if_neg (by omega)])); (try (rw [if_pos (by omega)])); (try with_reducible rfl)))
    (try simp only [Act.put, List.setIfInBounds_toArray, List.set_cons_zero, List.set_cons_succ])
    (refine rg_no 4 (by simp only [List.getElem?_toArray, List.getElem?_cons_succ, List.getElem?_cons_zero]; rfl) (by kernel_rfl) (by kernel_rfl) (by kernel_rfl) (by exact fun _ _ _ h => h) (by kernel_rfl) (by assumption) ?_)
    (try simp only [Act.put, List.setIfInBounds_toArray, List.set_cons_zero, List.set_cons_succ])
    (refine rg_no 5 (by simp only [List.getElem?_toArray, List.getElem?_cons_succ, List.getElem?_cons_zero]; rfl) (by kernel_rfl) (by kernel_rfl) (by kernel_rfl) (by exact fun _ _ _ h => h) (by kernel_rfl) (by assumption) ?_)
    (try simp only [Act.put, List.setIfInBounds_toArray, List.set_cons_zero, List.set_cons_succ])
    (refine rg_no 6 (by simp only [List.getElem?_toArray, List.getElem?_cons_succ, List.getElem?_cons_zero]; rfl) (by kernel_rfl) (by kernel_rfl) (by kernel_rfl) (by exact fun _ _ _ h => h) (by kernel_rfl) (by assumption) ?_)
    (try simp only [Act.put, List.setIfInBounds_toArray, List.set_cons_zero, List.set_cons_succ])
    (refine rg_no 7 (by simp only [List.getElem?_toArray, List.getElem?_cons_succ, List.getElem?_cons_zero]; rfl) (by kernel_rfl) (by kernel_rfl) (by kernel_rfl) (by exact fun _ _ _ h => h) (by kernel_rfl) (by assumption) ?_)
    (try simp only [Act.put, List.setIfInBounds_toArray, List.set_cons_zero, List.set_cons_succ])
    (refine rg_no 8 (by simp only [List.getElem?_toArray, List.getElem?_cons_succ, List.getElem?_cons_zero]; rfl) (by kernel_rfl) (by kernel_rfl) (by kernel_rfl) (by exact fun _ _ _ h => h) (by kernel_rfl) (by assumption) ?_)
    (try simp only [Act.put, List.setIfInBounds_toArray, List.set_cons_zero, List.set_cons_succ])
    (refine rg_no 9 (by simp only [List.getElem?_toArray, List.getElem?_cons_succ, List.getElem?_cons_zero]; rfl) (by kernel_rfl) (by kernel_rfl) (by kernel_rfl) (by exact fun _ _ _ h => h) (by kernel_rfl) (by assumption) ?_)
    (try simp only [Act.put, List.setIfInBounds_toArray, List.set_cons_zero, List.set_cons_succ])
    (refine rg_no 10 (by simp only [List.getElem?_toArray, List.getElem?_cons_succ, List.getElem?_cons_zero]; rfl) (by kernel_rfl) (by kernel_rfl) (by kernel_rfl) (by exact fun _ _ _ h => h) (by kernel_rfl) (by assumption) ?_)
    (try simp only [Act.put, List.setIfInBounds_toArray, List.set_cons_zero, List.set_cons_succ])
    (refine rg_yes 11 ?v11 (by simp only [List.getElem?_toArray, List.getElem?_cons_succ, List.getElem?_cons_zero]; rfl) (by kernel_rfl) (by kernel_rfl) (by kernel_rfl) (by exact fun _ _ _ h => h) (by kernel_rfl) (by assumption) ?y11 ?z11; case y11 => (intro w hSw; (try dsimp only at hSw); go_simp; (try (rw [if_neg (by omega)])); (try (rw [if_pos (by omega)])); (try with_reducible rfl)))
    (try simp only [Act.put, List.setIfInBounds_toArray, List.set_cons_zero, List.set_cons_succ])
    refine wpAnyH_done (by kernel_rfl) ?_ _
    apply HK
    have HH := Lib.hid hHeld
    clear hHeld HK
    go_wp2_with fail
    go_ret
    exact ⟨rfl, HH.out⟩
  | true =>
    have HW := Lib.hid (fun w => weekday_any n w hd)
    have HG := Lib.hid (show keyD.good n from wf_day hd)
    rw [hd] at hi
    have HI := Lib.hid hi
    have hwl := wd_lt n
    have hcell : ∀ wz : World, Below w.heap.size w wz → wz.cell? ⟨cb, wd n, none⟩ = some (.bool (we.getD (wd n) false)) := fun wz hz => by
      rw [cell_of_row _ _ _ _ _ _ ((hz.block _ (lt_of_block hb)).trans hb), List.getElem?_toArray, List.getElem?_append_left (by simp [hl]; exact hwl), List.getElem?_map, List.getElem?_eq_getElem (show wd n < we.length by omega), List.getD_eq_getElem?_getD, List.getElem?_eq_getElem (show wd n < we.length by omega)]
      rfl
    have hcell7 : ∀ wz : World, Below w.heap.size w wz → wz.cell? ⟨cb, 7, none⟩ = some (.map (some mb)) := fun wz hz => by
      rw [cell_of_row _ _ _ _ _ _ ((hz.block _ (lt_of_block hb)).trans hb)]
      simp [hl]
    have HC := Lib.hid hcell
    have HC7 := Lib.hid hcell7
    have HM := Lib.hid (fun (wz : World) (hz : Below w.heap.size w wz) => hm.block keyD (hz.block _ (hm.lt keyD)))
    have hbz : busy we fs n = (!(we.getD (wd n) false) && !decide (n ∈ fs)) := by simp [busy, hd]
    have HBZ := Lib.hid hbz
    clear hi hd hcell hcell7 hm hb hbz
    generalize we.getD (wd n) false = bw at *
    generalize busy we fs n = r at *
    generalize wd n = j at *
    go_enter Try.func15, Try.ntmps15
    go_wp2_with fail
    rename_i HK
    refine wp_region_held_drew (S := fun w' => Below w.heap.size w w') (by kernel_rfl) (Below.refl _ _).drew (fun hHeld => ?_)
    (refine rg_yes 0 ?v12 (by simp only [List.getElem?_toArray, List.getElem?_cons_succ, List.getElem?_cons_zero]; rfl) (by kernel_rfl) (by kernel_rfl) (by kernel_rfl) (by exact fun _ _ _ h => h) (by kernel_rfl) (by assumption) ?y12 ?z12; case y12 => (intro w hSw; (try dsimp only at hSw); go_simp; (try (rw [if_neg (by omega)])); (try (rw [if_pos (by omega)])); (try with_reducible rfl)))
    (try simp only [Act.put, List.setIfInBounds_toArray, List.set_cons_zero, List.set_cons_succ])
    refine rg_call 1 _ _ (by simp only [List.getElem?_toArray, List.getElem?_cons_succ, List.getElem?_cons_zero]; rfl) (by kernel_rfl) (by kernel_rfl) (fun w => by go_simp; exact ⟨rfl, rfl⟩) ?_
    refine (HI.out _).mono ?_
    rintro e w5 ⟨rfl, rfl⟩
    refine ⟨_, rfl, hHeld, fun hHeld => ?_⟩
    (refine rg_yes 2 ?v13 (by simp only [List.getElem?_toArray, List.getElem?_cons_succ, List.getElem?_cons_zero]; rfl) (by kernel_rfl) (by kernel_rfl) (by kernel_rfl) (by exact fun _ _ _ h => h) (by kernel_rfl) (by assumption) ?y13 ?z13; case y13 => (intro w hSw; (try dsimp only at hSw); go_simp; (try (rw [if_neg (by omega)])); (try (rw [if_pos (by omega)])); (try with_reducible rfl)))
    (try simp only [Act.put, List.setIfInBounds_toArray, List.set_cons_zero, List.set_cons_succ])
    (refine rg_yes 3 ?v14 (by simp only [List.getElem?_toArray, List.getElem?_cons_succ, List.getElem?_cons_zero]; rfl) (by kernel_rfl) (by kernel_rfl) (by kernel_rfl) (by exact fun _ _ _ h => h) (by kernel_rfl) (by assumption) ?y14 ?z14; case y14 => (intro w hSw; (try dsimp only at hSw); go_simp; (try (rw [if_neg (by omega)])); (try (rw [if_pos (by omega)])); (try with_reducible rfl)))
    (try simp only [Act.put, List.setIfInBounds_toArray, List.set_cons_zero, List.set_cons_succ])
    (refine rg_yes 4 ?v15 (by simp only [List.getElem?_toArray, List.getElem?_cons_succ, List.getElem?_cons_zero]; rfl) (by kernel_rfl) (by kernel_rfl) (by kernel_rfl) (by exact fun _ _ _ h => h) (by kernel_rfl) (by assumption) ?y15 ?z15; case y15 => (intro w hSw; (try dsimp only at hSw); go_simp; (try (rw [if_neg (by omega)])); (try (rw [if_pos (by omega)])); (try with_reducible rfl)))
    (try simp only [Act.put, List.setIfInBounds_toArray, List.set_cons_zero, List.set_cons_succ])
    (refine rg_yes 5 ?v16 (by simp only [List.getElem?_toArray, List.getElem?_cons_succ, List.getElem?_cons_zero]; rfl) (by kernel_rfl) (by kernel_rfl) (by kernel_rfl) (by exact fun _ _ _ h => h) (by kernel_rfl) (by assumption) ?y16 ?z16; case y16 => (intro w hSw; (try dsimp only at hSw); go_simp; (try (rw [if_neg (by omega)])); (try (rw [if_pos (by omega)])); (try with_reducible rfl)))
    (try simp only [Act.put, List.setIfInBounds_toArray, List.set_cons_zero, List.set_cons_succ])
    (refine rg_yes 7 ?v17 (by simp only [List.getElem?_toArray, List.getElem?_cons_succ, List.getElem?_cons_zero]; rfl) (by kernel_rfl) (by kernel_rfl) (by kernel_rfl) (by exact fun _ _ _ h => h) (by kernel_rfl) (by assumption) ?y17 ?z17; case y17 => (intro w hSw; (try dsimp only at hSw); go_simp; (try (rw [if_neg (by omega)])); (try (rw [if_pos (by omega)])); (try with_reducible rfl)))
    (try simp only [Act.put, List.setIfInBounds_toArray, List.set_cons_zero, List.set_cons_succ])
    (refine rg_yes 8 ?v18 (by simp only [List.getElem?_toArray, List.getElem?_cons_succ, List.getElem?_cons_zero]; rfl) (by kernel_rfl) (by kernel_rfl) (by kernel_rfl) (by exact fun _ _ _ h => h) (by kernel_rfl) (by assumption) ?y18 ?z18; case y18 => (intro w hSw; (try dsimp only at hSw); go_simp; (try (rw [if_neg (by omega)])); (try (rw [if_pos (by omega)])); (try with_reducible rfl)))
    (try simp only [Act.put, List.setIfInBounds_toArray, List.set_cons_zero, List.set_cons_succ])
    refine rg_call 6 _ _ (by simp only [List.getElem?_toArray, List.getElem?_cons_succ, List.getElem?_cons_zero]; rfl) (by kernel_rfl) (by kernel_rfl) (fun w => by go_simp; exact ⟨rfl, rfl⟩) ?_
    refine (HW.out _).mono ?_
    rintro e w5 ⟨rfl, rfl⟩
    refine ⟨_, rfl, hHeld, fun hHeld => ?_⟩
    (refine rg_yes 9 ?v19 (by simp only [List.getElem?_toArray, List.getElem?_cons_succ, List.getElem?_cons_zero]; rfl) (by kernel_rfl) (by kernel_rfl) (by kernel_rfl) (by exact fun _ _ _ h => h) (by kernel_rfl) (by assumption) ?y19 ?z19; case y19 => (intro w hSw; (try dsimp only at hSw); go_simp; (try (rw [if_neg (by omega)])); (try (rw [if_pos (by omega)])); (try with_reducible rfl)))
    (try simp only [Act.put, List.setIfInBounds_toArray, List.set_cons_zero, List.set_cons_succ])
    refine rg_yes 10 _ (by simp only [List.getElem?_toArray, List.getElem?_cons_succ, List.getElem?_cons_zero]; rfl) (by kernel_rfl) (by kernel_rfl) (by kernel_rfl) (by exact fun _ _ _ h => h) (by kernel_rfl) (by assumption) (by exact fun w' hS => (exec_load_at (HC.out _ hS) rfl rfl (fun w => by kernel_rfl))) ?_
    (try simp only [Act.put, List.setIfInBounds_toArray, List.set_cons_zero, List.set_cons_succ])
    (refine rg_yes 11 ?v20 (by simp only [List.getElem?_toArray, List.getElem?_cons_succ, List.getElem?_cons_zero]; rfl) (by kernel_rfl) (by kernel_rfl) (by kernel_rfl) (by exact fun _ _ _ h => h) (by kernel_rfl) (by assumption) ?y20 ?z20; case y20 => (intro w hSw; (try dsimp only at hSw); go_simp; (try (rw [if_neg (by omega)])); (try (rw [if_pos (by omega)])); (try with_reducible rfl)))
    (try simp only [Act.put, List.setIfInBounds_toArray, List.set_cons_zero, List.set_cons_succ])
    refine wpAnyH_done (by kernel_rfl) ?_ _
    apply HK
    have HH := Lib.hid hHeld
    clear hHeld HK
    cases bw with
    | true =>
      have HR := Lib.hid (show r = false by rw [HBZ.out]; rfl)
      go_wp2_with fail
      go_ret
      exact ⟨by rw [HR.out]; rfl, HH.out⟩
    | false =>
      have c7 := HC7.out _ HH.out
      by_cases hin : n ∈ fs
      · have HR := Lib.hid (show r = false by rw [HBZ.out]; simp [hin])
        have HV := Lib.hid (show freeF fs n = some (.agg #[]) from if_pos hin)
        clear hin
        go_wp2_with (refine wpList_look_ok keyD rfl _ _ 77 rfl 80 Try.underlying77 (zeroE _) rfl (HM.out _ HH.out) n HG.out rfl _ HV.out ?_)
        go_ret
        exact ⟨by rw [HR.out]; rfl, HH.out.alloc HH.out.size _⟩
      · have HR := Lib.hid (show r = true by rw [HBZ.out]; simp [hin])
        have HV := Lib.hid (show freeF fs n = none from if_neg hin)
        clear hin
        go_wp2_with (refine wpList_look_ok keyD rfl _ _ 77 rfl 80 Try.underlying77 (zeroE _) rfl (HM.out _ HH.out) n HG.out rfl _ HV.out ?_)
        go_ret
        exact ⟨by rw [HR.out]; rfl, HH.out.alloc HH.out.size _⟩
end Go.Proofs.Ytkhhkbigpaoinaa
