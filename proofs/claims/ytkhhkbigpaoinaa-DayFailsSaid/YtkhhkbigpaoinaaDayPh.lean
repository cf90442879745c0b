/- A day's phase and date: by contract. -/
import Derived.Test.YtkhhkbigpaoinaaDayR
namespace Go.Proofs.Ytkhhkbigpaoinaa
set_option linter.unusedVariables false
set_option linter.unusedSimpArgs false
open Go.RowKit Go.Maps
attribute [local irreducible] Go.wpStill

/-- how many of the first i hours are not behind a minute -/
def phaseN (hs : List Int) (m : Int) : Nat → Int
  | 0 => 0
  | i + 1 => phaseN hs m i + if hourAt hs i ≤ m then 1 else 0
def phaseM (hs : List Int) (m : Int) : Int := if m < 0 ∨ 1440 ≤ m then 0 else phaseN hs m 6
theorem phaseN_le (hs : List Int) (m : Int) : ∀ i : Nat, 0 ≤ phaseN hs m i ∧ phaseN hs m i ≤ i
  | 0 => by simp [phaseN]
  | i + 1 => by have := phaseN_le hs m i; unfold phaseN; split <;> omega
theorem DayR.hours {w : World} {B db cnt : Nat} {p : PlanV} {today : Int} {es : Int → Option EntV} (h : DayR w B db p today cnt es) : w.rangeAt db 8 (p.hs.map (Value.int IntKind.i64)) := by
  obtain ⟨cb, mc, mb, hb, _⟩ := h.parts
  have h7 := h.we
  have h6 := h.hs
  intro j v hj
  rw [cell_of_row _ _ _ _ _ _ hb]
  obtain ⟨we, fs, fv, hs, keep, rate⟩ := p
  match we, h7, hs, h6 with
  | [b0, b1, b2, b3, b4, b5, b6], _, [h0, h1, h2, h3, h4, h5], _ =>
    rcases j with _ | _ | _ | _ | _ | _ | j
    · exact hj
    · exact hj
    · exact hj
    · exact hj
    · exact hj
    · exact hj
    · simp at hj
theorem DayR.today {w : World} {B db cnt : Nat} {p : PlanV} {today : Int} {es : Int → Option EntV} (h : DayR w B db p today cnt es) : w.cell? ⟨db, 17, none⟩ = some (.int .i64 today) := by
  obtain ⟨cb, mc, mb, hb, _⟩ := h.parts
  have h7 := h.we
  have h6 := h.hs
  rw [cell_of_row _ _ _ _ _ _ hb]
  obtain ⟨we, fs, fv, hs, keep, rate⟩ := p
  match we, h7, hs, h6 with
  | [b0, b1, b2, b3, b4, b5, b6], _, [h0, h1, h2, h3, h4, h5], _ => rfl
theorem DayR.lt {w : World} {B db cnt : Nat} {p : PlanV} {today : Int} {es : Int → Option EntV} (h : DayR w B db p today cnt es) : db < w.heap.size := by
  obtain ⟨cb, mc, mb, hb, _⟩ := h.parts
  exact lt_of_block hb
set_option maxRecDepth 100000 in
set_option maxHeartbeats 4000000 in
theorem phase_any {B db cnt : Nat} {p : PlanV} {today : Int} {es : Int → Option EntV} (m : Int) (w : World) (h : DayR w B db p today cnt es) :
    Calls Try.prog 9 #[.pointer (some ⟨db, 0, none⟩), .int .i64 m] w fun e w' => e = .returned (.int .i64 (phaseM p.hs m)) ∧ w = w' := by
  have HRNG := Lib.hid h.hours
  have h6 := h.hs
  have HIXS := Lib.hid (fun (i : Nat) (hi : i < 6) => show (p.hs.map (Value.int IntKind.i64)).toArray[i]? = some (.int .i64 (hourAt p.hs i)) by
    rw [List.getElem?_toArray, List.getElem?_map, List.getElem?_eq_getElem (show i < p.hs.length by omega)]
    unfold hourAt
    rw [List.getD_eq_getElem?_getD, List.getElem?_eq_getElem (show i < p.hs.length by omega)]
    rfl)
  have hsz : (Try.prog.info? 24).map (·.size) = some (p.hs.map (Value.int IntKind.i64)).length := by rw [List.length_map, h6]; kernel_rfl
  clear h h6
  by_cases h0 : m < 0
  · have d0 : decide (m < 0) = true := decide_eq_true h0
    have HP := Lib.hid (show phaseM p.hs m = 0 from if_pos (.inl h0))
    clear h0
    go_enter Try.func9, Try.ntmps9
    go_wp2_with fail
    go_ret
    exact ⟨by rw [HP.out]; rfl, rfl⟩
  · have d0 : decide (m < 0) = false := decide_eq_false h0
    by_cases h1 : 1440 ≤ m
    · have d1 : decide (1440 ≤ m) = true := decide_eq_true h1
      have HP := Lib.hid (show phaseM p.hs m = 0 from if_pos (.inr h1))
      clear h0 h1
      go_enter Try.func9, Try.ntmps9
      go_wp2_with fail
      go_ret
      exact ⟨by rw [HP.out]; rfl, rfl⟩
    · have d1 : decide (1440 ≤ m) = false := decide_eq_false h1
      have HP := Lib.hid (show phaseM p.hs m = phaseN p.hs m 6 from if_neg (fun e => by omega))
      clear h0 h1
      generalize hA : (p.hs.map (Value.int IntKind.i64)) = l at *
      clear hA
      go_enter Try.func9, Try.ntmps9
      go_wp2_with (refine wpList_val (.agg l.toArray) (by kernel_rfl) (exec_load_mid (T := 24) HRNG.out rfl rfl Try.underlying24 rfl hsz) ?_)
      go_loopw [5, 19] (fun kv iv wr => ∃ i : Nat, i ≤ 6 ∧ iv = .int .i64 i ∧ kv = .int .i64 (phaseN p.hs m i) ∧ wr = w) (fun _ iv _ => 6 - (intOf iv).toNat)
      case atStart => exact ⟨0, by omega, rfl, rfl, rfl⟩
      case round =>
        obtain ⟨i, hi, rfl, rfl, rfl⟩ := hrel
        by_cases hlt : i < 6
        · have hdl : decide ((i : Int) < 6) = true := decide_eq_true (by omega)
          have HIX := Lib.hid (HIXS.out i hlt)
          have HN := Lib.hid (show phaseN p.hs m (i + 1) = phaseN p.hs m i + if hourAt p.hs i ≤ m then 1 else 0 from rfl)
          have hpl := phaseN_le p.hs m i
          generalize phaseN p.hs m i = k at *
          generalize hourAt p.hs i = hv at *
          by_cases hc : hv ≤ m
          · have dc : decide (hv ≤ m) = true := decide_eq_true hc
            have HN2 := Lib.hid (HN.out.trans (by rw [if_pos hc]))
            have hw1 : IntKind.i64.wrap (k + 1) = k + 1 := IntWalk.i64_in _ (by omega)
            clear hc
            go_wp2_with (refine wpList_val (.int .i64 hv) (by kernel_rfl) (exec_index6 HIX.out hlt rfl rfl rfl) ?_)
            exact ⟨⟨i + 1, by omega, by go_num, by rw [HN2.out], by first | rfl | trivial⟩, by simp [intOf]; omega⟩
          · have dc : decide (hv ≤ m) = false := decide_eq_false hc
            have HN2 := Lib.hid (HN.out.trans (by rw [if_neg hc]))
            clear hc
            go_wp2_with (refine wpList_val (.int .i64 hv) (by kernel_rfl) (exec_index6 HIX.out hlt rfl rfl rfl) ?_)
            exact ⟨⟨i + 1, by omega, by go_num, by rw [HN2.out, Int.add_zero], by first | rfl | trivial⟩, by simp [intOf]; omega⟩
        · have hie : i = 6 := by omega
          have hdl : decide ((i : Int) < 6) = false := decide_eq_false (by omega)
          subst hie
          generalize hk : phaseN p.hs m 6 = k at *
          have HK := Lib.hid hk
          clear hk
          go_wp2_with fail
          go_ret
          exact ⟨by rw [HP.out]; rfl, rfl⟩
theorem today_any {B db cnt : Nat} {p : PlanV} {today : Int} {es : Int → Option EntV} (w : World) (h : DayR w B db p today cnt es) :
    Calls Try.prog 13 #[.pointer (some ⟨db, 0, none⟩)] w fun e w' => e = .returned (.int .i64 today) ∧ w = w' := by
  have c17 := h.today
  clear h
  go_enter Try.func13, Try.ntmps13
  go_wp2_with fail
  go_ret
  exact ⟨rfl, rfl⟩
end Go.Proofs.Ytkhhkbigpaoinaa
