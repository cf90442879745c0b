/- works(): the closed run of a day: by contract. -/
import Derived.Test.YtkhhkbigpaoinaaDayWorks
namespace Go.Proofs.Ytkhhkbigpaoinaa
set_option linter.unusedVariables false
set_option linter.unusedSimpArgs false
open Go.RowKit Go.Maps
attribute [local irreducible] Go.wpStill

abbrev PC0 : Array Value := #[.bool false, .bool false, .bool false, .bool false, .bool false, .bool true, .bool true, .slice none 0 0, .int .i64 420, .int .i64 480, .int .i64 1140, .int .i64 1200, .int .i64 1260, .int .i64 1320, .int .i64 2, .int .i64 10000]
theorem pc0 : plan0.cells = PC0 := rfl
set_option maxRecDepth 100000 in
set_option maxHeartbeats 8000000 in
theorem works_any (w : World) : Calls Try.prog 8 #[] w fun e w' => e = .returned (.bool true) ∧ Below w.heap.size w w' := by
  go_enter Try.func8, Try.ntmps8
  go_wp2_with fail
  refine (plan_any w).mono ?_
  rintro e w1 ⟨rfl, hb1⟩
  have hnew := dayNew_any plan0 738890 (w1.alloc (.cells PC0 26)) ⟨rfl, rfl, ReadsE.nil _, by simp [plan0], by simp [plan0]⟩
  rw [pc0] at hnew
  have HNEW := Lib.hid hnew
  have HB1 := Lib.hid (hb1.alloc hb1.size (.cells PC0 26))
  have HG := Lib.hid (heap_alloc_new w1 (.cells PC0 26))
  clear hnew hb1
  go_wp2_with (refine wpList_val (.agg PC0) (by kernel_rfl) (exec_load_row HG.out rfl rfl Try.underlying26 rfl (by kernel_rfl)) ?_)
  refine HNEW.out.mono ?_
  rintro e w2 hP
  rcases hP.symm with ⟨hno, _⟩ | ⟨_, db, rfl, hD, hb2⟩
  · rw [plan0_ok] at hno; cases hno
  have HB2 := Lib.hid (HB1.out.trans (hb2.mono HB1.out.size))
  have hB0 : w.heap.size ≤ (w1.alloc (.cells PC0 26)).heap.size := HB1.out.size
  generalize (w1.alloc (.cells PC0 26)).heap.size = B at *
  have HD := Lib.hid hD
  clear hb2 hD HNEW HG HB1
  go_wp2_with fail
  refine (phase_any 1139 _ HD.out).mono ?_
  rintro e w3 ⟨rfl, rfl⟩
  rw [phase0]
  go_wp2_with fail
  refine (enter_any 7 738890 1050 1 2 _ HD.out (by omega)).mono ?_
  rintro e w4 ⟨v4, rfl, hE4, hb4, hD4⟩
  rw [ent7] at hE4 hD4
  rcases hE4.symm with ⟨hno, _⟩ | ⟨_, rfl⟩
  · cases hno
  have HD4 := Lib.hid (show DayR w4 B db plan0 738890 (0 + 1) esA from hD4)
  have HB4 := Lib.hid (HB2.out.trans (hb4.mono hB0))
  clear hb4 hD4 HD HB2
  go_wp2_with fail
  refine (enter_any 5 738893 99 1 3 _ HD4.out (by omega)).mono ?_
  rintro e w5 ⟨v5, rfl, hE5, hb5, hD5⟩
  rw [ent5] at hE5 hD5
  rcases hE5.symm with ⟨hno, _⟩ | ⟨_, rfl⟩
  · cases hno
  have HD5 := Lib.hid (show DayR w5 B db plan0 738890 (0 + 1 + 1) esB from hD5)
  have HB5 := Lib.hid (HB4.out.trans (hb5.mono hB0))
  clear hb5 hD5 HD4 HB4
  go_wp2_with fail
  obtain ⟨cb, mc, mb, bl, hA5⟩ := HD5.out.at
  refine (close_any hA5 ents0 (by decide) (by omega) (by decide) (by decide) (by decide)).mono ?_
  rintro e w6 ⟨m, hm, hb6, _, hcase⟩
  obtain rfl : m = 738893 := hm.unique next0
  rcases hcase with ⟨hno, _⟩ | ⟨_, v6, u6, ds, rfl, hds, hdl, hO, hU, hA6⟩
  · exact absurd hno (by decide)
  obtain rfl : ds = [7] := hds.unique due1
  have hO' : RowE penE 51 w6 B v6 [(7, 1, 2, 10)] := owed0 ▸ hO
  have hU' : RowE intE 3 w6 B u6 [] := gone0 ▸ hU
  have HA6 := Lib.hid (show DayAt w6 B db cb mc mb (0 + 1 + 1) bl plan0 738893 esC from hA6)
  have HO6 := Lib.hid hO'
  have HB6 := Lib.hid (HB5.out.trans (hb6.mono hB0))
  obtain ⟨ua, uc, rfl⟩ := hU'.slice
  obtain ⟨va, vc, rfl⟩ := hO'.slice
  clear hm hb6 hds hdl hO hU hA6 hO' hU' hA5 HD5 HB5
  simp only [List.length_nil, List.length_cons]
  have hb7 : Below w6.heap.size w6 (w6.alloc (.cells #[.int .i64 7, .int .i64 1, .int .i64 2, .int .i64 10] 51)) := (Below.refl _ _).alloc (Nat.le_refl _) _
  have HA7 := Lib.hid (HA6.out.below hb7)
  have hRR : ReadsE penE (w6.alloc (.cells #[.int .i64 7, .int .i64 1, .int .i64 2, .int .i64 10] 51)) (.slice (some ⟨w6.heap.size, 0, none⟩) 1 1) [(7, 1, 2, 10)] := by
    refine ⟨by simp, _, _, rfl, fun i x hx => ?_⟩
    obtain ⟨rfl, rfl⟩ : i = 0 ∧ x = (7, 1, 2, 10) := by
      rcases i with _ | i
      · exact ⟨rfl, by simpa using hx.symm⟩
      · simp at hx
    refine ⟨_, _, rfl, fun j v hj => ?_⟩
    rw [cell_of_row _ _ _ _ _ _ (heap_alloc_new w6 _)]
    simpa using hj
  have HSP := Lib.hid (samePens_any _ _ _ _ ((HO6.out.below hb7).reads (by simp)) hRR)
  have HB7 := Lib.hid (HB6.out.trans (hb7.mono HB6.out.size))
  clear hb7 hRR HO6 HB6 HA6
  go_wp2_with fail
  refine HSP.out.mono ?_
  rintro e w8 ⟨rfl, hb8⟩
  have HA8 := Lib.hid (HA7.out.below hb8)
  have HB8 := Lib.hid (HB7.out.trans (hb8.mono HB7.out.size))
  clear hb8 HSP HA7 HB7
  go_wp2_with fail
  refine (today_any _ HA8.out.r).mono ?_
  rintro e w9 ⟨rfl, rfl⟩
  go_wp2_with fail
  refine (dueIds_any HA8.out (by omega)).mono ?_
  rintro e w10 ⟨v10, ds, rfl, hds, _, hR, hb10⟩
  obtain rfl : ds = [7, 5] := hds.unique due2
  have HR := Lib.hid hR
  have HB10 := Lib.hid (HB8.out.trans (hb10.mono HB8.out.size))
  clear hds hR hb10 HA8 HB8
  have hb11 : Below w10.heap.size w10 (w10.alloc (.cells #[.int .i64 7, .int .i64 5] 3)) := (Below.refl _ _).alloc (Nat.le_refl _) _
  have hRR : ReadsE intE (w10.alloc (.cells #[.int .i64 7, .int .i64 5] 3)) (.slice (some ⟨w10.heap.size, 0, none⟩) 2 2) [7, 5] := by
    refine ⟨by simp, _, _, rfl, fun i x hx => ⟨_, _, rfl, fun j v hj => ?_⟩⟩
    rw [cell_of_row _ _ _ _ _ _ (heap_alloc_new w10 _)]
    rcases i with _ | _ | i
    · obtain rfl : 7 = x := by simpa using hx
      rcases j with _ | j
      · simpa using hj
      · simp at hj
    · obtain rfl : 5 = x := by simpa using hx
      rcases j with _ | j
      · simpa using hj
      · simp at hj
    · simp at hx
  have HSI := Lib.hid (sameInts_same _ _ _ _ ((HR.out.below hb11).reads (by simp)) hRR)
  have HB11 := Lib.hid (HB10.out.trans (hb11.mono HB10.out.size))
  clear hb11 hRR HR HB10
  go_wp2_with fail
  refine HSI.out.mono ?_
  rintro e w12 ⟨rfl, hb12⟩
  have HB12 := Lib.hid (HB11.out.trans (hb12.mono HB11.out.size))
  clear hb12 HSI HB11
  go_wp2_with fail
  go_ret
  exact ⟨rfl, HB12.out⟩
end Go.Proofs.Ytkhhkbigpaoinaa
