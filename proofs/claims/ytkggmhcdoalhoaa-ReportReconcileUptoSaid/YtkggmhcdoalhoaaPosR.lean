/- What a position holds, by the document: Fits, Check, Right, Total: by contract. -/
import Derived.Test.YtkggmhcdoalhoaaPos
namespace Go.Proofs.Ytkggmhcdoalhoaa
set_option linter.unusedVariables false
set_option linter.unusedSimpArgs false
open Go.RowKit
attribute [local irreducible] Go.wpStill

theorem fits_any (a b : Int) (ha : 0 ≤ a) (ha2 : a ≤ 9223372036854775807) (hb : 1 ≤ b) (hb2 : b ≤ 9223372036854775807) (w : World) :
    Calls Try.prog 47 #[.int .i64 a, .int .i64 b] w fun e w' => e = .returned (.bool (decide (a ≤ 9223372036854775807 - b))) ∧ Below w.heap.size w w' := by
  have w1 : IntKind.i64.wrap (9223372036854775807 - a) = 9223372036854775807 - a := IntWalk.i64_in _ (by omega)
  have d : decide (b ≤ 9223372036854775807 - a) = decide (a ≤ 9223372036854775807 - b) := by rw [decide_eq_decide]; omega
  generalize decide (a ≤ 9223372036854775807 - b) = c at *
  go_enter Try.func47, Try.ntmps47
  go_wp2_with fail
  go_ret
  exact ⟨ret_bool (by first | rfl | exact d | simp [d]), Below.refl _ _⟩
set_option maxHeartbeats 4000000 in
theorem check14_any (avail : Int) (mv : Value) (ms : List markT) (w : World) (ha2 : avail ≤ 9223372036854775807) (hq : ∀ m ∈ ms, m.2 ≤ 9223372036854775807) (h : ReadsE markE w mv ms) :
    Calls Try.prog 36 #[.agg #[.int .i64 avail, mv]] w fun e w' => e = .returned (.tuple #[.int .i64 (chkM avail ms).1, .int .i64 (chkM avail ms).2]) ∧ Below w.heap.size w w' := by
  obtain ⟨ao, cap, rfl⟩ := h.slice
  have hlen : ms.length < 4611686018427387904 := h.1
  have HR := Lib.hid h
  have HQ := Lib.hid hq
  clear h hq
  by_cases hneg : avail < 0
  · have d0 : decide (avail < 0) = true := decide_eq_true hneg
    have hch : chkM avail ms = (1, -1) := by unfold chkM; rw [if_pos hneg]
    rw [hch]
    clear hneg hch
    go_enter Try.func36, Try.ntmps36
    go_wp2_with fail
    go_ret2
    exact ⟨rfl, (Below.refl _ _).alloc (Nat.le_refl _) _⟩
  have d0 : decide (avail < 0) = false := decide_eq_false hneg
  by_cases hmany : 8 < ms.length
  · have d1 : decide ((ms.length : Int) > 8) = true := decide_eq_true (by omega)
    have hch : chkM avail ms = (5, 8) := by unfold chkM; rw [if_neg hneg, if_pos hmany]
    rw [hch]
    clear hneg hmany hch
    go_enter Try.func36, Try.ntmps36
    go_wp2_with fail
    go_ret2
    exact ⟨rfl, (Below.refl _ _).alloc (Nat.le_refl _) _⟩
  have d1 : decide ((ms.length : Int) > 8) = false := decide_eq_false (by omega)
  have hch : chkM avail ms = match chkN 0 0 ms with
    | some i => (1, i)
    | none => match chkS avail 0 ms with
      | some i => (9, i)
      | none => (0, 0) := by unfold chkM; rw [if_neg hneg, if_neg hmany]; rfl
  have HCH := Lib.hid hch
  have HNG := Lib.hid hneg
  clear hneg hmany hch
  generalize chkM avail ms = R at *
  go_enter Try.func36, Try.ntmps36
  go_upto_region 1 with fail
  generalize hW0 : World.alloc w _ = W0
  have hb0 : Below w.heap.size w W0 := by rw [← hW0]; exact (Below.refl _ _).alloc (Nat.le_refl _) _
  have hB : W0.heap[w.heap.size]? = some (.cells #[.int .i64 avail, .slice ao ms.length cap] 40 (0, 0)) := by rw [← hW0]; exact heap_alloc_new w _
  have k0 : W0.cell? ⟨w.heap.size, 0, none⟩ = some (.int .i64 avail) := by rw [cell_of_row _ _ _ _ _ _ hB]; rfl
  have k1 : W0.cell? ⟨w.heap.size, 1, none⟩ = some (.slice ao ms.length cap) := by rw [cell_of_row _ _ _ _ _ _ hB]; rfl
  have hlt0 := lt_of_block hB
  have HB0 := Lib.hid hb0
  have HR0 := Lib.hid (HR.out.below hb0)
  clear hW0 hB hb0
  have KB := Lib.hid (fun (wr : World) (h : Below W0.heap.size W0 wr) => (⟨(h.cell (p := ⟨w.heap.size, 0, none⟩) hlt0).trans k0, (h.cell (p := ⟨w.heap.size, 1, none⟩) hlt0).trans k1⟩ : wr.cell? ⟨w.heap.size, 0, none⟩ = some (.int .i64 avail) ∧ wr.cell? ⟨w.heap.size, 1, none⟩ = some (.slice ao ms.length cap)))
  go_wp2_with fail
  go_loopw [4, 5] (fun lv iv wr => ∃ (i : Nat) (last : Int), i ≤ ms.length ∧ iv = .int .i64 i ∧ lv = .int .i64 last ∧ chkN last i (ms.drop i) = chkN 0 0 ms ∧ Below W0.heap.size W0 wr) (fun _ iv _ => ms.length - (intOf iv).toNat)
  case atStart => exact ⟨0, 0, by omega, rfl, rfl, by simp, Below.refl _ _⟩
  case round =>
    obtain ⟨i, last, hi, rfl, rfl, hc, hW⟩ := hrel
    have HC := Lib.hid hc
    have HWB := Lib.hid hW
    clear hc k0 k1
    by_cases hlt : i < ms.length
    · obtain ⟨x, hx⟩ : ∃ x, ms[i]? = some x := ⟨_, List.getElem?_eq_getElem hlt⟩
      obtain ⟨g, o, rfl, hr⟩ := (HR0.out.below hW).at hx
      have hdl : decide ((i : Int) < ms.length) = true := decide_eq_true (by omega)
      have hdr : ms.drop i = x :: ms.drop (i + 1) := by rw [List.drop_eq_getElem_cons hlt]; congr 1; rw [List.getElem?_eq_getElem hlt] at hx; exact Option.some.inj hx
      obtain ⟨a, q⟩ := x
      have HRR := Lib.hid hr
      have HC2 := Lib.hid (show chkN last i ((a, q) :: ms.drop (i + 1)) = chkN 0 0 ms by rw [← hdr]; exact HC.out)
      clear hx hdr hr
      obtain ⟨k0, k1⟩ := KB.out wr hW
      by_cases hg : last < a ∧ a ≤ 65536 ∧ 1 ≤ q
      · have e1 : decide (a ≤ last) = false := decide_eq_false (by omega)
        have e2 : decide (a > 65536) = false := decide_eq_false (by omega)
        have e3 : decide (q < 1) = false := decide_eq_false (by omega)
        have HC3 := Lib.hid (show chkN a ((i : Int) + 1) (ms.drop (i + 1)) = chkN 0 0 ms by rw [← HC2.out, chkN_yes hg])
        clear hg
        go_wp2_with (refine wpList_val (.agg #[.int .i64 a, .int .i64 q]) (by kernel_rfl) (exec_load_mid (T := 55) HRR.out rfl rfl Try.underlying55 rfl (by kernel_rfl)) ?_)
        exact ⟨⟨i + 1, a, by omega, by go_num, rfl, by rw [← HC3.out]; rfl, (HWB.out.alloc HWB.out.size _)⟩, by simp [intOf]; omega⟩
      · have HW := Lib.hid (show R = (1, (i : Int)) by rw [HCH.out, ← HC2.out, chkN_no hg])
        have HBB := Lib.hid ((HB0.out.trans (HWB.out.mono HB0.out.size)).alloc (by have := (HB0.out.trans (HWB.out.mono HB0.out.size)).size; omega) (.cells #[.int .i64 a, .int .i64 q] 55))
        by_cases c1 : a ≤ last
        · have e1 : decide (a ≤ last) = true := decide_eq_true c1
          clear hg c1
          go_wp2_with (refine wpList_val (.agg #[.int .i64 a, .int .i64 q]) (by kernel_rfl) (exec_load_mid (T := 55) HRR.out rfl rfl Try.underlying55 rfl (by kernel_rfl)) ?_)
          go_ret2
          exact ⟨by rw [HW.out]; rfl, HBB.out⟩
        · have e1 : decide (a ≤ last) = false := decide_eq_false c1
          by_cases c2 : a > 65536
          · have e2 : decide (a > 65536) = true := decide_eq_true c2
            clear hg c1 c2
            go_wp2_with (refine wpList_val (.agg #[.int .i64 a, .int .i64 q]) (by kernel_rfl) (exec_load_mid (T := 55) HRR.out rfl rfl Try.underlying55 rfl (by kernel_rfl)) ?_)
            go_ret2
            exact ⟨by rw [HW.out]; rfl, HBB.out⟩
          · have e2 : decide (a > 65536) = false := decide_eq_false c2
            have e3 : decide (q < 1) = true := decide_eq_true (by omega)
            clear hg c1 c2
            go_wp2_with (refine wpList_val (.agg #[.int .i64 a, .int .i64 q]) (by kernel_rfl) (exec_load_mid (T := 55) HRR.out rfl rfl Try.underlying55 rfl (by kernel_rfl)) ?_)
            go_ret2
            exact ⟨by rw [HW.out]; rfl, HBB.out⟩
    · have hie : i = ms.length := by omega
      have hdl : decide ((i : Int) < ms.length) = false := decide_eq_false (by omega)
      have HN := Lib.hid (show chkN 0 0 ms = none by rw [← HC.out, hie, List.drop_length]; rfl)
      obtain ⟨k0, k1⟩ := KB.out wr hW
      clear HC hie
      go_wp2_with fail
      go_loopw [7, 8] (fun sv iv wr => ∃ (i : Nat) (s : Int), i ≤ ms.length ∧ iv = .int .i64 i ∧ sv = .int .i64 s ∧ 0 ≤ s ∧ s ≤ 9223372036854775807 ∧ chkS s i (ms.drop i) = chkS avail 0 ms ∧ Below W0.heap.size W0 wr) (fun _ iv _ => ms.length - (intOf iv).toNat)
      case atStart => exact ⟨0, avail, by omega, rfl, rfl, by have := HNG.out; omega, ha2, by simp, HWB.out⟩
      case round =>
        clear HWB hW k0 k1
        obtain ⟨i, s, hi, rfl, rfl, hs0, hs1, hc, hW⟩ := hrel
        have HC := Lib.hid hc
        have HWB := Lib.hid hW
        clear hc
        obtain ⟨k0, k1⟩ := KB.out wr hW
        by_cases hlt : i < ms.length
        · obtain ⟨x, hx⟩ : ∃ x, ms[i]? = some x := ⟨_, List.getElem?_eq_getElem hlt⟩
          obtain ⟨g, o, rfl, hr⟩ := (HR0.out.below hW).at hx
          have hdl : decide ((i : Int) < ms.length) = true := decide_eq_true (by omega)
          have hdr : ms.drop i = x :: ms.drop (i + 1) := by rw [List.drop_eq_getElem_cons hlt]; congr 1; rw [List.getElem?_eq_getElem hlt] at hx; exact Option.some.inj hx
          have hq1 : x.2 ≤ 9223372036854775807 := HQ.out x (List.mem_of_getElem? hx)
          have hq0 : 1 ≤ x.2 := chkN_right ms _ _ HN.out x (List.mem_of_getElem? hx)
          obtain ⟨a, q⟩ := x
          simp only at hq1 hq0
          have KM := Lib.hid (fun (wz : World) (hz : Below wr.heap.size wr wz) => (hz.cell (p := ⟨g, o + i * 2 + 1, none⟩) (rangeE_lt (E := markE) (x := (a, q)) hr)).trans (hr 1 (.int .i64 q) rfl))
          have km := KM.out wr (Below.refl _ _)
          have HC2 := Lib.hid (show chkS s i ((a, q) :: ms.drop (i + 1)) = chkS avail 0 ms by rw [← hdr]; exact HC.out)
          clear hx hdr hr
          have HADD := Lib.hid (fun w => fits_any s q hs0 hs1 hq0 hq1 w)
          by_cases hg : s ≤ 9223372036854775807 - q
          · have HC3 := Lib.hid (show chkS (s + q) ((i : Int) + 1) (ms.drop (i + 1)) = chkS avail 0 ms by rw [← HC2.out, chkS_yes hg])
            have hs2 : 0 ≤ s + q ∧ s + q ≤ 9223372036854775807 := by omega
            obtain ⟨h3, h4⟩ := hs2
            have w2 : IntKind.i64.wrap (s + q) = s + q := IntWalk.i64_in _ (by omega)
            rw [show decide (s ≤ 9223372036854775807 - q) = true from decide_eq_true hg] at HADD
            clear hg
            go_wp2_with fail
            refine (HADD.out _).mono ?_
            rintro e w5 ⟨rfl, hb5⟩
            have HB5 := Lib.hid (HWB.out.trans (hb5.mono HWB.out.size))
            have km5 := KM.out w5 hb5
            obtain ⟨k0, k1⟩ := KB.out w5 HB5.out
            clear hb5 km
            go_wp2_with fail
            exact ⟨⟨i + 1, s + q, by omega, by go_num, rfl, h3, h4, by rw [← HC3.out]; rfl, HB5.out⟩, by simp [intOf]; omega⟩
          · have HW := Lib.hid (show R = (9, (i : Int)) by rw [HCH.out, HN.out, ← HC2.out, chkS_no hg])
            rw [show decide (s ≤ 9223372036854775807 - q) = false from decide_eq_false hg] at HADD
            clear hg
            go_wp2_with fail
            refine (HADD.out _).mono ?_
            rintro e w5 ⟨rfl, hb5⟩
            have HB5 := Lib.hid (HWB.out.trans (hb5.mono HWB.out.size))
            have HB6 := Lib.hid (HB0.out.trans (HB5.out.mono HB0.out.size))
            clear hb5 km
            go_wp2_with fail
            go_ret2
            exact ⟨by rw [HW.out]; rfl, HB6.out⟩
        · have hie : i = ms.length := by omega
          have hdl : decide ((i : Int) < ms.length) = false := decide_eq_false (by omega)
          have HW := Lib.hid (show R = (0, 0) by rw [HCH.out, HN.out, ← HC.out, hie, List.drop_length]; rfl)
          clear HC hie
          go_wp2_with fail
          go_ret2
          exact ⟨by rw [HW.out]; rfl, HB0.out.trans (HWB.out.mono HB0.out.size)⟩
theorem right14_any (avail : Int) (mv : Value) (ms : List markT) (w : World) (ha2 : avail ≤ 9223372036854775807) (hq : ∀ m ∈ ms, m.2 ≤ 9223372036854775807) (h : ReadsE markE w mv ms) :
    Calls Try.prog 30 #[.agg #[.int .i64 avail, mv]] w fun e w' => e = .returned (.bool ((chkM avail ms).1 == 0)) ∧ Below w.heap.size w w' := by
  have HT := Lib.hid (fun w1 (hb : Below w.heap.size w w1) => check14_any avail mv ms w1 ha2 hq (h.below hb))
  have HB := Lib.hid ((Below.refl w.heap.size w).alloc (Nat.le_refl _) (.cells #[.int .i64 avail, mv] 40))
  obtain ⟨ao, cap, rfl⟩ := h.slice
  clear h hq
  generalize chkM avail ms = R at *
  obtain ⟨r1, r2⟩ := R
  go_enter Try.func30, Try.ntmps30
  go_wp2_with fail
  refine (HT.out _ HB.out).mono ?_
  rintro e w5 ⟨rfl, hb⟩
  have HB5 := Lib.hid (HB.out.trans (hb.mono HB.out.size))
  clear hb
  go_wp2_with fail
  go_ret
  exact ⟨ret_bool rfl, HB5.out⟩
set_option maxHeartbeats 2000000 in
theorem total14_any (avail : Int) (mv : Value) (ms : List markT) (w : World) (ha2 : avail ≤ 9223372036854775807) (hq : ∀ m ∈ ms, m.2 ≤ 9223372036854775807) (h : ReadsE markE w mv ms) :
    Calls Try.prog 21 #[.agg #[.int .i64 avail, mv]] w fun e w' => e = .returned (.int .i64 (totM avail ms)) ∧ Below w.heap.size w w' := by
  obtain ⟨ao, cap, rfl⟩ := h.slice
  have hlen : ms.length < 4611686018427387904 := h.1
  have HT := Lib.hid (fun w1 (hb : Below w.heap.size w w1) => right14_any avail (.slice ao ms.length cap) ms w1 ha2 hq (h.below hb))
  have HR := Lib.hid h
  have HQ := Lib.hid hq
  have HC := Lib.hid (fun h => chk_right (avail := avail) (ms := ms) h)
  have HTM := Lib.hid (show totM avail ms = if (chkM avail ms).1 = 0 then avail + sumM ms else 0 from rfl)
  generalize totM avail ms = T at *
  clear h hq
  go_enter Try.func21, Try.ntmps21
  go_upto_region 1 with fail
  generalize hW0 : World.alloc w _ = W0
  have hb0 : Below w.heap.size w W0 := by rw [← hW0]; exact (Below.refl _ _).alloc (Nat.le_refl _) _
  have hB : W0.heap[w.heap.size]? = some (.cells #[.int .i64 avail, .slice ao ms.length cap] 40 (0, 0)) := by rw [← hW0]; exact heap_alloc_new w _
  have k0 : W0.cell? ⟨w.heap.size, 0, none⟩ = some (.int .i64 avail) := by rw [cell_of_row _ _ _ _ _ _ hB]; rfl
  have k1 : W0.cell? ⟨w.heap.size, 1, none⟩ = some (.slice ao ms.length cap) := by rw [cell_of_row _ _ _ _ _ _ hB]; rfl
  have hlt0 := lt_of_block hB
  have HB0 := Lib.hid hb0
  have HR0 := Lib.hid (HR.out.below hb0)
  clear hW0 hB hb0
  have KB := Lib.hid (fun (wr : World) (h : Below W0.heap.size W0 wr) => (⟨(h.cell (p := ⟨w.heap.size, 0, none⟩) hlt0).trans k0, (h.cell (p := ⟨w.heap.size, 1, none⟩) hlt0).trans k1⟩ : wr.cell? ⟨w.heap.size, 0, none⟩ = some (.int .i64 avail) ∧ wr.cell? ⟨w.heap.size, 1, none⟩ = some (.slice ao ms.length cap)))
  go_wp2_with fail
  refine (HT.out _ HB0.out).mono ?_
  rintro e W1 ⟨rfl, hb1⟩
  have HW1 := Lib.hid (show Below W0.heap.size W0 W1 from hb1)
  clear hb1 k0 k1
  obtain ⟨k0, k1⟩ := KB.out W1 HW1.out
  by_cases hz : (chkM avail ms).1 = 0
  · have e0 : ((chkM avail ms).1 == 0) = true := by simp [hz]
    rw [e0]
    have HT2 := Lib.hid (show T = avail + sumM ms by rw [HTM.out, if_pos hz])
    obtain ⟨ha0, hpos, hle⟩ := HC.out hz
    have HPOS := Lib.hid hpos
    have HLE := Lib.hid (hle ha2)
    clear hz e0 hpos hle
    go_wp2_with fail
    go_loopw [3, 4] (fun sv iv wr => ∃ (i : Nat) (s : Int), i ≤ ms.length ∧ iv = .int .i64 i ∧ sv = .int .i64 s ∧ 0 ≤ s ∧ s + sumM (ms.drop i) = avail + sumM ms ∧ Below W0.heap.size W0 wr) (fun _ iv _ => ms.length - (intOf iv).toNat)
    case atStart => exact ⟨0, avail, by omega, rfl, rfl, ha0, by simp, HW1.out⟩
    case round =>
      clear k0 k1
      obtain ⟨i, s, hi, rfl, rfl, hs0, hsum, hW⟩ := hrel
      have HSM := Lib.hid hsum
      have HWB := Lib.hid hW
      clear hsum
      obtain ⟨k0, k1⟩ := KB.out wr hW
      by_cases hlt : i < ms.length
      · obtain ⟨x, hx⟩ : ∃ x, ms[i]? = some x := ⟨_, List.getElem?_eq_getElem hlt⟩
        obtain ⟨g, o, rfl, hr⟩ := (HR0.out.below hW).at hx
        have hdl : decide ((i : Int) < ms.length) = true := decide_eq_true (by omega)
        have hdr : ms.drop i = x :: ms.drop (i + 1) := by rw [List.drop_eq_getElem_cons hlt]; congr 1; rw [List.getElem?_eq_getElem hlt] at hx; exact Option.some.inj hx
        have hnn : 0 ≤ sumM (ms.drop (i + 1)) := sumM_nonneg fun m hm => HPOS.out m (List.mem_of_mem_drop hm)
        have hq0 := HPOS.out x (List.mem_of_getElem? hx)
        obtain ⟨a, q⟩ := x
        simp only at hq0
        have km := (hr 1 (.int .i64 q) rfl)
        have HS2 := Lib.hid (show s + (q + sumM (ms.drop (i + 1))) = avail + sumM ms by rw [← HSM.out, hdr, sumM_cons])
        have hle2 : s + q ≤ 9223372036854775807 := by have h1 := HS2.out; have h2 := HLE.out; omega
        have w2 : IntKind.i64.wrap (s + q) = s + q := IntWalk.i64_in _ (by omega)
        clear hx hdr hr hnn
        go_wp2_with fail
        exact ⟨⟨i + 1, s + q, by omega, by go_num, rfl, by omega, by have := HS2.out; omega, HWB.out⟩, by simp [intOf]; omega⟩
      · have hie : i = ms.length := by omega
        have hdl : decide ((i : Int) < ms.length) = false := decide_eq_false (by omega)
        have HS := Lib.hid (show T = s by
          have h1 := HSM.out
          rw [hie, List.drop_length] at h1
          rw [HT2.out, ← h1]
          simp [sumM])
        clear hie
        go_wp2_with fail
        go_ret
        exact ⟨ret_int HS.out.symm, HB0.out.trans (HWB.out.mono HB0.out.size)⟩
  · have e0 : ((chkM avail ms).1 == 0) = false := by simp [hz]
    rw [e0]
    have HT2 := Lib.hid (show T = 0 by rw [HTM.out, if_neg hz])
    clear hz e0
    go_wp2_with fail
    go_ret
    exact ⟨ret_int HT2.out.symm, HB0.out.trans (HW1.out.mono HB0.out.size)⟩
end Go.Proofs.Ytkggmhcdoalhoaa
