/- What a position holds: amount.Add, balance.total, balance.Total; the document's Check, Right, Total: by contract. -/
import Derived.Test.YtkggmhcdoalhoaaRecP
import Derived.Test.YtkggmhcdoalhoaaLent
import Derived.Test.YtkggmhcdoalhoaaRegK
namespace Go.Proofs.Ytkggmhcdoalhoaa
set_option linter.unusedVariables false
set_option linter.unusedSimpArgs false
open Go.RowKit
attribute [local irreducible] Go.wpStill

theorem amountAdd_any (a b : Int) (ha : 0 ≤ a) (hb : 0 ≤ b) (ha2 : a ≤ 9223372036854775807) (hb2 : b ≤ 9223372036854775807) (w : World) :
    Calls Try.prog 31 #[.int .i64 a, .int .i64 b] w fun e w' => (if a ≤ 9223372036854775807 - b then e = .returned (.tuple #[.int .i64 (a + b), .nilIface]) else ∃ t v, e = .returned (.tuple #[.int .i64 0, .iface t v])) ∧ Below w.heap.size w w' := by
  have w1 : IntKind.i64.wrap (9223372036854775807 - b) = 9223372036854775807 - b := IntWalk.i64_in _ (by omega)
  have d1 : decide (a < 0) = false := decide_eq_false (by omega)
  have d2 : decide (b < 0) = false := decide_eq_false (by omega)
  by_cases h : a ≤ 9223372036854775807 - b
  · have d3 : decide (a > 9223372036854775807 - b) = false := decide_eq_false (by omega)
    have w2 : IntKind.i64.wrap (a + b) = a + b := IntWalk.i64_in _ (by omega)
    simp only [h, if_true]
    have H := Lib.hid h
    clear h
    go_enter Try.func31, Try.ntmps31
    go_wp2_with fail
    go_ret2
    exact ⟨rfl, Below.refl _ _⟩
  · have d3 : decide (a > 9223372036854775807 - b) = true := decide_eq_true (by omega)
    simp only [h, if_false]
    have H := Lib.hid h
    clear h
    go_enter Try.func31, Try.ntmps31
    go_wp2_with fail
    go_ret2
    exact ⟨⟨_, _, rfl⟩, Below.refl _ _⟩
def TotP (avail : Int) (ms : List (Int × Int)) (w : World) (e : Ending) (w' : World) : Prop :=
  ∃ ev, e = .returned (.tuple #[.int .i64 (totM avail ms), ev]) ∧ ((chkM avail ms).1 = 0 → ev = .nilIface) ∧
    ((chkM avail ms).1 ≠ 0 → ∃ g, ev = .iface 67 (.pointer (some ⟨g, 0, none⟩)) ∧ w.heap.size ≤ g ∧ w'.heap[g]? = some (.cells #[.int .i64 (chkM avail ms).2, .int .i64 (chkM avail ms).1] 70 (0, 0))) ∧ Below w.heap.size w w'
theorem TotP.wrong {avail : Int} {ms : List (Int × Int)} {w w1 : World} {e : Ending} {no at_ : Int} (h : chkM avail ms = (no, at_)) (hn : no ≠ 0) (hb : Below w.heap.size w w1)
    (he : e = .returned (.tuple #[.int .i64 0, .iface 67 (.pointer (some ⟨w1.heap.size, 0, none⟩))])) : TotP avail ms w e (w1.alloc (.cells #[.int .i64 at_, .int .i64 no] 70)) := by
  refine ⟨_, ?_, fun h0 => absurd h0 (by rw [h]; exact hn), fun _ => ⟨w1.heap.size, rfl, hb.size, by rw [h]; exact heap_alloc_new _ _⟩, hb.alloc hb.size _⟩
  rw [he, show totM avail ms = 0 by unfold totM; rw [if_neg (by rw [h]; exact hn)]]
set_option maxHeartbeats 4000000 in
theorem total_any (avail : Int) (mv : Value) (ms : List markT) (w : World) (ha2 : avail ≤ 9223372036854775807) (hq : ∀ m ∈ ms, m.2 ≤ 9223372036854775807) (h : ReadsE markE w mv ms) :
    Calls Try.prog 23 #[.agg #[.int .i64 avail, mv]] w (TotP avail ms w) := by
  obtain ⟨ao, cap, rfl⟩ := h.slice
  have hlen : ms.length < 4611686018427387904 := h.1
  have HR := Lib.hid h
  have HQ := Lib.hid hq
  clear h hq
  by_cases hneg : avail < 0
  · have d0 : decide (avail < 0) = true := decide_eq_true hneg
    have HW := Lib.hid (fun w1 hb e he => TotP.wrong (avail := avail) (ms := ms) (w := w) (w1 := w1) (e := e) (no := 1) (at_ := -1) (by unfold chkM; rw [if_pos hneg]) (by decide) hb he)
    clear hneg
    go_enter Try.func23, Try.ntmps23
    go_wp2_with fail
    go_ret2
    exact HW.out _ ((Below.refl _ _).alloc (Nat.le_refl _) _) _ (by simp)
  have d0 : decide (avail < 0) = false := decide_eq_false hneg
  by_cases hmany : 8 < ms.length
  · have d1 : decide ((ms.length : Int) > 8) = true := decide_eq_true (by omega)
    have HW := Lib.hid (fun w1 hb e he => TotP.wrong (avail := avail) (ms := ms) (w := w) (w1 := w1) (e := e) (no := 5) (at_ := 8) (by unfold chkM; rw [if_neg hneg, if_pos hmany]) (by decide) hb he)
    clear hneg hmany
    go_enter Try.func23, Try.ntmps23
    go_wp2_with fail
    go_ret2
    exact HW.out _ ((Below.refl _ _).alloc (Nat.le_refl _) _) _ (by simp)
  have d1 : decide ((ms.length : Int) > 8) = false := decide_eq_false (by omega)
  have hch : chkM avail ms = match chkN 0 0 ms with
    | some i => (1, i)
    | none => match chkS avail 0 ms with
      | some i => (9, i)
      | none => (0, 0) := by unfold chkM; rw [if_neg hneg, if_neg hmany]; rfl
  have HCH := Lib.hid hch
  have HNG := Lib.hid hneg
  clear hneg hmany hch
  go_enter Try.func23, Try.ntmps23
  go_upto_region 1 with fail
  generalize hW0 : World.alloc w _ = W0
  have hb0 : Below w.heap.size w W0 := by rw [← hW0]; exact (Below.refl _ _).alloc (Nat.le_refl _) _
  have hB : W0.heap[w.heap.size]? = some (.cells #[.int .i64 avail, .slice ao ms.length cap] 40 (0, 0)) := by rw [← hW0]; exact heap_alloc_new w _
  have k0 : W0.cell? ⟨w.heap.size, 0, none⟩ = some (.int .i64 avail) := by rw [cell_of_row _ _ _ _ _ _ hB]; rfl
  have k1 : W0.cell? ⟨w.heap.size, 1, none⟩ = some (.slice ao ms.length cap) := by rw [cell_of_row _ _ _ _ _ _ hB]; rfl
  have hlt0 := lt_of_block hB
  have HB0 := Lib.hid hb0
  have HR0 := Lib.hid (HR.out.below hb0)
  clear hW0 hB hb0
  have KB := Lib.hid (fun (wr : World) (h : Below W0.heap.size W0 wr) => (⟨(h.cell (p := ⟨w.heap.size, 0, none⟩) hlt0).trans k0, (h.cell (p := ⟨w.heap.size, 1, none⟩) hlt0).trans k1⟩ : wr.cell? ⟨w.heap.size, 0, none⟩ = some (.int .i64 avail) ∧ wr.cell? ⟨w.heap.size, 1, none⟩ = some (.slice ao ms.length cap)))
  go_wp2_with fail
  go_loopw [4, 28] (fun lv iv wr => ∃ (i : Nat) (last : Int), i ≤ ms.length ∧ iv = .int .i64 i ∧ lv = .int .i64 last ∧ chkN last i (ms.drop i) = chkN 0 0 ms ∧ Below W0.heap.size W0 wr) (fun _ iv _ => ms.length - (intOf iv).toNat)
  case atStart => exact ⟨0, 0, by omega, rfl, rfl, by simp, Below.refl _ _⟩
  case round =>
    obtain ⟨i, last, hi, rfl, rfl, hc, hW⟩ := hrel
    have HC := Lib.hid hc
    have HWB := Lib.hid hW
    clear hc k0 k1
    by_cases hlt : i < ms.length
    · obtain ⟨x, hx⟩ : ∃ x, ms[i]? = some x := ⟨_, List.getElem?_eq_getElem hlt⟩
      obtain ⟨g, o, rfl, hr⟩ := (HR0.out.below hW).at hx
      have hdl : decide ((i : Int) < ms.length) = true := decide_eq_true (by omega)
      have hdr : ms.drop i = x :: ms.drop (i + 1) := by rw [List.drop_eq_getElem_cons hlt]; congr 1; rw [List.getElem?_eq_getElem hlt] at hx; exact Option.some.inj hx
      obtain ⟨a, q⟩ := x
      have HRR := Lib.hid hr
      have HC2 := Lib.hid (show chkN last i ((a, q) :: ms.drop (i + 1)) = chkN 0 0 ms by rw [← hdr]; exact HC.out)
      have hq1 : q ≤ 9223372036854775807 := HQ.out (a, q) (List.mem_of_getElem? hx)
      clear hx hdr hr
      obtain ⟨k0, k1⟩ := KB.out wr hW
      by_cases hg : last < a ∧ a ≤ 65536 ∧ 1 ≤ q
      · have e1 : decide (a ≤ last) = false := decide_eq_false (by omega)
        have e2 : decide (a > 65536) = false := decide_eq_false (by omega)
        have e3 : decide (q < 1) = false := decide_eq_false (by omega)
        have HC3 := Lib.hid (show chkN a ((i : Int) + 1) (ms.drop (i + 1)) = chkN 0 0 ms by rw [← HC2.out, chkN_yes hg])
        clear hg
        go_wp2_with (refine wpList_val (.agg #[.int .i64 a, .int .i64 q]) (by kernel_rfl) (exec_load_mid (T := 55) HRR.out rfl rfl Try.underlying55 rfl (by kernel_rfl)) ?_)
        exact ⟨⟨i + 1, a, by omega, by go_num, rfl, by rw [← HC3.out]; rfl, (HWB.out.alloc HWB.out.size _)⟩, by simp [intOf]; omega⟩
      · have HW := Lib.hid (fun w1 hb e he => TotP.wrong (avail := avail) (ms := ms) (w := w) (w1 := w1) (e := e) (no := 1) (at_ := i) (by rw [HCH.out, ← HC2.out, chkN_no hg]) (by decide) hb he)
        have HBB := Lib.hid ((HB0.out.trans (HWB.out.mono HB0.out.size)).alloc (by have := (HB0.out.trans (HWB.out.mono HB0.out.size)).size; omega) (.cells #[.int .i64 a, .int .i64 q] 55))
        by_cases c1 : a ≤ last
        · have e1 : decide (a ≤ last) = true := decide_eq_true c1
          clear hg c1
          go_wp2_with (refine wpList_val (.agg #[.int .i64 a, .int .i64 q]) (by kernel_rfl) (exec_load_mid (T := 55) HRR.out rfl rfl Try.underlying55 rfl (by kernel_rfl)) ?_)
          go_ret2
          exact HW.out _ HBB.out _ (by simp)
        · have e1 : decide (a ≤ last) = false := decide_eq_false c1
          by_cases c2 : a > 65536
          · have e2 : decide (a > 65536) = true := decide_eq_true c2
            clear hg c1 c2
            go_wp2_with (refine wpList_val (.agg #[.int .i64 a, .int .i64 q]) (by kernel_rfl) (exec_load_mid (T := 55) HRR.out rfl rfl Try.underlying55 rfl (by kernel_rfl)) ?_)
            go_ret2
            exact HW.out _ HBB.out _ (by simp)
          · have e2 : decide (a > 65536) = false := decide_eq_false c2
            have e3 : decide (q < 1) = true := decide_eq_true (by omega)
            clear hg c1 c2
            go_wp2_with (refine wpList_val (.agg #[.int .i64 a, .int .i64 q]) (by kernel_rfl) (exec_load_mid (T := 55) HRR.out rfl rfl Try.underlying55 rfl (by kernel_rfl)) ?_)
            go_ret2
            exact HW.out _ HBB.out _ (by simp)
    · have hie : i = ms.length := by omega
      have hdl : decide ((i : Int) < ms.length) = false := decide_eq_false (by omega)
      have HN := Lib.hid (show chkN 0 0 ms = none by rw [← HC.out, hie, List.drop_length]; rfl)
      obtain ⟨k0, k1⟩ := KB.out wr hW
      clear HC hie
      go_wp2_with fail
      go_loopw [7, 59] (fun sv iv wr => ∃ (i : Nat) (s : Int), i ≤ ms.length ∧ iv = .int .i64 i ∧ sv = .int .i64 s ∧ 0 ≤ s ∧ s ≤ 9223372036854775807 ∧ chkS s i (ms.drop i) = chkS avail 0 ms ∧ s + sumM (ms.drop i) = avail + sumM ms ∧ Below W0.heap.size W0 wr) (fun _ iv _ => ms.length - (intOf iv).toNat)
      case atStart => exact ⟨0, avail, by omega, rfl, rfl, by have := HNG.out; omega, ha2, by simp, by simp, HWB.out⟩
      case round =>
        clear HWB hW k0 k1
        obtain ⟨i, s, hi, rfl, rfl, hs0, hs1, hc, hsum, hW⟩ := hrel
        have HC := Lib.hid hc
        have HSM := Lib.hid hsum
        have HWB := Lib.hid hW
        clear hc hsum
        obtain ⟨k0, k1⟩ := KB.out wr hW
        by_cases hlt : i < ms.length
        · obtain ⟨x, hx⟩ : ∃ x, ms[i]? = some x := ⟨_, List.getElem?_eq_getElem hlt⟩
          obtain ⟨g, o, rfl, hr⟩ := (HR0.out.below hW).at hx
          have hdl : decide ((i : Int) < ms.length) = true := decide_eq_true (by omega)
          have hdr : ms.drop i = x :: ms.drop (i + 1) := by rw [List.drop_eq_getElem_cons hlt]; congr 1; rw [List.getElem?_eq_getElem hlt] at hx; exact Option.some.inj hx
          have hq1 : x.2 ≤ 9223372036854775807 := HQ.out x (List.mem_of_getElem? hx)
          have hq0 : 1 ≤ x.2 := chkN_right ms _ _ HN.out x (List.mem_of_getElem? hx)
          obtain ⟨a, q⟩ := x
          simp only at hq1 hq0
          have HRR := Lib.hid hr
          have HC2 := Lib.hid (show chkS s i ((a, q) :: ms.drop (i + 1)) = chkS avail 0 ms by rw [← hdr]; exact HC.out)
          have HS2 := Lib.hid (show s + (q + sumM (ms.drop (i + 1))) = avail + sumM ms by rw [← HSM.out, hdr, sumM_cons])
          clear hx hdr hr
          have HADD := Lib.hid (fun w => amountAdd_any s q hs0 (by omega) hs1 hq1 w)
          by_cases hg : s ≤ 9223372036854775807 - q
          · have HC3 := Lib.hid (show chkS (s + q) ((i : Int) + 1) (ms.drop (i + 1)) = chkS avail 0 ms by rw [← HC2.out, chkS_yes hg])
            have HG := Lib.hid hg
            have hs2 : 0 ≤ s + q ∧ s + q ≤ 9223372036854775807 := by omega
            obtain ⟨h3, h4⟩ := hs2
            simp only [hg, if_true] at HADD
            clear hg
            go_wp2_with (refine wpList_val (.agg #[.int .i64 a, .int .i64 q]) (by kernel_rfl) (exec_load_mid (T := 55) HRR.out rfl rfl Try.underlying55 rfl (by kernel_rfl)) ?_)
            refine (HADD.out _).mono ?_
            rintro e w5 ⟨rfl, hb5⟩
            have HB5 := Lib.hid ((HWB.out.alloc HWB.out.size (.cells #[.int .i64 a, .int .i64 q] 55)).trans (hb5.mono (by have := HWB.out.size; simp; omega)))
            clear hb5
            go_wp2_with fail
            exact ⟨⟨i + 1, s + q, by omega, by go_num, rfl, h3, h4, by rw [← HC3.out]; rfl, by have := HS2.out; omega, HB5.out⟩, by simp [intOf]; omega⟩
          · have HW := Lib.hid (fun w1 hb e he => TotP.wrong (avail := avail) (ms := ms) (w := w) (w1 := w1) (e := e) (no := 9) (at_ := i) (by rw [HCH.out, HN.out, ← HC2.out, chkS_no hg]) (by decide) hb he)
            simp only [hg, if_false] at HADD
            clear hg
            go_wp2_with (refine wpList_val (.agg #[.int .i64 a, .int .i64 q]) (by kernel_rfl) (exec_load_mid (T := 55) HRR.out rfl rfl Try.underlying55 rfl (by kernel_rfl)) ?_)
            refine (HADD.out _).mono ?_
            rintro e w5 ⟨⟨t, v, rfl⟩, hb5⟩
            have HB5 := Lib.hid ((HWB.out.alloc HWB.out.size (.cells #[.int .i64 a, .int .i64 q] 55)).trans (hb5.mono (by have := HWB.out.size; simp; omega)))
            have HB6 := Lib.hid (HB0.out.trans (HB5.out.mono HB0.out.size))
            clear hb5
            go_wp2_with fail
            go_ret2
            exact HW.out _ HB6.out _ rfl
        · have hie : i = ms.length := by omega
          have hdl : decide ((i : Int) < ms.length) = false := decide_eq_false (by omega)
          have HS := Lib.hid (show chkS avail 0 ms = none by rw [← HC.out, hie, List.drop_length]; rfl)
          have HT := Lib.hid (show s = totM avail ms by
            have h1 := HSM.out
            rw [hie, List.drop_length] at h1
            have h2 : chkM avail ms = (0, 0) := by rw [HCH.out, HN.out, HS.out]
            unfold totM
            rw [if_pos (by rw [h2]), ← h1]
            simp [sumM])
          clear HC hie
          go_wp2_with fail
          go_ret2
          have h2 : chkM avail ms = (0, 0) := by rw [HCH.out, HN.out, HS.out]
          exact ⟨_, by rw [HT.out]; rfl, fun _ => rfl, fun h => absurd (by rw [h2]) h, HB0.out.trans (HWB.out.mono HB0.out.size)⟩
theorem totalV_any (avail : Int) (mv : Value) (ms : List markT) (w : World) (ha2 : avail ≤ 9223372036854775807) (hq : ∀ m ∈ ms, m.2 ≤ 9223372036854775807) (h : ReadsE markE w mv ms) :
    Calls Try.prog 13 #[.agg #[.int .i64 avail, mv]] w fun e w' => e = .returned (.int .i64 (totM avail ms)) ∧ Below w.heap.size w w' := by
  have HT := Lib.hid (fun w1 (hb : Below w.heap.size w w1) => total_any avail mv ms w1 ha2 hq (h.below hb))
  have HB := Lib.hid ((Below.refl w.heap.size w).alloc (Nat.le_refl _) (.cells #[.int .i64 avail, mv] 40))
  obtain ⟨ao, cap, rfl⟩ := h.slice
  clear h hq
  go_enter Try.func13, Try.ntmps13
  go_wp2_with fail
  refine (HT.out _ HB.out).mono ?_
  rintro e w5 ⟨ev, rfl, _, _, hb⟩
  have HB5 := Lib.hid (HB.out.trans (hb.mono HB.out.size))
  clear hb
  go_wp2_with fail
  go_ret
  exact ⟨rfl, HB5.out⟩
end Go.Proofs.Ytkggmhcdoalhoaa
