/- texts of this claim, laid together: ClA, ClB, ClC, ClD. -/
import Derived.Test.YtmepjcnpbjdlkaaGreatDoorQeRefA
/- what a quantity costs: powers of ten, sums; the papers without their prices: by contract. -/
namespace Go.Proofs.YtmepjcnpbjdlkaaGreatDoor
set_option linter.unusedVariables false
set_option linter.unusedSimpArgs false
open Go.RowKit
attribute [local irreducible] Go.wpStill

theorem ten_facts : ∀ n : Nat, n ≤ 18 → 10 ^ n ≤ 1000000000000000000 := fun n h => Nat.le_trans (Nat.pow_le_pow_right (by decide) h) (by decide)
set_option maxHeartbeats 2000000 in
theorem ten_any (n : Nat) (w : World) (hn : n ≤ 18) : Calls Tryz.prog 62 #[.int .i64 (n : Int)] w fun e w' => e = .returned (.int .i64 ((10 ^ n : Nat) : Int)) ∧ w' = w := by
  have HT := Lib.hid ten_facts
  go_enter Tryz.func62, Tryz.ntmps62
  go_wp2_with fail
  go_loopw [3, 5] (fun t k wr => ∃ i : Nat, k = .int .i64 i ∧ i ≤ n ∧ t = .int .i64 ((10 ^ i : Nat) : Int) ∧ wr = w) (fun _ k _ => n - (intOf k).toNat)
  case atStart => exact ⟨0, rfl, Nat.zero_le _, rfl, rfl⟩
  case round =>
    obtain ⟨i, rfl, hi, rfl, rfl⟩ := hrel
    by_cases hlt : i < n
    · have hdl : decide (i < n) = true := decide_eq_true hlt
      have h1 := HT.out (i + 1) (by omega)
      have h2 : 10 ^ (i + 1) = 10 ^ i * 10 := Nat.pow_succ ..
      rw [h2] at h1
      generalize 10 ^ i = p at *
      have HQ := Lib.hid h2
      have hp : p ≤ 100000000000000000 := by omega
      clear h2 h1
      go_wp2_with fail
      refine ⟨⟨i + 1, by go_num, by omega, ?_, trivial⟩, by simp [intOf]; omega⟩
      rw [HQ.out, Int.natCast_mul]
      rfl
    · have hdl : decide (i < n) = false := decide_eq_false hlt
      have hin : i = n := by omega
      subst hin
      go_wp2_with fail
      go_ret
      exact ⟨rfl, rfl⟩
/-- the answer and the error of a price without interest -/
def cleanR (s : SecV) (qty price scale mode : Int) : Int × Int :=
  if checkN s ≠ 0 then (0, checkN s) else if s.kind = 4 then (0, 24) else
  if qty < 0 ∨ price < 0 ∨ scale < 0 ∨ 18 < scale ∨ mode < 0 ∨ 3 < mode then (0, 1) else
  if s.kind = 1 then DG.rounded (prodN [qty.toNat, price.toNat]) (prodN [10 ^ scale.toNat]) mode else DG.rounded (prodN [qty.toNat, s.face.toNat, price.toNat]) (prodN [100, 10 ^ scale.toNat]) mode
theorem mcEquity (n : Nat) (cs : Array Value) (w : World) : (Go.method (n + 1) 203 (.agg cs) "custody/price.clean").run Tryz.prog w = .ok (213, .agg cs) w := by kernel_rfl
theorem mcBill (n : Nat) (cs : Array Value) (w : World) : (Go.method (n + 1) 204 (.agg cs) "custody/price.clean").run Tryz.prog w = .ok (218, .agg cs) w := by kernel_rfl
theorem mcBond (n : Nat) (s : SecV) (w : World) : (Go.method (n + 1) 206 (.agg (secC s)) "custody/price.clean").run Tryz.prog w = .ok (218, .agg (secC s)) w := by kernel_rfl
theorem mcCash (n : Nat) (cs : Array Value) (w : World) : (Go.method (n + 1) 208 (.agg cs) "custody/price.clean").run Tryz.prog w = .ok (225, .agg cs) w := by kernel_rfl
set_option maxHeartbeats 2000000 in
theorem cashClean_any (cs : Array Value) (qty price scale : Value) (w : World) : Calls Tryz.prog 225 #[.agg cs, qty, price, scale] w fun e w' => e = .returned (.tuple #[.pointer none, .pointer none, .iface 76 (.int .i64 24)]) ∧ Below w.heap.size w w' := by
  have HZ := Lib.hid ((Below.refl w.heap.size w).alloc (Nat.le_refl _) (.cells cs 208))
  go_enter Tryz.func225, Tryz.ntmps225
  go_wp2_with fail
  go_ret3
  exact ⟨rfl, HZ.out⟩
theorem product_from (l : List Nat) (w3 : World) (hl : l.length ≤ 4) (hx : ∀ x ∈ l, x < 9223372036854775808) : Calls Tryz.prog 214 #[.slice (some ⟨w3.heap.size, 0, none⟩) l.length l.length] (w3.alloc (.cells (l.map (fun x : Nat => Value.int .i64 (x : Int))).toArray 2)) fun e w' => ∃ p, e = .returned (.pointer (some ⟨p, 0, none⟩)) ∧ BigAt w' p false (prodN l) ∧ Below w3.heap.size w3 w' := by
  refine (product_any w3.heap.size l _ (heap_alloc_new w3 _) hl hx).mono ?_
  rintro e w' ⟨p, h1, _, h2, h3⟩
  have hb : Below w3.heap.size w3 (w3.alloc (.cells (l.map (fun x : Nat => Value.int .i64 (x : Int))).toArray 2)) := (Below.refl _ _).alloc (Nat.le_refl _) _
  exact ⟨p, h1, h2, hb.trans (h3.mono hb.size)⟩
set_option maxHeartbeats 4000000 in
theorem equityClean_any (cs : Array Value) (qty price scale : Nat) (w : World) (hq : qty < 9223372036854775808) (hp : price < 9223372036854775808) (hs : scale ≤ 18) : Calls Tryz.prog 213 #[.agg cs, .int .i64 (qty : Int), .int .i64 (price : Int), .int .i64 (scale : Int)] w (TwoP (prodN [qty, price]) (prodN [10 ^ scale]) w) := by
  have HZ := Lib.hid ((Below.refl w.heap.size w).alloc (Nat.le_refl _) (.cells cs 203))
  have ht := ten_facts scale hs
  have hxx : ∀ x ∈ [qty, price], x < 9223372036854775808 := by simp; omega
  have hyy : ∀ x ∈ [10 ^ scale], x < 9223372036854775808 := by simp; omega
  have HPR := Lib.hid (fun w3 : World => product_from [qty, price] w3 (by simp) hxx)
  have HPR2 := Lib.hid (fun w3 : World => product_from [10 ^ scale] w3 (by simp) hyy)
  have HTEN := Lib.hid (fun w => ten_any scale w hs)
  clear ht hxx hyy
  generalize 10 ^ scale = T at *
  generalize hw1 : w.alloc (.cells cs 203) = w1 at *
  go_enter Tryz.func213, Tryz.ntmps213
  go_wp2_with fail
  refine (HPR.out w1).mono ?_
  rintro e w4 ⟨p, rfl, hB4, hb4⟩
  have HB4 := Lib.hid hB4
  have HW4 := Lib.hid (HZ.out.trans (hb4.mono HZ.out.size))
  clear hB4 hb4
  go_wp2_with fail
  refine (HTEN.out _).mono ?_
  rintro e w4 ⟨rfl, rfl⟩
  go_wp2_with fail
  refine (HPR2.out w4).mono ?_
  rintro e w6 ⟨q, rfl, hB6, hb6⟩
  have HB6 := Lib.hid hB6
  have HW6 := Lib.hid (HW4.out.trans (hb6.mono HW4.out.size))
  have HB46 := Lib.hid (HB4.out.below hb6)
  clear hB6 hb6
  go_wp2_with fail
  go_ret3
  exact ⟨p, q, rfl, HB46.out, HB6.out, HW6.out⟩
set_option maxHeartbeats 4000000 in
theorem billClean_any (s : SecV) (qty price scale fn : Nat) (w : World) (hf : s.face = fn) (hfb : fn < 9223372036854775808) (hq : qty < 9223372036854775808) (hp : price < 9223372036854775808) (hs : scale ≤ 18) : Calls Tryz.prog 218 #[.agg (secC s), .int .i64 (qty : Int), .int .i64 (price : Int), .int .i64 (scale : Int)] w (TwoP (prodN [qty, fn, price]) (prodN [100, 10 ^ scale]) w) := by
  have HZ := Lib.hid ((Below.refl w.heap.size w).alloc (Nat.le_refl _) (.cells (secC s) 204))
  have hc13 : (w.alloc (.cells (secC s) 204)).cell? ⟨w.heap.size, 13, none⟩ = some (.int .i64 (fn : Int)) := by
    rw [cell_of_row _ _ _ _ _ _ (heap_alloc_new w (.cells (secC s) 204)), ← hf]; rfl
  have ht := ten_facts scale hs
  have hxx : ∀ x ∈ [qty, fn, price], x < 9223372036854775808 := by simp; omega
  have hyy : ∀ x ∈ [100, 10 ^ scale], x < 9223372036854775808 := by simp; omega
  have HPR := Lib.hid (fun w3 : World => product_from [qty, fn, price] w3 (by simp) hxx)
  have HPR2 := Lib.hid (fun w3 : World => product_from [100, 10 ^ scale] w3 (by simp) hyy)
  have HTEN := Lib.hid (fun w => ten_any scale w hs)
  clear ht hxx hyy hf
  generalize 10 ^ scale = T at *
  generalize secC s = cs at *
  generalize hw1 : w.alloc (.cells cs 204) = w1 at *
  go_enter Tryz.func218, Tryz.ntmps218
  go_wp2_with fail
  refine (HPR.out w1).mono ?_
  rintro e w4 ⟨p, rfl, hB4, hb4⟩
  have HB4 := Lib.hid hB4
  have HW4 := Lib.hid (HZ.out.trans (hb4.mono HZ.out.size))
  clear hB4 hb4
  go_wp2_with fail
  refine (HTEN.out _).mono ?_
  rintro e w4 ⟨rfl, rfl⟩
  go_wp2_with fail
  refine (HPR2.out w4).mono ?_
  rintro e w6 ⟨q, rfl, hB6, hb6⟩
  have HB6 := Lib.hid hB6
  have HW6 := Lib.hid (HW4.out.trans (hb6.mono HW4.out.size))
  have HB46 := Lib.hid (HB4.out.below hb6)
  clear hB6 hb6
  go_wp2_with fail
  go_ret3
  exact ⟨p, q, rfl, HB46.out, HB6.out, HW6.out⟩
end Go.Proofs.YtmepjcnpbjdlkaaGreatDoor
/- price.Clean by contract. -/
namespace Go.Proofs.YtmepjcnpbjdlkaaGreatDoor
set_option linter.unusedVariables false
set_option linter.unusedSimpArgs false
open Go.RowKit
attribute [local irreducible] Go.wpStill

theorem face_facts {s : SecV} (h : checkN s = 0) (hk : s.kind = 2 ∨ s.kind = 3) : 1 ≤ s.face := by
  unfold checkN at h
  split at h
  · omega
  split at h
  · omega
  split at h
  · omega
  unfold kindN at h
  by_cases h2 : s.kind = 2
  · rw [if_pos h2] at h
    unfold bondN at h
    split at h
    · omega
    · omega
  · rw [if_neg h2, if_pos (by omega)] at h
    unfold billN at h
    split at h
    · omega
    · omega
def CleanP (s : SecV) (qty price scale mode : Int) (w : World) (e : Ending) (w' : World) : Prop := ∃ v2, e = .returned (.tuple #[.int .i64 (cleanR s qty price scale mode).1, v2]) ∧ ErrP v2 (cleanR s qty price scale mode).2 none ∧ Below w.heap.size w w'
set_option maxRecDepth 100000 in
set_option maxHeartbeats 8000000 in
theorem clean_any (s : SecV) (qty price scale mode : Int) (w : World) (hcs : s.cur.size ≤ 140737488351232) (hok : Ok w) (hq : qty < 9223372036854775808) (hp : price < 9223372036854775808) (hf : s.face < 9223372036854775808) : Calls Tryz.prog 28 #[.agg (secC s), .int .i64 qty, .int .i64 price, .int .i64 scale, .int .i64 mode] w (CleanP s qty price scale mode w) := by
  have hC := fun w hok => checked_any s w hcs hok
  have hE := fun (qn pn sn : Nat) h1 h2 h3 w => equityClean_any (secC s) qn pn sn w h1 h2 h3
  have hL := fun (qn pn sn fn : Nat) h0 h1 h2 h3 h4 w => billClean_any s qn pn sn fn w h0 h1 h2 h3 h4
  have hBB := fun qty price scale w => cashClean_any (secC s) qty price scale w
  have hA1 : checkN s ≠ 0 → cleanR s qty price scale mode = (0, checkN s) := fun h => by unfold cleanR; rw [if_pos h]
  have hA2 : checkN s = 0 → s.kind = 4 → cleanR s qty price scale mode = (0, 24) := fun h k => by unfold cleanR; rw [if_neg (by omega), if_pos k]
  have hA3 : checkN s = 0 → s.kind ≠ 4 → (qty < 0 ∨ price < 0 ∨ scale < 0 ∨ 18 < scale ∨ mode < 0 ∨ 3 < mode) → cleanR s qty price scale mode = (0, 1) := fun h k l => by unfold cleanR; rw [if_neg (by omega), if_neg k, if_pos l]
  have hA4 : checkN s = 0 → s.kind ≠ 4 → s.kind = 1 → ¬ (qty < 0 ∨ price < 0 ∨ scale < 0 ∨ 18 < scale ∨ mode < 0 ∨ 3 < mode) → cleanR s qty price scale mode = DG.rounded (prodN [qty.toNat, price.toNat]) (prodN [10 ^ scale.toNat]) mode := fun h k k1 l => by unfold cleanR; rw [if_neg (by omega), if_neg k, if_neg l, if_pos k1]
  have hA5 : checkN s = 0 → s.kind ≠ 4 → s.kind ≠ 1 → ¬ (qty < 0 ∨ price < 0 ∨ scale < 0 ∨ 18 < scale ∨ mode < 0 ∨ 3 < mode) → cleanR s qty price scale mode = DG.rounded (prodN [qty.toNat, s.face.toNat, price.toNat]) (prodN [100, 10 ^ scale.toNat]) mode := fun h k k1 l => by unfold cleanR; rw [if_neg (by omega), if_neg k, if_neg l, if_neg k1]
  have hF1 := fun h k => face_facts (s := s) h k
  unfold CleanP
  have HC := Lib.hid hC
  have HOK := Lib.hid hok
  have z0 := (Below.refl w.heap.size w).alloc (Nat.le_refl _) (.cells (secC s) 25)
  have HZ0 := Lib.hid z0
  have HG := Lib.hid (heap_alloc_new w (.cells (secC s) 25))
  have hcell : ∀ w1, Below (w.alloc (.cells (secC s) 25)).heap.size (w.alloc (.cells (secC s) 25)) w1 → w1.cell? ⟨w.heap.size, 12, none⟩ = some (.int .i64 s.kind) ∧ True := fun w1 h => by
    have e := rowAt_below (heap_alloc_new w (.cells (secC s) 25)) h
    exact ⟨by rw [cell_of_row _ _ _ _ _ _ e]; rfl, trivial⟩
  have hm1 := fun (n : Nat) (w : World) => mcEquity n (secC s) w
  have hm2 := fun (n : Nat) (w : World) => mcBond n s w
  have hm3 := fun (n : Nat) (w : World) => mcBill n (secC s) w
  have hm4 := fun (n : Nat) (w : World) => mcCash n (secC s) w
  have HE := Lib.hid hE
  have HL := Lib.hid hL
  have HBB := Lib.hid hBB
  have HA1 := Lib.hid hA1
  have HA2 := Lib.hid hA2
  have HA3 := Lib.hid hA3
  have HA4 := Lib.hid hA4
  have HA5 := Lib.hid hA5
  have HF1 := Lib.hid hF1
  have HCELL := Lib.hid hcell
  have HM1 := Lib.hid hm1
  have HM2 := Lib.hid hm2
  have HM3 := Lib.hid hm3
  have HM4 := Lib.hid hm4
  clear hC hok z0 hm1 hm2 hm3 hm4 hE hL hBB hA1 hA2 hA3 hA4 hA5 hF1 hcs hcell
  generalize hkN : checkN s = kN at *
  generalize cleanR s qty price scale mode = R at *
  go_enter Tryz.func28, Tryz.ntmps28
  go_wp2_with (refine wpList_val (.agg (secC s)) (by kernel_rfl) (exec_load_row HG.out rfl rfl Tryz.underlying25 rfl (by kernel_rfl)) ?_)
  refine (HC.out _ (HOK.out.below HZ0.out)).mono ?_
  rintro e w1 ⟨p, v, rfl, hE, hPP, hBw⟩
  rw [hkN] at hE hPP
  have hbw := HZ0.out.trans (hBw.mono (by simp))
  have HBW := Lib.hid hbw
  have HPP := Lib.hid hPP
  have HBwb := Lib.hid hBw
  clear hBw hbw HC hPP HG
  by_cases hk0 : kN = 0
  · obtain ⟨rfl, _⟩ := hE.zero hk0
    obtain ⟨nn, hP⟩ := HPP.out hk0
    have HK0 := Lib.hid hk0
    clear hk0 hE HPP
    cases hP with
    | equity hk =>
      have HK := Lib.hid hk
      have hjk := (HCELL.out w1 HBwb.out).1
      rw [hk] at hjk
      have hm := HM1.out
      by_cases hg : qty < 0 ∨ price < 0 ∨ scale < 0 ∨ 18 < scale ∨ mode < 0 ∨ 3 < mode
      · have HAA := Lib.hid (HA3.out HK0.out (by omega) hg)
        clear hk HE HL HBB HA1 HA2 HA3 HA4 HA5
        by_cases g0 : qty < 0
        · have d0 : decide (qty < 0) = true := decide_eq_true g0
          clear hg g0
          go_wp2_with fail
          go_ret2
          exact ⟨_, by rw [HAA.out]; rfl, by rw [HAA.out]; exact errP_errno (by decide) (by decide), HBW.out⟩
        · have d0 : decide (qty < 0) = false := decide_eq_false (by omega)
          by_cases g1 : price < 0
          · have d1 : decide (price < 0) = true := decide_eq_true g1
            clear hg g0 g1
            go_wp2_with fail
            go_ret2
            exact ⟨_, by rw [HAA.out]; rfl, by rw [HAA.out]; exact errP_errno (by decide) (by decide), HBW.out⟩
          · have d1 : decide (price < 0) = false := decide_eq_false (by omega)
            by_cases g2 : scale < 0
            · have d2 : decide (scale < 0) = true := decide_eq_true g2
              clear hg g0 g1 g2
              go_wp2_with fail
              go_ret2
              exact ⟨_, by rw [HAA.out]; rfl, by rw [HAA.out]; exact errP_errno (by decide) (by decide), HBW.out⟩
            · have d2 : decide (scale < 0) = false := decide_eq_false (by omega)
              by_cases g3 : 18 < scale
              · have d3 : decide (scale > 18) = true := decide_eq_true g3
                clear hg g0 g1 g2 g3
                go_wp2_with fail
                go_ret2
                exact ⟨_, by rw [HAA.out]; rfl, by rw [HAA.out]; exact errP_errno (by decide) (by decide), HBW.out⟩
              · have d3 : decide (scale > 18) = false := decide_eq_false (by omega)
                by_cases g4 : mode < 0
                · have d4 : decide (mode < 0) = true := decide_eq_true g4
                  clear hg g0 g1 g2 g3 g4
                  go_wp2_with fail
                  go_ret2
                  exact ⟨_, by rw [HAA.out]; rfl, by rw [HAA.out]; exact errP_errno (by decide) (by decide), HBW.out⟩
                · have d4 : decide (mode < 0) = false := decide_eq_false (by omega)
                  have d5 : decide (mode > 3) = true := decide_eq_true (by omega)
                  clear hg g0 g1 g2 g3 g4
                  go_wp2_with fail
                  go_ret2
                  exact ⟨_, by rw [HAA.out]; rfl, by rw [HAA.out]; exact errP_errno (by decide) (by decide), HBW.out⟩
      · have d0 : decide (qty < 0) = false := decide_eq_false (by omega)
        have d1 : decide (price < 0) = false := decide_eq_false (by omega)
        have d2 : decide (scale < 0) = false := decide_eq_false (by omega)
        have d3 : decide (scale > 18) = false := decide_eq_false (by omega)
        have d4 : decide (mode < 0) = false := decide_eq_false (by omega)
        have d5 : decide (mode > 3) = false := decide_eq_false (by omega)
        obtain ⟨qn, hqn⟩ := Int.eq_ofNat_of_zero_le (show 0 ≤ qty by omega)
        obtain ⟨pn, hpn⟩ := Int.eq_ofNat_of_zero_le (show 0 ≤ price by omega)
        obtain ⟨sn, hsn⟩ := Int.eq_ofNat_of_zero_le (show 0 ≤ scale by omega)
        have hAA := HA4.out HK0.out (by omega) hk hg
        rw [hqn, hpn, hsn] at hAA
        simp only [Int.toNat_natCast] at hAA
        have hE1 := HE.out qn pn sn (by omega) (by omega) (by omega) w1
        rw [← hqn, ← hpn, ← hsn] at hE1
        have ht := ten_facts sn (by omega)
        have htp : 0 < 10 ^ sn := Nat.pow_pos (by decide)
        have hpq : 0 < prodN [10 ^ sn] := by simp [prodN]; omega
        have hl1 := prodN_len [qn, pn] (by simp; omega) (by simp) 2 (by simp)
        have hl2 := prodN_len [10 ^ sn] (by simp; omega) (by simp) 1 (by simp)
        have HT := Lib.hid (fun e w2 (h : TwoP (prodN [qn, pn]) (prodN [10 ^ sn]) w1 e w2) => h.rounded mode hpq (Nat.le_trans hl1 (by decide)) (Nat.le_trans hl2 (by decide)))
        have HAA := Lib.hid hAA
        have HE1 := Lib.hid hE1
        clear hk hg hAA hE1 ht htp hpq hl1 hl2 hqn hpn hsn HE HL HBB HA1 HA2 HA3 HA4 HA5
        generalize prodN [qn, pn] = M at *
        generalize prodN [10 ^ sn] = Nn at *
        go_wp2_with fail
        refine HE1.out.mono ?_
        rintro e w2 hTw
        obtain ⟨p, q, rfl, hR, hb2⟩ := HT.out _ _ hTw
        have HR := Lib.hid hR
        have HB2 := Lib.hid (HBW.out.trans (hb2.mono HBW.out.size))
        clear hTw hR hb2
        go_wp2_with fail
        refine HR.out.mono ?_
        rintro e w3 ⟨v2, rfl, hEr, hb3⟩
        have HER := Lib.hid hEr
        have HB3 := Lib.hid (HB2.out.trans (hb3.mono HB2.out.size))
        clear hEr hb3
        go_wp2_with fail
        go_ret2
        exact ⟨_, by rw [HAA.out]; rfl, by rw [HAA.out]; exact HER.out, HB3.out⟩
    | bill hk =>
      have HK := Lib.hid hk
      have hjk := (HCELL.out w1 HBwb.out).1
      rw [hk] at hjk
      have hm := HM3.out
      by_cases hg : qty < 0 ∨ price < 0 ∨ scale < 0 ∨ 18 < scale ∨ mode < 0 ∨ 3 < mode
      · have HAA := Lib.hid (HA3.out HK0.out (by omega) hg)
        clear hk HE HL HBB HA1 HA2 HA3 HA4 HA5
        by_cases g0 : qty < 0
        · have d0 : decide (qty < 0) = true := decide_eq_true g0
          clear hg g0
          go_wp2_with fail
          go_ret2
          exact ⟨_, by rw [HAA.out]; rfl, by rw [HAA.out]; exact errP_errno (by decide) (by decide), HBW.out⟩
        · have d0 : decide (qty < 0) = false := decide_eq_false (by omega)
          by_cases g1 : price < 0
          · have d1 : decide (price < 0) = true := decide_eq_true g1
            clear hg g0 g1
            go_wp2_with fail
            go_ret2
            exact ⟨_, by rw [HAA.out]; rfl, by rw [HAA.out]; exact errP_errno (by decide) (by decide), HBW.out⟩
          · have d1 : decide (price < 0) = false := decide_eq_false (by omega)
            by_cases g2 : scale < 0
            · have d2 : decide (scale < 0) = true := decide_eq_true g2
              clear hg g0 g1 g2
              go_wp2_with fail
              go_ret2
              exact ⟨_, by rw [HAA.out]; rfl, by rw [HAA.out]; exact errP_errno (by decide) (by decide), HBW.out⟩
            · have d2 : decide (scale < 0) = false := decide_eq_false (by omega)
              by_cases g3 : 18 < scale
              · have d3 : decide (scale > 18) = true := decide_eq_true g3
                clear hg g0 g1 g2 g3
                go_wp2_with fail
                go_ret2
                exact ⟨_, by rw [HAA.out]; rfl, by rw [HAA.out]; exact errP_errno (by decide) (by decide), HBW.out⟩
              · have d3 : decide (scale > 18) = false := decide_eq_false (by omega)
                by_cases g4 : mode < 0
                · have d4 : decide (mode < 0) = true := decide_eq_true g4
                  clear hg g0 g1 g2 g3 g4
                  go_wp2_with fail
                  go_ret2
                  exact ⟨_, by rw [HAA.out]; rfl, by rw [HAA.out]; exact errP_errno (by decide) (by decide), HBW.out⟩
                · have d4 : decide (mode < 0) = false := decide_eq_false (by omega)
                  have d5 : decide (mode > 3) = true := decide_eq_true (by omega)
                  clear hg g0 g1 g2 g3 g4
                  go_wp2_with fail
                  go_ret2
                  exact ⟨_, by rw [HAA.out]; rfl, by rw [HAA.out]; exact errP_errno (by decide) (by decide), HBW.out⟩
      · have d0 : decide (qty < 0) = false := decide_eq_false (by omega)
        have d1 : decide (price < 0) = false := decide_eq_false (by omega)
        have d2 : decide (scale < 0) = false := decide_eq_false (by omega)
        have d3 : decide (scale > 18) = false := decide_eq_false (by omega)
        have d4 : decide (mode < 0) = false := decide_eq_false (by omega)
        have d5 : decide (mode > 3) = false := decide_eq_false (by omega)
        obtain ⟨qn, hqn⟩ := Int.eq_ofNat_of_zero_le (show 0 ≤ qty by omega)
        obtain ⟨pn, hpn⟩ := Int.eq_ofNat_of_zero_le (show 0 ≤ price by omega)
        obtain ⟨sn, hsn⟩ := Int.eq_ofNat_of_zero_le (show 0 ≤ scale by omega)
        have hf1 := HF1.out HK0.out (by omega)
        obtain ⟨fn, hfn⟩ := Int.eq_ofNat_of_zero_le (show 0 ≤ s.face by omega)
        have hAA := HA5.out HK0.out (by omega) (by omega) hg
        rw [hqn, hpn, hsn, hfn] at hAA
        simp only [Int.toNat_natCast] at hAA
        have hE1 := HL.out qn pn sn fn hfn (by omega) (by omega) (by omega) (by omega) w1
        rw [← hqn, ← hpn, ← hsn] at hE1
        have ht := ten_facts sn (by omega)
        have htp : 0 < 10 ^ sn := Nat.pow_pos (by decide)
        have hpq : 0 < prodN [100, 10 ^ sn] := by simp [prodN]; omega
        have hl1 := prodN_len [qn, fn, pn] (by simp; omega) (by simp) 3 (by simp)
        have hl2 := prodN_len [100, 10 ^ sn] (by simp; omega) (by simp) 2 (by simp)
        have HT := Lib.hid (fun e w2 (h : TwoP (prodN [qn, fn, pn]) (prodN [100, 10 ^ sn]) w1 e w2) => h.rounded mode hpq (Nat.le_trans hl1 (by decide)) (Nat.le_trans hl2 (by decide)))
        have HAA := Lib.hid hAA
        have HE1 := Lib.hid hE1
        clear hk hg hAA hE1 ht htp hpq hl1 hl2 hqn hpn hsn HE HL HBB HA1 HA2 HA3 HA4 HA5 hf1 hfn
        generalize prodN [qn, fn, pn] = M at *
        generalize prodN [100, 10 ^ sn] = Nn at *
        go_wp2_with fail
        refine HE1.out.mono ?_
        rintro e w2 hTw
        obtain ⟨p, q, rfl, hR, hb2⟩ := HT.out _ _ hTw
        have HR := Lib.hid hR
        have HB2 := Lib.hid (HBW.out.trans (hb2.mono HBW.out.size))
        clear hTw hR hb2
        go_wp2_with fail
        refine HR.out.mono ?_
        rintro e w3 ⟨v2, rfl, hEr, hb3⟩
        have HER := Lib.hid hEr
        have HB3 := Lib.hid (HB2.out.trans (hb3.mono HB2.out.size))
        clear hEr hb3
        go_wp2_with fail
        go_ret2
        exact ⟨_, by rw [HAA.out]; rfl, by rw [HAA.out]; exact HER.out, HB3.out⟩
    | bond hk =>
      have HK := Lib.hid hk
      have hjk := (HCELL.out w1 HBwb.out).1
      rw [hk] at hjk
      have hm := HM2.out
      by_cases hg : qty < 0 ∨ price < 0 ∨ scale < 0 ∨ 18 < scale ∨ mode < 0 ∨ 3 < mode
      · have HAA := Lib.hid (HA3.out HK0.out (by omega) hg)
        clear hk HE HL HBB HA1 HA2 HA3 HA4 HA5
        by_cases g0 : qty < 0
        · have d0 : decide (qty < 0) = true := decide_eq_true g0
          clear hg g0
          go_wp2_with fail
          go_ret2
          exact ⟨_, by rw [HAA.out]; rfl, by rw [HAA.out]; exact errP_errno (by decide) (by decide), HBW.out⟩
        · have d0 : decide (qty < 0) = false := decide_eq_false (by omega)
          by_cases g1 : price < 0
          · have d1 : decide (price < 0) = true := decide_eq_true g1
            clear hg g0 g1
            go_wp2_with fail
            go_ret2
            exact ⟨_, by rw [HAA.out]; rfl, by rw [HAA.out]; exact errP_errno (by decide) (by decide), HBW.out⟩
          · have d1 : decide (price < 0) = false := decide_eq_false (by omega)
            by_cases g2 : scale < 0
            · have d2 : decide (scale < 0) = true := decide_eq_true g2
              clear hg g0 g1 g2
              go_wp2_with fail
              go_ret2
              exact ⟨_, by rw [HAA.out]; rfl, by rw [HAA.out]; exact errP_errno (by decide) (by decide), HBW.out⟩
            · have d2 : decide (scale < 0) = false := decide_eq_false (by omega)
              by_cases g3 : 18 < scale
              · have d3 : decide (scale > 18) = true := decide_eq_true g3
                clear hg g0 g1 g2 g3
                go_wp2_with fail
                go_ret2
                exact ⟨_, by rw [HAA.out]; rfl, by rw [HAA.out]; exact errP_errno (by decide) (by decide), HBW.out⟩
              · have d3 : decide (scale > 18) = false := decide_eq_false (by omega)
                by_cases g4 : mode < 0
                · have d4 : decide (mode < 0) = true := decide_eq_true g4
                  clear hg g0 g1 g2 g3 g4
                  go_wp2_with fail
                  go_ret2
                  exact ⟨_, by rw [HAA.out]; rfl, by rw [HAA.out]; exact errP_errno (by decide) (by decide), HBW.out⟩
                · have d4 : decide (mode < 0) = false := decide_eq_false (by omega)
                  have d5 : decide (mode > 3) = true := decide_eq_true (by omega)
                  clear hg g0 g1 g2 g3 g4
                  go_wp2_with fail
                  go_ret2
                  exact ⟨_, by rw [HAA.out]; rfl, by rw [HAA.out]; exact errP_errno (by decide) (by decide), HBW.out⟩
      · have d0 : decide (qty < 0) = false := decide_eq_false (by omega)
        have d1 : decide (price < 0) = false := decide_eq_false (by omega)
        have d2 : decide (scale < 0) = false := decide_eq_false (by omega)
        have d3 : decide (scale > 18) = false := decide_eq_false (by omega)
        have d4 : decide (mode < 0) = false := decide_eq_false (by omega)
        have d5 : decide (mode > 3) = false := decide_eq_false (by omega)
        obtain ⟨qn, hqn⟩ := Int.eq_ofNat_of_zero_le (show 0 ≤ qty by omega)
        obtain ⟨pn, hpn⟩ := Int.eq_ofNat_of_zero_le (show 0 ≤ price by omega)
        obtain ⟨sn, hsn⟩ := Int.eq_ofNat_of_zero_le (show 0 ≤ scale by omega)
        have hf1 := HF1.out HK0.out (by omega)
        obtain ⟨fn, hfn⟩ := Int.eq_ofNat_of_zero_le (show 0 ≤ s.face by omega)
        have hAA := HA5.out HK0.out (by omega) (by omega) hg
        rw [hqn, hpn, hsn, hfn] at hAA
        simp only [Int.toNat_natCast] at hAA
        have hE1 := HL.out qn pn sn fn hfn (by omega) (by omega) (by omega) (by omega) w1
        rw [← hqn, ← hpn, ← hsn] at hE1
        have ht := ten_facts sn (by omega)
        have htp : 0 < 10 ^ sn := Nat.pow_pos (by decide)
        have hpq : 0 < prodN [100, 10 ^ sn] := by simp [prodN]; omega
        have hl1 := prodN_len [qn, fn, pn] (by simp; omega) (by simp) 3 (by simp)
        have hl2 := prodN_len [100, 10 ^ sn] (by simp; omega) (by simp) 2 (by simp)
        have HT := Lib.hid (fun e w2 (h : TwoP (prodN [qn, fn, pn]) (prodN [100, 10 ^ sn]) w1 e w2) => h.rounded mode hpq (Nat.le_trans hl1 (by decide)) (Nat.le_trans hl2 (by decide)))
        have HAA := Lib.hid hAA
        have HE1 := Lib.hid hE1
        clear hk hg hAA hE1 ht htp hpq hl1 hl2 hqn hpn hsn HE HL HBB HA1 HA2 HA3 HA4 HA5 hf1 hfn
        generalize prodN [qn, fn, pn] = M at *
        generalize prodN [100, 10 ^ sn] = Nn at *
        go_wp2_with fail
        refine HE1.out.mono ?_
        rintro e w2 hTw
        obtain ⟨p, q, rfl, hR, hb2⟩ := HT.out _ _ hTw
        have HR := Lib.hid hR
        have HB2 := Lib.hid (HBW.out.trans (hb2.mono HBW.out.size))
        clear hTw hR hb2
        go_wp2_with fail
        refine HR.out.mono ?_
        rintro e w3 ⟨v2, rfl, hEr, hb3⟩
        have HER := Lib.hid hEr
        have HB3 := Lib.hid (HB2.out.trans (hb3.mono HB2.out.size))
        clear hEr hb3
        go_wp2_with fail
        go_ret2
        exact ⟨_, by rw [HAA.out]; rfl, by rw [HAA.out]; exact HER.out, HB3.out⟩
    | cash hk =>
      have HAA := Lib.hid (HA2.out HK0.out hk)
      have hjk := (HCELL.out w1 HBwb.out).1
      rw [hk] at hjk
      have hm := HM4.out
      clear hk HE HL HA1 HA2 HA3 HA4 HA5
      go_wp2_with fail
      refine (HBB.out _ _ _ w1).mono ?_
      rintro e w2 ⟨rfl, hb2⟩
      have HB2 := Lib.hid (HBW.out.trans (hb2.mono HBW.out.size))
      clear hb2
      go_wp2_with fail
      go_ret2
      exact ⟨_, by rw [HAA.out]; rfl, by rw [HAA.out]; exact errP_errno (by decide) (by decide), HB2.out⟩
  · obtain ⟨t, x, rfl⟩ := hE.held hk0
    have HAA := Lib.hid (HA1.out hk0)
    have HE := Lib.hid hE
    clear hk0 hE
    go_wp2_with fail
    go_ret2
    exact ⟨_, by rw [HAA.out]; rfl, by rw [HAA.out]; exact HE.out, HBW.out⟩
end Go.Proofs.YtmepjcnpbjdlkaaGreatDoor
/- the document's Clean by contract. -/
namespace Go.Proofs.YtmepjcnpbjdlkaaGreatDoor
set_option linter.unusedVariables false
set_option linter.unusedSimpArgs false
open Go.RowKit
attribute [local irreducible] Go.wpStill

end Go.Proofs.YtmepjcnpbjdlkaaGreatDoor
/- clean and accrued together. -/
namespace Go.Proofs.YtmepjcnpbjdlkaaGreatDoor
set_option linter.unusedVariables false
set_option linter.unusedSimpArgs false
open Go.RowKit
attribute [local irreducible] Go.wpStill

theorem rounded_lt (a Y : Nat) (mode : Int) : (DG.rounded a Y mode).1 ≤ 9223372036854775807 := by
  unfold DG.rounded
  split
  · next h => show ((DG.quo a Y mode : Nat) : Int) ≤ _; omega
  · decide
theorem AccIs.lt {s : SecV} {qty day mode z e : Int} (h : AccIs s qty day mode z e) : z ≤ 9223372036854775807 := by
  rcases h with ⟨h1, h2, h3⟩ | ⟨h1, h2, h3, h4⟩ | ⟨h1, h2, h3, h4, h5⟩ | ⟨h1, h2, h3, h4, h5, h6⟩ | ⟨h1, h2, h3, h4, f, A, B, h5, h6, h7⟩
  · omega
  · omega
  · omega
  · omega
  · have := rounded_lt (prodN [qty.toNat, s.face.toNat, s.coupon.toNat, A.toNat]) (prodN [1000000, B.toNat]) mode
    unfold bondAcc at h7
    rw [← h7] at this
    exact this
end Go.Proofs.YtmepjcnpbjdlkaaGreatDoor
