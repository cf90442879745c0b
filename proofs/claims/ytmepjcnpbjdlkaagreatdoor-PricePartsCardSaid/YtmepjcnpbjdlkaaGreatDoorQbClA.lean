/- texts of this claim, laid together: ClA, ClB, ClC, ClD. -/
import Derived.Test.YtmepjcnpbjdlkaaGreatDoorQbRefAcc
/- what a quantity costs: powers of ten, sums; the papers without their prices: by contract. -/
namespace Go.Proofs.YtmepjcnpbjdlkaaGreatDoor
set_option linter.unusedVariables false
set_option linter.unusedSimpArgs false
open Go.RowKit
attribute [local irreducible] Go.wpStill

theorem errP_amt (x : Value) {n : Int} (lo : 1 ≤ n) (hi : n ≤ 24) : ErrP (.iface 183 (.agg #[x, .int .i64 n])) n none := .plain (errIs_Amo _ _ n rfl lo hi) (noPlace_Amo _ _)
theorem ten_facts : ∀ n : Nat, n ≤ 18 → 10 ^ n ≤ 1000000000000000000 := fun n h => Nat.le_trans (Nat.pow_le_pow_right (by decide) h) (by decide)
set_option maxHeartbeats 2000000 in
theorem ten_any (n : Nat) (w : World) (hn : n ≤ 18) : Calls Tryz.prog 62 #[.int .i64 (n : Int)] w fun e w' => e = .returned (.int .i64 ((10 ^ n : Nat) : Int)) ∧ w' = w := by
  have HT := Lib.hid ten_facts
  go_enter Tryz.func62, Tryz.ntmps62
  go_wp2_with fail
  go_loopw [3, 5] (fun t k wr => ∃ i : Nat, k = .int .i64 i ∧ i ≤ n ∧ t = .int .i64 ((10 ^ i : Nat) : Int) ∧ wr = w) (fun _ k _ => n - (intOf k).toNat)
  case atStart => exact ⟨0, rfl, Nat.zero_le _, rfl, rfl⟩
  case round =>
    obtain ⟨i, rfl, hi, rfl, rfl⟩ := hrel
    by_cases hlt : i < n
    · have hdl : decide (i < n) = true := decide_eq_true hlt
      have h1 := HT.out (i + 1) (by omega)
      have h2 : 10 ^ (i + 1) = 10 ^ i * 10 := Nat.pow_succ ..
      rw [h2] at h1
      generalize 10 ^ i = p at *
      have HQ := Lib.hid h2
      have hp : p ≤ 100000000000000000 := by omega
      clear h2 h1
      go_wp2_with fail
      refine ⟨⟨i + 1, by go_num, by omega, ?_, trivial⟩, by simp [intOf]; omega⟩
      rw [HQ.out, Int.natCast_mul]
      rfl
    · have hdl : decide (i < n) = false := decide_eq_false hlt
      have hin : i = n := by omega
      subst hin
      go_wp2_with fail
      go_ret
      exact ⟨rfl, rfl⟩
set_option maxHeartbeats 2000000 in
theorem refTen_any (n : Nat) (w : World) (hn : n ≤ 18) : Calls Tryz.prog 52 #[.int .i64 (n : Int)] w fun e w' => e = .returned (.int .i64 ((10 ^ n : Nat) : Int)) ∧ w' = w := by
  have HT := Lib.hid ten_facts
  go_enter Tryz.func52, Tryz.ntmps52
  go_wp2_with fail
  go_loopw [3, 4] (fun t k wr => ∃ i : Nat, k = .int .i64 i ∧ i ≤ n ∧ t = .int .i64 ((10 ^ i : Nat) : Int) ∧ wr = w) (fun _ k _ => n - (intOf k).toNat)
  case atStart => exact ⟨0, rfl, Nat.zero_le _, rfl, rfl⟩
  case round =>
    obtain ⟨i, rfl, hi, rfl, rfl⟩ := hrel
    by_cases hlt : i < n
    · have hdl : decide (i < n) = true := decide_eq_true hlt
      have h1 := HT.out (i + 1) (by omega)
      have h2 : 10 ^ (i + 1) = 10 ^ i * 10 := Nat.pow_succ ..
      rw [h2] at h1
      generalize 10 ^ i = p at *
      have HQ := Lib.hid h2
      have hp : p ≤ 100000000000000000 := by omega
      clear h2 h1
      go_wp2_with fail
      refine ⟨⟨i + 1, by go_num, by omega, ?_, trivial⟩, by simp [intOf]; omega⟩
      rw [HQ.out, Int.natCast_mul]
      rfl
    · have hdl : decide (i < n) = false := decide_eq_false hlt
      have hin : i = n := by omega
      subst hin
      go_wp2_with fail
      go_ret
      exact ⟨rfl, rfl⟩
/-- a sum and its error -/
def addR (a b : Int) : Int × Int := if a < 0 ∨ b < 0 then (0, 1) else if 9223372036854775807 - b < a then (0, 9) else (a + b, 0)
set_option maxHeartbeats 2000000 in
theorem refAdd_any (a b : Int) (w : World) (ha : a ≤ 9223372036854775807) (hb : b ≤ 9223372036854775807) : Calls Tryz.prog 76 #[.int .i64 a, .int .i64 b] w fun e w' => e = .returned (.tuple #[.int .i64 (addR a b).1, .int .i64 (addR a b).2]) ∧ w' = w := by
  have hA1 : (a < 0 ∨ b < 0) → addR a b = (0, 1) := fun h => by unfold addR; rw [if_pos h]
  have hA2 : ¬ (a < 0 ∨ b < 0) → 9223372036854775807 - b < a → addR a b = (0, 9) := fun h k => by unfold addR; rw [if_neg h, if_pos k]
  have hA3 : ¬ (a < 0 ∨ b < 0) → ¬ 9223372036854775807 - b < a → addR a b = (a + b, 0) := fun h k => by unfold addR; rw [if_neg h, if_neg k]
  generalize addR a b = R at *
  have HA1 := Lib.hid hA1
  have HA2 := Lib.hid hA2
  have HA3 := Lib.hid hA3
  clear hA1 hA2 hA3
  by_cases h : a < 0 ∨ b < 0
  · have HR := Lib.hid (HA1.out h)
    by_cases h1 : a < 0
    · have d1 : decide (a < 0) = true := decide_eq_true h1
      clear h h1
      go_enter Tryz.func76, Tryz.ntmps76
      go_wp2_with fail
      go_ret2
      exact ⟨by rw [HR.out]; rfl, rfl⟩
    · have d1 : decide (a < 0) = false := decide_eq_false h1
      have d2 : decide (b < 0) = true := decide_eq_true (by omega)
      clear h h1
      go_enter Tryz.func76, Tryz.ntmps76
      go_wp2_with fail
      go_ret2
      exact ⟨by rw [HR.out]; rfl, rfl⟩
  · have d1 : decide (a < 0) = false := decide_eq_false (by omega)
    have d2 : decide (b < 0) = false := decide_eq_false (by omega)
    have h0 : 0 ≤ a ∧ 0 ≤ b := by omega
    obtain ⟨h1, h2⟩ := h0
    by_cases h3 : 9223372036854775807 - b < a
    · have HR := Lib.hid (HA2.out h h3)
      have hsum : 9223372036854775807 < a + b := by omega
      have d3 : decide (b > 9223372036854775807 - a) = true := decide_eq_true (by omega)
      clear h h3
      go_enter Tryz.func76, Tryz.ntmps76
      go_wp2_with fail
      go_ret2
      exact ⟨by rw [HR.out]; rfl, rfl⟩
    · have HR := Lib.hid (HA3.out h h3)
      have hsum : a + b ≤ 9223372036854775807 := by omega
      have d3 : decide (b > 9223372036854775807 - a) = false := decide_eq_false (by omega)
      clear h h3
      go_enter Tryz.func76, Tryz.ntmps76
      go_wp2_with fail
      go_ret2
      exact ⟨by rw [HR.out]; rfl, rfl⟩
set_option maxHeartbeats 2000000 in
theorem add64_any (a b : Int) (w : World) (ha : a ≤ 9223372036854775807) (hb : b ≤ 9223372036854775807) : Calls Tryz.prog 77 #[.int .i64 a, .int .i64 b] w fun e w' => (∃ v, e = .returned (.tuple #[.int .i64 (addR a b).1, v]) ∧ ErrP v (addR a b).2 none) ∧ w' = w := by
  have hA1 : (a < 0 ∨ b < 0) → addR a b = (0, 1) := fun h => by unfold addR; rw [if_pos h]
  have hA2 : ¬ (a < 0 ∨ b < 0) → 9223372036854775807 - b < a → addR a b = (0, 9) := fun h k => by unfold addR; rw [if_neg h, if_pos k]
  have hA3 : ¬ (a < 0 ∨ b < 0) → ¬ 9223372036854775807 - b < a → addR a b = (a + b, 0) := fun h k => by unfold addR; rw [if_neg h, if_neg k]
  generalize addR a b = R at *
  have HA1 := Lib.hid hA1
  have HA2 := Lib.hid hA2
  have HA3 := Lib.hid hA3
  clear hA1 hA2 hA3
  by_cases h : a < 0 ∨ b < 0
  · have HR := Lib.hid (HA1.out h)
    by_cases h1 : a < 0
    · have d1 : decide (a < 0) = true := decide_eq_true h1
      clear h h1
      go_enter Tryz.func77, Tryz.ntmps77
      go_wp2_with fail
      go_ret2
      refine ⟨⟨_, by rw [HR.out]; rfl, ?_⟩, rfl⟩
      rw [HR.out]
      exact errP_errno (by decide) (by decide)
    · have d1 : decide (a < 0) = false := decide_eq_false h1
      have d2 : decide (b < 0) = true := decide_eq_true (by omega)
      clear h h1
      go_enter Tryz.func77, Tryz.ntmps77
      go_wp2_with fail
      go_ret2
      refine ⟨⟨_, by rw [HR.out]; rfl, ?_⟩, rfl⟩
      rw [HR.out]
      exact errP_errno (by decide) (by decide)
  · have d1 : decide (a < 0) = false := decide_eq_false (by omega)
    have d2 : decide (b < 0) = false := decide_eq_false (by omega)
    have h0 : 0 ≤ a ∧ 0 ≤ b := by omega
    obtain ⟨h1, h2⟩ := h0
    by_cases h3 : 9223372036854775807 - b < a
    · have HR := Lib.hid (HA2.out h h3)
      have hsum : 9223372036854775807 < a + b := by omega
      have d3 : decide (a > 9223372036854775807 - b) = true := decide_eq_true (by omega)
      clear h h3
      go_enter Tryz.func77, Tryz.ntmps77
      go_wp2_with fail
      go_ret2
      refine ⟨⟨_, by rw [HR.out]; rfl, ?_⟩, rfl⟩
      rw [HR.out]
      exact errP_amt _ (by decide) (by decide)
    · have HR := Lib.hid (HA3.out h h3)
      have hsum : a + b ≤ 9223372036854775807 := by omega
      have d3 : decide (a > 9223372036854775807 - b) = false := decide_eq_false (by omega)
      clear h h3
      go_enter Tryz.func77, Tryz.ntmps77
      go_wp2_with fail
      go_ret2
      refine ⟨⟨_, by rw [HR.out]; rfl, ?_⟩, rfl⟩
      rw [HR.out]
      exact .nil
/-- the answer and the error of a price without interest -/
def cleanR (s : SecV) (qty price scale mode : Int) : Int × Int :=
  if checkN s ≠ 0 then (0, checkN s) else if s.kind = 4 then (0, 24) else
  if qty < 0 ∨ price < 0 ∨ scale < 0 ∨ 18 < scale ∨ mode < 0 ∨ 3 < mode then (0, 1) else
  if s.kind = 1 then DG.rounded (prodN [qty.toNat, price.toNat]) (prodN [10 ^ scale.toNat]) mode else DG.rounded (prodN [qty.toNat, s.face.toNat, price.toNat]) (prodN [100, 10 ^ scale.toNat]) mode
theorem mcEquity (n : Nat) (cs : Array Value) (w : World) : (Go.method (n + 1) 203 (.agg cs) "custody/price.clean").run Tryz.prog w = .ok (213, .agg cs) w := by kernel_rfl
theorem mcBill (n : Nat) (cs : Array Value) (w : World) : (Go.method (n + 1) 204 (.agg cs) "custody/price.clean").run Tryz.prog w = .ok (218, .agg cs) w := by kernel_rfl
theorem mcBond (n : Nat) (s : SecV) (w : World) : (Go.method (n + 1) 206 (.agg (secC s)) "custody/price.clean").run Tryz.prog w = .ok (218, .agg (secC s)) w := by kernel_rfl
theorem mcCash (n : Nat) (cs : Array Value) (w : World) : (Go.method (n + 1) 208 (.agg cs) "custody/price.clean").run Tryz.prog w = .ok (225, .agg cs) w := by kernel_rfl
set_option maxHeartbeats 2000000 in
theorem cashClean_any (cs : Array Value) (qty price scale : Value) (w : World) : Calls Tryz.prog 225 #[.agg cs, qty, price, scale] w fun e w' => e = .returned (.tuple #[.pointer none, .pointer none, .iface 76 (.int .i64 24)]) ∧ Below w.heap.size w w' := by
  have HZ := Lib.hid ((Below.refl w.heap.size w).alloc (Nat.le_refl _) (.cells cs 208))
  go_enter Tryz.func225, Tryz.ntmps225
  go_wp2_with fail
  go_ret3
  exact ⟨rfl, HZ.out⟩
theorem product_from (l : List Nat) (w3 : World) (hl : l.length ≤ 4) (hx : ∀ x ∈ l, x < 9223372036854775808) : Calls Tryz.prog 214 #[.slice (some ⟨w3.heap.size, 0, none⟩) l.length l.length] (w3.alloc (.cells (l.map (fun x : Nat => Value.int .i64 (x : Int))).toArray 2)) fun e w' => ∃ p, e = .returned (.pointer (some ⟨p, 0, none⟩)) ∧ BigAt w' p false (prodN l) ∧ Below w3.heap.size w3 w' := by
  refine (product_any w3.heap.size l _ (heap_alloc_new w3 _) hl hx).mono ?_
  rintro e w' ⟨p, h1, _, h2, h3⟩
  have hb : Below w3.heap.size w3 (w3.alloc (.cells (l.map (fun x : Nat => Value.int .i64 (x : Int))).toArray 2)) := (Below.refl _ _).alloc (Nat.le_refl _) _
  exact ⟨p, h1, h2, hb.trans (h3.mono hb.size)⟩
set_option maxHeartbeats 4000000 in
theorem equityClean_any (cs : Array Value) (qty price scale : Nat) (w : World) (hq : qty < 9223372036854775808) (hp : price < 9223372036854775808) (hs : scale ≤ 18) : Calls Tryz.prog 213 #[.agg cs, .int .i64 (qty : Int), .int .i64 (price : Int), .int .i64 (scale : Int)] w (TwoP (prodN [qty, price]) (prodN [10 ^ scale]) w) := by
  have HZ := Lib.hid ((Below.refl w.heap.size w).alloc (Nat.le_refl _) (.cells cs 203))
  have ht := ten_facts scale hs
  have hxx : ∀ x ∈ [qty, price], x < 9223372036854775808 := by simp; omega
  have hyy : ∀ x ∈ [10 ^ scale], x < 9223372036854775808 := by simp; omega
  have HPR := Lib.hid (fun w3 : World => product_from [qty, price] w3 (by simp) hxx)
  have HPR2 := Lib.hid (fun w3 : World => product_from [10 ^ scale] w3 (by simp) hyy)
  have HTEN := Lib.hid (fun w => ten_any scale w hs)
  clear ht hxx hyy
  generalize 10 ^ scale = T at *
  generalize hw1 : w.alloc (.cells cs 203) = w1 at *
  go_enter Tryz.func213, Tryz.ntmps213
  go_wp2_with fail
  refine (HPR.out w1).mono ?_
  rintro e w4 ⟨p, rfl, hB4, hb4⟩
  have HB4 := Lib.hid hB4
  have HW4 := Lib.hid (HZ.out.trans (hb4.mono HZ.out.size))
  clear hB4 hb4
  go_wp2_with fail
  refine (HTEN.out _).mono ?_
  rintro e w4 ⟨rfl, rfl⟩
  go_wp2_with fail
  refine (HPR2.out w4).mono ?_
  rintro e w6 ⟨q, rfl, hB6, hb6⟩
  have HB6 := Lib.hid hB6
  have HW6 := Lib.hid (HW4.out.trans (hb6.mono HW4.out.size))
  have HB46 := Lib.hid (HB4.out.below hb6)
  clear hB6 hb6
  go_wp2_with fail
  go_ret3
  exact ⟨p, q, rfl, HB46.out, HB6.out, HW6.out⟩
set_option maxHeartbeats 4000000 in
theorem billClean_any (s : SecV) (qty price scale fn : Nat) (w : World) (hf : s.face = fn) (hfb : fn < 9223372036854775808) (hq : qty < 9223372036854775808) (hp : price < 9223372036854775808) (hs : scale ≤ 18) : Calls Tryz.prog 218 #[.agg (secC s), .int .i64 (qty : Int), .int .i64 (price : Int), .int .i64 (scale : Int)] w (TwoP (prodN [qty, fn, price]) (prodN [100, 10 ^ scale]) w) := by
  have HZ := Lib.hid ((Below.refl w.heap.size w).alloc (Nat.le_refl _) (.cells (secC s) 204))
  have hc13 : (w.alloc (.cells (secC s) 204)).cell? ⟨w.heap.size, 13, none⟩ = some (.int .i64 (fn : Int)) := by
    rw [cell_of_row _ _ _ _ _ _ (heap_alloc_new w (.cells (secC s) 204)), ← hf]; rfl
  have ht := ten_facts scale hs
  have hxx : ∀ x ∈ [qty, fn, price], x < 9223372036854775808 := by simp; omega
  have hyy : ∀ x ∈ [100, 10 ^ scale], x < 9223372036854775808 := by simp; omega
  have HPR := Lib.hid (fun w3 : World => product_from [qty, fn, price] w3 (by simp) hxx)
  have HPR2 := Lib.hid (fun w3 : World => product_from [100, 10 ^ scale] w3 (by simp) hyy)
  have HTEN := Lib.hid (fun w => ten_any scale w hs)
  clear ht hxx hyy hf
  generalize 10 ^ scale = T at *
  generalize secC s = cs at *
  generalize hw1 : w.alloc (.cells cs 204) = w1 at *
  go_enter Tryz.func218, Tryz.ntmps218
  go_wp2_with fail
  refine (HPR.out w1).mono ?_
  rintro e w4 ⟨p, rfl, hB4, hb4⟩
  have HB4 := Lib.hid hB4
  have HW4 := Lib.hid (HZ.out.trans (hb4.mono HZ.out.size))
  clear hB4 hb4
  go_wp2_with fail
  refine (HTEN.out _).mono ?_
  rintro e w4 ⟨rfl, rfl⟩
  go_wp2_with fail
  refine (HPR2.out w4).mono ?_
  rintro e w6 ⟨q, rfl, hB6, hb6⟩
  have HB6 := Lib.hid hB6
  have HW6 := Lib.hid (HW4.out.trans (hb6.mono HW4.out.size))
  have HB46 := Lib.hid (HB4.out.below hb6)
  clear hB6 hb6
  go_wp2_with fail
  go_ret3
  exact ⟨p, q, rfl, HB46.out, HB6.out, HW6.out⟩
end Go.Proofs.YtmepjcnpbjdlkaaGreatDoor
/- price.Clean by contract. -/
namespace Go.Proofs.YtmepjcnpbjdlkaaGreatDoor
set_option linter.unusedVariables false
set_option linter.unusedSimpArgs false
open Go.RowKit
attribute [local irreducible] Go.wpStill

theorem face_facts {s : SecV} (h : checkN s = 0) (hk : s.kind = 2 ∨ s.kind = 3) : 1 ≤ s.face := by
  unfold checkN at h
  split at h
  · omega
  split at h
  · omega
  split at h
  · omega
  unfold kindN at h
  by_cases h2 : s.kind = 2
  · rw [if_pos h2] at h
    unfold bondN at h
    split at h
    · omega
    · omega
  · rw [if_neg h2, if_pos (by omega)] at h
    unfold billN at h
    split at h
    · omega
    · omega
def CleanP (s : SecV) (qty price scale mode : Int) (w : World) (e : Ending) (w' : World) : Prop := ∃ v2, e = .returned (.tuple #[.int .i64 (cleanR s qty price scale mode).1, v2]) ∧ ErrP v2 (cleanR s qty price scale mode).2 none ∧ Below w.heap.size w w'
set_option maxRecDepth 100000 in
set_option maxHeartbeats 8000000 in
theorem clean_any (s : SecV) (qty price scale mode : Int) (w : World) (hcs : s.cur.size ≤ 140737488351232) (hok : Ok w) (hq : qty < 9223372036854775808) (hp : price < 9223372036854775808) (hf : s.face < 9223372036854775808) : Calls Tryz.prog 28 #[.agg (secC s), .int .i64 qty, .int .i64 price, .int .i64 scale, .int .i64 mode] w (CleanP s qty price scale mode w) := by
  have hC := fun w hok => checked_any s w hcs hok
  have hE := fun (qn pn sn : Nat) h1 h2 h3 w => equityClean_any (secC s) qn pn sn w h1 h2 h3
  have hL := fun (qn pn sn fn : Nat) h0 h1 h2 h3 h4 w => billClean_any s qn pn sn fn w h0 h1 h2 h3 h4
  have hBB := fun qty price scale w => cashClean_any (secC s) qty price scale w
  have hA1 : checkN s ≠ 0 → cleanR s qty price scale mode = (0, checkN s) := fun h => by unfold cleanR; rw [if_pos h]
  have hA2 : checkN s = 0 → s.kind = 4 → cleanR s qty price scale mode = (0, 24) := fun h k => by unfold cleanR; rw [if_neg (by omega), if_pos k]
  have hA3 : checkN s = 0 → s.kind ≠ 4 → (qty < 0 ∨ price < 0 ∨ scale < 0 ∨ 18 < scale ∨ mode < 0 ∨ 3 < mode) → cleanR s qty price scale mode = (0, 1) := fun h k l => by unfold cleanR; rw [if_neg (by omega), if_neg k, if_pos l]
  have hA4 : checkN s = 0 → s.kind ≠ 4 → s.kind = 1 → ¬ (qty < 0 ∨ price < 0 ∨ scale < 0 ∨ 18 < scale ∨ mode < 0 ∨ 3 < mode) → cleanR s qty price scale mode = DG.rounded (prodN [qty.toNat, price.toNat]) (prodN [10 ^ scale.toNat]) mode := fun h k k1 l => by unfold cleanR; rw [if_neg (by omega), if_neg k, if_neg l, if_pos k1]
  have hA5 : checkN s = 0 → s.kind ≠ 4 → s.kind ≠ 1 → ¬ (qty < 0 ∨ price < 0 ∨ scale < 0 ∨ 18 < scale ∨ mode < 0 ∨ 3 < mode) → cleanR s qty price scale mode = DG.rounded (prodN [qty.toNat, s.face.toNat, price.toNat]) (prodN [100, 10 ^ scale.toNat]) mode := fun h k k1 l => by unfold cleanR; rw [if_neg (by omega), if_neg k, if_neg l, if_neg k1]
  have hF1 := fun h k => face_facts (s := s) h k
  unfold CleanP
  have HC := Lib.hid hC
  have HOK := Lib.hid hok
  have z0 := (Below.refl w.heap.size w).alloc (Nat.le_refl _) (.cells (secC s) 25)
  have HZ0 := Lib.hid z0
  have HG := Lib.hid (heap_alloc_new w (.cells (secC s) 25))
  have hcell : ∀ w1, Below (w.alloc (.cells (secC s) 25)).heap.size (w.alloc (.cells (secC s) 25)) w1 → w1.cell? ⟨w.heap.size, 12, none⟩ = some (.int .i64 s.kind) ∧ True := fun w1 h => by
    have e := rowAt_below (heap_alloc_new w (.cells (secC s) 25)) h
    exact ⟨by rw [cell_of_row _ _ _ _ _ _ e]; rfl, trivial⟩
  have hm1 := fun (n : Nat) (w : World) => mcEquity n (secC s) w
  have hm2 := fun (n : Nat) (w : World) => mcBond n s w
  have hm3 := fun (n : Nat) (w : World) => mcBill n (secC s) w
  have hm4 := fun (n : Nat) (w : World) => mcCash n (secC s) w
  have HE := Lib.hid hE
  have HL := Lib.hid hL
  have HBB := Lib.hid hBB
  have HA1 := Lib.hid hA1
  have HA2 := Lib.hid hA2
  have HA3 := Lib.hid hA3
  have HA4 := Lib.hid hA4
  have HA5 := Lib.hid hA5
  have HF1 := Lib.hid hF1
  have HCELL := Lib.hid hcell
  have HM1 := Lib.hid hm1
  have HM2 := Lib.hid hm2
  have HM3 := Lib.hid hm3
  have HM4 := Lib.hid hm4
  clear hC hok z0 hm1 hm2 hm3 hm4 hE hL hBB hA1 hA2 hA3 hA4 hA5 hF1 hcs hcell
  generalize hkN : checkN s = kN at *
  generalize cleanR s qty price scale mode = R at *
  go_enter Tryz.func28, Tryz.ntmps28
  go_wp2_with (refine wpList_val (.agg (secC s)) (by kernel_rfl) (exec_load_row HG.out rfl rfl Tryz.underlying25 rfl (by kernel_rfl)) ?_)
  refine (HC.out _ (HOK.out.below HZ0.out)).mono ?_
  rintro e w1 ⟨p, v, rfl, hE, hPP, hBw⟩
  rw [hkN] at hE hPP
  have hbw := HZ0.out.trans (hBw.mono (by simp))
  have HBW := Lib.hid hbw
  have HPP := Lib.hid hPP
  have HBwb := Lib.hid hBw
  clear hBw hbw HC hPP HG
  by_cases hk0 : kN = 0
  · obtain ⟨rfl, _⟩ := hE.zero hk0
    obtain ⟨nn, hP⟩ := HPP.out hk0
    have HK0 := Lib.hid hk0
    clear hk0 hE HPP
    cases hP with
    | equity hk =>
      have HK := Lib.hid hk
      have hjk := (HCELL.out w1 HBwb.out).1
      rw [hk] at hjk
      have hm := HM1.out
      by_cases hg : qty < 0 ∨ price < 0 ∨ scale < 0 ∨ 18 < scale ∨ mode < 0 ∨ 3 < mode
      · have HAA := Lib.hid (HA3.out HK0.out (by omega) hg)
        clear hk HE HL HBB HA1 HA2 HA3 HA4 HA5
        by_cases g0 : qty < 0
        · have d0 : decide (qty < 0) = true := decide_eq_true g0
          clear hg g0
          go_wp2_with fail
          go_ret2
          exact ⟨_, by rw [HAA.out]; rfl, by rw [HAA.out]; exact errP_errno (by decide) (by decide), HBW.out⟩
        · have d0 : decide (qty < 0) = false := decide_eq_false (by omega)
          by_cases g1 : price < 0
          · have d1 : decide (price < 0) = true := decide_eq_true g1
            clear hg g0 g1
            go_wp2_with fail
            go_ret2
            exact ⟨_, by rw [HAA.out]; rfl, by rw [HAA.out]; exact errP_errno (by decide) (by decide), HBW.out⟩
          · have d1 : decide (price < 0) = false := decide_eq_false (by omega)
            by_cases g2 : scale < 0
            · have d2 : decide (scale < 0) = true := decide_eq_true g2
              clear hg g0 g1 g2
              go_wp2_with fail
              go_ret2
              exact ⟨_, by rw [HAA.out]; rfl, by rw [HAA.out]; exact errP_errno (by decide) (by decide), HBW.out⟩
            · have d2 : decide (scale < 0) = false := decide_eq_false (by omega)
              by_cases g3 : 18 < scale
              · have d3 : decide (scale > 18) = true := decide_eq_true g3
                clear hg g0 g1 g2 g3
                go_wp2_with fail
                go_ret2
                exact ⟨_, by rw [HAA.out]; rfl, by rw [HAA.out]; exact errP_errno (by decide) (by decide), HBW.out⟩
              · have d3 : decide (scale > 18) = false := decide_eq_false (by omega)
                by_cases g4 : mode < 0
                · have d4 : decide (mode < 0) = true := decide_eq_true g4
                  clear hg g0 g1 g2 g3 g4
                  go_wp2_with fail
                  go_ret2
                  exact ⟨_, by rw [HAA.out]; rfl, by rw [HAA.out]; exact errP_errno (by decide) (by decide), HBW.out⟩
                · have d4 : decide (mode < 0) = false := decide_eq_false (by omega)
                  have d5 : decide (mode > 3) = true := decide_eq_true (by omega)
                  clear hg g0 g1 g2 g3 g4
                  go_wp2_with fail
                  go_ret2
                  exact ⟨_, by rw [HAA.out]; rfl, by rw [HAA.out]; exact errP_errno (by decide) (by decide), HBW.out⟩
      · have d0 : decide (qty < 0) = false := decide_eq_false (by omega)
        have d1 : decide (price < 0) = false := decide_eq_false (by omega)
        have d2 : decide (scale < 0) = false := decide_eq_false (by omega)
        have d3 : decide (scale > 18) = false := decide_eq_false (by omega)
        have d4 : decide (mode < 0) = false := decide_eq_false (by omega)
        have d5 : decide (mode > 3) = false := decide_eq_false (by omega)
        obtain ⟨qn, hqn⟩ := Int.eq_ofNat_of_zero_le (show 0 ≤ qty by omega)
        obtain ⟨pn, hpn⟩ := Int.eq_ofNat_of_zero_le (show 0 ≤ price by omega)
        obtain ⟨sn, hsn⟩ := Int.eq_ofNat_of_zero_le (show 0 ≤ scale by omega)
        have hAA := HA4.out HK0.out (by omega) hk hg
        rw [hqn, hpn, hsn] at hAA
        simp only [Int.toNat_natCast] at hAA
        have hE1 := HE.out qn pn sn (by omega) (by omega) (by omega) w1
        rw [← hqn, ← hpn, ← hsn] at hE1
        have ht := ten_facts sn (by omega)
        have htp : 0 < 10 ^ sn := Nat.pow_pos (by decide)
        have hpq : 0 < prodN [10 ^ sn] := by simp [prodN]; omega
        have hl1 := prodN_len [qn, pn] (by simp; omega) (by simp) 2 (by simp)
        have hl2 := prodN_len [10 ^ sn] (by simp; omega) (by simp) 1 (by simp)
        have HT := Lib.hid (fun e w2 (h : TwoP (prodN [qn, pn]) (prodN [10 ^ sn]) w1 e w2) => h.rounded mode hpq (Nat.le_trans hl1 (by decide)) (Nat.le_trans hl2 (by decide)))
        have HAA := Lib.hid hAA
        have HE1 := Lib.hid hE1
        clear hk hg hAA hE1 ht htp hpq hl1 hl2 hqn hpn hsn HE HL HBB HA1 HA2 HA3 HA4 HA5
        generalize prodN [qn, pn] = M at *
        generalize prodN [10 ^ sn] = Nn at *
        go_wp2_with fail
        refine HE1.out.mono ?_
        rintro e w2 hTw
        obtain ⟨p, q, rfl, hR, hb2⟩ := HT.out _ _ hTw
        have HR := Lib.hid hR
        have HB2 := Lib.hid (HBW.out.trans (hb2.mono HBW.out.size))
        clear hTw hR hb2
        go_wp2_with fail
        refine HR.out.mono ?_
        rintro e w3 ⟨v2, rfl, hEr, hb3⟩
        have HER := Lib.hid hEr
        have HB3 := Lib.hid (HB2.out.trans (hb3.mono HB2.out.size))
        clear hEr hb3
        go_wp2_with fail
        go_ret2
        exact ⟨_, by rw [HAA.out]; rfl, by rw [HAA.out]; exact HER.out, HB3.out⟩
    | bill hk =>
      have HK := Lib.hid hk
      have hjk := (HCELL.out w1 HBwb.out).1
      rw [hk] at hjk
      have hm := HM3.out
      by_cases hg : qty < 0 ∨ price < 0 ∨ scale < 0 ∨ 18 < scale ∨ mode < 0 ∨ 3 < mode
      · have HAA := Lib.hid (HA3.out HK0.out (by omega) hg)
        clear hk HE HL HBB HA1 HA2 HA3 HA4 HA5
        by_cases g0 : qty < 0
        · have d0 : decide (qty < 0) = true := decide_eq_true g0
          clear hg g0
          go_wp2_with fail
          go_ret2
          exact ⟨_, by rw [HAA.out]; rfl, by rw [HAA.out]; exact errP_errno (by decide) (by decide), HBW.out⟩
        · have d0 : decide (qty < 0) = false := decide_eq_false (by omega)
          by_cases g1 : price < 0
          · have d1 : decide (price < 0) = true := decide_eq_true g1
            clear hg g0 g1
            go_wp2_with fail
            go_ret2
            exact ⟨_, by rw [HAA.out]; rfl, by rw [HAA.out]; exact errP_errno (by decide) (by decide), HBW.out⟩
          · have d1 : decide (price < 0) = false := decide_eq_false (by omega)
            by_cases g2 : scale < 0
            · have d2 : decide (scale < 0) = true := decide_eq_true g2
              clear hg g0 g1 g2
              go_wp2_with fail
              go_ret2
              exact ⟨_, by rw [HAA.out]; rfl, by rw [HAA.out]; exact errP_errno (by decide) (by decide), HBW.out⟩
            · have d2 : decide (scale < 0) = false := decide_eq_false (by omega)
              by_cases g3 : 18 < scale
              · have d3 : decide (scale > 18) = true := decide_eq_true g3
                clear hg g0 g1 g2 g3
                go_wp2_with fail
                go_ret2
                exact ⟨_, by rw [HAA.out]; rfl, by rw [HAA.out]; exact errP_errno (by decide) (by decide), HBW.out⟩
              · have d3 : decide (scale > 18) = false := decide_eq_false (by omega)
                by_cases g4 : mode < 0
                · have d4 : decide (mode < 0) = true := decide_eq_true g4
                  clear hg g0 g1 g2 g3 g4
                  go_wp2_with fail
                  go_ret2
                  exact ⟨_, by rw [HAA.out]; rfl, by rw [HAA.out]; exact errP_errno (by decide) (by decide), HBW.out⟩
                · have d4 : decide (mode < 0) = false := decide_eq_false (by omega)
                  have d5 : decide (mode > 3) = true := decide_eq_true (by omega)
                  clear hg g0 g1 g2 g3 g4
                  go_wp2_with fail
                  go_ret2
                  exact ⟨_, by rw [HAA.out]; rfl, by rw [HAA.out]; exact errP_errno (by decide) (by decide), HBW.out⟩
      · have d0 : decide (qty < 0) = false := decide_eq_false (by omega)
        have d1 : decide (price < 0) = false := decide_eq_false (by omega)
        have d2 : decide (scale < 0) = false := decide_eq_false (by omega)
        have d3 : decide (scale > 18) = false := decide_eq_false (by omega)
        have d4 : decide (mode < 0) = false := decide_eq_false (by omega)
        have d5 : decide (mode > 3) = false := decide_eq_false (by omega)
        obtain ⟨qn, hqn⟩ := Int.eq_ofNat_of_zero_le (show 0 ≤ qty by omega)
        obtain ⟨pn, hpn⟩ := Int.eq_ofNat_of_zero_le (show 0 ≤ price by omega)
        obtain ⟨sn, hsn⟩ := Int.eq_ofNat_of_zero_le (show 0 ≤ scale by omega)
        have hf1 := HF1.out HK0.out (by omega)
        obtain ⟨fn, hfn⟩ := Int.eq_ofNat_of_zero_le (show 0 ≤ s.face by omega)
        have hAA := HA5.out HK0.out (by omega) (by omega) hg
        rw [hqn, hpn, hsn, hfn] at hAA
        simp only [Int.toNat_natCast] at hAA
        have hE1 := HL.out qn pn sn fn hfn (by omega) (by omega) (by omega) (by omega) w1
        rw [← hqn, ← hpn, ← hsn] at hE1
        have ht := ten_facts sn (by omega)
        have htp : 0 < 10 ^ sn := Nat.pow_pos (by decide)
        have hpq : 0 < prodN [100, 10 ^ sn] := by simp [prodN]; omega
        have hl1 := prodN_len [qn, fn, pn] (by simp; omega) (by simp) 3 (by simp)
        have hl2 := prodN_len [100, 10 ^ sn] (by simp; omega) (by simp) 2 (by simp)
        have HT := Lib.hid (fun e w2 (h : TwoP (prodN [qn, fn, pn]) (prodN [100, 10 ^ sn]) w1 e w2) => h.rounded mode hpq (Nat.le_trans hl1 (by decide)) (Nat.le_trans hl2 (by decide)))
        have HAA := Lib.hid hAA
        have HE1 := Lib.hid hE1
        clear hk hg hAA hE1 ht htp hpq hl1 hl2 hqn hpn hsn HE HL HBB HA1 HA2 HA3 HA4 HA5 hf1 hfn
        generalize prodN [qn, fn, pn] = M at *
        generalize prodN [100, 10 ^ sn] = Nn at *
        go_wp2_with fail
        refine HE1.out.mono ?_
        rintro e w2 hTw
        obtain ⟨p, q, rfl, hR, hb2⟩ := HT.out _ _ hTw
        have HR := Lib.hid hR
        have HB2 := Lib.hid (HBW.out.trans (hb2.mono HBW.out.size))
        clear hTw hR hb2
        go_wp2_with fail
        refine HR.out.mono ?_
        rintro e w3 ⟨v2, rfl, hEr, hb3⟩
        have HER := Lib.hid hEr
        have HB3 := Lib.hid (HB2.out.trans (hb3.mono HB2.out.size))
        clear hEr hb3
        go_wp2_with fail
        go_ret2
        exact ⟨_, by rw [HAA.out]; rfl, by rw [HAA.out]; exact HER.out, HB3.out⟩
    | bond hk =>
      have HK := Lib.hid hk
      have hjk := (HCELL.out w1 HBwb.out).1
      rw [hk] at hjk
      have hm := HM2.out
      by_cases hg : qty < 0 ∨ price < 0 ∨ scale < 0 ∨ 18 < scale ∨ mode < 0 ∨ 3 < mode
      · have HAA := Lib.hid (HA3.out HK0.out (by omega) hg)
        clear hk HE HL HBB HA1 HA2 HA3 HA4 HA5
        by_cases g0 : qty < 0
        · have d0 : decide (qty < 0) = true := decide_eq_true g0
          clear hg g0
          go_wp2_with fail
          go_ret2
          exact ⟨_, by rw [HAA.out]; rfl, by rw [HAA.out]; exact errP_errno (by decide) (by decide), HBW.out⟩
        · have d0 : decide (qty < 0) = false := decide_eq_false (by omega)
          by_cases g1 : price < 0
          · have d1 : decide (price < 0) = true := decide_eq_true g1
            clear hg g0 g1
            go_wp2_with fail
            go_ret2
            exact ⟨_, by rw [HAA.out]; rfl, by rw [HAA.out]; exact errP_errno (by decide) (by decide), HBW.out⟩
          · have d1 : decide (price < 0) = false := decide_eq_false (by omega)
            by_cases g2 : scale < 0
            · have d2 : decide (scale < 0) = true := decide_eq_true g2
              clear hg g0 g1 g2
              go_wp2_with fail
              go_ret2
              exact ⟨_, by rw [HAA.out]; rfl, by rw [HAA.out]; exact errP_errno (by decide) (by decide), HBW.out⟩
            · have d2 : decide (scale < 0) = false := decide_eq_false (by omega)
              by_cases g3 : 18 < scale
              · have d3 : decide (scale > 18) = true := decide_eq_true g3
                clear hg g0 g1 g2 g3
                go_wp2_with fail
                go_ret2
                exact ⟨_, by rw [HAA.out]; rfl, by rw [HAA.out]; exact errP_errno (by decide) (by decide), HBW.out⟩
              · have d3 : decide (scale > 18) = false := decide_eq_false (by omega)
                by_cases g4 : mode < 0
                · have d4 : decide (mode < 0) = true := decide_eq_true g4
                  clear hg g0 g1 g2 g3 g4
                  go_wp2_with fail
                  go_ret2
                  exact ⟨_, by rw [HAA.out]; rfl, by rw [HAA.out]; exact errP_errno (by decide) (by decide), HBW.out⟩
                · have d4 : decide (mode < 0) = false := decide_eq_false (by omega)
                  have d5 : decide (mode > 3) = true := decide_eq_true (by omega)
                  clear hg g0 g1 g2 g3 g4
                  go_wp2_with fail
                  go_ret2
                  exact ⟨_, by rw [HAA.out]; rfl, by rw [HAA.out]; exact errP_errno (by decide) (by decide), HBW.out⟩
      · have d0 : decide (qty < 0) = false := decide_eq_false (by omega)
        have d1 : decide (price < 0) = false := decide_eq_false (by omega)
        have d2 : decide (scale < 0) = false := decide_eq_false (by omega)
        have d3 : decide (scale > 18) = false := decide_eq_false (by omega)
        have d4 : decide (mode < 0) = false := decide_eq_false (by omega)
        have d5 : decide (mode > 3) = false := decide_eq_false (by omega)
        obtain ⟨qn, hqn⟩ := Int.eq_ofNat_of_zero_le (show 0 ≤ qty by omega)
        obtain ⟨pn, hpn⟩ := Int.eq_ofNat_of_zero_le (show 0 ≤ price by omega)
        obtain ⟨sn, hsn⟩ := Int.eq_ofNat_of_zero_le (show 0 ≤ scale by omega)
        have hf1 := HF1.out HK0.out (by omega)
        obtain ⟨fn, hfn⟩ := Int.eq_ofNat_of_zero_le (show 0 ≤ s.face by omega)
        have hAA := HA5.out HK0.out (by omega) (by omega) hg
        rw [hqn, hpn, hsn, hfn] at hAA
        simp only [Int.toNat_natCast] at hAA
        have hE1 := HL.out qn pn sn fn hfn (by omega) (by omega) (by omega) (by omega) w1
        rw [← hqn, ← hpn, ← hsn] at hE1
        have ht := ten_facts sn (by omega)
        have htp : 0 < 10 ^ sn := Nat.pow_pos (by decide)
        have hpq : 0 < prodN [100, 10 ^ sn] := by simp [prodN]; omega
        have hl1 := prodN_len [qn, fn, pn] (by simp; omega) (by simp) 3 (by simp)
        have hl2 := prodN_len [100, 10 ^ sn] (by simp; omega) (by simp) 2 (by simp)
        have HT := Lib.hid (fun e w2 (h : TwoP (prodN [qn, fn, pn]) (prodN [100, 10 ^ sn]) w1 e w2) => h.rounded mode hpq (Nat.le_trans hl1 (by decide)) (Nat.le_trans hl2 (by decide)))
        have HAA := Lib.hid hAA
        have HE1 := Lib.hid hE1
        clear hk hg hAA hE1 ht htp hpq hl1 hl2 hqn hpn hsn HE HL HBB HA1 HA2 HA3 HA4 HA5 hf1 hfn
        generalize prodN [qn, fn, pn] = M at *
        generalize prodN [100, 10 ^ sn] = Nn at *
        go_wp2_with fail
        refine HE1.out.mono ?_
        rintro e w2 hTw
        obtain ⟨p, q, rfl, hR, hb2⟩ := HT.out _ _ hTw
        have HR := Lib.hid hR
        have HB2 := Lib.hid (HBW.out.trans (hb2.mono HBW.out.size))
        clear hTw hR hb2
        go_wp2_with fail
        refine HR.out.mono ?_
        rintro e w3 ⟨v2, rfl, hEr, hb3⟩
        have HER := Lib.hid hEr
        have HB3 := Lib.hid (HB2.out.trans (hb3.mono HB2.out.size))
        clear hEr hb3
        go_wp2_with fail
        go_ret2
        exact ⟨_, by rw [HAA.out]; rfl, by rw [HAA.out]; exact HER.out, HB3.out⟩
    | cash hk =>
      have HAA := Lib.hid (HA2.out HK0.out hk)
      have hjk := (HCELL.out w1 HBwb.out).1
      rw [hk] at hjk
      have hm := HM4.out
      clear hk HE HL HA1 HA2 HA3 HA4 HA5
      go_wp2_with fail
      refine (HBB.out _ _ _ w1).mono ?_
      rintro e w2 ⟨rfl, hb2⟩
      have HB2 := Lib.hid (HBW.out.trans (hb2.mono HBW.out.size))
      clear hb2
      go_wp2_with fail
      go_ret2
      exact ⟨_, by rw [HAA.out]; rfl, by rw [HAA.out]; exact errP_errno (by decide) (by decide), HB2.out⟩
  · obtain ⟨t, x, rfl⟩ := hE.held hk0
    have HAA := Lib.hid (HA1.out hk0)
    have HE := Lib.hid hE
    clear hk0 hE
    go_wp2_with fail
    go_ret2
    exact ⟨_, by rw [HAA.out]; rfl, by rw [HAA.out]; exact HE.out, HBW.out⟩
end Go.Proofs.YtmepjcnpbjdlkaaGreatDoor
/- the document's Clean by contract. -/
namespace Go.Proofs.YtmepjcnpbjdlkaaGreatDoor
set_option linter.unusedVariables false
set_option linter.unusedSimpArgs false
open Go.RowKit
attribute [local irreducible] Go.wpStill

theorem refProduct_from (l : List Nat) (w3 : World) (hl : l.length ≤ 4) (hx : ∀ x ∈ l, x < 9223372036854775808) : Calls Tryz.prog 74 #[.slice (some ⟨w3.heap.size, 0, none⟩) l.length l.length] (w3.alloc (.cells (l.map (fun x : Nat => Value.int .i64 (x : Int))).toArray 2)) fun e w' => ∃ v, e = .returned v ∧ Ur w' v (DG.dig (prodN l)) ∧ Below w3.heap.size w3 w' := by
  refine (refProduct_any w3.heap.size l _ (heap_alloc_new w3 _) hl hx).mono ?_
  rintro e w' ⟨v, h1, h2, h3⟩
  have hb : Below w3.heap.size w3 (w3.alloc (.cells (l.map (fun x : Nat => Value.int .i64 (x : Int))).toArray 2)) := (Below.refl _ _).alloc (Nat.le_refl _) _
  exact ⟨v, h1, h2, hb.trans (h3.mono hb.size)⟩
def RefCleanP (s : SecV) (qty price scale mode : Int) (w : World) (e : Ending) (w' : World) : Prop := e = .returned (.tuple #[.int .i64 (cleanR s qty price scale mode).1, .int .i64 (cleanR s qty price scale mode).2]) ∧ Below w.heap.size w w'
set_option maxRecDepth 100000 in
set_option maxHeartbeats 8000000 in
theorem refClean_any (s : SecV) (qty price scale mode : Int) (w : World) (hcs : s.cur.size ≤ 140737488351232) (hq : qty < 9223372036854775808) (hp : price < 9223372036854775808) (hf : s.face < 9223372036854775808) : Calls Tryz.prog 31 #[.agg (secC s), .int .i64 qty, .int .i64 price, .int .i64 scale, .int .i64 mode] w (RefCleanP s qty price scale mode w) := by
  have hC := fun w => refCheck_any s w hcs
  have hM := fun w => refModes_any mode w
  have hkd : checkN s = 0 → 1 ≤ s.kind ∧ s.kind ≤ 4 := fun h => by
    unfold checkN at h
    split at h
    · omega
    · omega
  have hA1 : checkN s ≠ 0 → cleanR s qty price scale mode = (0, checkN s) := fun h => by unfold cleanR; rw [if_pos h]
  have hA2 : checkN s = 0 → s.kind = 4 → cleanR s qty price scale mode = (0, 24) := fun h k => by unfold cleanR; rw [if_neg (by omega), if_pos k]
  have hA3 : checkN s = 0 → s.kind ≠ 4 → (qty < 0 ∨ price < 0 ∨ scale < 0 ∨ 18 < scale ∨ mode < 0 ∨ 3 < mode) → cleanR s qty price scale mode = (0, 1) := fun h k l => by unfold cleanR; rw [if_neg (by omega), if_neg k, if_pos l]
  have hA4 : checkN s = 0 → s.kind ≠ 4 → s.kind = 1 → ¬ (qty < 0 ∨ price < 0 ∨ scale < 0 ∨ 18 < scale ∨ mode < 0 ∨ 3 < mode) → cleanR s qty price scale mode = DG.rounded (prodN [qty.toNat, price.toNat]) (prodN [10 ^ scale.toNat]) mode := fun h k k1 l => by unfold cleanR; rw [if_neg (by omega), if_neg k, if_neg l, if_pos k1]
  have hA5 : checkN s = 0 → s.kind ≠ 4 → s.kind ≠ 1 → ¬ (qty < 0 ∨ price < 0 ∨ scale < 0 ∨ 18 < scale ∨ mode < 0 ∨ 3 < mode) → cleanR s qty price scale mode = DG.rounded (prodN [qty.toNat, s.face.toNat, price.toNat]) (prodN [100, 10 ^ scale.toNat]) mode := fun h k k1 l => by unfold cleanR; rw [if_neg (by omega), if_neg k, if_neg l, if_neg k1]
  have hF1 := fun h k => face_facts (s := s) h k
  unfold RefCleanP
  have z0 := (Below.refl w.heap.size w).alloc (Nat.le_refl _) (.cells (secC s) 25)
  have HZ0 := Lib.hid z0
  have HG := Lib.hid (heap_alloc_new w (.cells (secC s) 25))
  have hcell : ∀ w1, Below (w.alloc (.cells (secC s) 25)).heap.size (w.alloc (.cells (secC s) 25)) w1 → w1.cell? ⟨w.heap.size, 12, none⟩ = some (.int .i64 s.kind) ∧ w1.cell? ⟨w.heap.size, 13, none⟩ = some (.int .i64 s.face) := fun w1 h => by
    have e := rowAt_below (heap_alloc_new w (.cells (secC s) 25)) h
    exact ⟨by rw [cell_of_row _ _ _ _ _ _ e]; rfl, by rw [cell_of_row _ _ _ _ _ _ e]; rfl⟩
  have HC := Lib.hid hC
  have HM := Lib.hid hM
  have HA1 := Lib.hid hA1
  have HA2 := Lib.hid hA2
  have HA3 := Lib.hid hA3
  have HA4 := Lib.hid hA4
  have HA5 := Lib.hid hA5
  have HF1 := Lib.hid hF1
  have HKD := Lib.hid hkd
  have HCELL := Lib.hid hcell
  clear hC z0 hM hA1 hA2 hA3 hA4 hA5 hF1 hcs hcell hkd
  generalize hkN : checkN s = kN at *
  generalize cleanR s qty price scale mode = R at *
  go_enter Tryz.func31, Tryz.ntmps31
  go_wp2_with (refine wpList_val (.agg (secC s)) (by kernel_rfl) (exec_load_row HG.out rfl rfl Tryz.underlying25 rfl (by kernel_rfl)) ?_)
  refine (HC.out _).mono ?_
  rintro e w1 ⟨rfl, hBw⟩
  have HBW := Lib.hid (HZ0.out.trans (hBw.mono (by simp)))
  obtain ⟨j12, j13⟩ := HCELL.out _ hBw
  clear hBw HC HG
  by_cases hk0 : kN = 0
  · have hneq : (kN != 0) = false := by simp [hk0]
    have HK0 := Lib.hid hk0
    have HKN := Lib.hid (HKD.out hk0)
    clear hk0
    by_cases hk4 : s.kind = 4
    · have hke : (s.kind == 4) = true := by simp [hk4]
      have HAA := Lib.hid (HA2.out HK0.out hk4)
      clear hk4
      go_wp2_with fail
      go_ret2
      exact ⟨by rw [HAA.out]; rfl, HBW.out⟩
    · have hke : (s.kind == 4) = false := by simp [hk4]
      by_cases hg : qty < 0 ∨ price < 0 ∨ scale < 0 ∨ 18 < scale ∨ mode < 0 ∨ 3 < mode
      · have HAA := Lib.hid (HA3.out HK0.out hk4 hg)
        clear hk4
        by_cases g0 : qty < 0
        · have d0 : decide (qty < 0) = true := decide_eq_true g0
          clear hg g0
          go_wp2_with fail
          go_ret2
          exact ⟨by rw [HAA.out]; rfl, HBW.out⟩
        · have d0 : decide (qty < 0) = false := decide_eq_false (by omega)
          by_cases g1 : price < 0
          · have d1 : decide (price < 0) = true := decide_eq_true g1
            clear hg g0 g1
            go_wp2_with fail
            go_ret2
            exact ⟨by rw [HAA.out]; rfl, HBW.out⟩
          · have d1 : decide (price < 0) = false := decide_eq_false (by omega)
            by_cases g2 : scale < 0
            · have d2 : decide (scale < 0) = true := decide_eq_true g2
              clear hg g0 g1 g2
              go_wp2_with fail
              go_ret2
              exact ⟨by rw [HAA.out]; rfl, HBW.out⟩
            · have d2 : decide (scale < 0) = false := decide_eq_false (by omega)
              by_cases g3 : 18 < scale
              · have d3 : decide (scale > 18) = true := decide_eq_true g3
                clear hg g0 g1 g2 g3
                go_wp2_with fail
                go_ret2
                exact ⟨by rw [HAA.out]; rfl, HBW.out⟩
              · have d3 : decide (scale > 18) = false := decide_eq_false (by omega)
                have HMM := Lib.hid (HM.out w1)
                rw [decide_eq_false (show ¬ (0 ≤ mode ∧ mode ≤ 3) by omega)] at HMM
                clear hg g0 g1 g2 g3
                go_wp2_with fail
                refine HMM.out.mono ?_
                rintro e w1 ⟨rfl, rfl⟩
                go_wp2_with fail
                go_ret2
                exact ⟨by rw [HAA.out]; rfl, HBW.out⟩
      · have d0 : decide (qty < 0) = false := decide_eq_false (by omega)
        have d1 : decide (price < 0) = false := decide_eq_false (by omega)
        have d2 : decide (scale < 0) = false := decide_eq_false (by omega)
        have d3 : decide (scale > 18) = false := decide_eq_false (by omega)
        obtain ⟨qn, hqn⟩ := Int.eq_ofNat_of_zero_le (show 0 ≤ qty by omega)
        obtain ⟨pn, hpn⟩ := Int.eq_ofNat_of_zero_le (show 0 ≤ price by omega)
        obtain ⟨sn, hsn⟩ := Int.eq_ofNat_of_zero_le (show 0 ≤ scale by omega)
        by_cases hk1 : s.kind = 1
        · have hkf : (s.kind == 1) = true := by simp [hk1]
          have hAA := HA4.out HK0.out hk4 hk1 hg
          rw [hqn, hpn, hsn] at hAA
          simp only [Int.toNat_natCast] at hAA
          have ht := ten_facts sn (by omega)
          have htp : 0 < 10 ^ sn := Nat.pow_pos (by decide)
          have HTEN := Lib.hid (fun w => refTen_any sn w (by omega))
          have hxx : ∀ x ∈ [qn, pn], x < 9223372036854775808 := by simp; omega
          have hyy : ∀ x ∈ [10 ^ sn], x < 9223372036854775808 := by simp; omega
          have HPR := Lib.hid (fun w3 : World => refProduct_from [qn, pn] w3 (by simp) hxx)
          have HPR2 := Lib.hid (fun w3 : World => refProduct_from [10 ^ sn] w3 (by simp) hyy)
          have hpq : 0 < prodN [10 ^ sn] := by simp [prodN]; omega
          have hl1 := prodN_len [qn, pn] hxx (by simp) 2 (by simp)
          have hl2 := prodN_len [10 ^ sn] hyy (by simp) 1 (by simp)
          have HRN := Lib.hid (fun va vb w5 ha hb => refRounded_any (va := va) (vb := vb) (prodN [qn, pn]) (prodN [10 ^ sn]) mode w5 ha hb hpq (Nat.le_trans hl1 (by decide)) (Nat.le_trans hl2 (by decide)))
          have HAA := Lib.hid hAA
          have HMM := Lib.hid (HM.out w1)
          rw [decide_eq_true (show 0 ≤ mode ∧ mode ≤ 3 by omega)] at HMM
          rw [hqn] at d0 ⊢
          rw [hpn] at d1 ⊢
          rw [hsn] at d2 d3 ⊢
          clear hg hAA ht htp hxx hyy hpq hl1 hl2 hqn hpn hsn hk4 hk1 HA1 HA2 HA3 HA4 HA5
          generalize 10 ^ sn = T at *
          generalize prodN [qn, pn] = M at *
          generalize prodN [T] = Nn at *
          generalize DG.rounded M Nn mode = Q at *
          go_wp2_with fail
          refine HMM.out.mono ?_
          rintro e w1 ⟨rfl, rfl⟩
          go_wp2_with fail
          refine (HTEN.out _).mono ?_
          rintro e w1 ⟨rfl, rfl⟩
          go_wp2_with fail
          refine (HPR.out w1).mono ?_
          rintro e w4 ⟨v4, rfl, hU4, hb4⟩
          have HW4 := Lib.hid (HBW.out.trans (hb4.mono HBW.out.size))
          have HU4 := Lib.hid hU4
          clear hU4 hb4
          go_wp2_with fail
          refine (HPR2.out w4).mono ?_
          rintro e w6 ⟨v6, rfl, hU6, hb6⟩
          have HRN := Lib.hid (HRN.out _ _ w6 (HU4.out.below hb6) hU6)
          have HW6 := Lib.hid (HW4.out.trans (hb6.mono HW4.out.size))
          clear hU6 hb6
          go_wp2_with fail
          refine HRN.out.mono ?_
          rintro e w7 ⟨rfl, hb7⟩
          have HW7 := Lib.hid (HW6.out.trans (hb7.mono HW6.out.size))
          clear hb7
          go_wp2_with fail
          go_ret2
          exact ⟨by rw [HAA.out]; rfl, HW7.out⟩
        · have hkf : (s.kind == 1) = false := by simp [hk1]
          have hf1 := HF1.out HK0.out (by have := HKN.out; omega)
          obtain ⟨fn, hfn⟩ := Int.eq_ofNat_of_zero_le (show 0 ≤ s.face by omega)
          have hAA := HA5.out HK0.out hk4 hk1 hg
          rw [hqn, hpn, hsn, hfn] at hAA
          simp only [Int.toNat_natCast] at hAA
          have ht := ten_facts sn (by omega)
          have htp : 0 < 10 ^ sn := Nat.pow_pos (by decide)
          have HTEN := Lib.hid (fun w => refTen_any sn w (by omega))
          rw [hfn] at j13
          have hxx : ∀ x ∈ [qn, fn, pn], x < 9223372036854775808 := by simp; omega
          have hyy : ∀ x ∈ [100, 10 ^ sn], x < 9223372036854775808 := by simp; omega
          have HPR := Lib.hid (fun w3 : World => refProduct_from [qn, fn, pn] w3 (by simp) hxx)
          have HPR2 := Lib.hid (fun w3 : World => refProduct_from [100, 10 ^ sn] w3 (by simp) hyy)
          have hpq : 0 < prodN [100, 10 ^ sn] := by simp [prodN]; omega
          have hl1 := prodN_len [qn, fn, pn] hxx (by simp) 3 (by simp)
          have hl2 := prodN_len [100, 10 ^ sn] hyy (by simp) 2 (by simp)
          have HRN := Lib.hid (fun va vb w5 ha hb => refRounded_any (va := va) (vb := vb) (prodN [qn, fn, pn]) (prodN [100, 10 ^ sn]) mode w5 ha hb hpq (Nat.le_trans hl1 (by decide)) (Nat.le_trans hl2 (by decide)))
          have HAA := Lib.hid hAA
          have HMM := Lib.hid (HM.out w1)
          rw [decide_eq_true (show 0 ≤ mode ∧ mode ≤ 3 by omega)] at HMM
          rw [hqn] at d0 ⊢
          rw [hpn] at d1 ⊢
          rw [hsn] at d2 d3 ⊢
          clear hg hAA ht htp hxx hyy hpq hl1 hl2 hqn hpn hsn hk4 hk1 HA1 HA2 HA3 HA4 HA5 hf1 hfn
          generalize 10 ^ sn = T at *
          generalize prodN [qn, fn, pn] = M at *
          generalize prodN [100, T] = Nn at *
          generalize DG.rounded M Nn mode = Q at *
          go_wp2_with fail
          refine HMM.out.mono ?_
          rintro e w1 ⟨rfl, rfl⟩
          go_wp2_with fail
          refine (HTEN.out _).mono ?_
          rintro e w1 ⟨rfl, rfl⟩
          go_wp2_with fail
          refine (HPR.out w1).mono ?_
          rintro e w4 ⟨v4, rfl, hU4, hb4⟩
          have HW4 := Lib.hid (HBW.out.trans (hb4.mono HBW.out.size))
          have HU4 := Lib.hid hU4
          clear hU4 hb4
          go_wp2_with fail
          refine (HPR2.out w4).mono ?_
          rintro e w6 ⟨v6, rfl, hU6, hb6⟩
          have HRN := Lib.hid (HRN.out _ _ w6 (HU4.out.below hb6) hU6)
          have HW6 := Lib.hid (HW4.out.trans (hb6.mono HW4.out.size))
          clear hU6 hb6
          go_wp2_with fail
          refine HRN.out.mono ?_
          rintro e w7 ⟨rfl, hb7⟩
          have HW7 := Lib.hid (HW6.out.trans (hb7.mono HW6.out.size))
          clear hb7
          go_wp2_with fail
          go_ret2
          exact ⟨by rw [HAA.out]; rfl, HW7.out⟩
  · have hneq : (kN != 0) = true := by simp [hk0]
    have HAA := Lib.hid (HA1.out hk0)
    clear hk0
    go_wp2_with fail
    go_ret2
    exact ⟨by rw [HAA.out]; rfl, HBW.out⟩
end Go.Proofs.YtmepjcnpbjdlkaaGreatDoor
/- clean and accrued together. -/
namespace Go.Proofs.YtmepjcnpbjdlkaaGreatDoor
set_option linter.unusedVariables false
set_option linter.unusedSimpArgs false
open Go.RowKit
attribute [local irreducible] Go.wpStill

theorem rounded_lt (a Y : Nat) (mode : Int) : (DG.rounded a Y mode).1 ≤ 9223372036854775807 := by
  unfold DG.rounded
  split
  · next h => show ((DG.quo a Y mode : Nat) : Int) ≤ _; omega
  · decide
theorem clean_lt (s : SecV) (qty price scale mode : Int) : (cleanR s qty price scale mode).1 ≤ 9223372036854775807 := by
  unfold cleanR
  split
  · exact (by decide : (0 : Int) ≤ 9223372036854775807)
  split
  · exact (by decide : (0 : Int) ≤ 9223372036854775807)
  split
  · exact (by decide : (0 : Int) ≤ 9223372036854775807)
  split
  · exact rounded_lt _ _ _
  · exact rounded_lt _ _ _
theorem AccIs.lt {s : SecV} {qty day mode z e : Int} (h : AccIs s qty day mode z e) : z ≤ 9223372036854775807 := by
  rcases h with ⟨h1, h2, h3⟩ | ⟨h1, h2, h3, h4⟩ | ⟨h1, h2, h3, h4, h5⟩ | ⟨h1, h2, h3, h4, h5, h6⟩ | ⟨h1, h2, h3, h4, f, A, B, h5, h6, h7⟩
  · omega
  · omega
  · omega
  · omega
  · have := rounded_lt (prodN [qty.toNat, s.face.toNat, s.coupon.toNat, A.toNat]) (prodN [1000000, B.toNat]) mode
    unfold bondAcc at h7
    rw [← h7] at this
    exact this
/-- what is paid, and its error -/
def ConsIs (s : SecV) (qty price scale day mode : Int) (z e : Int) : Prop :=
  ((cleanR s qty price scale mode).2 ≠ 0 ∧ z = 0 ∧ e = (cleanR s qty price scale mode).2) ∨
  ((cleanR s qty price scale mode).2 = 0 ∧ ∃ b f, AccIs s qty day mode b f ∧ ((f ≠ 0 ∧ z = 0 ∧ e = f) ∨ (f = 0 ∧ (z, e) = addR (cleanR s qty price scale mode).1 b)))
theorem ConsIs.unique {s : SecV} {qty price scale day mode z e z' e' : Int} (h : ConsIs s qty price scale day mode z e) (k : ConsIs s qty price scale day mode z' e') : z = z' ∧ e = e' := by
  rcases h with ⟨h1, h2, h3⟩ | ⟨h1, b, f, h2, h3⟩ <;> rcases k with ⟨k1, k2, k3⟩ | ⟨k1, b', f', k2, k3⟩
  · omega
  · exact absurd k1 h1
  · exact absurd h1 k1
  · obtain ⟨rfl, rfl⟩ := h2.unique k2
    rcases h3 with ⟨h3, h4, h5⟩ | ⟨h3, h4⟩ <;> rcases k3 with ⟨k3, k4, k5⟩ | ⟨k3, k4⟩
    · omega
    · exact absurd k3 h3
    · exact absurd h3 k3
    · rw [← k4] at h4
      injection h4 with h4 h5
      exact ⟨h4, h5⟩
def ConsP (s : SecV) (qty price scale day mode : Int) (w : World) (e : Ending) (w' : World) : Prop := ∃ z v2 n, e = .returned (.tuple #[.int .i64 z, v2]) ∧ ErrP v2 n none ∧ ConsIs s qty price scale day mode z n ∧ Below w.heap.size w w'
def RefConsP (s : SecV) (qty price scale day mode : Int) (w : World) (e : Ending) (w' : World) : Prop := ∃ z n, e = .returned (.tuple #[.int .i64 z, .int .i64 n]) ∧ ConsIs s qty price scale day mode z n ∧ Below w.heap.size w w'
set_option maxRecDepth 100000 in
set_option maxHeartbeats 8000000 in
theorem consideration_any (s : SecV) (qty price scale day mode : Int) (w : World) (hcs : s.cur.size ≤ 140737488351232) (hok : Ok w) (hq : qty < 9223372036854775808) (hp : price < 9223372036854775808) (hf : s.face < 9223372036854775808) : Calls Tryz.prog 33 #[.agg (secC s), .int .i64 qty, .int .i64 price, .int .i64 scale, .int .i64 day, .int .i64 mode] w (ConsP s qty price scale day mode w) := by
  have HC := Lib.hid (fun w hok => clean_any s qty price scale mode w hcs hok hq hp hf)
  have HA := Lib.hid (fun w hok => accrued_any s qty day mode w hcs hok hq hf)
  have hl := clean_lt s qty price scale mode
  have HI1 := Lib.hid (fun h => show ConsIs s qty price scale day mode 0 (cleanR s qty price scale mode).2 from .inl ⟨h, rfl, rfl⟩)
  have HI2 := Lib.hid (fun h b f (hA : AccIs s qty day mode b f) (hf : f ≠ 0) => show ConsIs s qty price scale day mode 0 f from .inr ⟨h, b, f, hA, .inl ⟨hf, rfl, rfl⟩⟩)
  have HI3 := Lib.hid (fun h b (hA : AccIs s qty day mode b 0) => show ConsIs s qty price scale day mode (addR (cleanR s qty price scale mode).1 b).1 (addR (cleanR s qty price scale mode).1 b).2 from .inr ⟨h, b, 0, hA, .inr ⟨rfl, rfl⟩⟩)
  have HLT := Lib.hid (fun b f (hA : AccIs s qty day mode b f) => hA.lt)
  have HADD := Lib.hid (fun a b w h1 h2 => add64_any a b w h1 h2)
  have HOK := Lib.hid hok
  have HG := Lib.hid (heap_alloc_new w (.cells (secC s) 25))
  have HZ0 := Lib.hid ((Below.refl w.heap.size w).alloc (Nat.le_refl _) (.cells (secC s) 25))
  unfold CleanP at HC
  unfold AccP at HA
  unfold ConsP
  clear hok hcs hq hp hf
  generalize cleanR s qty price scale mode = R at *
  generalize ConsIs s qty price scale day mode = CI at *
  generalize AccIs s qty day mode = AI at *
  obtain ⟨r, rn⟩ := R
  have HL := Lib.hid hl
  clear hl
  dsimp only at *
  go_enter Tryz.func33, Tryz.ntmps33
  go_wp2_with (refine wpList_val (.agg (secC s)) (by kernel_rfl) (exec_load_row HG.out rfl rfl Tryz.underlying25 rfl (by kernel_rfl)) ?_)
  refine (HC.out _ (HOK.out.below HZ0.out)).mono ?_
  rintro e w1 ⟨v2, rfl, hE, hb1⟩
  have HG1 := Lib.hid (rowAt_below HG.out hb1)
  have HB1 := Lib.hid (HZ0.out.trans (hb1.mono (by simp)))
  clear hb1 HG
  by_cases h0 : rn = 0
  · obtain ⟨rfl, _⟩ := hE.zero h0
    have HR0 := Lib.hid h0
    clear h0 hE
    go_wp2_with (refine wpList_val (.agg (secC s)) (by kernel_rfl) (exec_load_row HG1.out rfl rfl Tryz.underlying25 rfl (by kernel_rfl)) ?_)
    refine (HA.out _ (HOK.out.below HB1.out)).mono ?_
    rintro e w2 ⟨z', v2, n', rfl, hE, hA', hb2⟩
    have HB2 := Lib.hid (HB1.out.trans (hb2.mono HB1.out.size))
    by_cases h1 : n' = 0
    · obtain ⟨rfl, _⟩ := hE.zero h1
      subst h1
      have HLZ := Lib.hid (HLT.out _ _ hA')
      have HII := Lib.hid (HI3.out HR0.out _ hA')
      clear hE hA' hb2
      go_wp2_with fail
      refine (HADD.out _ _ w2 HL.out HLZ.out).mono ?_
      rintro e w3 ⟨⟨v3, rfl, hE⟩, rfl⟩
      have HE := Lib.hid hE
      clear hE
      generalize addR r z' = Q at *
      go_wp2_with fail
      go_ret2
      exact ⟨_, _, _, rfl, HE.out, HII.out, HB2.out⟩
    · obtain ⟨t, x, rfl⟩ := hE.held h1
      have HII := Lib.hid (HI2.out HR0.out _ _ hA' h1)
      have HE := Lib.hid hE
      clear h1 hE hA' hb2
      go_wp2_with fail
      go_ret2
      exact ⟨_, _, _, rfl, HE.out, HII.out, HB2.out⟩
  · obtain ⟨t, x, rfl⟩ := hE.held h0
    have HII := Lib.hid (HI1.out h0)
    have HE := Lib.hid hE
    clear h0 hE
    go_wp2_with fail
    go_ret2
    exact ⟨_, _, _, rfl, HE.out, HII.out, HB1.out⟩
set_option maxRecDepth 100000 in
set_option maxHeartbeats 8000000 in
theorem refConsideration_any (s : SecV) (qty price scale day mode : Int) (w : World) (hcs : s.cur.size ≤ 140737488351232) (hq : qty < 9223372036854775808) (hp : price < 9223372036854775808) (hf : s.face < 9223372036854775808) : Calls Tryz.prog 32 #[.agg (secC s), .int .i64 qty, .int .i64 price, .int .i64 scale, .int .i64 day, .int .i64 mode] w (RefConsP s qty price scale day mode w) := by
  have HC := Lib.hid (fun w => refClean_any s qty price scale mode w hcs hq hp hf)
  have HA := Lib.hid (fun w => refAccrued_any s qty day mode w hcs hq hf)
  have hl := clean_lt s qty price scale mode
  have HI1 := Lib.hid (fun h => show ConsIs s qty price scale day mode 0 (cleanR s qty price scale mode).2 from .inl ⟨h, rfl, rfl⟩)
  have HI2 := Lib.hid (fun h b f (hA : AccIs s qty day mode b f) (hf : f ≠ 0) => show ConsIs s qty price scale day mode 0 f from .inr ⟨h, b, f, hA, .inl ⟨hf, rfl, rfl⟩⟩)
  have HI3 := Lib.hid (fun h b (hA : AccIs s qty day mode b 0) => show ConsIs s qty price scale day mode (addR (cleanR s qty price scale mode).1 b).1 (addR (cleanR s qty price scale mode).1 b).2 from .inr ⟨h, b, 0, hA, .inr ⟨rfl, rfl⟩⟩)
  have HLT := Lib.hid (fun b f (hA : AccIs s qty day mode b f) => hA.lt)
  have HADD := Lib.hid (fun a b w h1 h2 => refAdd_any a b w h1 h2)
  have HG := Lib.hid (heap_alloc_new w (.cells (secC s) 25))
  have HZ0 := Lib.hid ((Below.refl w.heap.size w).alloc (Nat.le_refl _) (.cells (secC s) 25))
  unfold RefCleanP at HC
  unfold RefAccP at HA
  unfold RefConsP
  clear hcs hq hp hf
  generalize cleanR s qty price scale mode = R at *
  generalize ConsIs s qty price scale day mode = CI at *
  generalize AccIs s qty day mode = AI at *
  obtain ⟨r, rn⟩ := R
  have HL := Lib.hid hl
  clear hl
  dsimp only at *
  go_enter Tryz.func32, Tryz.ntmps32
  go_wp2_with (refine wpList_val (.agg (secC s)) (by kernel_rfl) (exec_load_row HG.out rfl rfl Tryz.underlying25 rfl (by kernel_rfl)) ?_)
  refine (HC.out _).mono ?_
  rintro e w1 ⟨rfl, hb1⟩
  have HG1 := Lib.hid (rowAt_below HG.out hb1)
  have HB1 := Lib.hid (HZ0.out.trans (hb1.mono (by simp)))
  clear hb1 HG
  by_cases h0 : rn = 0
  · have hne : (rn != 0) = false := by simp [h0]
    have HR0 := Lib.hid h0
    clear h0
    go_wp2_with (refine wpList_val (.agg (secC s)) (by kernel_rfl) (exec_load_row HG1.out rfl rfl Tryz.underlying25 rfl (by kernel_rfl)) ?_)
    refine (HA.out _).mono ?_
    rintro e w2 ⟨z', n', rfl, hA', hb2⟩
    have HB2 := Lib.hid (HB1.out.trans (hb2.mono HB1.out.size))
    by_cases h1 : n' = 0
    · subst h1
      have HLZ := Lib.hid (HLT.out _ _ hA')
      have HII := Lib.hid (HI3.out HR0.out _ hA')
      clear hA' hb2
      go_wp2_with fail
      refine (HADD.out _ _ w2 HL.out HLZ.out).mono ?_
      rintro e w3 ⟨rfl, rfl⟩
      generalize addR r z' = Q at *
      go_wp2_with fail
      go_ret2
      exact ⟨_, _, rfl, HII.out, HB2.out⟩
    · have hne1 : (n' != 0) = true := by simp [h1]
      have HII := Lib.hid (HI2.out HR0.out _ _ hA' h1)
      clear h1 hA' hb2
      go_wp2_with fail
      go_ret2
      exact ⟨_, _, rfl, HII.out, HB2.out⟩
  · have hne : (rn != 0) = true := by simp [h0]
    have HII := Lib.hid (HI1.out h0)
    clear h0
    go_wp2_with fail
    go_ret2
    exact ⟨_, _, rfl, HII.out, HB1.out⟩
end Go.Proofs.YtmepjcnpbjdlkaaGreatDoor
