/- texts of this claim, laid together: WorksP, Parts. -/
import Derived.Test.YtmepjcnpbjdlkaaGreatDoorQbClA
/- the chapter's bond and bill; that they work. -/
namespace Go.Proofs.YtmepjcnpbjdlkaaGreatDoor
set_option linter.unusedVariables false
set_option linter.unusedSimpArgs false
open Go.RowKit
attribute [local irreducible] Go.wpStill

def bondV : SecV := ⟨85, 83, 48, 51, 55, 56, 51, 51, 49, 48, 48, 53, 2, 100000, 50000, 2, 2, 738535, 739447, ⟨#[69, 85, 82]⟩⟩
def billV : SecV := ⟨85, 83, 48, 51, 55, 56, 51, 51, 49, 48, 48, 53, 3, 100000, 0, 0, 0, 738886, 738976, ⟨#[69, 85, 82]⟩⟩
theorem bond_ok : checkN bondV = 0 := by kernel_rfl
theorem bill_ok : checkN billV = 0 := by kernel_rfl
theorem bond_clean : cleanR bondV 10 9875 2 0 = (987500, 0) := by kernel_rfl
theorem bond_acc : AccIs bondV 10 738990 2 12361 0 := by
  refine .inr (.inr (.inr (.inr ⟨bond_ok, by decide, rfl, by decide, 738900, 89, 360, ⟨2025, 7, 15, 3, ?_, ?_, ?_, ?_⟩, ?_, by kernel_rfl⟩)))
  · exact ⟨by decide, by decide, by decide, by decide, by decide, by decide +kernel, by kernel_rfl⟩
  · decide +kernel
  · decide +kernel
  · kernel_rfl
  · exact .inr (.inr ⟨by decide, rfl, 2024, 1, 15, 2024, 4, 14, ⟨by decide, by decide, by decide, by decide, by decide, by decide +kernel, by kernel_rfl⟩, ⟨by decide, by decide, by decide, by decide, by decide, by decide +kernel, by kernel_rfl⟩, by kernel_rfl⟩)
theorem wpList_row {P : Program} {ops : Array Oper} {Q : Exit → Act → World → Prop} {o : Oper} {rest : List Oper} {a : Act} {w : World} (ty : TypeId) (x y : Operand) (hw : Region.wanted o (yielded ops a.tmps) = true) (ho : o.op = .store ty x y)
    (g : Nat) (cells : Array Value) (hx : a.eval x = .pointer (some ⟨g, 0, none⟩)) (hy : a.eval y = .agg cells)
    (t : TypeId) (old : Array Value) (hg : w.heap[g]? = some (.cells old t (0, 0))) (hi : (P.info? ty).map (·.size) = some cells.size)
    (hold : old.size = cells.size) (h1 : cells.all (·.oneCell') = true)
    (h : wpList P ops Q rest (a.put o.dst undef) (w.setRow g cells)) : wpList P ops Q (o :: rest) a w :=
  wpList_step fun K hK => by
    rw [if_pos hw]
    exact wp_store_row ty x y ho g cells hx hy t old hg hi hold h1 (hK _ _ h)
theorem code_any (w : World) : Calls Tryz.prog 75 #[] w fun e w' => e = .returned (.agg ((secC bondV).extract 0 12)) ∧ Below w.heap.size w w' := by
  go_enter Tryz.func75, Tryz.ntmps75
  go_wp2_with fail
  exact bodyPost_ret (v := .agg _) (results_cell_row rfl _ _ w.heap.size 23 _ (0, 0) _ rfl (heap_alloc_new w _) Tryz.underlying23 rfl (by kernel_rfl)) rfl ⟨rfl, (Below.refl _ _).alloc (Nat.le_refl _) _⟩
set_option maxHeartbeats 2000000 in
theorem bondLit_any (w : World) : Calls Tryz.prog 29 #[] w fun e w' => e = .returned (.agg (secC bondV)) ∧ Below w.heap.size w w' := by
  have HC := Lib.hid code_any
  go_enter Tryz.func29, Tryz.ntmps29
  go_wp2_with fail
  have HG := Lib.hid (heap_alloc_new w (.cells #[.int .u8 0, .int .u8 0, .int .u8 0, .int .u8 0, .int .u8 0, .int .u8 0, .int .u8 0, .int .u8 0, .int .u8 0, .int .u8 0, .int .u8 0, .int .u8 0, .int .i64 0, .int .i64 0, .int .i64 0, .int .i64 0, .int .i64 0, .int .i64 0, .int .i64 0, .string ByteArray.empty] 25))
  have HZ := Lib.hid ((Below.refl w.heap.size w).alloc (Nat.le_refl _) (.cells #[.int .u8 0, .int .u8 0, .int .u8 0, .int .u8 0, .int .u8 0, .int .u8 0, .int .u8 0, .int .u8 0, .int .u8 0, .int .u8 0, .int .u8 0, .int .u8 0, .int .i64 0, .int .i64 0, .int .i64 0, .int .i64 0, .int .i64 0, .int .i64 0, .int .i64 0, .string ByteArray.empty] 25))
  refine (HC.out _).mono ?_
  rintro e w1 ⟨rfl, hb1⟩
  have HG1 := Lib.hid (rowAt_below HG.out hb1)
  have HZ1 := Lib.hid (HZ.out.trans (hb1.mono (by simp)))
  clear hb1
  go_wp2_with (refine wpList_row 25 _ _ (by kernel_rfl) rfl w.heap.size (secC bondV) rfl rfl 25 _ HG1.out (by kernel_rfl) rfl (by simp [Value.oneCell']) ?_)
  exact bodyPost_ret (v := .agg _) (results_cell_row rfl _ _ w.heap.size 25 _ (0, 0) _ rfl (setRow_heap _ _ _ _ _ _ HG1.out) Tryz.underlying25 rfl (by kernel_rfl)) rfl ⟨rfl, below_setRow HZ1.out (Nat.le_refl _) _⟩
set_option maxHeartbeats 2000000 in
theorem billLit_any (w : World) : Calls Tryz.prog 65 #[] w fun e w' => e = .returned (.agg (secC billV)) ∧ Below w.heap.size w w' := by
  have HC := Lib.hid code_any
  go_enter Tryz.func65, Tryz.ntmps65
  go_wp2_with fail
  have HG := Lib.hid (heap_alloc_new w (.cells #[.int .u8 0, .int .u8 0, .int .u8 0, .int .u8 0, .int .u8 0, .int .u8 0, .int .u8 0, .int .u8 0, .int .u8 0, .int .u8 0, .int .u8 0, .int .u8 0, .int .i64 0, .int .i64 0, .int .i64 0, .int .i64 0, .int .i64 0, .int .i64 0, .int .i64 0, .string ByteArray.empty] 25))
  have HZ := Lib.hid ((Below.refl w.heap.size w).alloc (Nat.le_refl _) (.cells #[.int .u8 0, .int .u8 0, .int .u8 0, .int .u8 0, .int .u8 0, .int .u8 0, .int .u8 0, .int .u8 0, .int .u8 0, .int .u8 0, .int .u8 0, .int .u8 0, .int .i64 0, .int .i64 0, .int .i64 0, .int .i64 0, .int .i64 0, .int .i64 0, .int .i64 0, .string ByteArray.empty] 25))
  refine (HC.out _).mono ?_
  rintro e w1 ⟨rfl, hb1⟩
  have HG1 := Lib.hid (rowAt_below HG.out hb1)
  have HZ1 := Lib.hid (HZ.out.trans (hb1.mono (by simp)))
  clear hb1
  go_wp2_with (refine wpList_row 25 _ _ (by kernel_rfl) rfl w.heap.size (secC billV) rfl rfl 25 _ HG1.out (by kernel_rfl) rfl (by simp [Value.oneCell']) ?_)
  exact bodyPost_ret (v := .agg _) (results_cell_row rfl _ _ w.heap.size 25 _ (0, 0) _ rfl (setRow_heap _ _ _ _ _ _ HG1.out) Tryz.underlying25 rfl (by kernel_rfl)) rfl ⟨rfl, below_setRow HZ1.out (Nat.le_refl _) _⟩
set_option maxRecDepth 100000 in
set_option maxHeartbeats 4000000 in
theorem worksP_any (w : World) (hok : Ok w) : Calls Tryz.prog 23 #[] w (FlatP true w) := by
  have HB := Lib.hid bondLit_any
  have HL := Lib.hid billLit_any
  have hc := fun w hok => clean_any bondV 10 9875 2 0 w (by decide) hok (by decide) (by decide) (by decide)
  unfold CleanP at hc
  rw [bond_clean] at hc
  have ha := fun w hok => accrued_any bondV 10 738990 2 w (by decide) hok (by decide) (by decide)
  unfold AccP at ha
  have hk := fun w hok => priceCheck_any billV w (by decide) hok
  have hun := fun z n (h : AccIs bondV 10 738990 2 z n) => h.unique bond_acc
  have HC := Lib.hid hc
  have HA := Lib.hid ha
  have HK := Lib.hid hk
  have HUN := Lib.hid hun
  have HOK := Lib.hid hok
  clear hc ha hk hun hok
  generalize AccIs bondV 10 738990 2 = AI at *
  generalize secC bondV = SV at *
  generalize secC billV = LV at *
  go_enter Tryz.func23, Tryz.ntmps23
  go_wp2_with fail
  refine (HB.out _).mono ?_
  rintro e w1 ⟨rfl, hb1⟩
  have HB1 := Lib.hid hb1
  clear hb1
  go_wp2_with fail
  refine (HC.out _ (HOK.out.below HB1.out)).mono ?_
  rintro e w2 ⟨v2, rfl, hE, hb2⟩
  obtain ⟨rfl, _⟩ := hE.zero rfl
  have HB2 := Lib.hid (HB1.out.trans (hb2.mono HB1.out.size))
  clear hb2 hE
  go_wp2_with fail
  refine (HB.out _).mono ?_
  rintro e w3 ⟨rfl, hb3⟩
  have HB3 := Lib.hid (HB2.out.trans (hb3.mono HB2.out.size))
  clear hb3
  go_wp2_with fail
  refine (HA.out _ (HOK.out.below HB3.out)).mono ?_
  rintro e w4 ⟨z, v4, n, rfl, hE, hA, hb4⟩
  obtain ⟨rfl, rfl⟩ := HUN.out _ _ hA
  obtain ⟨rfl, _⟩ := hE.zero rfl
  have HB4 := Lib.hid (HB3.out.trans (hb4.mono HB3.out.size))
  clear hb4 hE hA
  go_wp2_with fail
  refine (HL.out _).mono ?_
  rintro e w5 ⟨rfl, hb5⟩
  have HB5 := Lib.hid (HB4.out.trans (hb5.mono HB4.out.size))
  clear hb5
  go_wp2_with fail
  refine (HK.out _ (HOK.out.below HB5.out)).mono ?_
  rintro e w6 ⟨v6, rfl, hE, hb6⟩
  obtain ⟨rfl, _⟩ := hE.zero bill_ok
  have HB6 := Lib.hid (HB5.out.trans (hb6.mono HB5.out.size))
  clear hb6 hE
  go_wp2_with fail
  go_ret
  exact ⟨rfl, HB6.out⟩
end Go.Proofs.YtmepjcnpbjdlkaaGreatDoor
/- two parts and the whole: the plain law; near. -/
namespace Go.Proofs.YtmepjcnpbjdlkaaGreatDoor
set_option linter.unusedVariables false
set_option linter.unusedSimpArgs false
open Go.RowKit
attribute [local irreducible] Go.wpStill

/-- what two parts and the whole must be -/
def PartsOk (mode a e b f t g : Int) : Prop := 0 ≤ a ∧ a ≤ 9223372036854775807 ∧ 0 ≤ b ∧ b ≤ 9223372036854775807 ∧ 0 ≤ t ∧ t ≤ 9223372036854775807 ∧ (g = 0 → e = 0 ∧ f = 0 ∧ (mode = 0 → t - a = b ∨ t - a = b + 1) ∧ (mode ≠ 0 → t - a = b ∨ t - a = b - 1))
theorem div_parts (x y D : Nat) (hD : 0 < D) : (x + y) / D = x / D + y / D ∨ (x + y) / D = x / D + y / D + 1 := by
  have h1 := Nat.div_add_mod x D
  have h2 := Nat.div_add_mod y D
  have h3 := Nat.mod_lt x hD
  have h4 := Nat.mod_lt y hD
  have e : (x + y) / D = x / D + y / D + (x % D + y % D) / D := by
    rw [show x + y = (x % D + y % D) + D * (x / D + y / D) by rw [Nat.mul_add]; omega, Nat.add_mul_div_left _ _ hD]
    omega
  rw [e]
  by_cases h : x % D + y % D < D
  · left; rw [Nat.div_eq_of_lt h]; omega
  · right
    have : (x % D + y % D) / D = 1 := by
      rw [Nat.div_eq_iff hD]
      omega
    omega
theorem quo_down (x D : Nat) : DG.quo x D 0 = x / D := by
  unfold DG.quo DG.goesUp
  simp
theorem quo_up (x D : Nat) (hD : 0 < D) : DG.quo x D 1 = (x + (D - 1)) / D := by
  unfold DG.quo DG.goesUp
  have h1 := Nat.div_add_mod x D
  have h3 := Nat.mod_lt x hD
  have e : (x + (D - 1)) / D = x / D + (x % D + (D - 1)) / D := by
    rw [show x + (D - 1) = (x % D + (D - 1)) + D * (x / D) by omega, Nat.add_mul_div_left _ _ hD]
    omega
  rw [e]
  by_cases h : 0 < x % D
  · have : (x % D + (D - 1)) / D = 1 := by
      rw [Nat.div_eq_iff hD]
      omega
    simp [h, this]
  · have h0 : x % D = 0 := by omega
    have : (x % D + (D - 1)) / D = 0 := Nat.div_eq_of_lt (by omega)
    simp [h0, Nat.div_eq_of_lt (show D - 1 < D by omega)]
theorem rounded_parts (x y D : Nat) (hD : 0 < D) (mode : Int) (hm : mode = 0 ∨ mode = 1) :
    PartsOk mode (DG.rounded x D mode).1 (DG.rounded x D mode).2 (DG.rounded y D mode).1 (DG.rounded y D mode).2 (DG.rounded (x + y) D mode).1 (DG.rounded (x + y) D mode).2 := by
  have hs : ∀ z, 0 ≤ (DG.rounded z D mode).1 ∧ (DG.rounded z D mode).1 ≤ 9223372036854775807 := fun z => ⟨by unfold DG.rounded; split <;> simp, rounded_lt _ _ _⟩
  have key : DG.quo x D mode ≤ DG.quo (x + y) D mode ∧ DG.quo y D mode ≤ DG.quo (x + y) D mode ∧ (mode = 0 → DG.quo (x + y) D mode = DG.quo x D mode + DG.quo y D mode ∨ DG.quo (x + y) D mode = DG.quo x D mode + DG.quo y D mode + 1) ∧ (mode ≠ 0 → DG.quo (x + y) D mode = DG.quo x D mode + DG.quo y D mode ∨ DG.quo (x + y) D mode + 1 = DG.quo x D mode + DG.quo y D mode) := by
    rcases hm with rfl | rfl
    · rw [quo_down, quo_down, quo_down]
      have := div_parts x y D hD
      generalize x / D = p at *
      generalize y / D = p' at *
      generalize (x + y) / D = p'' at *
      refine ⟨by omega, by omega, fun _ => this, fun h => absurd rfl h⟩
    · rw [quo_up _ _ hD, quo_up _ _ hD, quo_up _ _ hD]
      have m1 : (x + (D - 1)) / D ≤ (x + y + (D - 1)) / D := Nat.div_le_div_right (by omega)
      have m2 : (y + (D - 1)) / D ≤ (x + y + (D - 1)) / D := Nat.div_le_div_right (by omega)
      refine ⟨m1, m2, fun h => by omega, fun _ => ?_⟩
      have h1 := div_parts (x + (D - 1)) (y + (D - 1)) D hD
      have h2 := div_parts (x + y + (D - 1)) (D - 1) D hD
      rw [Nat.div_eq_of_lt (show D - 1 < D by omega)] at h2
      rw [show x + (D - 1) + (y + (D - 1)) = x + y + (D - 1) + (D - 1) by omega] at h1
      have h5 : (x + y + (D - 1)) / D ≤ (x + (D - 1)) / D + (y + (D - 1)) / D := by
        have e1 := Nat.div_add_mod (x + (D - 1)) D
        have e2 := Nat.div_add_mod (y + (D - 1)) D
        have e3 := Nat.mod_lt (x + (D - 1)) hD
        have e4 := Nat.mod_lt (y + (D - 1)) hD
        have e5 : (x + y + (D - 1)) / D ≤ ((D - 1) + D * ((x + (D - 1)) / D + (y + (D - 1)) / D)) / D := Nat.div_le_div_right (by rw [Nat.mul_add]; omega)
        rw [Nat.add_mul_div_left _ _ hD, Nat.div_eq_of_lt (show D - 1 < D by omega)] at e5
        rwa [Nat.zero_add] at e5
      generalize (x + (D - 1)) / D = p at *
      generalize (y + (D - 1)) / D = p' at *
      generalize (x + y + (D - 1)) / D = p'' at *
      generalize (x + y + (D - 1) + (D - 1)) / D = p3 at *
      omega
  obtain ⟨k1, k2, k3, k4⟩ := key
  refine ⟨(hs x).1, (hs x).2, (hs y).1, (hs y).2, (hs (x + y)).1, (hs (x + y)).2, fun h => ?_⟩
  have ht : DG.quo (x + y) D mode < 9223372036854775808 := by
    unfold DG.rounded at h
    split at h
    · assumption
    · exact absurd h (by decide)
  have r : ∀ z, DG.quo z D mode < 9223372036854775808 → DG.rounded z D mode = (((DG.quo z D mode : Nat) : Int), (0 : Int)) := fun z h => by unfold DG.rounded; rw [if_pos h]
  rw [r x (by omega), r y (by omega), r (x + y) ht]
  refine ⟨rfl, rfl, fun h => ?_, fun h => ?_⟩
  · have := k3 h; show ((DG.quo (x + y) D mode : Nat) : Int) - (DG.quo x D mode : Nat) = (DG.quo y D mode : Nat) ∨ ((DG.quo (x + y) D mode : Nat) : Int) - (DG.quo x D mode : Nat) = (DG.quo y D mode : Nat) + 1; omega
  · have := k4 h; show ((DG.quo (x + y) D mode : Nat) : Int) - (DG.quo x D mode : Nat) = (DG.quo y D mode : Nat) ∨ ((DG.quo (x + y) D mode : Nat) : Int) - (DG.quo x D mode : Nat) = (DG.quo y D mode : Nat) - 1; omega
theorem parts_same (mode n : Int) (z : Int) (hz : 0 ≤ z ∧ z ≤ 9223372036854775807) (h : n ≠ 0) : PartsOk mode z n z n z n := ⟨hz.1, hz.2, hz.1, hz.2, hz.1, hz.2, fun h' => absurd h' h⟩
theorem foldl_scale (l : List Nat) : ∀ a b : Nat, l.foldl (· * ·) (a * b) = a * l.foldl (· * ·) b := by
  induction l with
  | nil => intro a b; rfl
  | cons x l ih => intro a b; rw [List.foldl_cons, List.foldl_cons, Nat.mul_assoc, ih]
theorem prodN_cons (x : Nat) (l : List Nat) : prodN (x :: l) = x * prodN l := by
  unfold prodN
  rw [List.foldl_cons, Nat.one_mul]
  have := foldl_scale l x 1
  rwa [Nat.mul_one] at this
theorem prodN_add (x y : Nat) (l : List Nat) : prodN ((x + y) :: l) = prodN (x :: l) + prodN (y :: l) := by
  rw [prodN_cons, prodN_cons, prodN_cons, Nat.add_mul]
theorem clean_parts (s : SecV) (q r price scale mode : Int) (hq : 0 ≤ q) (hr : 0 ≤ r) (hm : mode = 0 ∨ mode = 1) :
    PartsOk mode (cleanR s q price scale mode).1 (cleanR s q price scale mode).2 (cleanR s r price scale mode).1 (cleanR s r price scale mode).2 (cleanR s (q + r) price scale mode).1 (cleanR s (q + r) price scale mode).2 := by
  have ht : (q + r).toNat = q.toNat + r.toNat := by omega
  unfold cleanR
  split
  · next h => exact parts_same mode (checkN s) 0 (by decide) h
  split
  · exact parts_same mode 24 0 (by decide) (by decide)
  by_cases hg : price < 0 ∨ scale < 0 ∨ 18 < scale ∨ mode < 0 ∨ 3 < mode
  · have hh : ∀ x : Int, x < 0 ∨ price < 0 ∨ scale < 0 ∨ 18 < scale ∨ mode < 0 ∨ 3 < mode := fun x => .inr hg
    rw [if_pos (hh q), if_pos (hh r), if_pos (hh (q + r))]
    exact parts_same mode 1 0 (by decide) (by decide)
  · have hh : ∀ x : Int, 0 ≤ x → ¬ (x < 0 ∨ price < 0 ∨ scale < 0 ∨ 18 < scale ∨ mode < 0 ∨ 3 < mode) := fun x hx => by omega
    rw [if_neg (hh q hq), if_neg (hh r hr), if_neg (hh (q + r) (by omega))]
    have hD1 : 0 < prodN [10 ^ scale.toNat] := by
      have hp : 0 < 10 ^ scale.toNat := Nat.pow_pos (by decide)
      rw [prodN_cons]; exact Nat.mul_pos hp (by decide)
    have hD2 : 0 < prodN [100, 10 ^ scale.toNat] := by
      have hp : 0 < 10 ^ scale.toNat := Nat.pow_pos (by decide)
      rw [prodN_cons, prodN_cons]; exact Nat.mul_pos (by decide) (Nat.mul_pos hp (by decide))
    have hp : 0 < 10 ^ scale.toNat := Nat.pow_pos (by decide)
    split
    · rw [ht, prodN_add]
      exact rounded_parts _ _ _ hD1 _ hm
    · rw [ht, prodN_add]
      exact rounded_parts _ _ _ hD2 _ hm
theorem acc_parts {s : SecV} {q r day mode a e b f t g : Int} (hq : 0 ≤ q) (hr : 0 ≤ r) (hm : mode = 0 ∨ mode = 1) (h1 : AccIs s q day mode a e) (h2 : AccIs s r day mode b f) (h3 : AccIs s (q + r) day mode t g) :
    PartsOk mode a e b f t g := by
  have ht : (q + r).toNat = q.toNat + r.toNat := by omega
  rcases h1 with ⟨h, rfl, rfl⟩ | ⟨h, hg, rfl, rfl⟩ | ⟨h, hg, hk, rfl, rfl⟩ | ⟨h, hg, hk, hd, rfl, rfl⟩ | ⟨h, hg, hk, hd, fd, A, B, hL, hF, hab⟩
  · obtain ⟨rfl, rfl⟩ := h2.unique (.inl ⟨h, rfl, rfl⟩)
    obtain ⟨rfl, rfl⟩ := h3.unique (.inl ⟨h, rfl, rfl⟩)
    exact parts_same _ _ _ (by decide) h
  · exfalso; omega
  · obtain ⟨rfl, rfl⟩ := h2.unique (.inr (.inr (.inl ⟨h, by omega, hk, rfl, rfl⟩)))
    obtain ⟨rfl, rfl⟩ := h3.unique (.inr (.inr (.inl ⟨h, by omega, hk, rfl, rfl⟩)))
    exact ⟨by decide, by decide, by decide, by decide, by decide, by decide, fun _ => ⟨rfl, rfl, fun _ => .inl rfl, fun _ => .inl rfl⟩⟩
  · obtain ⟨rfl, rfl⟩ := h2.unique (.inr (.inr (.inr (.inl ⟨h, by omega, hk, hd, rfl, rfl⟩))))
    obtain ⟨rfl, rfl⟩ := h3.unique (.inr (.inr (.inr (.inl ⟨h, by omega, hk, hd, rfl, rfl⟩))))
    exact parts_same _ _ _ (by decide) (by decide)
  · have kk : ∀ x, 0 ≤ x → AccIs s x day mode (bondAcc s x mode A B).1 (bondAcc s x mode A B).2 := fun x hx => .inr (.inr (.inr (.inr ⟨h, by omega, hk, hd, fd, A, B, hL, hF, rfl⟩)))
    obtain ⟨e1, e2⟩ := h2.unique (kk r hr)
    obtain ⟨e3, e4⟩ := h3.unique (kk (q + r) (by omega))
    have e5 : a = (bondAcc s q mode A B).1 := by rw [← hab]
    have e6 : e = (bondAcc s q mode A B).2 := by rw [← hab]
    rw [e1, e2, e3, e4, e5, e6]
    have hB : 0 < B.toNat := by
      rcases hF with ⟨_, _, rfl⟩ | ⟨_, _, rfl⟩ | ⟨_, rfl, _⟩ <;> decide
    have hD : 0 < prodN [1000000, B.toNat] := by
      rw [prodN_cons, prodN_cons]; exact Nat.mul_pos (by decide) (Nat.mul_pos hB (by decide))
    unfold bondAcc
    rw [ht, prodN_add]
    exact rounded_parts _ _ _ hD _ hm
set_option maxHeartbeats 2000000 in
theorem near_any (a b t mode : Int) (w : World) (ha : 0 ≤ a ∧ a ≤ 9223372036854775807) (hb : 0 ≤ b ∧ b ≤ 9223372036854775807) (ht : 0 ≤ t ∧ t ≤ 9223372036854775807) (h0 : mode = 0 → t - a = b ∨ t - a = b + 1) (h1 : mode ≠ 0 → t - a = b ∨ t - a = b - 1) :
    Calls Tryz.prog 30 #[.int .i64 a, .int .i64 b, .int .i64 t, .int .i64 mode] w fun e w' => e = .returned (.bool true) ∧ w' = w := by
  obtain ⟨a0, a1⟩ := ha
  obtain ⟨b0, b1⟩ := hb
  obtain ⟨t0, t1⟩ := ht
  by_cases hm : mode = 0
  · have hme : (mode == 0) = true := by simp [hm]
    by_cases he : t - a = b
    · have hee : (t - a == b) = true := by simp [he]
      clear h0 h1 hm he
      go_enter Tryz.func30, Tryz.ntmps30
      go_wp2_with fail
      go_ret
      exact ⟨rfl, rfl⟩
    · have hee : (t - a == b) = false := by simp [he]
      have h2 : t - a = b + 1 := (h0 hm).resolve_left he
      have hef : (t - a == b + 1) = true := by simp [h2]
      have hbb : b + 1 ≤ 9223372036854775807 := by omega
      clear h0 h1 hm he h2
      go_enter Tryz.func30, Tryz.ntmps30
      go_wp2_with fail
      go_ret
      exact ⟨rfl, rfl⟩
  · have hme : (mode == 0) = false := by simp [hm]
    by_cases he : t - a = b
    · have hee : (t - a == b) = true := by simp [he]
      clear h0 h1 hm he
      go_enter Tryz.func30, Tryz.ntmps30
      go_wp2_with fail
      go_ret
      exact ⟨rfl, rfl⟩
    · have hee : (t - a == b) = false := by simp [he]
      have h2 : t - a = b - 1 := (h1 hm).resolve_left he
      have hef : (t - a == b - 1) = true := by simp [h2]
      clear h0 h1 hm he h2
      go_enter Tryz.func30, Tryz.ntmps30
      go_wp2_with fail
      go_ret
      exact ⟨rfl, rfl⟩
end Go.Proofs.YtmepjcnpbjdlkaaGreatDoor
