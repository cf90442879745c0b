/- texts of this claim, laid together: WorksP, Parts. -/
import Derived.Test.YtmepjcnpbjdlkaaGreatDoorQeClA
/- the chapter's bond and bill; that they work. -/
namespace Go.Proofs.YtmepjcnpbjdlkaaGreatDoor
set_option linter.unusedVariables false
set_option linter.unusedSimpArgs false
open Go.RowKit
attribute [local irreducible] Go.wpStill

def bondV : SecV := ⟨85, 83, 48, 51, 55, 56, 51, 51, 49, 48, 48, 53, 2, 100000, 50000, 2, 2, 738535, 739447, ⟨#[69, 85, 82]⟩⟩
def billV : SecV := ⟨85, 83, 48, 51, 55, 56, 51, 51, 49, 48, 48, 53, 3, 100000, 0, 0, 0, 738886, 738976, ⟨#[69, 85, 82]⟩⟩
theorem bond_ok : checkN bondV = 0 := by kernel_rfl
theorem bill_ok : checkN billV = 0 := by kernel_rfl
theorem bond_clean : cleanR bondV 10 9875 2 0 = (987500, 0) := by kernel_rfl
theorem bond_acc : AccIs bondV 10 738990 2 12361 0 := by
  refine .inr (.inr (.inr (.inr ⟨bond_ok, by decide, rfl, by decide, 738900, 89, 360, ⟨2025, 7, 15, 3, ?_, ?_, ?_, ?_⟩, ?_, by kernel_rfl⟩)))
  · exact ⟨by decide, by decide, by decide, by decide, by decide, by decide +kernel, by kernel_rfl⟩
  · decide +kernel
  · decide +kernel
  · kernel_rfl
  · exact .inr (.inr ⟨by decide, rfl, 2024, 1, 15, 2024, 4, 14, ⟨by decide, by decide, by decide, by decide, by decide, by decide +kernel, by kernel_rfl⟩, ⟨by decide, by decide, by decide, by decide, by decide, by decide +kernel, by kernel_rfl⟩, by kernel_rfl⟩)
theorem wpList_row {P : Program} {ops : Array Oper} {Q : Exit → Act → World → Prop} {o : Oper} {rest : List Oper} {a : Act} {w : World} (ty : TypeId) (x y : Operand) (hw : Region.wanted o (yielded ops a.tmps) = true) (ho : o.op = .store ty x y)
    (g : Nat) (cells : Array Value) (hx : a.eval x = .pointer (some ⟨g, 0, none⟩)) (hy : a.eval y = .agg cells)
    (t : TypeId) (old : Array Value) (hg : w.heap[g]? = some (.cells old t (0, 0))) (hi : (P.info? ty).map (·.size) = some cells.size)
    (hold : old.size = cells.size) (h1 : cells.all (·.oneCell') = true)
    (h : wpList P ops Q rest (a.put o.dst undef) (w.setRow g cells)) : wpList P ops Q (o :: rest) a w :=
  wpList_step fun K hK => by
    rw [if_pos hw]
    exact wp_store_row ty x y ho g cells hx hy t old hg hi hold h1 (hK _ _ h)
theorem code_any (w : World) : Calls Tryz.prog 75 #[] w fun e w' => e = .returned (.agg ((secC bondV).extract 0 12)) ∧ Below w.heap.size w w' := by
  go_enter Tryz.func75, Tryz.ntmps75
  go_wp2_with fail
  exact bodyPost_ret (v := .agg _) (results_cell_row rfl _ _ w.heap.size 23 _ (0, 0) _ rfl (heap_alloc_new w _) Tryz.underlying23 rfl (by kernel_rfl)) rfl ⟨rfl, (Below.refl _ _).alloc (Nat.le_refl _) _⟩
set_option maxHeartbeats 2000000 in
theorem bondLit_any (w : World) : Calls Tryz.prog 29 #[] w fun e w' => e = .returned (.agg (secC bondV)) ∧ Below w.heap.size w w' := by
  have HC := Lib.hid code_any
  go_enter Tryz.func29, Tryz.ntmps29
  go_wp2_with fail
  have HG := Lib.hid (heap_alloc_new w (.cells #[.int .u8 0, .int .u8 0, .int .u8 0, .int .u8 0, .int .u8 0, .int .u8 0, .int .u8 0, .int .u8 0, .int .u8 0, .int .u8 0, .int .u8 0, .int .u8 0, .int .i64 0, .int .i64 0, .int .i64 0, .int .i64 0, .int .i64 0, .int .i64 0, .int .i64 0, .string ByteArray.empty] 25))
  have HZ := Lib.hid ((Below.refl w.heap.size w).alloc (Nat.le_refl _) (.cells #[.int .u8 0, .int .u8 0, .int .u8 0, .int .u8 0, .int .u8 0, .int .u8 0, .int .u8 0, .int .u8 0, .int .u8 0, .int .u8 0, .int .u8 0, .int .u8 0, .int .i64 0, .int .i64 0, .int .i64 0, .int .i64 0, .int .i64 0, .int .i64 0, .int .i64 0, .string ByteArray.empty] 25))
  refine (HC.out _).mono ?_
  rintro e w1 ⟨rfl, hb1⟩
  have HG1 := Lib.hid (rowAt_below HG.out hb1)
  have HZ1 := Lib.hid (HZ.out.trans (hb1.mono (by simp)))
  clear hb1
  go_wp2_with (refine wpList_row 25 _ _ (by kernel_rfl) rfl w.heap.size (secC bondV) rfl rfl 25 _ HG1.out (by kernel_rfl) rfl (by simp [Value.oneCell']) ?_)
  exact bodyPost_ret (v := .agg _) (results_cell_row rfl _ _ w.heap.size 25 _ (0, 0) _ rfl (setRow_heap _ _ _ _ _ _ HG1.out) Tryz.underlying25 rfl (by kernel_rfl)) rfl ⟨rfl, below_setRow HZ1.out (Nat.le_refl _) _⟩
set_option maxHeartbeats 2000000 in
theorem billLit_any (w : World) : Calls Tryz.prog 65 #[] w fun e w' => e = .returned (.agg (secC billV)) ∧ Below w.heap.size w w' := by
  have HC := Lib.hid code_any
  go_enter Tryz.func65, Tryz.ntmps65
  go_wp2_with fail
  have HG := Lib.hid (heap_alloc_new w (.cells #[.int .u8 0, .int .u8 0, .int .u8 0, .int .u8 0, .int .u8 0, .int .u8 0, .int .u8 0, .int .u8 0, .int .u8 0, .int .u8 0, .int .u8 0, .int .u8 0, .int .i64 0, .int .i64 0, .int .i64 0, .int .i64 0, .int .i64 0, .int .i64 0, .int .i64 0, .string ByteArray.empty] 25))
  have HZ := Lib.hid ((Below.refl w.heap.size w).alloc (Nat.le_refl _) (.cells #[.int .u8 0, .int .u8 0, .int .u8 0, .int .u8 0, .int .u8 0, .int .u8 0, .int .u8 0, .int .u8 0, .int .u8 0, .int .u8 0, .int .u8 0, .int .u8 0, .int .i64 0, .int .i64 0, .int .i64 0, .int .i64 0, .int .i64 0, .int .i64 0, .int .i64 0, .string ByteArray.empty] 25))
  refine (HC.out _).mono ?_
  rintro e w1 ⟨rfl, hb1⟩
  have HG1 := Lib.hid (rowAt_below HG.out hb1)
  have HZ1 := Lib.hid (HZ.out.trans (hb1.mono (by simp)))
  clear hb1
  go_wp2_with (refine wpList_row 25 _ _ (by kernel_rfl) rfl w.heap.size (secC billV) rfl rfl 25 _ HG1.out (by kernel_rfl) rfl (by simp [Value.oneCell']) ?_)
  exact bodyPost_ret (v := .agg _) (results_cell_row rfl _ _ w.heap.size 25 _ (0, 0) _ rfl (setRow_heap _ _ _ _ _ _ HG1.out) Tryz.underlying25 rfl (by kernel_rfl)) rfl ⟨rfl, below_setRow HZ1.out (Nat.le_refl _) _⟩
set_option maxRecDepth 100000 in
set_option maxHeartbeats 4000000 in
theorem worksP_any (w : World) (hok : Ok w) : Calls Tryz.prog 23 #[] w (FlatP true w) := by
  have HB := Lib.hid bondLit_any
  have HL := Lib.hid billLit_any
  have hc := fun w hok => clean_any bondV 10 9875 2 0 w (by decide) hok (by decide) (by decide) (by decide)
  unfold CleanP at hc
  rw [bond_clean] at hc
  have ha := fun w hok => accrued_any bondV 10 738990 2 w (by decide) hok (by decide) (by decide)
  unfold AccP at ha
  have hk := fun w hok => priceCheck_any billV w (by decide) hok
  have hun := fun z n (h : AccIs bondV 10 738990 2 z n) => h.unique bond_acc
  have HC := Lib.hid hc
  have HA := Lib.hid ha
  have HK := Lib.hid hk
  have HUN := Lib.hid hun
  have HOK := Lib.hid hok
  clear hc ha hk hun hok
  generalize AccIs bondV 10 738990 2 = AI at *
  generalize secC bondV = SV at *
  generalize secC billV = LV at *
  go_enter Tryz.func23, Tryz.ntmps23
  go_wp2_with fail
  refine (HB.out _).mono ?_
  rintro e w1 ⟨rfl, hb1⟩
  have HB1 := Lib.hid hb1
  clear hb1
  go_wp2_with fail
  refine (HC.out _ (HOK.out.below HB1.out)).mono ?_
  rintro e w2 ⟨v2, rfl, hE, hb2⟩
  obtain ⟨rfl, _⟩ := hE.zero rfl
  have HB2 := Lib.hid (HB1.out.trans (hb2.mono HB1.out.size))
  clear hb2 hE
  go_wp2_with fail
  refine (HB.out _).mono ?_
  rintro e w3 ⟨rfl, hb3⟩
  have HB3 := Lib.hid (HB2.out.trans (hb3.mono HB2.out.size))
  clear hb3
  go_wp2_with fail
  refine (HA.out _ (HOK.out.below HB3.out)).mono ?_
  rintro e w4 ⟨z, v4, n, rfl, hE, hA, hb4⟩
  obtain ⟨rfl, rfl⟩ := HUN.out _ _ hA
  obtain ⟨rfl, _⟩ := hE.zero rfl
  have HB4 := Lib.hid (HB3.out.trans (hb4.mono HB3.out.size))
  clear hb4 hE hA
  go_wp2_with fail
  refine (HL.out _).mono ?_
  rintro e w5 ⟨rfl, hb5⟩
  have HB5 := Lib.hid (HB4.out.trans (hb5.mono HB4.out.size))
  clear hb5
  go_wp2_with fail
  refine (HK.out _ (HOK.out.below HB5.out)).mono ?_
  rintro e w6 ⟨v6, rfl, hE, hb6⟩
  obtain ⟨rfl, _⟩ := hE.zero bill_ok
  have HB6 := Lib.hid (HB5.out.trans (hb6.mono HB5.out.size))
  clear hb6 hE
  go_wp2_with fail
  go_ret
  exact ⟨rfl, HB6.out⟩
end Go.Proofs.YtmepjcnpbjdlkaaGreatDoor
/- two parts and the whole: the plain law; near. -/
namespace Go.Proofs.YtmepjcnpbjdlkaaGreatDoor
set_option linter.unusedVariables false
set_option linter.unusedSimpArgs false
open Go.RowKit
attribute [local irreducible] Go.wpStill

end Go.Proofs.YtmepjcnpbjdlkaaGreatDoor
