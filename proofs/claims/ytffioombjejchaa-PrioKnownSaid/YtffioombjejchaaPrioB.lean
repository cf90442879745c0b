/- prio: the order of entries by contract. -/
import Derived.Test.YtffioombjejchaaPrioA
namespace Go.Proofs.Ytffioombjejchaa
set_option linter.unusedVariables false
set_option linter.unusedSimpArgs false
open Go.RowKit

def entV (e : Pair × Int) : Value := .agg #[.int .i64 e.1.1, .int .i64 e.1.2, .int .i64 e.2]
def RetB (b : Bool) (w : World) (e : Ending) (w' : World) : Prop := e = .returned (.bool b) ∧ Below w.heap.size w w'
/-- a function that tells whether one pair stands ahead of another -/
def Tells (v : Value) (fall : Bool) (w0 : World) : Prop := ∃ f cap, v = .func (.func f) #[] cap ∧ (∀ args w, (callFunc f args).run Try.prog w = .ok (.enter f args) w) ∧ ∀ (w : World) (x y : Pair), Below w0.heap.size w0 w → Calls Try.prog f (#[.agg #[.int .i64 x.1, .int .i64 x.2], .agg #[.int .i64 y.1, .int .i64 y.2]] ++ cap) w (RetB (lessP fall x y) w)
theorem LessAt.tells {w : World} {h c : Nat} {fall : Bool} (a : LessAt w h c fall) : ∃ v, w.heap[c]? = some (.cells #[v] 26 (0, 0)) ∧ Tells v fall w := by
  rcases a.2 with ⟨h1, rfl⟩ | ⟨h1, rfl⟩ | ⟨c2, h0, h1, h2⟩
  · exact ⟨_, h1, _, _, rfl, fun args w => by go_simp, fun w' x y _ => rises_any x y w'⟩
  · exact ⟨_, h1, _, _, rfl, fun args w => by go_simp, fun w' x y _ => falls_any x y w'⟩
  · exact ⟨_, h1, _, _, rfl, fun args w => by go_simp, fun w' x y hb => play1_any fall x y c2 w' (blk_below hb h2 (lt_of_block h2))⟩

set_option maxHeartbeats 400000 in
theorem ahead_any (fall : Bool) (a b : Pair × Int) (h c : Nat) (w : World) (hL : LessAt w h c fall) :
    Calls Try.prog 40 #[entV a, entV b, .pointer (some ⟨c, 0, none⟩)] w (RetB (aheadP fall a b) w) := by
  obtain ⟨v, hv, f, cap, rfl, hcall, hT⟩ := hL.tells
  have hcl := lt_of_block hv
  have hc : w.cell? ⟨c, 0, none⟩ = some (.func (.func f) #[] cap) := by rw [cell_of_row _ _ _ _ _ _ hv]; rfl
  have HT := Lib.hid hT
  clear hT hv hL
  unfold entV
  have b0 : Below w.heap.size w ((w.alloc (.cells #[.int .i64 a.1.1, .int .i64 a.1.2, .int .i64 a.2] 68)).alloc (.cells #[.int .i64 b.1.1, .int .i64 b.1.2, .int .i64 b.2] 68)) := ((Below.refl _ _).alloc (Nat.le_refl _) _).alloc (by simp) _
  have post : aheadP fall a b = (lessP fall a.1 b.1 || (decide (a.2 < b.2) && !lessP fall b.1 a.1)) := rfl
  have POST := Lib.hid post
  clear post
  cases h1 : lessP fall a.1 b.1
  · cases h2 : lessP fall b.1 a.1
    all_goals
      have H1 := Lib.hid h1
      have H2 := Lib.hid h2
      clear h1 h2
      by_cases h3 : a.2 < b.2
      · have h3b : decide (a.2 < b.2) = true := decide_eq_true h3
        go_enter Try.func40, Try.ntmps40
        go_wp2_with fail
        refine (HT.out _ a.1 b.1 b0).mono ?_
        rintro e w1 ⟨rfl, hb1⟩
        have k0 := blk_below hb1 (heap_alloc2_old w _ _) (by simp; omega)
        have k1 := blk_below hb1 (heap_alloc2_new w _ _) (by simp)
        have c00 : w1.cell? ⟨w.heap.size, 0, none⟩ = some (.int .i64 a.1.1) := by rw [cell_of_row _ _ _ _ _ _ k0]; rfl
        have c01 : w1.cell? ⟨w.heap.size, 1, none⟩ = some (.int .i64 a.1.2) := by rw [cell_of_row _ _ _ _ _ _ k0]; rfl
        have c02 : w1.cell? ⟨w.heap.size, 2, none⟩ = some (.int .i64 a.2) := by rw [cell_of_row _ _ _ _ _ _ k0]; rfl
        have c10 : w1.cell? ⟨w.heap.size + 1, 0, none⟩ = some (.int .i64 b.1.1) := by rw [cell_of_row _ _ _ _ _ _ k1]; rfl
        have c11 : w1.cell? ⟨w.heap.size + 1, 1, none⟩ = some (.int .i64 b.1.2) := by rw [cell_of_row _ _ _ _ _ _ k1]; rfl
        have c12 : w1.cell? ⟨w.heap.size + 1, 2, none⟩ = some (.int .i64 b.2) := by rw [cell_of_row _ _ _ _ _ _ k1]; rfl
        have hcw : w1.cell? ⟨c, 0, none⟩ = some (.func (.func f) #[] cap) := ((b0.trans (hb1.mono (by simp; omega))).cell hcl).trans hc
        clear k0 k1
        rw [H1.out]
        go_wp2_with fail
        refine (HT.out _ b.1 a.1 (b0.trans (hb1.mono (by simp; omega)))).mono ?_
        rintro e w2 ⟨rfl, hb2⟩
        rw [H2.out]
        go_wp2_with fail
        go_ret
        refine ⟨?_, b0.trans ((hb1.mono (by simp; omega)).trans (hb2.mono (by have := hb1.size; simp at this; omega)))⟩
        rw [POST.out, H1.out, H2.out, h3b]
        rfl
      · have h3b : decide (a.2 < b.2) = false := decide_eq_false h3
        go_enter Try.func40, Try.ntmps40
        go_wp2_with fail
        refine (HT.out _ a.1 b.1 b0).mono ?_
        rintro e w1 ⟨rfl, hb1⟩
        have k0 := blk_below hb1 (heap_alloc2_old w _ _) (by simp; omega)
        have k1 := blk_below hb1 (heap_alloc2_new w _ _) (by simp)
        have c00 : w1.cell? ⟨w.heap.size, 0, none⟩ = some (.int .i64 a.1.1) := by rw [cell_of_row _ _ _ _ _ _ k0]; rfl
        have c01 : w1.cell? ⟨w.heap.size, 1, none⟩ = some (.int .i64 a.1.2) := by rw [cell_of_row _ _ _ _ _ _ k0]; rfl
        have c02 : w1.cell? ⟨w.heap.size, 2, none⟩ = some (.int .i64 a.2) := by rw [cell_of_row _ _ _ _ _ _ k0]; rfl
        have c10 : w1.cell? ⟨w.heap.size + 1, 0, none⟩ = some (.int .i64 b.1.1) := by rw [cell_of_row _ _ _ _ _ _ k1]; rfl
        have c11 : w1.cell? ⟨w.heap.size + 1, 1, none⟩ = some (.int .i64 b.1.2) := by rw [cell_of_row _ _ _ _ _ _ k1]; rfl
        have c12 : w1.cell? ⟨w.heap.size + 1, 2, none⟩ = some (.int .i64 b.2) := by rw [cell_of_row _ _ _ _ _ _ k1]; rfl
        have hcw : w1.cell? ⟨c, 0, none⟩ = some (.func (.func f) #[] cap) := ((b0.trans (hb1.mono (by simp; omega))).cell hcl).trans hc
        clear k0 k1
        rw [H1.out]
        go_wp2_with fail
        go_ret
        refine ⟨?_, b0.trans (hb1.mono (by simp; omega))⟩
        rw [POST.out, H1.out, H2.out, h3b]
        rfl
  · have H1 := Lib.hid h1
    clear h1
    go_enter Try.func40, Try.ntmps40
    go_wp2_with fail
    refine (HT.out _ a.1 b.1 b0).mono ?_
    rintro e w1 ⟨rfl, hb1⟩
    rw [H1.out]
    go_wp2_with fail
    go_ret
    refine ⟨?_, b0.trans (hb1.mono (by simp; omega))⟩
    rw [POST.out, H1.out]
    rfl
end Go.Proofs.Ytffioombjejchaa
