/- prio: Remove of a heap of nothing; the closures; works. -/
import Derived.Test.YtffioombjejchaaPrioL
namespace Go.Proofs.Ytffioombjejchaa
set_option linter.unusedVariables false
set_option linter.unusedSimpArgs false
open Go.RowKit

set_option maxRecDepth 100000 in
set_option maxHeartbeats 2000000 in
theorem remove_none (h c : Nat) (fall : Bool) (isv : Value) (came : Int) (r : Option Nat) (w : World) (hA : HeapAt w h c fall [] came r) :
    Calls Try.prog 18 #[.pointer (some ⟨h, 0, none⟩), isv] w fun e w' => e = .returned (.tuple #[.agg #[.int .i64 0, .int .i64 0], .bool false]) ∧ Below w.heap.size w w' := by
  obtain ⟨sl, hr, hL, hH⟩ := hA
  have c1 : w.cell? ⟨h, 1, none⟩ = some sl := by rw [cell_of_row _ _ _ _ _ _ hL.2.1]; rfl
  have hhl := hL.hlt
  have hl0 : ((([] : List (Pair × Int)).length : Nat)) = 0 := rfl
  have hb1 : Below w.heap.size w (w.alloc (.cells #[.int .i64 0, .int .i64 0] 25)) := (Below.refl _ _).alloc (Nat.le_refl _) _
  have hb2 := heap_alloc_new w (.cells #[.int .i64 0, .int .i64 0] 25)
  have HB1 := Lib.hid hb1
  have HB2 := Lib.hid hb2
  clear hb1 hb2 hH
  rcases hL.len_val with ⟨_, rfl⟩ | ⟨g, cap, rfl⟩
  all_goals
    go_enter Try.func18, Try.ntmps18
    go_wp2_with fail
    refine wp_loop_rounds 1 ?_
    rw [rounds_succ]
    go_wp2_with (first
      | (refine wpList_store_any rfl 25 _ _ rfl w.heap.size _ rfl rfl 25 _ ((heap_alloc_old _ _ (lt_of_block HB2.out)).trans HB2.out) (by kernel_rfl) rfl (by simp [Value.oneCell']) ?_; intro w8 hr8 hs8 hbl8 hot8))
    have hbl := hbl8 w.heap.size w ((HB1.out).alloc HB1.out.size _) (Nat.le_refl _)
    exact bodyPost_ret (v := .tuple #[.agg #[.int .i64 0, .int .i64 0], .bool false]) (results_cell_row_tmp (fn := Try.f18) (p := 4) (u := 5) rfl _ _ w.heap.size 25 _ (0, 0) _ rfl hr8 Try.underlying25 rfl (by kernel_rfl)) rfl ⟨rfl, hbl⟩
end Go.Proofs.Ytffioombjejchaa
