/- custodykit's Place and At: by contract. -/
import Derived.Test.YtenpakddifebbaaGreatDoorPlain
import Derived.Deep.RegionHeld3
namespace Go.Proofs.YtenpakddifebbaaGreatDoor
set_option linter.unusedVariables false
set_option linter.unusedSimpArgs false
open Go.RowKit Go.Extern.Stop Go.Stop Go.Extern

set_option maxHeartbeats 1000000 in
theorem place_no (v : Value) (n : Int) (w : World) (h : ErrP v n none) (hT : EType w) :
    Calls Tryz.prog 27 #[v] w fun e w' => e = .returned (.tuple #[.int .i64 0, .int .i64 0, .bool false]) ∧ Below w.heap.size w w' := by
  have HT := Lib.hid hT
  clear hT
  have hblk := heap_alloc_new w (.cells #[.int .i64 0, .int .i64 0, .int .i64 0] 63)
  have HB := Lib.hid hblk
  clear hblk
  cases h with
  | nil =>
    go_enter Tryz.func27, Tryz.ntmps27
    go_wp2
    go_ret3
    exact ⟨rfl, (Below.refl _ _).alloc (Nat.le_refl _) _⟩
  | plain h h2 =>
    obtain ⟨t, x, rfl⟩ := h.held
    go_enter Tryz.func27, Tryz.ntmps27
    go_wp2_with fail
    refine (As_no _ w.heap.size _ _ h2 (HT.out.alloc _) HB.out).mono ?_
    rintro e w2 ⟨rfl, hB2⟩
    go_wp2
    go_ret3
    exact ⟨rfl, ((Below.refl _ _).alloc (Nat.le_refl _) _).trans (hB2.mono (by simp))⟩

theorem place_step {w w2 w3 : World} {x y z : Value} (h : w2.cell? ⟨w.heap.size, 0, none⟩ = some x ∧ w2.cell? ⟨w.heap.size, 1, none⟩ = some y ∧ w2.cell? ⟨w.heap.size, 2, none⟩ = some z ∧ w.heap.size < w2.heap.size ∧ Below w.heap.size w w2)
    (hb : Below w2.heap.size w2 w3) : w3.cell? ⟨w.heap.size, 0, none⟩ = some x ∧ w3.cell? ⟨w.heap.size, 1, none⟩ = some y ∧ w3.cell? ⟨w.heap.size, 2, none⟩ = some z ∧ w.heap.size < w3.heap.size ∧ Below w.heap.size w w3 := by
  obtain ⟨h0, h1, h2, h3, h4⟩ := h
  refine ⟨?_, ?_, ?_, Nat.lt_of_lt_of_le h3 hb.size, h4.trans (hb.mono (Nat.le_of_lt h3))⟩
  · rw [hb.cell (p := ⟨w.heap.size, 0, none⟩) h3]; exact h0
  · rw [hb.cell (p := ⟨w.heap.size, 1, none⟩) h3]; exact h1
  · rw [hb.cell (p := ⟨w.heap.size, 2, none⟩) h3]; exact h2
set_option maxHeartbeats 2000000 in
theorem place_yes (n l a : Int) (w : World) (lo : 1 ≤ n) (hi : n ≤ 24) (hT : EType w) :
    Calls Tryz.prog 27 #[.iface 63 (.agg #[.int .i64 n, .int .i64 l, .int .i64 a])] w fun e w' => e = .returned (.tuple #[.int .i64 l, .int .i64 a, .bool true]) ∧ Below w.heap.size w w' := by
  have HT := Lib.hid hT
  clear hT
  have hblk := heap_alloc_new w (.cells #[.int .i64 0, .int .i64 0, .int .i64 0] 63)
  have HB := Lib.hid hblk
  clear hblk
  go_enter Tryz.func27, Tryz.ntmps27
  go_wp2_with fail
  refine (As_yes n l a w.heap.size _ _ (HT.out.alloc _) HB.out rfl).mono ?_
  rintro e w2 ⟨rfl, hblk, hB2, hsz⟩
  have hlt := lt_of_block hblk
  have c0 : w2.cell? ⟨w.heap.size, 0, none⟩ = some (.int .i64 n) := by rw [cell_of_row _ _ _ _ _ _ hblk]; rfl
  have c1 : w2.cell? ⟨w.heap.size, 1, none⟩ = some (.int .i64 l) := by rw [cell_of_row _ _ _ _ _ _ hblk]; rfl
  have c2 : w2.cell? ⟨w.heap.size, 2, none⟩ = some (.int .i64 a) := by rw [cell_of_row _ _ _ _ _ _ hblk]; rfl
  have hBw : Below w.heap.size w w2 := ((Below.refl _ _).alloc (Nat.le_refl _) _).trans hB2
  clear hblk HB hB2 hsz
  go_wp2_with fail
  go_region_held3 (fun w' => w'.cell? ⟨w.heap.size, 0, none⟩ = some (.int .i64 n) ∧ w'.cell? ⟨w.heap.size, 1, none⟩ = some (.int .i64 l) ∧ w'.cell? ⟨w.heap.size, 2, none⟩ = some (.int .i64 a) ∧ w.heap.size < w'.heap.size ∧ Below w.heap.size w w')
    (first | exact ⟨c0, c1, c2, hlt, hBw⟩ | exact ⟨c0, c1, c2, hlt, hBw.drew⟩ | (refine place_step (w2 := w2.drew) ?_ hB3; exact ⟨c0, c1, c2, hlt, hBw.drew⟩))
    (first | (go_at_call 28; refine (num_any _ n _ (errIs_faultN lo hi)).mono ?_; rintro e w3 ⟨rfl, hB3⟩))
  go_wp2
  go_ret3
  exact ⟨by simp, (hBw.drew).trans (hB3.mono (Nat.le_of_lt hlt))⟩

/-- At(e, m, line, at), m not 0 -/
theorem at_zero (v : Value) (n l a : Int) (pl : Option (Int × Int)) (b : Bool) (w : World) (h : ErrP v n pl) (hb : (n == 0) = b) :
    Calls Tryz.prog 9 #[v, .int .i64 0, .int .i64 l, .int .i64 a] w fun e w' => e = .returned (.bool b) ∧ w = w' := by
  cases h with
  | nil =>
    subst hb
    go_enter Tryz.func9, Tryz.ntmps9
    go_wp2
    go_ret
    exact ⟨rfl, rfl⟩
  | plain h h2 =>
    obtain ⟨t, x, rfl⟩ := h.held
    have := h.lo
    obtain rfl : b = false := by rw [← hb]; simp; omega
    clear hb
    go_enter Tryz.func9, Tryz.ntmps9
    go_wp2
    go_ret
    exact ⟨rfl, rfl⟩
  | fault lo hi =>
    obtain rfl : b = false := by rw [← hb]; simp; omega
    clear hb
    go_enter Tryz.func9, Tryz.ntmps9
    go_wp2
    go_ret
    exact ⟨rfl, rfl⟩
set_option maxHeartbeats 1000000 in
theorem at_no (v : Value) (n m l a : Int) (w : World) (h : ErrP v n none) (hm : 1 ≤ m) (hT : EType w) :
    Calls Tryz.prog 9 #[v, .int .i64 m, .int .i64 l, .int .i64 a] w fun e w' => e = .returned (.bool false) ∧ Below w.heap.size w w' := by
  have hm0 : (m == 0) = false := by simp; omega
  have H := Lib.hid hm0
  have hnum : ∀ w, Calls Tryz.prog 28 #[v] w fun e w' => e = .returned (.int .i64 n) ∧ Below w.heap.size w w' := by
    intro w
    cases h with
    | nil => exact (num_nil w).mono (fun e w' ⟨h, hw⟩ => ⟨h, hw ▸ Below.refl _ _⟩)
    | plain h h2 => exact num_any _ n w h
  have HN := Lib.hid hnum
  clear hnum
  cases hnm : (n == m)
  all_goals
    go_enter Tryz.func9, Tryz.ntmps9
    go_wp2_with fail
    refine (place_no v n _ h hT).mono ?_
    rintro e w1 ⟨rfl, hB1⟩
    go_wp2_with fail
    refine (HN.out _).mono ?_
    rintro e w2 ⟨rfl, hB2⟩
    go_wp2
    go_ret
    exact ⟨rfl, hB1.trans (hB2.mono hB1.size)⟩
set_option maxHeartbeats 1000000 in
theorem at_yes (n m l a l2 a2 : Int) (b : Bool) (w : World) (lo : 1 ≤ n) (hi : n ≤ 24) (hm : 1 ≤ m) (hT : EType w) (hb : (n == m && (l == l2 && a == a2)) = b) :
    Calls Tryz.prog 9 #[.iface 63 (.agg #[.int .i64 n, .int .i64 l, .int .i64 a]), .int .i64 m, .int .i64 l2, .int .i64 a2] w fun e w' => e = .returned (.bool b) ∧ Below w.heap.size w w' := by
  have hm0 : (m == 0) = false := by simp; omega
  cases h1 : (n == m) <;> cases h2 : (l == l2) <;> cases h3 : (a == a2)
  all_goals
    rw [h1, h2, h3] at hb
    subst hb
    go_enter Tryz.func9, Tryz.ntmps9
    go_wp2_with fail
    refine (place_yes n l a _ lo hi hT).mono ?_
    rintro e w1 ⟨rfl, hB1⟩
    go_wp2_with fail
    refine (num_any _ n _ (errIs_faultN lo hi)).mono ?_
    rintro e w2 ⟨rfl, hB2⟩
    go_wp2
    go_ret
    exact ⟨rfl, hB1.trans (hB2.mono hB1.size)⟩
end Go.Proofs.YtenpakddifebbaaGreatDoor
