/- isin, lei (the first bytes of a text as an array), Text of either, Head: by contract. -/
import Derived.Test.YtenpakddifebbaaGreatDoorBuilder
import Derived.Test.YtenpakddifebbaaGreatDoorShelf
namespace Go.Proofs.YtenpakddifebbaaGreatDoor
set_option linter.unusedVariables false
set_option linter.unusedSimpArgs false
open Go.RowKit Go.Shelf

/-- bytes as cells -/
def bytesV (l : List UInt8) : Array Value := (l.map fun c => Value.int .u8 (c.toNat : Nat)).toArray
/-- the first n bytes, then zeros -/
def fixed (n : Nat) (l : List UInt8) : List UInt8 := (List.range n).map fun i => l.getD i 0
theorem fixed_length (n l) : (fixed n l).length = n := by simp [fixed]
theorem arrV_fixed (n l) : arrV n l n = bytesV (fixed n l) := by
  unfold arrV bytesV fixed
  rw [List.map_map]
  congr 1
  apply List.map_congr_left
  intro i hi
  have := List.mem_range.1 hi
  simp [this]
theorem bytesV_size (l) : (bytesV l).size = l.length := by simp [bytesV]
theorem bytesV_get (l : List UInt8) (k : Nat) (h : k < l.length) : (bytesV l)[k]? = some (.int .u8 (l[k].toNat : Nat)) := by
  simp [bytesV, h]
theorem bytesV_one (l) : (bytesV l).all (·.oneCell') = true := by
  rw [Array.all_eq_true_iff_forall_mem]
  intro v hv
  simp [bytesV] at hv
  obtain ⟨c, _, rfl⟩ := hv
  rfl
theorem byteCells_snoc (l : List UInt8) (c : UInt8) : Lib.byteCells l ++ [.int .u8 (c.toNat : Nat)] = Lib.byteCells (l ++ [c]) := by
  simp [Lib.byteCells]
set_option maxHeartbeats 400000 in
theorem isin_any (s : ByteArray) (w : World) (hs : s.size ≤ 140737488351232) :
    Calls Tryz.prog 37 #[.string s] w fun e w' => e = .returned (.agg (bytesV (fixed 12 s.data.toList))) ∧ Below w.heap.size w w' := by
  rw [← arrV_fixed]
  go_enter Tryz.func37, Tryz.ntmps37
  go_wp2
  go_loopw [4] (fun i wr => ∃ k : Nat, k ≤ 12 ∧ k ≤ s.size ∧ i = .int .i64 k ∧ wr.heap[w.heap.size + 1]? = some (.cells (arrV 12 s.data.toList k) 24 (0, 0)) ∧
      wr.heap[w.heap.size]? = some (.cells (arrV 12 s.data.toList 0) 24 (0, 0)) ∧ Below w.heap.size w wr) (fun i _ => 12 - (intOf i).toNat)
  case atStart => exact ⟨0, by omega, by omega, rfl, heap_alloc2_new _ _ _, heap_alloc2_old _ _ _, ((Below.refl _ _).alloc (Nat.le_refl _) _).alloc (by simp) _⟩
  case round =>
    obtain ⟨k, hk, hks, rfl, h1, h0, hB⟩ := hrel
    by_cases hlt : k < 12 ∧ k < s.size
    · have hc : wr.cell? ⟨w.heap.size + 1, k, none⟩ = some (.int .u8 0) := by rw [cell_of_row _ _ _ _ _ _ h1, arrV_get _ _ _ _ hlt.1]; simp
      have hf : wr.frozen? ⟨w.heap.size + 1, k, none⟩ = false := frozen_of_row _ _ _ _ _ h1
      have H1 := Lib.hid h1
      have H0 := Lib.hid h0
      clear h1 h0
      obtain ⟨hlt1, hlt2⟩ := hlt
      go_wp2
      refine ⟨⟨k + 1, by omega, by omega, by go_num, ?_, ?_, hB.setCell (by simp) _⟩, by simp [intOf]; omega⟩
      · rw [heap_setCell_same _ _ _ _ _ _ H1.out]
        rw [arrV_set 12 _ k hlt1 s[k] (byte_at s k hlt2)]
      · rw [heap_setCell_other _ _ _ _ (by simp)]; exact H0.out
    · have hstop : arrV 12 s.data.toList k = arrV 12 s.data.toList 12 := by
        by_cases e : k = 12
        · rw [e]
        · exact arrV_stop _ _ _ (by simp; omega)
      rw [hstop] at h1
      have H1 := Lib.hid h1
      have H0 := Lib.hid h0
      clear h1 h0 hstop
      by_cases h12 : k < 12
      all_goals
        go_wp2_with (first | (refine wpList_load_row rfl 24 _ rfl (w.heap.size + 1) rfl 24 _ _ _ H1.out Tryz.underlying24 rfl (by rw [arrV_size]; kernel_rfl) ?_) | (refine wpList_store_row rfl 24 _ _ rfl w.heap.size _ rfl rfl 24 _ H0.out (by rw [arrV_size]; kernel_rfl) (by simp [arrV_size]) (arrV_one _ _ _) ?_))
        refine bodyPost_ret (results_cell_row rfl _ _ w.heap.size 24 _ (0, 0) _ rfl (setRow_heap _ _ _ _ _ _ H0.out) Tryz.underlying24 rfl (by rw [arrV_size]; kernel_rfl)) rfl ⟨rfl, below_setRow hB (Nat.le_refl _) _⟩

set_option maxHeartbeats 400000 in
theorem textIsin_any (l : List UInt8) (w : World) (hl : l.length = 12) :
    Calls Tryz.prog 7 #[.agg (bytesV l)] w fun e w' => e = .returned (.string ⟨l.toArray⟩) ∧ Below w.heap.size w w' := by
  go_enter Tryz.func7, Tryz.ntmps7
  go_wp2_with (first | (refine wpList_load_row rfl 24 _ rfl w.heap.size rfl 24 (bytesV l) (0, 0) _ (heap_alloc2_old _ _ _) Tryz.underlying24 rfl (by rw [bytesV_size, hl]; kernel_rfl) ?_))
  go_loopw [7] (fun i wr => ∃ k : Nat, k ≤ 12 ∧ i = .int .i64 k ∧ wr.heap[w.heap.size]? = some (.cells (bytesV l) 24 (0, 0)) ∧
      Lib.IsBuilder 56 5 (w.heap.size + 1) (w.heap.size + 1) (Lib.byteCells (l.take k)) wr ∧ Below (w.heap.size + 1) (w.alloc (.cells (bytesV l) 24 (0, 0))) wr) (fun i _ => 12 - (intOf i).toNat)
  case atStart =>
    refine ⟨0, by omega, rfl, heap_alloc2_old _ _ _, ?_, (Below.refl _ _).alloc (by simp) _⟩
    have := Lib.fresh_isBuilder 56 5 (w.alloc (.cells (bytesV l) 24 (0, 0)))
    simpa [Lib.byteCells] using this
  case round =>
    obtain ⟨k, hk, rfl, h0, hb, hB⟩ := hrel
    have hsz : w.heap.size + 1 ≤ wr.heap.size := by have := hB.size; simpa using this
    by_cases hlt : k < 12
    · have hkl : k < l.length := by omega
      have hc : wr.cell? ⟨w.heap.size, k, none⟩ = some (.int .u8 (l[k].toNat : Nat)) := by rw [cell_of_row _ _ _ _ _ _ h0, bytesV_get _ _ hkl]
      have H0 := Lib.hid h0
      clear h0
      have hlen : (Lib.byteCells (l.take k)).length + 1 ≤ 140737488355328 := by simp [Lib.byteCells]; omega
      go_wp2_with (go_at_call 25; refine (writeByte_any (w.heap.size + 1) (w.heap.size + 1) (Lib.byteCells (l.take k)) _ _ hb hlen hsz).mono ?_; rintro e w1 ⟨rfl, hb1, hB1⟩)
      refine ⟨⟨k + 1, by omega, by go_num, blk_below hB1 H0.out (by omega), ?_, hB.trans hB1⟩, by simp [intOf]; omega⟩
      rw [byteCells_snoc, ← List.take_succ_eq_append_getElem hkl] at hb1
      exact .inr hb1
    · obtain rfl : k = 12 := by omega
      rw [List.take_of_length_le (by omega)] at hb
      go_wp2_with (go_at_call 26; refine (Tryz.Builder_String_any (w.heap.size + 1) (w.heap.size + 1) l _ hb hsz).mono ?_; rintro e w1 ⟨rfl, hB1⟩)
      go_ret
      exact ⟨rfl, ((Below.refl _ _).alloc (Nat.le_refl _) _).trans ((hB.trans hB1).mono (by omega))⟩
set_option maxHeartbeats 400000 in
theorem lei_any (s : ByteArray) (w : World) (hs : s.size ≤ 140737488351232) :
    Calls Tryz.prog 40 #[.string s] w fun e w' => e = .returned (.agg (bytesV (fixed 20 s.data.toList))) ∧ Below w.heap.size w w' := by
  rw [← arrV_fixed]
  go_enter Tryz.func40, Tryz.ntmps40
  go_wp2
  go_loopw [4] (fun i wr => ∃ k : Nat, k ≤ 20 ∧ k ≤ s.size ∧ i = .int .i64 k ∧ wr.heap[w.heap.size + 1]? = some (.cells (arrV 20 s.data.toList k) 35 (0, 0)) ∧
      wr.heap[w.heap.size]? = some (.cells (arrV 20 s.data.toList 0) 35 (0, 0)) ∧ Below w.heap.size w wr) (fun i _ => 20 - (intOf i).toNat)
  case atStart => exact ⟨0, by omega, by omega, rfl, heap_alloc2_new _ _ _, heap_alloc2_old _ _ _, ((Below.refl _ _).alloc (Nat.le_refl _) _).alloc (by simp) _⟩
  case round =>
    obtain ⟨k, hk, hks, rfl, h1, h0, hB⟩ := hrel
    by_cases hlt : k < 20 ∧ k < s.size
    · have hc : wr.cell? ⟨w.heap.size + 1, k, none⟩ = some (.int .u8 0) := by rw [cell_of_row _ _ _ _ _ _ h1, arrV_get _ _ _ _ hlt.1]; simp
      have hf : wr.frozen? ⟨w.heap.size + 1, k, none⟩ = false := frozen_of_row _ _ _ _ _ h1
      have H1 := Lib.hid h1
      have H0 := Lib.hid h0
      clear h1 h0
      obtain ⟨hlt1, hlt2⟩ := hlt
      go_wp2
      refine ⟨⟨k + 1, by omega, by omega, by go_num, ?_, ?_, hB.setCell (by simp) _⟩, by simp [intOf]; omega⟩
      · rw [heap_setCell_same _ _ _ _ _ _ H1.out]
        rw [arrV_set 20 _ k hlt1 s[k] (byte_at s k hlt2)]
      · rw [heap_setCell_other _ _ _ _ (by simp)]; exact H0.out
    · have hstop : arrV 20 s.data.toList k = arrV 20 s.data.toList 20 := by
        by_cases e : k = 20
        · rw [e]
        · exact arrV_stop _ _ _ (by simp; omega)
      rw [hstop] at h1
      have H1 := Lib.hid h1
      have H0 := Lib.hid h0
      clear h1 h0 hstop
      by_cases h12 : k < 20
      all_goals
        go_wp2_with (first | (refine wpList_load_row rfl 35 _ rfl (w.heap.size + 1) rfl 35 _ _ _ H1.out Tryz.underlying35 rfl (by rw [arrV_size]; kernel_rfl) ?_) | (refine wpList_store_row rfl 35 _ _ rfl w.heap.size _ rfl rfl 35 _ H0.out (by rw [arrV_size]; kernel_rfl) (by simp [arrV_size]) (arrV_one _ _ _) ?_))
        refine bodyPost_ret (results_cell_row rfl _ _ w.heap.size 35 _ (0, 0) _ rfl (setRow_heap _ _ _ _ _ _ H0.out) Tryz.underlying35 rfl (by rw [arrV_size]; kernel_rfl)) rfl ⟨rfl, below_setRow hB (Nat.le_refl _) _⟩

set_option maxHeartbeats 400000 in
theorem textLei_any (l : List UInt8) (w : World) (hl : l.length = 20) :
    Calls Tryz.prog 13 #[.agg (bytesV l)] w fun e w' => e = .returned (.string ⟨l.toArray⟩) ∧ Below w.heap.size w w' := by
  go_enter Tryz.func13, Tryz.ntmps13
  go_wp2_with (first | (refine wpList_load_row rfl 35 _ rfl w.heap.size rfl 35 (bytesV l) (0, 0) _ (heap_alloc2_old _ _ _) Tryz.underlying35 rfl (by rw [bytesV_size, hl]; kernel_rfl) ?_))
  go_loopw [7] (fun i wr => ∃ k : Nat, k ≤ 20 ∧ i = .int .i64 k ∧ wr.heap[w.heap.size]? = some (.cells (bytesV l) 35 (0, 0)) ∧
      Lib.IsBuilder 56 5 (w.heap.size + 1) (w.heap.size + 1) (Lib.byteCells (l.take k)) wr ∧ Below (w.heap.size + 1) (w.alloc (.cells (bytesV l) 35 (0, 0))) wr) (fun i _ => 20 - (intOf i).toNat)
  case atStart =>
    refine ⟨0, by omega, rfl, heap_alloc2_old _ _ _, ?_, (Below.refl _ _).alloc (by simp) _⟩
    have := Lib.fresh_isBuilder 56 5 (w.alloc (.cells (bytesV l) 35 (0, 0)))
    simpa [Lib.byteCells] using this
  case round =>
    obtain ⟨k, hk, rfl, h0, hb, hB⟩ := hrel
    have hsz : w.heap.size + 1 ≤ wr.heap.size := by have := hB.size; simpa using this
    by_cases hlt : k < 20
    · have hkl : k < l.length := by omega
      have hc : wr.cell? ⟨w.heap.size, k, none⟩ = some (.int .u8 (l[k].toNat : Nat)) := by rw [cell_of_row _ _ _ _ _ _ h0, bytesV_get _ _ hkl]
      have H0 := Lib.hid h0
      clear h0
      have hlen : (Lib.byteCells (l.take k)).length + 1 ≤ 140737488355328 := by simp [Lib.byteCells]; omega
      go_wp2_with (go_at_call 25; refine (writeByte_any (w.heap.size + 1) (w.heap.size + 1) (Lib.byteCells (l.take k)) _ _ hb hlen hsz).mono ?_; rintro e w1 ⟨rfl, hb1, hB1⟩)
      refine ⟨⟨k + 1, by omega, by go_num, blk_below hB1 H0.out (by omega), ?_, hB.trans hB1⟩, by simp [intOf]; omega⟩
      rw [byteCells_snoc, ← List.take_succ_eq_append_getElem hkl] at hb1
      exact .inr hb1
    · obtain rfl : k = 20 := by omega
      rw [List.take_of_length_le (by omega)] at hb
      go_wp2_with (go_at_call 26; refine (Tryz.Builder_String_any (w.heap.size + 1) (w.heap.size + 1) l _ hb hsz).mono ?_; rintro e w1 ⟨rfl, hB1⟩)
      go_ret
      exact ⟨rfl, ((Below.refl _ _).alloc (Nat.le_refl _) _).trans ((hB.trans hB1).mono (by omega))⟩
end Go.Proofs.YtenpakddifebbaaGreatDoor
