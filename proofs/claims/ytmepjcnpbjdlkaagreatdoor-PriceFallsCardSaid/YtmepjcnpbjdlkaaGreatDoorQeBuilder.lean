/- texts of this claim, laid together: Builder, Text, CodesIsin, Own, RefCodes, Cur. -/
import Derived.Test.YtmepjcnpbjdlkaaGreatDoorQeBase
import Derived.Test.YtmepjcnpbjdlkaaGreatDoorQeErr
import Derived.Test.YtmepjcnpbjdlkaaGreatDoorQeShelf
import Derived.Test.YtmepjcnpbjdlkaaGreatDoorQeCodesEach
import Derived.Lib.Builder
import Derived.Shelf.Strings.Builder1
import Derived.Deep.MidRow
import Derived.Deep.QuietTactic
import Derived.BigQuiet
/- A strings.Builder of the call's own: WriteByte and String by contract. -/
namespace Go.Proofs.YtmepjcnpbjdlkaaGreatDoor
set_option linter.unusedVariables false
set_option linter.unusedSimpArgs false
open Go.RowKit Go.Shelf

end Go.Proofs.YtmepjcnpbjdlkaaGreatDoor
/- isin, lei (the first bytes of a text as an array), Text of either, Head: by contract. -/
namespace Go.Proofs.YtmepjcnpbjdlkaaGreatDoor
set_option linter.unusedVariables false
set_option linter.unusedSimpArgs false
open Go.RowKit Go.Shelf

/-- bytes as cells -/
def bytesV (l : List UInt8) : Array Value := (l.map fun c => Value.int .u8 (c.toNat : Nat)).toArray
theorem bytesV_size (l) : (bytesV l).size = l.length := by simp [bytesV]
theorem bytesV_one (l) : (bytesV l).all (·.oneCell') = true := by
  rw [Array.all_eq_true_iff_forall_mem]
  intro v hv
  simp [bytesV] at hv
  obtain ⟨c, _, rfl⟩ := hv
  rfl
end Go.Proofs.YtmepjcnpbjdlkaaGreatDoor
/- codes.luhn, digits, Isin, IsinDigit: by contract. -/
namespace Go.Proofs.YtmepjcnpbjdlkaaGreatDoor
set_option linter.unusedVariables false
set_option linter.unusedSimpArgs false
open Go.RowKit

theorem sign_of_isB {c : UInt8} {f : Int} (h : isB c.toNat f = true) : isSign c = true := by
  simp [isB] at h
  simp [isSign]
  omega
theorem firstBad_none (s f : List UInt8) : ∀ i, s.length = f.length → firstBad s f i = none → ∀ j (h : j < s.length), isB (s.getD j 0).toNat (f.getD j 0).toNat = true := by
  induction s generalizing f with
  | nil => intro i _ _ j h; simp at h
  | cons c s ih =>
    intro i hl h j hj
    cases f with
    | nil => simp at hl
    | cons g f =>
      simp only [firstBad] at h
      cases hb : isB c.toNat g.toNat
      · simp [hb] at h
      · simp only [hb, if_true] at h
        cases j with
        | zero => simpa using hb
        | succ j => simpa using ih f _ (by simpa using hl) h j (by simpa using hj)
theorem hasR_fits {s f : List UInt8} (h : (hasR s f).1 = 0) : s.length = f.length ∧ ∀ j, j < s.length → isB (s.getD j 0).toNat (f.getD j 0).toNat = true := by
  unfold hasR at h
  split at h
  · cases h
  · split at h
    · cases h
    · have hl : s.length = f.length := by omega
      split at h
      · cases h
      · rename_i h1
        exact ⟨hl, fun j hj => firstBad_none s f 0 hl h1 j hj⟩
theorem hasR_signs {s f : List UInt8} (h : (hasR s f).1 = 0) : ∀ c ∈ s, isSign c = true := by
  obtain ⟨hl, hf⟩ := hasR_fits h
  intro c hc
  obtain ⟨j, hj, rfl⟩ := List.mem_iff_getElem.1 hc
  have := hf j hj
  rw [List.getD_eq_getElem?_getD, List.getElem?_eq_getElem hj] at this
  exact sign_of_isB this
theorem hasR_zero {s f : List UInt8} (h : (hasR s f).1 = 0) : hasR s f = (0, none) := by
  unfold hasR at *
  split at h
  · cases h
  · split at h
    · cases h
    · split at h
      · cases h
      · rename_i h1 h2 _ h3; rw [if_neg h1, if_neg h2]

set_option maxHeartbeats 400000 in
theorem luhn_any (s : ByteArray) (w : World) (hs : s.size ≤ 140737488351232) (hsig : ∀ c ∈ s.data.toList, isSign c = true) :
    Calls Tryz.prog 137 #[.string s] w fun e w' => e = .returned (.int .i64 (luhnOf (spread s.data.toList)).1) ∧ Below w.heap.size w w' := by
  have h0 : LuhnAt w.heap.size (w.heap.size + 1) [] ((w.alloc (.cells #[.int .i64 0] 3)).alloc (.cells #[.int .i64 0] 3)) := ⟨heap_alloc2_old _ _ _, heap_alloc2_new _ _ _⟩
  have HS := Lib.hid hsig
  clear hsig
  go_enter Tryz.func137, Tryz.ntmps137
  go_wp2_with fail
  refine (each_luhn s w.heap.size (w.heap.size + 1) w.heap.size _ (by omega) (Nat.le_refl _) (by omega) hs HS.out h0).mono ?_
  rintro e w1 ⟨rfl, ⟨h1, h2⟩, hB⟩
  have hc := cell_of_one h1
  clear h0 h1 h2
  go_wp2
  go_ret
  exact ⟨rfl, (((Below.refl _ _).alloc (Nat.le_refl _) _).alloc (by simp) _).trans hB⟩

def formIsin : List UInt8 := [67, 67, 83, 83, 83, 83, 83, 83, 83, 83, 83, 68]
def isinR (l : List UInt8) : Int × Option (Int × Int) := if (hasR l formIsin).1 = 0 then (if (luhnOf (spread l)).1 = 0 then (0, none) else (7, none)) else hasR l formIsin
def zeros (n : Nat) : List UInt8 := List.replicate n 0
theorem has_form (s : ByteArray) (f : List UInt8) (w : World) (hs : s.size ≤ 140737488400000) (hf : f.length ≤ 1000) (ha : ∀ c ∈ f, c.toNat < 128) (hok : Ok w) :
    Calls Tryz.prog 136 #[.string s, .string ⟨f.toArray⟩] w (RetErr (hasR s.data.toList f) w) := by
  have := has_any s ⟨f.toArray⟩ w hs (by show f.toArray.size ≤ 1000; simpa using hf) (fun k h => ha _ (by
    show f.toArray[k] ∈ f
    simp)) hok
  simpa using this

theorem ErrP.zero {v : Value} {n : Int} {pl : Option (Int × Int)} (h : ErrP v n pl) (h0 : n = 0) : v = .nilIface ∧ pl = none := by
  cases h with
  | nil => exact ⟨rfl, rfl⟩
  | plain h h2 => have := h.lo; omega
  | fault lo hi => omega
theorem ErrP.held {v : Value} {n : Int} {pl : Option (Int × Int)} (h : ErrP v n pl) (h0 : n ≠ 0) : ∃ t x, v = .iface t x := by
  cases h with
  | nil => exact absurd rfl h0
  | plain h h2 => exact h.held
  | fault lo hi => exact ⟨_, _, rfl⟩
/-- a call hands back an array of bytes and an error -/
def RetArr (l : List UInt8) (r : Int × Option (Int × Int)) (w : World) (e : Ending) (w' : World) : Prop := ∃ v, e = .returned (.tuple #[.agg (bytesV l), v]) ∧ ErrP v r.1 r.2 ∧ Below w.heap.size w w'
theorem RetArr.mk' {l : List UInt8} {cs : Array Value} {v : Value} {r : Int × Option (Int × Int)} {w w' : World} (hcs : cs = bytesV l) (hE : ErrP v r.1 r.2) (hB : Below w.heap.size w w') :
    RetArr l r w (.returned (.tuple #[.agg cs, v])) w' := ⟨v, by rw [hcs], hE, hB⟩
set_option maxRecDepth 100000 in
set_option maxHeartbeats 1000000 in
theorem isinf_any (s : ByteArray) (w : World) (hs : s.size ≤ 140737488400000) (hok : Ok w) :
    Calls Tryz.prog 111 #[.string s] w (RetArr (if (isinR s.data.toList).1 = 0 then s.data.toList else zeros 12) (isinR s.data.toList) w) := by
  have HOK := Lib.hid hok
  clear hok
  have hb0 := heap_alloc_new w (.cells #[.int .u8 0, .int .u8 0, .int .u8 0, .int .u8 0, .int .u8 0, .int .u8 0, .int .u8 0, .int .u8 0, .int .u8 0, .int .u8 0, .int .u8 0, .int .u8 0] 23)
  have HB0 := Lib.hid hb0
  clear hb0
  by_cases h1 : (hasR s.data.toList formIsin).1 = 0
  · have hsig := hasR_signs h1
    have hlen := (hasR_fits h1).1
    have hz := hasR_zero h1
    have HZ := Lib.hid hz
    have HL := Lib.hid hlen
    have H1 := Lib.hid h1
    clear hz hlen h1
    by_cases h2 : (luhnOf (spread s.data.toList)).1 = 0
    · have e : isinR s.data.toList = (0, none) := by unfold isinR; rw [if_pos H1.out, if_pos h2]
      rw [e, if_pos rfl]
      clear e
      have h2b : ((luhnOf (spread s.data.toList)).1 != 0) = false := by simp [h2]
      have H2 := Lib.hid h2
      clear h2
      go_enter Tryz.func111, Tryz.ntmps111
      go_wp2_with fail
      refine (has_form s formIsin _ hs (by decide) (by decide) (HOK.out.below ((Below.refl _ _).alloc (Nat.le_refl _) _))).mono ?_
      rintro e w1 ⟨v, rfl, hE, hB⟩
      rw [HZ.out] at hE
      obtain ⟨rfl, _⟩ := hE.zero rfl
      go_wp2_with fail
      refine (luhn_any s _ (by have := HL.out; simp [formIsin] at this; omega) hsig).mono ?_
      rintro e w2 ⟨rfl, hB2⟩
      have hcv := run_bytes_of_string (P := Tryz.prog) w2 9 132 5 s Tryz.underlying9 Tryz.underlying132 Tryz.underlying5
      have hge := grownCap_ge w2 s.size 0 5
      have h12 : s.size = 12 := by have := HL.out; simpa [formIsin] using this
      have hrow : ∀ (j : Nat) (v : Value), (bytesV s.data.toList).toList[j]? = some v → (bytesRow s (grownCap w2 s.size 0 5))[j]? = some v := by
        intro j v hv
        simp only [bytesV, List.getElem?_map, Option.map_eq_some_iff] at hv
        obtain ⟨c, hc, rfl⟩ := hv
        have hj : j < s.data.toList.length := (List.getElem?_eq_some_iff.1 hc).1
        have hj' : j < s.data.size := by simpa using hj
        rw [bytesRow_at s _ j hj']
        rw [List.getElem?_eq_getElem hj] at hc
        simp at hc
        rw [← hc]
      generalize bytesRow s (grownCap w2 s.size 0 5) = R at *
      generalize grownCap w2 s.size 0 5 = C at *
      have hC : 12 ≤ C := by omega
      have HR := Lib.hid hrow
      have H12 := Lib.hid h12
      clear hrow h12 hge
      have hat : ∀ (w' : World), (Instr.arrayAt 23 (.slice (some ⟨w2.heap.size, 0, none⟩) 12 C)).run Tryz.prog w' = .ok (.pointer (some ⟨w2.heap.size, 0, none⟩)) w' := fun w' => by
        simp [Instr.arrayAt, run_underlying Tryz.underlying23]
      have hra : ∀ (fr : Nat × Nat), ((w2.alloc (.cells R 5 fr)).drew).rangeAt w2.heap.size 0 (bytesV s.data.toList).toList := by
        intro fr j v hv
        have := HR.out j v hv
        show (w2.alloc (.cells R 5 fr)).cell? ⟨w2.heap.size, 0 + j, none⟩ = some v
        rw [Nat.zero_add]
        exact (World.cell?_alloc_mark w2 R 5 fr j).trans this
      have HRA := Lib.hid hra
      clear hra
      have hb2 : ∀ (o : Obj), ((w2.alloc o).drew).heap[w.heap.size]? = some (.cells #[.int .u8 0, .int .u8 0, .int .u8 0, .int .u8 0, .int .u8 0, .int .u8 0, .int .u8 0, .int .u8 0, .int .u8 0, .int .u8 0, .int .u8 0, .int .u8 0] 23 (0, 0)) := by
        intro o
        have h1 := blk_below hB HB0.out (by simp)
        have h2 := blk_below hB2 h1 (lt_of_block h1)
        exact (heap_alloc_old w2 o (lt_of_block h2)).trans h2
      have HB2 := Lib.hid hb2
      have hsz : (bytesV s.data.toList).toList.length = 12 := by simp [bytesV]; exact H12.out
      have HSZ := Lib.hid hsz
      clear hb2 hsz
      go_wp2_with (first | (refine wpList_load_mid rfl 23 _ rfl w2.heap.size 0 rfl (bytesV s.data.toList).toList _ (HRA.out _) Tryz.underlying23 rfl (by rw [HSZ.out]; kernel_rfl) ?_) | (refine wpList_store_row rfl 23 _ _ rfl w.heap.size (bytesV s.data.toList) rfl rfl 23 _ (HB2.out _) (by rw [bytesV_size, len_str, H12.out]; kernel_rfl) (by rw [bytesV_size, len_str, H12.out]; rfl) (bytesV_one _) ?_))
      exact bodyPost_ret (v := .tuple #[.agg _, .nilIface]) (results_cell_row_tmp (fn := Tryz.f111) (p := 2) (u := 3) rfl _ _ w.heap.size 23 _ (0, 0) _ rfl (setRow_heap _ _ _ _ _ _ (HB2.out _)) Tryz.underlying23 rfl (by rw [bytesV_size, len_str, H12.out]; kernel_rfl)) rfl (RetArr.mk' (by rfl) .nil (below_setRow ((((Below.refl _ _).alloc (Nat.le_refl _) _).trans ((hB.trans (hB2.mono hB.size)).mono (by simp))).trans (((Below.refl _ _).alloc (Nat.le_trans (by simp) (Nat.le_trans hB.size hB2.size)) _).drew)) (Nat.le_refl _) _))
    · have e : isinR s.data.toList = (7, none) := by unfold isinR; rw [if_pos H1.out, if_neg h2]
      rw [e, if_neg (by decide)]
      clear e
      have h2b : ((luhnOf (spread s.data.toList)).1 != 0) = true := by simpa using h2
      clear h2
      go_enter Tryz.func111, Tryz.ntmps111
      go_wp2_with fail
      refine (has_form s formIsin _ hs (by decide) (by decide) (HOK.out.below ((Below.refl _ _).alloc (Nat.le_refl _) _))).mono ?_
      rintro e w1 ⟨v, rfl, hE, hB⟩
      rw [HZ.out] at hE
      obtain ⟨rfl, _⟩ := hE.zero rfl
      go_wp2_with fail
      refine (luhn_any s _ (by have := HL.out; simp [formIsin] at this; omega) hsig).mono ?_
      rintro e w2 ⟨rfl, hB2⟩
      have hb1 := blk_below hB HB0.out (by simp)
      have hb2 := blk_below hB2 hb1 (lt_of_block hb1)
      clear hb1
      go_wp2_with (refine wpList_store_row rfl 23 _ _ rfl w.heap.size _ rfl rfl 23 _ hb2 (by kernel_rfl) rfl (by simp [Value.oneCell']) ?_)
      exact bodyPost_ret (v := .tuple #[.agg _, _]) (results_cell_row_tmp (fn := Tryz.f111) (p := 2) (u := 3) rfl _ _ w.heap.size 23 _ (0, 0) _ rfl (setRow_heap _ _ _ _ _ _ hb2) Tryz.underlying23 rfl (by kernel_rfl)) rfl (RetArr.mk' (by rfl) (.plain (errIs_Ref _ _ 7 rfl (by omega) (by omega)) (noPlace_Ref _ _)) (below_setRow (((Below.refl _ _).alloc (Nat.le_refl _) _).trans ((hB.trans (hB2.mono hB.size)).mono (by simp))) (Nat.le_refl _) _))
  · have e : isinR s.data.toList = hasR s.data.toList formIsin := by unfold isinR; rw [if_neg h1]
    rw [e, if_neg h1]
    clear e
    go_enter Tryz.func111, Tryz.ntmps111
    go_wp2_with fail
    refine (has_form s formIsin _ hs (by decide) (by decide) (HOK.out.below ((Below.refl _ _).alloc (Nat.le_refl _) _))).mono ?_
    rintro e w1 ⟨v, rfl, hE, hB⟩
    obtain ⟨t, x, rfl⟩ := hE.held h1
    have hb1 := blk_below hB HB0.out (by simp)
    go_wp2_with (refine wpList_store_row rfl 23 _ _ rfl w.heap.size _ rfl rfl 23 _ hb1 (by kernel_rfl) rfl (by simp [Value.oneCell']) ?_)
    exact bodyPost_ret (v := .tuple #[.agg _, .iface t x]) (results_cell_row_tmp (fn := Tryz.f111) (p := 2) (u := 3) rfl _ _ w.heap.size 23 _ (0, 0) _ rfl (setRow_heap _ _ _ _ _ _ hb1) Tryz.underlying23 rfl (by kernel_rfl)) rfl (RetArr.mk' (by rfl) hE (below_setRow (((Below.refl _ _).alloc (Nat.le_refl _) _).trans (hB.mono (by simp))) (Nat.le_refl _) _))

end Go.Proofs.YtmepjcnpbjdlkaaGreatDoor
/- An append of new elements onto a slice of the call's own, as one step. -/
namespace Go.Proofs.YtmepjcnpbjdlkaaGreatDoor
set_option linter.unusedVariables false
set_option linter.unusedSimpArgs false
open Go.RowKit

end Go.Proofs.YtmepjcnpbjdlkaaGreatDoor
/- the document's answer on codes (custodyref02), function by function: by contract. -/
namespace Go.Proofs.YtmepjcnpbjdlkaaGreatDoor
set_option linter.unusedVariables false
set_option linter.unusedSimpArgs false
open Go.RowKit

end Go.Proofs.YtmepjcnpbjdlkaaGreatDoor
/- codes.Currency and the document's: by contract. -/
namespace Go.Proofs.YtmepjcnpbjdlkaaGreatDoor
set_option linter.unusedVariables false
set_option linter.unusedSimpArgs false
open Go.RowKit

theorem setCell_row {w : World} {g : Nat} {cs : Array Value} {t : TypeId} {fr : Nat × Nat} (h : w.heap[g]? = some (.cells cs t fr)) (k : Nat) (v : Value) : (w.setCell ⟨g, k, none⟩ v).heap[g]? = some (.cells (cs.setIfInBounds k v) t fr) := by
  have hlt := lt_of_block h
  have hv : w.heap[g] = .cells cs t fr := (Array.getElem?_eq_some_iff.1 h).2
  unfold World.setCell
  rw [Array.getElem?_eq_getElem (by simpa using hlt)]
  simp [Array.getElem_modify, hv]
def formCur : List UInt8 := [67, 67, 67]
theorem currency_any (s : ByteArray) (w : World) (hs : s.size ≤ 140737488351232) (hok : Ok w) :
    Calls Tryz.prog 112 #[.string s] w (RetErr (hasR s.data.toList formCur) w) := by
  have h := fun w => has_form s formCur w (by omega) (by decide) (by decide)
  generalize hasR s.data.toList formCur = r at h ⊢
  go_enter Tryz.func112, Tryz.ntmps112
  go_wp2_with fail
  refine (h _ hok).mono ?_
  rintro e w1 ⟨v, rfl, hE, hB⟩
  go_wp2_with fail
  go_ret
  exact ⟨v, rfl, hE, hB⟩
end Go.Proofs.YtmepjcnpbjdlkaaGreatDoor
