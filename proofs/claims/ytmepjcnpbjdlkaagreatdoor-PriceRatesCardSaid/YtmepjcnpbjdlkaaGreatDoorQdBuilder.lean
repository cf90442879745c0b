/- texts of this claim, laid together: Builder, Text, CodesIsin, Own, RefCodes, Cur. -/
import Derived.Test.YtmepjcnpbjdlkaaGreatDoorQdBase
import Derived.Test.YtmepjcnpbjdlkaaGreatDoorQdErr
import Derived.Test.YtmepjcnpbjdlkaaGreatDoorQdShelf
import Derived.Test.YtmepjcnpbjdlkaaGreatDoorQdCodesEach
import Derived.Lib.Builder
import Derived.Shelf.Strings.Builder1
import Derived.Deep.MidRow
import Derived.Deep.QuietTactic
import Derived.BigQuiet
/- A strings.Builder of the call's own: WriteByte and String by contract. -/
namespace Go.Proofs.YtmepjcnpbjdlkaaGreatDoor
set_option linter.unusedVariables false
set_option linter.unusedSimpArgs false
open Go.RowKit Go.Shelf

end Go.Proofs.YtmepjcnpbjdlkaaGreatDoor
/- isin, lei (the first bytes of a text as an array), Text of either, Head: by contract. -/
namespace Go.Proofs.YtmepjcnpbjdlkaaGreatDoor
set_option linter.unusedVariables false
set_option linter.unusedSimpArgs false
open Go.RowKit Go.Shelf

/-- bytes as cells -/
def bytesV (l : List UInt8) : Array Value := (l.map fun c => Value.int .u8 (c.toNat : Nat)).toArray
theorem bytesV_size (l) : (bytesV l).size = l.length := by simp [bytesV]
theorem bytesV_one (l) : (bytesV l).all (·.oneCell') = true := by
  rw [Array.all_eq_true_iff_forall_mem]
  intro v hv
  simp [bytesV] at hv
  obtain ⟨c, _, rfl⟩ := hv
  rfl
end Go.Proofs.YtmepjcnpbjdlkaaGreatDoor
/- codes.luhn, digits, Isin, IsinDigit: by contract. -/
namespace Go.Proofs.YtmepjcnpbjdlkaaGreatDoor
set_option linter.unusedVariables false
set_option linter.unusedSimpArgs false
open Go.RowKit

theorem sign_of_isB {c : UInt8} {f : Int} (h : isB c.toNat f = true) : isSign c = true := by
  simp [isB] at h
  simp [isSign]
  omega
theorem firstBad_none (s f : List UInt8) : ∀ i, s.length = f.length → firstBad s f i = none → ∀ j (h : j < s.length), isB (s.getD j 0).toNat (f.getD j 0).toNat = true := by
  induction s generalizing f with
  | nil => intro i _ _ j h; simp at h
  | cons c s ih =>
    intro i hl h j hj
    cases f with
    | nil => simp at hl
    | cons g f =>
      simp only [firstBad] at h
      cases hb : isB c.toNat g.toNat
      · simp [hb] at h
      · simp only [hb, if_true] at h
        cases j with
        | zero => simpa using hb
        | succ j => simpa using ih f _ (by simpa using hl) h j (by simpa using hj)
theorem hasR_fits {s f : List UInt8} (h : (hasR s f).1 = 0) : s.length = f.length ∧ ∀ j, j < s.length → isB (s.getD j 0).toNat (f.getD j 0).toNat = true := by
  unfold hasR at h
  split at h
  · cases h
  · split at h
    · cases h
    · have hl : s.length = f.length := by omega
      split at h
      · cases h
      · rename_i h1
        exact ⟨hl, fun j hj => firstBad_none s f 0 hl h1 j hj⟩
theorem hasR_signs {s f : List UInt8} (h : (hasR s f).1 = 0) : ∀ c ∈ s, isSign c = true := by
  obtain ⟨hl, hf⟩ := hasR_fits h
  intro c hc
  obtain ⟨j, hj, rfl⟩ := List.mem_iff_getElem.1 hc
  have := hf j hj
  rw [List.getD_eq_getElem?_getD, List.getElem?_eq_getElem hj] at this
  exact sign_of_isB this
theorem hasR_zero {s f : List UInt8} (h : (hasR s f).1 = 0) : hasR s f = (0, none) := by
  unfold hasR at *
  split at h
  · cases h
  · split at h
    · cases h
    · split at h
      · cases h
      · rename_i h1 h2 _ h3; rw [if_neg h1, if_neg h2]

set_option maxHeartbeats 400000 in
theorem luhn_any (s : ByteArray) (w : World) (hs : s.size ≤ 140737488351232) (hsig : ∀ c ∈ s.data.toList, isSign c = true) :
    Calls Tryz.prog 137 #[.string s] w fun e w' => e = .returned (.int .i64 (luhnOf (spread s.data.toList)).1) ∧ Below w.heap.size w w' := by
  have h0 : LuhnAt w.heap.size (w.heap.size + 1) [] ((w.alloc (.cells #[.int .i64 0] 3)).alloc (.cells #[.int .i64 0] 3)) := ⟨heap_alloc2_old _ _ _, heap_alloc2_new _ _ _⟩
  have HS := Lib.hid hsig
  clear hsig
  go_enter Tryz.func137, Tryz.ntmps137
  go_wp2_with fail
  refine (each_luhn s w.heap.size (w.heap.size + 1) w.heap.size _ (by omega) (Nat.le_refl _) (by omega) hs HS.out h0).mono ?_
  rintro e w1 ⟨rfl, ⟨h1, h2⟩, hB⟩
  have hc := cell_of_one h1
  clear h0 h1 h2
  go_wp2
  go_ret
  exact ⟨rfl, (((Below.refl _ _).alloc (Nat.le_refl _) _).alloc (by simp) _).trans hB⟩

def formIsin : List UInt8 := [67, 67, 83, 83, 83, 83, 83, 83, 83, 83, 83, 68]
def isinR (l : List UInt8) : Int × Option (Int × Int) := if (hasR l formIsin).1 = 0 then (if (luhnOf (spread l)).1 = 0 then (0, none) else (7, none)) else hasR l formIsin
def zeros (n : Nat) : List UInt8 := List.replicate n 0
theorem has_form (s : ByteArray) (f : List UInt8) (w : World) (hs : s.size ≤ 140737488400000) (hf : f.length ≤ 1000) (ha : ∀ c ∈ f, c.toNat < 128) (hok : Ok w) :
    Calls Tryz.prog 136 #[.string s, .string ⟨f.toArray⟩] w (RetErr (hasR s.data.toList f) w) := by
  have := has_any s ⟨f.toArray⟩ w hs (by show f.toArray.size ≤ 1000; simpa using hf) (fun k h => ha _ (by
    show f.toArray[k] ∈ f
    simp)) hok
  simpa using this

theorem ErrP.zero {v : Value} {n : Int} {pl : Option (Int × Int)} (h : ErrP v n pl) (h0 : n = 0) : v = .nilIface ∧ pl = none := by
  cases h with
  | nil => exact ⟨rfl, rfl⟩
  | plain h h2 => have := h.lo; omega
  | fault lo hi => omega
theorem ErrP.held {v : Value} {n : Int} {pl : Option (Int × Int)} (h : ErrP v n pl) (h0 : n ≠ 0) : ∃ t x, v = .iface t x := by
  cases h with
  | nil => exact absurd rfl h0
  | plain h h2 => exact h.held
  | fault lo hi => exact ⟨_, _, rfl⟩
/-- a call hands back an array of bytes and an error -/
def RetArr (l : List UInt8) (r : Int × Option (Int × Int)) (w : World) (e : Ending) (w' : World) : Prop := ∃ v, e = .returned (.tuple #[.agg (bytesV l), v]) ∧ ErrP v r.1 r.2 ∧ Below w.heap.size w w'
theorem RetArr.mk' {l : List UInt8} {cs : Array Value} {v : Value} {r : Int × Option (Int × Int)} {w w' : World} (hcs : cs = bytesV l) (hE : ErrP v r.1 r.2) (hB : Below w.heap.size w w') :
    RetArr l r w (.returned (.tuple #[.agg cs, v])) w' := ⟨v, by rw [hcs], hE, hB⟩
set_option maxRecDepth 100000 in
set_option maxHeartbeats 1000000 in
theorem isinf_any (s : ByteArray) (w : World) (hs : s.size ≤ 140737488400000) (hok : Ok w) :
    Calls Tryz.prog 111 #[.string s] w (RetArr (if (isinR s.data.toList).1 = 0 then s.data.toList else zeros 12) (isinR s.data.toList) w) := by
  have HOK := Lib.hid hok
  clear hok
  have hb0 := heap_alloc_new w (.cells #[.int .u8 0, .int .u8 0, .int .u8 0, .int .u8 0, .int .u8 0, .int .u8 0, .int .u8 0, .int .u8 0, .int .u8 0, .int .u8 0, .int .u8 0, .int .u8 0] 23)
  have HB0 := Lib.hid hb0
  clear hb0
  by_cases h1 : (hasR s.data.toList formIsin).1 = 0
  · have hsig := hasR_signs h1
    have hlen := (hasR_fits h1).1
    have hz := hasR_zero h1
    have HZ := Lib.hid hz
    have HL := Lib.hid hlen
    have H1 := Lib.hid h1
    clear hz hlen h1
    by_cases h2 : (luhnOf (spread s.data.toList)).1 = 0
    · have e : isinR s.data.toList = (0, none) := by unfold isinR; rw [if_pos H1.out, if_pos h2]
      rw [e, if_pos rfl]
      clear e
      have h2b : ((luhnOf (spread s.data.toList)).1 != 0) = false := by simp [h2]
      have H2 := Lib.hid h2
      clear h2
      go_enter Tryz.func111, Tryz.ntmps111
      go_wp2_with fail
      refine (has_form s formIsin _ hs (by decide) (by decide) (HOK.out.below ((Below.refl _ _).alloc (Nat.le_refl _) _))).mono ?_
      rintro e w1 ⟨v, rfl, hE, hB⟩
      rw [HZ.out] at hE
      obtain ⟨rfl, _⟩ := hE.zero rfl
      go_wp2_with fail
      refine (luhn_any s _ (by have := HL.out; simp [formIsin] at this; omega) hsig).mono ?_
      rintro e w2 ⟨rfl, hB2⟩
      have hcv := run_bytes_of_string (P := Tryz.prog) w2 9 132 5 s Tryz.underlying9 Tryz.underlying132 Tryz.underlying5
      have hge := grownCap_ge w2 s.size 0 5
      have h12 : s.size = 12 := by have := HL.out; simpa [formIsin] using this
      have hrow : ∀ (j : Nat) (v : Value), (bytesV s.data.toList).toList[j]? = some v → (bytesRow s (grownCap w2 s.size 0 5))[j]? = some v := by
        intro j v hv
        simp only [bytesV, List.getElem?_map, Option.map_eq_some_iff] at hv
        obtain ⟨c, hc, rfl⟩ := hv
        have hj : j < s.data.toList.length := (List.getElem?_eq_some_iff.1 hc).1
        have hj' : j < s.data.size := by simpa using hj
        rw [bytesRow_at s _ j hj']
        rw [List.getElem?_eq_getElem hj] at hc
        simp at hc
        rw [← hc]
      generalize bytesRow s (grownCap w2 s.size 0 5) = R at *
      generalize grownCap w2 s.size 0 5 = C at *
      have hC : 12 ≤ C := by omega
      have HR := Lib.hid hrow
      have H12 := Lib.hid h12
      clear hrow h12 hge
      have hat : ∀ (w' : World), (Instr.arrayAt 23 (.slice (some ⟨w2.heap.size, 0, none⟩) 12 C)).run Tryz.prog w' = .ok (.pointer (some ⟨w2.heap.size, 0, none⟩)) w' := fun w' => by
        simp [Instr.arrayAt, run_underlying Tryz.underlying23]
      have hra : ∀ (fr : Nat × Nat), ((w2.alloc (.cells R 5 fr)).drew).rangeAt w2.heap.size 0 (bytesV s.data.toList).toList := by
        intro fr j v hv
        have := HR.out j v hv
        show (w2.alloc (.cells R 5 fr)).cell? ⟨w2.heap.size, 0 + j, none⟩ = some v
        rw [Nat.zero_add]
        exact (World.cell?_alloc_mark w2 R 5 fr j).trans this
      have HRA := Lib.hid hra
      clear hra
      have hb2 : ∀ (o : Obj), ((w2.alloc o).drew).heap[w.heap.size]? = some (.cells #[.int .u8 0, .int .u8 0, .int .u8 0, .int .u8 0, .int .u8 0, .int .u8 0, .int .u8 0, .int .u8 0, .int .u8 0, .int .u8 0, .int .u8 0, .int .u8 0] 23 (0, 0)) := by
        intro o
        have h1 := blk_below hB HB0.out (by simp)
        have h2 := blk_below hB2 h1 (lt_of_block h1)
        exact (heap_alloc_old w2 o (lt_of_block h2)).trans h2
      have HB2 := Lib.hid hb2
      have hsz : (bytesV s.data.toList).toList.length = 12 := by simp [bytesV]; exact H12.out
      have HSZ := Lib.hid hsz
      clear hb2 hsz
      go_wp2_with (first | (refine wpList_load_mid rfl 23 _ rfl w2.heap.size 0 rfl (bytesV s.data.toList).toList _ (HRA.out _) Tryz.underlying23 rfl (by rw [HSZ.out]; kernel_rfl) ?_) | (refine wpList_store_row rfl 23 _ _ rfl w.heap.size (bytesV s.data.toList) rfl rfl 23 _ (HB2.out _) (by rw [bytesV_size, len_str, H12.out]; kernel_rfl) (by rw [bytesV_size, len_str, H12.out]; rfl) (bytesV_one _) ?_))
      exact bodyPost_ret (v := .tuple #[.agg _, .nilIface]) (results_cell_row_tmp (fn := Tryz.f111) (p := 2) (u := 3) rfl _ _ w.heap.size 23 _ (0, 0) _ rfl (setRow_heap _ _ _ _ _ _ (HB2.out _)) Tryz.underlying23 rfl (by rw [bytesV_size, len_str, H12.out]; kernel_rfl)) rfl (RetArr.mk' (by rfl) .nil (below_setRow ((((Below.refl _ _).alloc (Nat.le_refl _) _).trans ((hB.trans (hB2.mono hB.size)).mono (by simp))).trans (((Below.refl _ _).alloc (Nat.le_trans (by simp) (Nat.le_trans hB.size hB2.size)) _).drew)) (Nat.le_refl _) _))
    · have e : isinR s.data.toList = (7, none) := by unfold isinR; rw [if_pos H1.out, if_neg h2]
      rw [e, if_neg (by decide)]
      clear e
      have h2b : ((luhnOf (spread s.data.toList)).1 != 0) = true := by simpa using h2
      clear h2
      go_enter Tryz.func111, Tryz.ntmps111
      go_wp2_with fail
      refine (has_form s formIsin _ hs (by decide) (by decide) (HOK.out.below ((Below.refl _ _).alloc (Nat.le_refl _) _))).mono ?_
      rintro e w1 ⟨v, rfl, hE, hB⟩
      rw [HZ.out] at hE
      obtain ⟨rfl, _⟩ := hE.zero rfl
      go_wp2_with fail
      refine (luhn_any s _ (by have := HL.out; simp [formIsin] at this; omega) hsig).mono ?_
      rintro e w2 ⟨rfl, hB2⟩
      have hb1 := blk_below hB HB0.out (by simp)
      have hb2 := blk_below hB2 hb1 (lt_of_block hb1)
      clear hb1
      go_wp2_with (refine wpList_store_row rfl 23 _ _ rfl w.heap.size _ rfl rfl 23 _ hb2 (by kernel_rfl) rfl (by simp [Value.oneCell']) ?_)
      exact bodyPost_ret (v := .tuple #[.agg _, _]) (results_cell_row_tmp (fn := Tryz.f111) (p := 2) (u := 3) rfl _ _ w.heap.size 23 _ (0, 0) _ rfl (setRow_heap _ _ _ _ _ _ hb2) Tryz.underlying23 rfl (by kernel_rfl)) rfl (RetArr.mk' (by rfl) (.plain (errIs_Ref _ _ 7 rfl (by omega) (by omega)) (noPlace_Ref _ _)) (below_setRow (((Below.refl _ _).alloc (Nat.le_refl _) _).trans ((hB.trans (hB2.mono hB.size)).mono (by simp))) (Nat.le_refl _) _))
  · have e : isinR s.data.toList = hasR s.data.toList formIsin := by unfold isinR; rw [if_neg h1]
    rw [e, if_neg h1]
    clear e
    go_enter Tryz.func111, Tryz.ntmps111
    go_wp2_with fail
    refine (has_form s formIsin _ hs (by decide) (by decide) (HOK.out.below ((Below.refl _ _).alloc (Nat.le_refl _) _))).mono ?_
    rintro e w1 ⟨v, rfl, hE, hB⟩
    obtain ⟨t, x, rfl⟩ := hE.held h1
    have hb1 := blk_below hB HB0.out (by simp)
    go_wp2_with (refine wpList_store_row rfl 23 _ _ rfl w.heap.size _ rfl rfl 23 _ hb1 (by kernel_rfl) rfl (by simp [Value.oneCell']) ?_)
    exact bodyPost_ret (v := .tuple #[.agg _, .iface t x]) (results_cell_row_tmp (fn := Tryz.f111) (p := 2) (u := 3) rfl _ _ w.heap.size 23 _ (0, 0) _ rfl (setRow_heap _ _ _ _ _ _ hb1) Tryz.underlying23 rfl (by kernel_rfl)) rfl (RetArr.mk' (by rfl) hE (below_setRow (((Below.refl _ _).alloc (Nat.le_refl _) _).trans (hB.mono (by simp))) (Nat.le_refl _) _))

end Go.Proofs.YtmepjcnpbjdlkaaGreatDoor
/- An append of new elements onto a slice of the call's own, as one step. -/
namespace Go.Proofs.YtmepjcnpbjdlkaaGreatDoor
set_option linter.unusedVariables false
set_option linter.unusedSimpArgs false
open Go.RowKit

theorem wpList_append_new {P : Program} {ops : Array Oper} {rest : List Oper} {o : Oper} {a : Act} {w0 : World} {Q : Exit → Act → World → Prop} (hgd : o.guard = none) (s x : Operand) (T : TypeId)
    (ho : o.op = .call { callee := .builtin .append, args := #[s, x], argTypes := #[T, T] }) (E : TypeId) (z : Value) (size bytes : Nat) (hT : P.underlying T = some (.slice E))
    (hinf : (P.info? E).map (fun i => (i.zero, i.size, i.bytes)) = some (some z, size, bytes)) (hzs : z.cells.size = size) (hsz : 0 < size)
    (B : Nat) (v : Value) (n : Nat) (xs : List Value) (hs : a.eval s = v) (hown : w0.ownsRow B E size v n xs) (m : Nat) (news : List Value)
    (hx : a.eval x = .slice (some ⟨w0.heap.size, 0, none⟩) m m) (hl : news.length = m * size) (h1 : ∀ u ∈ news, u.oneCell' = true)
    (hbytes : (n + m) * bytes ≤ 140737488355328) (h63 : n + m ≤ 140737488355328) (hB : B ≤ w0.heap.size)
    (h : ∀ v' w', w'.ownsRow B E size v' (n + m) (xs ++ news) → Below B w0 w' → wpList P ops Q rest (a.put o.dst v') w') :
    wpList P ops Q (o :: rest) a (w0.alloc (.cells news.toArray E)) := by
  obtain ⟨i0, hi, hz0, hz1, hz2⟩ := info_parts hinf
  refine wpList_append_own _ hgd s x T ho B E i0 z size bytes hT hi hz0 hz1 hz2 hzs hsz v n xs hs (hown.alloc _) ⟨w0.heap.size, 0, none⟩ m m news hx hl ?_ h1 (by unfold maxLen; omega) hbytes (by simp; omega) ?_
  · intro j u hu
    rw [show (⟨w0.heap.size, 0, none⟩ : Addr).add j = ⟨w0.heap.size, j, none⟩ by unfold Addr.add; split <;> simp_all]
    rw [World.cell?_alloc_at _ _ _ _ rfl]
    simpa using hu
  · intro v' w' h2 h3 _
    exact h v' w' h2 (((Below.refl _ _).alloc hB _).grown h3 (by simp; omega) (fun k hk => (hown.lt k hk).1))
end Go.Proofs.YtmepjcnpbjdlkaaGreatDoor
/- the document's answer on codes (custodyref02), function by function: by contract. -/
namespace Go.Proofs.YtmepjcnpbjdlkaaGreatDoor
set_option linter.unusedVariables false
set_option linter.unusedSimpArgs false
open Go.RowKit

theorem isDigit_any (c : Int) (w : World) : Calls Tryz.prog 147 #[.int .u8 c] w fun e w' => e = .returned (.bool (decide (48 ≤ c ∧ c ≤ 57))) ∧ w' = w := by
  by_cases h : 48 ≤ c
  · go_enter Tryz.func147, Tryz.ntmps147
    go_wp2
    go_ret
    exact ⟨by simp [h], rfl⟩
  · rw [decide_eq_false (by omega)]
    go_enter Tryz.func147, Tryz.ntmps147
    go_wp2
    go_ret
    exact ⟨by simp, rfl⟩
theorem isCapital_any (c : Int) (w : World) : Calls Tryz.prog 156 #[.int .u8 c] w fun e w' => e = .returned (.bool (decide (65 ≤ c ∧ c ≤ 90))) ∧ w' = w := by
  by_cases h : 65 ≤ c
  · go_enter Tryz.func156, Tryz.ntmps156
    go_wp2
    go_ret
    exact ⟨by simp [h], rfl⟩
  · rw [decide_eq_false (by omega)]
    go_enter Tryz.func156, Tryz.ntmps156
    go_wp2
    go_ret
    exact ⟨by simp, rfl⟩
def signB (c : Int) : Bool := decide (48 ≤ c ∧ c ≤ 57) || decide (65 ≤ c ∧ c ≤ 90)
theorem isSign_any (c : Int) (w : World) : Calls Tryz.prog 157 #[.int .u8 c] w fun e w' => e = .returned (.bool (signB c)) ∧ w' = w := by
  unfold signB
  generalize hd : decide (48 ≤ c ∧ c ≤ 57) = d
  have HD := Lib.hid hd
  clear hd
  cases d
  all_goals
    go_enter Tryz.func157, Tryz.ntmps157
    go_wp2_with (first | (go_at_call 147; refine (isDigit_any _ _).mono ?_; rintro e w' ⟨rfl, rfl⟩; rw [HD.out]) | (go_at_call 156; refine (isCapital_any _ _).mono ?_; rintro e w' ⟨rfl, rfl⟩))
    go_ret
    exact ⟨by simp, rfl⟩
theorem fits_any (c f : Int) (w : World) (hf : f = 67 ∨ f = 68 ∨ f = 83) : Calls Tryz.prog 146 #[.int .u8 c, .int .u8 f] w fun e w' => e = .returned (.bool (isB c f)) ∧ w' = w := by
  rcases hf with rfl | rfl | rfl
  · have e : isB c 67 = decide (65 ≤ c ∧ c ≤ 90) := by unfold isB; simp
    rw [e]
    go_enter Tryz.func146, Tryz.ntmps146
    go_wp2_with (go_at_call 156; refine (isCapital_any _ _).mono ?_; rintro e w' ⟨rfl, rfl⟩)
    go_ret
    exact ⟨by simp, rfl⟩
  · have e : isB c 68 = decide (48 ≤ c ∧ c ≤ 57) := by unfold isB; simp
    rw [e]
    go_enter Tryz.func146, Tryz.ntmps146
    go_wp2_with (go_at_call 147; refine (isDigit_any _ _).mono ?_; rintro e w' ⟨rfl, rfl⟩)
    go_ret
    exact ⟨by simp, rfl⟩
  · have e : isB c 83 = signB c := by unfold isB signB; simp
    rw [e]
    go_enter Tryz.func146, Tryz.ntmps146
    go_wp2_with (go_at_call 157; refine (isSign_any _ _).mono ?_; rintro e w' ⟨rfl, rfl⟩)
    go_ret
    exact ⟨by simp, rfl⟩

def atOf : Option (Int × Int) → Int | some (_, a) => a | none => 0
set_option maxHeartbeats 1000000 in
theorem hasRef_any (s form : ByteArray) (w : World) (hs : s.size ≤ 140737488351232) (hf : form.size ≤ 1000) (ha : ∀ k (h : k < form.size), ((form[k]'h).toNat : Int) = 67 ∨ ((form[k]'h).toNat : Int) = 68 ∨ ((form[k]'h).toNat : Int) = 83) :
    Calls Tryz.prog 126 #[.string s, .string form] w fun e w' => e = .returned (.tuple #[.int .i64 (hasR s.data.toList form.data.toList).1, .int .i64 (atOf (hasR s.data.toList form.data.toList).2)]) ∧ Below w.heap.size w w' := by
  rcases Nat.lt_trichotomy s.size form.size with hlt | heq | hgt
  · have e : hasR s.data.toList form.data.toList = (2, none) := by unfold hasR; rw [if_pos (by simpa using hlt)]
    rw [e]
    clear e
    go_enter Tryz.func126, Tryz.ntmps126
    go_wp2
    go_ret2
    exact ⟨rfl, Below.refl _ _⟩
  · have hlen : s.data.toList.length = form.data.toList.length := by simpa using heq
    have HL := Lib.hid hlen
    have HQ := Lib.hid heq
    have h1 : ¬ s.size < form.size := by omega
    have h2 : ¬ form.size < s.size := by omega
    clear hlen heq
    go_enter Tryz.func126, Tryz.ntmps126
    go_wp2
    go_loopw [6] (fun i wr => ∃ k : Nat, k ≤ s.size ∧ i = .int .i64 k ∧ Below w.heap.size w wr ∧ ∀ j, j < k → isB (s.data.toList.getD j 0).toNat (form.data.toList.getD j 0).toNat = true) (fun i _ => s.size - (intOf i).toNat)
    case atStart => exact ⟨0, Nat.zero_le _, rfl, Below.refl _ _, fun j hj => absurd hj (by omega)⟩
    case round =>
      obtain ⟨k, hk, rfl, hB, hj⟩ := hrel
      have HJ := Lib.hid hj
      clear hj
      by_cases hlt : k < s.size
      · have hkf : k < form.size := by omega
        have hlti : (k : Int) < (s.size : Int) := by omega
        have hlti2 : (k : Int) < (form.size : Int) := by omega
        have b1 := byte_at s k hlt
        have b2 := byte_at form k hkf
        have hfk := ha k hkf
        clear ha
        have HB1 := Lib.hid b1
        have HB2 := Lib.hid b2
        have HF := Lib.hid hfk
        clear b1 b2 hfk
        have hfit := fun w => fits_any (s[k].toNat) (form[k].toNat) w HF.out
        have HFIT := Lib.hid hfit
        clear hfit
        cases hb : isB (s[k].toNat) (form[k].toNat)
        · have hR : hasR s.data.toList form.data.toList = (6, some (0, (k : Int))) := hasR_bad _ _ k HL.out (by simpa using hlt) HJ.out (by rw [HB1.out, HB2.out]; exact hb)
          have HR := Lib.hid hR
          have HB := Lib.hid hb
          clear hR hb
          go_wp2_with fail
          go_quiet ((go_at_call 146; exact Calls.quiet_of_same (HFIT.out _)))
          rw [HB.out]
          go_wp2
          go_ret2
          rw [HR.out]
          exact ⟨rfl, below_drewN' hB _⟩
        · have HB := Lib.hid hb
          clear hb
          go_wp2_with fail
          go_quiet ((go_at_call 146; exact Calls.quiet_of_same (HFIT.out _)))
          rw [HB.out]
          go_wp2
          refine ⟨⟨k + 1, by omega, by go_num, below_drewN' hB _, fun j hj => ?_⟩, by simp [intOf]; omega⟩
          rcases Nat.lt_or_eq_of_le (Nat.lt_succ_iff.1 hj) with h | h
          · exact HJ.out j h
          · subst h; rw [HB1.out, HB2.out]; exact HB.out
      · obtain rfl : k = s.size := by omega
        have hR : hasR s.data.toList form.data.toList = (0, none) := hasR_ok _ _ HL.out (fun j hj => HJ.out j (by simpa using hj))
        have HR := Lib.hid hR
        clear hR ha
        go_wp2
        go_ret2
        rw [HR.out]
        exact ⟨rfl, hB⟩
  · have e : hasR s.data.toList form.data.toList = (3, none) := by unfold hasR; rw [if_neg (by simp; omega), if_pos (by simpa using hgt)]
    rw [e]
    clear e
    go_enter Tryz.func126, Tryz.ntmps126
    go_wp2
    go_ret2
    exact ⟨rfl, Below.refl _ _⟩

/-- the slice v, of ints, owns the numbers l, in memory from block B on -/
def OwnInts (B : Nat) (v : Value) (l : List Int) (w : World) : Prop := w.ownsRow B 3 1 v l.length (l.map (Value.int .i64))
theorem intInfo : (Tryz.prog.info? 3).map (fun i => (i.zero, i.size, i.bytes)) = some (some (.int .i64 0), 1, 8) := by kernel_rfl
theorem spread_len (l : List UInt8) : (spread l).length ≤ 2 * l.length := by
  induction l with
  | nil => simp [spread]
  | cons c l ih =>
    have e : spread (c :: l) = signDigits c ++ spread l := by simp [spread]
    have h : (signDigits c).length ≤ 2 := by unfold signDigits; split <;> simp
    rw [e, List.length_append, List.length_cons]
    omega
set_option maxRecDepth 100000 in
set_option maxHeartbeats 2000000 in
theorem spread_any (s : ByteArray) (w : World) (hs : s.size ≤ 1000) (hsig : ∀ c ∈ s.data.toList, isSign c = true) :
    Calls Tryz.prog 128 #[.string s] w fun e w' => ∃ v, e = .returned v ∧ OwnInts w.heap.size v (spread s.data.toList) w' ∧ Below w.heap.size w w' := by
  go_enter Tryz.func128, Tryz.ntmps128
  go_wp2
  go_loopw [3, 4] (fun v i wr => ∃ k : Nat, k ≤ s.size ∧ i = .int .i64 k ∧ OwnInts w.heap.size v (spread (s.data.toList.take k)) wr ∧ Below w.heap.size w wr) (fun _ i _ => s.size - (intOf i).toNat)
  case atStart => exact ⟨0, Nat.zero_le _, rfl, World.ownsRow_nil w w.heap.size 3 1, Below.refl _ _⟩
  case round =>
    obtain ⟨k, hk, rfl, hown, hB⟩ := hrel
    have hsz := hB.size
    by_cases hlt : k < s.size
    · have hmem : s[k] ∈ s.data.toList := by
        rw [← byte_at s k hlt, List.getD_eq_getElem?_getD, List.getElem?_eq_getElem (by simpa using hlt)]
        exact List.getElem_mem _
      have hsg := sign_cases (hsig _ hmem)
      have hsp : spread (s.data.toList.take (k + 1)) = spread (s.data.toList.take k) ++ signDigits s[k] := by
        rw [← spread_snoc]
        congr 1
        rw [List.take_succ_eq_append_getElem (by simpa using hlt)]
        congr 2
      have hln := spread_len (s.data.toList.take k)
      have hln2 : (s.data.toList.take k).length ≤ k := List.length_take_le _ _
      have HSP := Lib.hid hsp
      clear hsp hmem
      unfold OwnInts at hown
      generalize spread (s.data.toList.take k) = L at *
      rcases hsg with ⟨c1, c2⟩ | ⟨c1, c2⟩
      · have hd : signDigits s[k] = [((s[k]).toNat : Int) - 48] := by unfold signDigits; rw [if_pos (by omega)]
        rw [hd] at HSP
        clear hd
        have hdig : decide (48 ≤ (s[k].toNat : Int) ∧ (s[k].toNat : Int) ≤ 57) = true := by simp; omega
        have HD := Lib.hid hdig
        clear hdig
        go_wp2_with fail
        refine (isDigit_any _ _).mono ?_
        rintro e w' ⟨rfl, rfl⟩
        rw [HD.out]
        go_wp2_with (at_builtin; (refine wpList_append_new rfl _ _ 26 rfl 3 (.int .i64 0) 1 8 Tryz.underlying26 intInfo rfl (by decide) w.heap.size _ _ _ rfl hown 1 [.int .i64 ((s[k].toNat : Int) - 48)] rfl rfl ?h1 ?h2 ?h3 ?h4 ?_))
        case h1 => intro u hu; simp at hu; subst hu; rfl
        case h2 => omega
        case h3 => omega
        case h4 => omega
        intro v' w2 hown' hB2
        go_wp2
        exact ⟨⟨k + 1, by omega, by go_num, by rw [HSP.out]; unfold OwnInts; simpa using hown', hB.trans hB2⟩, by simp [intOf]; omega⟩
      · have hd : signDigits s[k] = [((s[k]).toNat - 65 : Int) / 10 + 1, ((s[k]).toNat - 65 : Int) % 10] := by unfold signDigits; rw [if_neg (by omega)]
        rw [hd] at HSP
        clear hd
        have hdig : decide (48 ≤ (s[k].toNat : Int) ∧ (s[k].toNat : Int) ≤ 57) = false := by simp; omega
        have HD := Lib.hid hdig
        clear hdig
        go_wp2_with fail
        refine (isDigit_any _ _).mono ?_
        rintro e w' ⟨rfl, rfl⟩
        rw [HD.out]
        go_wp2_with (at_builtin; (refine wpList_append_new rfl _ _ 26 rfl 3 (.int .i64 0) 1 8 Tryz.underlying26 intInfo rfl (by decide) w.heap.size _ _ _ rfl hown 2 [_, _] rfl rfl ?h1 ?h2 ?h3 ?h4 ?_))
        case h1 => intro u hu; simp at hu; rcases hu with rfl | rfl <;> rfl
        case h2 => omega
        case h3 => omega
        case h4 => omega
        intro v' w2 hown' hB2
        go_wp2
        refine ⟨⟨k + 1, by omega, by go_num, ?_, hB.trans hB2⟩, by simp [intOf]; omega⟩
        rw [HSP.out]
        unfold OwnInts
        have e1 : ((s[k].toNat : Int) - 65 + 10) / 10 = ((s[k].toNat : Int) - 65) / 10 + 1 := by omega
        have e2 : ((s[k].toNat : Int) - 65 + 10) % 10 = ((s[k].toNat : Int) - 65) % 10 := by omega
        simp [e1, e2] at hown'
        simpa using hown'
    · obtain rfl : k = s.size := by omega
      rw [List.take_of_length_le (by simp)] at hown
      go_wp2
      go_ret
      exact ⟨_, rfl, hown, hB⟩

/-- the slice v reads as the numbers l -/
def ReadInts (v : Value) (l : List Int) (w : World) : Prop :=
  ∃ a cap, v = .slice a l.length cap ∧ ∀ j (h : j < l.length), ∃ g off, a = some ⟨g, off, none⟩ ∧ w.cell? ⟨g, off + j, none⟩ = some (.int .i64 l[j])
theorem OwnInts.read {B : Nat} {v : Value} {l : List Int} {w : World} (h : OwnInts B v l w) : ReadInts v l w := by
  obtain ⟨hl, hc⟩ := id h
  rcases hc with ⟨rfl, h0⟩ | ⟨g, cap, cur, rfl, _⟩
  · exact ⟨none, 0, by rw [h0], fun j hj => absurd hj (by omega)⟩
  · refine ⟨_, cap, rfl, fun j hj => ⟨g, 0, rfl, ?_⟩⟩
    have := World.ownsRow.cellAt (g := g) (cap := cap) h j (by omega)
    rw [Nat.zero_add, this]
    simp [hj]
theorem OwnInts.below {B : Nat} {v : Value} {l : List Int} {w w' : World} (h : OwnInts B v l w) (hb : Below w.heap.size w w') : OwnInts B v l w' := by
  obtain ⟨h1, h2⟩ := h
  refine ⟨h1, ?_⟩
  rcases h2 with h2 | ⟨g, cap, cur, hv, hg, hh, r⟩
  · exact Or.inl h2
  · exact Or.inr ⟨g, cap, cur, hv, hg, blk_below hb hh (lt_of_block hh), r⟩

def dbl (d : Int) : Int := if 9 < 2 * d then 2 * d - 9 else 2 * d
/-- the Luhn sum of digits that stand from the last one to the first -/
def lsum : List Int → Bool → Int
  | [], _ => 0
  | d :: r, t => (if t then dbl d else d) + lsum r (!t)
set_option maxRecDepth 100000 in
set_option maxHeartbeats 2000000 in
theorem luhnRef_any (v : Value) (l : List Int) (w : World) (hl : l.length ≤ 1000) (hd : ∀ d ∈ l, 0 ≤ d ∧ d ≤ 9) (hr : ReadInts v l w) :
    Calls Tryz.prog 127 #[v] w fun e w' => e = .returned (.int .i64 (lsum l.reverse false)) ∧ w = w' := by
  obtain ⟨a, cap, rfl, hc⟩ := hr
  have HC := Lib.hid hc
  have HD := Lib.hid hd
  clear hc hd
  go_enter Tryz.func127, Tryz.ntmps127
  go_wp2
  go_loop [3, 4, 5] (fun sm tw i => ∃ (j : Nat) (t : Bool) (S : Int), j ≤ l.length ∧ tw = .bool t ∧ sm = .int .i64 S ∧ i = .int .i64 (l.length - j - 1) ∧ Hid (S + lsum (l.reverse.drop j) t = lsum l.reverse false) ∧ 0 ≤ S ∧ S ≤ 9 * j) (fun _ _ i => (intOf i + 1).toNat)
  case atStart => exact ⟨0, false, 0, Nat.zero_le _, rfl, rfl, by simp, by show _ = _; simp, by omega, by omega⟩
  case round =>
    obtain ⟨j, t, S, hj, rfl, rfl, rfl, hs, hs0, hs1⟩ := hrel
    by_cases hlt : j < l.length
    · have hix : l.length - 1 - j < l.length := by omega
      obtain ⟨g, off, rfl, hcell⟩ := HC.out (l.length - 1 - j) hix
      have hdig := HD.out _ (List.getElem_mem hix)
      have hdrop : l.reverse.drop j = l[l.length - 1 - j] :: l.reverse.drop (j + 1) := by
        rw [List.drop_eq_getElem_cons (by simpa using hlt)]
        congr 1
        simp
      have HDR := Lib.hid hdrop
      clear hdrop
      generalize l[l.length - 1 - j] = d at *
      obtain ⟨d0, d1⟩ := hdig
      have hidx : l.length - j - 1 = l.length - 1 - j := by omega
      have hcell2 : w.cell? ⟨g, off + (l.length - j - 1), none⟩ = some (.int .i64 d) := by rw [hidx]; exact hcell
      clear hidx hcell
      have hge : (0 : Int) ≤ (l.length : Int) - (j : Int) - 1 := by omega
      have hln : (l.length : Int) - (j : Int) - 1 < l.length := by omega
      have hs2 := hs.out
      rw [HDR.out] at hs2
      simp only [lsum] at hs2
      have HS2 := Lib.hid hs2
      clear hs hs2
      cases t
      · go_wp2
        go_round
        case rel => exact ⟨j + 1, true, S + d, by omega, rfl, rfl, by congr 1; omega, by have := HS2.out; simp at this; show _ = _; rw [← this]; omega, by omega, by omega⟩
        case measure => simp [intOf]; omega
      · by_cases h9 : 9 < 2 * d
        all_goals
          go_wp2
          go_round
          case rel => exact ⟨j + 1, false, S + dbl d, by omega, rfl, by unfold dbl; first | rw [if_pos h9] | rw [if_neg h9], by congr 1; omega, by have := HS2.out; simp at this; show _ = _; rw [← this]; omega, by unfold dbl; split <;> omega, by unfold dbl; split <;> omega⟩
          case measure => simp [intOf]; omega
    · obtain rfl : j = l.length := by omega
      have hneg : (l.length : Int) - (l.length : Int) - 1 = -1 := by omega
      rw [hneg]
      have h2 := hs.out
      rw [List.drop_of_length_le (by simp)] at h2
      simp only [lsum, Int.add_zero] at h2
      go_wp2
      go_ret
      exact ⟨ret_int (by rw [← h2]), rfl⟩

theorem tw_dbl {d : Int} (h0 : 0 ≤ d) (h1 : d ≤ 9) : tw d = dbl d := by unfold tw dbl; split <;> split <;> omega
theorem lsum_luhn (r : List Int) : (∀ d ∈ r, 0 ≤ d ∧ d ≤ 9) → luhnOf r.reverse = (lsum r false % 10, lsum r true % 10) := by
  induction r with
  | nil => intro _; rfl
  | cons d r ih =>
    intro h
    have h1 := h d (by simp)
    have h2 := ih (fun x hx => h x (by simp [hx]))
    rw [List.reverse_cons, luhnOf_snoc, h2]
    simp only [luhnStep, lsum, tw_dbl h1.1 h1.2]
    simp
    constructor <;> omega
theorem luhn_lsum (l : List Int) (h : ∀ d ∈ l, 0 ≤ d ∧ d ≤ 9) : lsum l.reverse false % 10 = (luhnOf l).1 := by
  have := lsum_luhn l.reverse (fun d hd => h d (by simpa using hd))
  rw [List.reverse_reverse] at this
  rw [this]
theorem spread_digits (l : List UInt8) (h : ∀ c ∈ l, isSign c = true) : ∀ d ∈ spread l, 0 ≤ d ∧ d ≤ 9 := by
  intro d hd
  simp only [spread, List.mem_flatMap] at hd
  obtain ⟨c, hc, hd⟩ := hd
  have := sign_cases (h c hc)
  unfold signDigits at hd
  split at hd
  · simp at hd; omega
  · simp at hd; omega
theorem lsum_bd (r : List Int) : ∀ t, (∀ d ∈ r, 0 ≤ d ∧ d ≤ 9) → 0 ≤ lsum r t ∧ lsum r t ≤ 9 * r.length := by
  induction r with
  | nil => intro t _; simp [lsum]
  | cons d r ih =>
    intro t h
    have h1 := h d (by simp)
    have h2 := ih (!t) (fun x hx => h x (by simp [hx]))
    have h3 : 0 ≤ dbl d ∧ dbl d ≤ 9 := by unfold dbl; split <;> omega
    simp only [lsum, List.length_cons]
    cases t <;> simp at h2 ⊢ <;> omega

theorem hasRef_form (s : ByteArray) (f : List UInt8) (w : World) (hs : s.size ≤ 140737488351232) (hf : f.length ≤ 1000) (ha : ∀ c ∈ f, c.toNat = 67 ∨ c.toNat = 68 ∨ c.toNat = 83) :
    Calls Tryz.prog 126 #[.string s, .string ⟨f.toArray⟩] w fun e w' => e = .returned (.tuple #[.int .i64 (hasR s.data.toList f).1, .int .i64 (atOf (hasR s.data.toList f).2)]) ∧ Below w.heap.size w w' := by
  have := hasRef_any s ⟨f.toArray⟩ w hs (by show f.toArray.size ≤ 1000; simpa using hf) (fun k h => by
    have := ha (f.toArray[k]'h) (by simp)
    show ((f.toArray[k]'h).toNat : Int) = 67 ∨ ((f.toArray[k]'h).toNat : Int) = 68 ∨ ((f.toArray[k]'h).toNat : Int) = 83
    omega)
  simpa using this

set_option maxRecDepth 100000 in
set_option maxHeartbeats 1000000 in
theorem isinRef_any (s : ByteArray) (w : World) (hs : s.size ≤ 140737488351232) :
    Calls Tryz.prog 84 #[.string s] w fun e w' => e = .returned (.tuple #[.int .i64 (isinR s.data.toList).1, .int .i64 (atOf (isinR s.data.toList).2)]) ∧ Below w.heap.size w w' := by
  by_cases h1 : (hasR s.data.toList formIsin).1 = 0
  · have hsig := hasR_signs h1
    have hlen := (hasR_fits h1).1
    have h12 : s.size = 12 := by simpa [formIsin] using hlen
    have hz := hasR_zero h1
    have hdig := spread_digits _ hsig
    have hsl := spread_len s.data.toList
    have hll : s.data.toList.length = 12 := by simpa using h12
    have hls := luhn_lsum _ hdig
    have hbd := lsum_bd (spread s.data.toList).reverse false (fun d hd => hdig d (by simpa using hd))
    have hlr : (spread s.data.toList).reverse.length ≤ 24 := by simp; omega
    have hR : isinR s.data.toList = if lsum (spread s.data.toList).reverse false % 10 = 0 then (0, none) else (7, none) := by unfold isinR; rw [if_pos h1, hls]
    have HZ := Lib.hid hz
    have HS := Lib.hid hsig
    have HG := Lib.hid hdig
    have HR := Lib.hid hR
    have HL : Hid ((spread s.data.toList).length ≤ 1000) := by show _ ≤ _; omega
    have HN : Hid (s.size ≤ 1000) := by show _ ≤ _; omega
    clear hz hsig hdig hls hR hll hsl hlen h1 h12
    generalize hq : lsum (spread s.data.toList).reverse false = q at *
    have HQ := Lib.hid hq
    clear hq
    obtain ⟨q0, q1⟩ := hbd
    have hq1 : q ≤ 1000 := by omega
    clear q1 hlr
    by_cases h2 : q % 10 = 0
    · have h2b : (q % 10 != 0) = false := by simp [h2]
      have hR2 : isinR s.data.toList = (0, none) := by rw [HR.out, if_pos h2]
      have HR2 := Lib.hid hR2
      clear h2 hR2
      go_enter Tryz.func84, Tryz.ntmps84
      go_wp2_with fail
      refine (hasRef_form s formIsin _ hs (by decide) (by decide)).mono ?_
      rintro e w1 ⟨rfl, hB⟩
      rw [HZ.out]
      go_wp2_with fail
      refine (spread_any s _ HN.out HS.out).mono ?_
      rintro e w2 ⟨v, rfl, ho, hB2⟩
      go_wp2_with fail
      refine (luhnRef_any v _ _ HL.out HG.out ho.read).mono ?_
      rintro e w3 ⟨rfl, rfl⟩
      rw [HQ.out]
      go_wp2
      go_ret2
      rw [HR2.out]
      exact ⟨rfl, hB.trans (hB2.mono hB.size)⟩
    · have h2b : (q % 10 != 0) = true := by simpa using h2
      have hR2 : isinR s.data.toList = (7, none) := by rw [HR.out, if_neg h2]
      have HR2 := Lib.hid hR2
      clear h2 hR2
      go_enter Tryz.func84, Tryz.ntmps84
      go_wp2_with fail
      refine (hasRef_form s formIsin _ hs (by decide) (by decide)).mono ?_
      rintro e w1 ⟨rfl, hB⟩
      rw [HZ.out]
      go_wp2_with fail
      refine (spread_any s _ HN.out HS.out).mono ?_
      rintro e w2 ⟨v, rfl, ho, hB2⟩
      go_wp2_with fail
      refine (luhnRef_any v _ _ HL.out HG.out ho.read).mono ?_
      rintro e w3 ⟨rfl, rfl⟩
      rw [HQ.out]
      go_wp2
      go_ret2
      rw [HR2.out]
      exact ⟨rfl, hB.trans (hB2.mono hB.size)⟩
  · have e : isinR s.data.toList = hasR s.data.toList formIsin := by unfold isinR; rw [if_neg h1]
    rw [e]
    generalize hr : hasR s.data.toList formIsin = r at *
    have HR := Lib.hid hr
    have h1b : (r.1 == 0) = false := by simpa using h1
    clear e hr h1
    go_enter Tryz.func84, Tryz.ntmps84
    go_wp2_with fail
    refine (hasRef_form s formIsin _ hs (by decide) (by decide)).mono ?_
    rintro e w1 ⟨rfl, hB⟩
    rw [HR.out]
    go_wp2
    go_ret2
    exact ⟨rfl, hB⟩

end Go.Proofs.YtmepjcnpbjdlkaaGreatDoor
/- codes.Currency and the document's: by contract. -/
namespace Go.Proofs.YtmepjcnpbjdlkaaGreatDoor
set_option linter.unusedVariables false
set_option linter.unusedSimpArgs false
open Go.RowKit

theorem setCell_row {w : World} {g : Nat} {cs : Array Value} {t : TypeId} {fr : Nat × Nat} (h : w.heap[g]? = some (.cells cs t fr)) (k : Nat) (v : Value) : (w.setCell ⟨g, k, none⟩ v).heap[g]? = some (.cells (cs.setIfInBounds k v) t fr) := by
  have hlt := lt_of_block h
  have hv : w.heap[g] = .cells cs t fr := (Array.getElem?_eq_some_iff.1 h).2
  unfold World.setCell
  rw [Array.getElem?_eq_getElem (by simpa using hlt)]
  simp [Array.getElem_modify, hv]
def formCur : List UInt8 := [67, 67, 67]
theorem currency_any (s : ByteArray) (w : World) (hs : s.size ≤ 140737488351232) (hok : Ok w) :
    Calls Tryz.prog 112 #[.string s] w (RetErr (hasR s.data.toList formCur) w) := by
  have h := fun w => has_form s formCur w (by omega) (by decide) (by decide)
  generalize hasR s.data.toList formCur = r at h ⊢
  go_enter Tryz.func112, Tryz.ntmps112
  go_wp2_with fail
  refine (h _ hok).mono ?_
  rintro e w1 ⟨v, rfl, hE, hB⟩
  go_wp2_with fail
  go_ret
  exact ⟨v, rfl, hE, hB⟩
theorem currencyRef_any (s : ByteArray) (w : World) (hs : s.size ≤ 140737488351232) :
    Calls Tryz.prog 85 #[.string s] w fun e w' => e = .returned (.tuple #[.int .i64 (hasR s.data.toList formCur).1, .int .i64 (atOf (hasR s.data.toList formCur).2)]) ∧ Below w.heap.size w w' := by
  have h := fun w => hasRef_form s formCur w hs (by decide) (by decide)
  generalize hasR s.data.toList formCur = r at h ⊢
  go_enter Tryz.func85, Tryz.ntmps85
  go_wp2_with fail
  refine (h _).mono ?_
  rintro e w1 ⟨rfl, hB⟩
  go_wp2_with fail
  go_ret2
  exact ⟨rfl, hB⟩

end Go.Proofs.YtmepjcnpbjdlkaaGreatDoor
