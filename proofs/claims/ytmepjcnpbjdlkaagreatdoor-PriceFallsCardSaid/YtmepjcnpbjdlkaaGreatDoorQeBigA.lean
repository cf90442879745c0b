/- texts of this claim, laid together: BigA, BigB, BigC, BigD, BigE. -/
import Derived.Test.YtmepjcnpbjdlkaaGreatDoorQeBase
import Derived.Test.YtmepjcnpbjdlkaaGreatDoorQeDig
import Derived.Laws.MakeOwn
/- big: words of 32 bits in memory; at, Add32, Sub32, small by contract. -/
namespace Go.Proofs.YtmepjcnpbjdlkaaGreatDoor
set_option linter.unusedVariables false
set_option linter.unusedSimpArgs false
open Go.RowKit
attribute [local irreducible] Go.wpStill

/-- a word -/
def wd (d : Nat) : Value := .int .u32 (d : Int)
/-- a slice of words that reads as right digits -/
def Ws (w : World) (v : Value) (ds : List Nat) : Prop := ∃ ao cap, v = .slice ao ds.length cap ∧ ds.length ≤ cap ∧ ds.length ≤ 100000 ∧ DG.Ok ds ∧
  (ds = [] ∨ ∃ g cs, ao = some ⟨g, 0, none⟩ ∧ w.heap[g]? = some (.cells cs 215 (0, 0)) ∧ ∀ i, i < ds.length → cs[i]? = some (wd (ds.getD i 0)))
theorem Ws.nil (w : World) : Ws w (.slice none 0 0) [] := ⟨none, 0, rfl, Nat.le_refl _, by simp, DG.Ok.nil, .inl rfl⟩
theorem Ws.ok {w : World} {v : Value} {ds : List Nat} (h : Ws w v ds) : DG.Ok ds := by
  obtain ⟨_, _, _, _, _, h, _⟩ := h
  exact h
theorem Ws.len {w : World} {v : Value} {ds : List Nat} (h : Ws w v ds) : ds.length ≤ 100000 := by
  obtain ⟨_, _, _, _, h, _⟩ := h
  exact h
theorem Ws.slice {w : World} {v : Value} {ds : List Nat} (h : Ws w v ds) : ∃ ao cap, v = .slice ao ds.length cap := by
  obtain ⟨ao, cap, h, _⟩ := h
  exact ⟨ao, cap, h⟩
/-- the words' blocks stay: all of the words' type -/
def KeepsW (w w' : World) : Prop := ∀ (k : Nat) (cs : Array Value), w.heap[k]? = some (Obj.cells cs 215 (0, 0)) → w'.heap[k]? = some (Obj.cells cs 215 (0, 0))
theorem Ws.keep {w w' : World} {v : Value} {ds : List Nat} (h : Ws w v ds) (hk : KeepsW w w') : Ws w' v ds := by
  obtain ⟨ao, cap, h1, h2, h3, h4, h5⟩ := h
  refine ⟨ao, cap, h1, h2, h3, h4, ?_⟩
  rcases h5 with h5 | ⟨g, cs, h5, h6, h7⟩
  · exact .inl h5
  · exact .inr ⟨g, cs, h5, hk _ _ h6, h7⟩
theorem KeepsW.refl (w : World) : KeepsW w w := fun _ _ h => h
theorem KeepsW.trans {a b c : World} (h : KeepsW a b) (k : KeepsW b c) : KeepsW a c := fun i cs hi => k i cs (h i cs hi)
theorem KeepsW.below {w w' : World} (h : Below w.heap.size w w') : KeepsW w w' := fun k cs hk => by rw [h.block k (lt_of_block hk)]; exact hk
theorem KeepsW.grown {w w' : World} {p : Nat} (h : w.grownBy w' (some p)) {cs0 : Array Value} {t : TypeId} (hp : w.heap[p]? = some (.cells cs0 t (0, 0))) (ht : t ≠ 215) : KeepsW w w' := fun k cs hk => by
  rw [h.block k (lt_of_block hk) (fun e => by
    injection e with e
    subst e
    rw [hp] at hk
    injection hk with hk
    injection hk with _ hk
    exact ht hk)]
  exact hk
theorem Ws.below {w w' : World} {v : Value} {ds : List Nat} (h : Ws w v ds) (hb : Below w.heap.size w w') : Ws w' v ds := h.keep (.below hb)
theorem Ws.cell {w : World} {ao : Option Addr} {n cap : Nat} {ds : List Nat} (h : Ws w (.slice ao n cap) ds) {i : Nat} (hi : i < ds.length) : ∃ g, ao = some ⟨g, 0, none⟩ ∧ w.cell? ⟨g, i, none⟩ = some (wd (ds.getD i 0)) ∧ ∃ cs, w.heap[g]? = some (.cells cs 215 (0, 0)) := by
  obtain ⟨ao', cap', h1, h2, h3, h4, h5⟩ := h
  injection h1 with h1
  subst h1
  rcases h5 with h5 | ⟨g, cs, h5, h6, h7⟩
  · subst h5; simp at hi
  · exact ⟨g, h5, by rw [cell_of_row _ _ _ _ _ _ h6]; exact h7 i hi, cs, h6⟩

set_option maxHeartbeats 1000000 in
theorem at_any {v : Value} {ds : List Nat} (i : Nat) (w : World) (h : Ws w v ds) (hi : i < 1000000) : Calls Tryz.prog 142 #[v, .int .i64 (i : Int)] w fun e w' => e = .returned (wd (ds.getD i 0)) ∧ w' = w := by
  obtain ⟨ao, cap, rfl⟩ := h.slice
  have hlen := h.len
  have HW := Lib.hid h
  clear h
  by_cases hlt : i < ds.length
  · obtain ⟨g, rfl, hc, _⟩ := HW.out.cell hlt
    unfold wd at hc ⊢
    have hd : decide ((i : Int) < ds.length) = true := decide_eq_true (by omega)
    generalize ((ds.getD i 0 : Nat) : Int) = x at *
    go_enter Tryz.func142, Tryz.ntmps142
    go_wp2_with fail
    go_ret
    exact ⟨rfl, rfl⟩
  · have hd : decide ((i : Int) < ds.length) = false := decide_eq_false (by omega)
    have h0 : ds.getD i 0 = 0 := by rw [List.getD_eq_getElem?_getD, List.getElem?_eq_none (by omega)]; rfl
    rw [h0]
    unfold wd
    clear h0
    go_enter Tryz.func142, Tryz.ntmps142
    go_wp2_with fail
    go_ret
    exact ⟨rfl, rfl⟩
set_option maxHeartbeats 1000000 in
theorem add32_any (x y c : Nat) (w : World) (hx : x < 4294967296) (hy : y < 4294967296) (hc : c < 4294967296) : Calls Tryz.prog 154 #[wd x, wd y, wd c] w fun e w' => e = .returned (.tuple #[wd ((x + y + c) % 4294967296), wd ((x + y + c) / 4294967296)]) ∧ w' = w := by
  unfold wd
  go_enter Tryz.func154, Tryz.ntmps154
  go_wp2_with fail
  go_ret2
  refine ⟨?_, rfl⟩
  have e0 : ((x : Int) + y + c) % 4294967296 = (((x + y + c) % 4294967296 : Nat) : Int) := by omega
  have e1 : ((x : Int) + y + c) / 4294967296 = (((x + y + c) / 4294967296 : Nat) : Int) := by omega
  rw [← e0, ← e1]
  rfl
theorem xor_gen (k : IntKind) (a b : Nat) (ha : a < 2 ^ k.bits) (hb : b < 2 ^ k.bits) (hk : k.wrap ((a ^^^ b : Nat) : Int) = ((a ^^^ b : Nat) : Int)) : Go.bits .xor k (a : Int) (b : Int) = ((a ^^^ b : Nat) : Int) := by
  have ha' : a % 2 ^ k.bits = a := Nat.mod_eq_of_lt ha
  have hb' : b % 2 ^ k.bits = b := Nat.mod_eq_of_lt hb
  simp only [Go.bits, BitVec.ofInt_natCast, BitVec.toNat_xor, BitVec.toNat_ofNat, ha', hb']
  exact hk
theorem xor_nat (a b : Nat) (ha : a < 4294967296) (hb : b < 4294967296) : Go.bits .xor .u32 (a : Int) (b : Int) = ((a ^^^ b : Nat) : Int) := by
  have hx : a ^^^ b < 2 ^ 32 := Nat.xor_lt_two_pow ha hb
  refine xor_gen .u32 a b ha hb ?_
  rw [IntKind.wrap_u32]
  omega
theorem andor_nat (a b : Nat) (ha : a < 4294967296) (hb : b < 4294967296) : Go.bits .and .u32 (a : Int) (b : Int) = ((a &&& b : Nat) : Int) ∧ Go.bits .or .u32 (a : Int) (b : Int) = ((a ||| b : Nat) : Int) :=
  bits_nat .u32 32 (by decide) (fun n h0 h1 => by rw [IntKind.wrap_u32]; omega) a b ha hb
theorem top31 (n : Nat) (h : n < 4294967296) : n / 2147483648 = if n.testBit 31 then 1 else 0 := by
  have h1 := Nat.testBit_eq_decide_div_mod_eq (x := n) (i := 31)
  rw [show (2 : Nat) ^ 31 = 2147483648 from rfl] at h1
  rw [h1]
  split
  · next h => have := of_decide_eq_true h; omega
  · next h => have := of_decide_eq_false (Bool.not_eq_true _ ▸ h); omega
theorem borrow31 (x y c : Nat) (hx : x < 4294967296) (hy : y < 4294967296) (hc : c ≤ 1) :
    Go.bits .or .u32 (Go.bits .and .u32 (Go.bits .xor .u32 IntKind.u32.max (x : Int)) (y : Int)) (Go.bits .and .u32 (Go.bits .xor .u32 IntKind.u32.max (Go.bits .xor .u32 (x : Int) (y : Int))) (((x : Int) - y - c) % 4294967296)) / 2147483648 = (((if x < c + y then 1 else 0) : Nat) : Int) := by
  obtain ⟨d, hd, hdl⟩ : ∃ d : Nat, ((x : Int) - y - c) % 4294967296 = (d : Int) ∧ d < 4294967296 := ⟨(((x : Int) - y - c) % 4294967296).toNat, by omega, by omega⟩
  have hm : IntKind.u32.max = ((4294967295 : Nat) : Int) := by decide
  have l1 : x ^^^ y < 2 ^ 32 := Nat.xor_lt_two_pow hx hy
  have l2 : 4294967295 ^^^ x < 2 ^ 32 := Nat.xor_lt_two_pow (by decide) hx
  have l3 : 4294967295 ^^^ (x ^^^ y) < 2 ^ 32 := Nat.xor_lt_two_pow (by decide) l1
  have l4 : (4294967295 ^^^ x) &&& y < 2 ^ 32 := Nat.and_lt_two_pow _ hy
  have l5 : (4294967295 ^^^ (x ^^^ y)) &&& d < 2 ^ 32 := Nat.and_lt_two_pow _ hdl
  have l6 : ((4294967295 ^^^ x) &&& y) ||| ((4294967295 ^^^ (x ^^^ y)) &&& d) < 2 ^ 32 := Nat.or_lt_two_pow l4 l5
  rw [hd, hm, xor_nat x y hx hy, xor_nat _ x (by decide) hx, xor_nat _ (x ^^^ y) (by decide) l1, (andor_nat _ y l2 hy).1, (andor_nat _ d l3 hdl).1, (andor_nat _ _ l4 l5).2]
  have e : ∀ n : Nat, (n : Int) / 2147483648 = ((n / 2147483648 : Nat) : Int) := fun n => by omega
  rw [e, top31 _ l6]
  congr 1
  rw [Nat.testBit_or, Nat.testBit_and, Nat.testBit_and, Nat.testBit_xor, Nat.testBit_xor, Nat.testBit_xor, show Nat.testBit 4294967295 31 = true from by decide]
  have tx := top31 x hx
  have ty := top31 y hy
  have td := top31 d hdl
  generalize x.testBit 31 = X at *
  generalize y.testBit 31 = Y at *
  generalize d.testBit 31 = D at *
  clear l1 l2 l3 l4 l5 l6 e hm
  cases X <;> cases Y <;> cases D <;> simp at tx ty td ⊢ <;> omega
set_option maxHeartbeats 1000000 in
theorem sub32_any (x y c : Nat) (w : World) (hx : x < 4294967296) (hy : y < 4294967296) (hc : c ≤ 1) : Calls Tryz.prog 155 #[wd x, wd y, wd c] w fun e w' => e = .returned (.tuple #[wd (if x < c + y then x + 4294967296 - (c + y) else x - (c + y)), wd (if x < c + y then 1 else 0)]) ∧ w' = w := by
  have hb := borrow31 x y c hx hy hc
  have hd : ((x : Int) - y - c) % 4294967296 = ((if x < c + y then x + 4294967296 - (c + y) else x - (c + y) : Nat) : Int) := by split <;> omega
  unfold wd
  generalize ((if x < c + y then x + 4294967296 - (c + y) else x - (c + y) : Nat) : Int) = d at *
  generalize ((if x < c + y then 1 else 0 : Nat) : Int) = l at *
  have HB := Lib.hid hb
  have HD := Lib.hid hd
  clear hb hd
  go_enter Tryz.func155, Tryz.ntmps155
  go_wp2_with fail
  go_ret2
  refine ⟨?_, rfl⟩
  rw [← HB.out, ← HD.out]
  rfl
set_option maxHeartbeats 1000000 in
theorem small_any {v : Value} {ds : List Nat} (w : World) (h : Ws w v ds) : Calls Tryz.prog 138 #[v] w fun e w' => e = .returned (.tuple #[.int .u64 ((ds.getD 0 0 + 4294967296 * ds.getD 1 0 : Nat) : Int), .bool (decide (ds.length ≤ 2))]) ∧ w' = w := by
  obtain ⟨ao, cap, rfl⟩ := h.slice
  have hlen := h.len
  have hA1 := at_any 1 w h (by decide)
  have hA0 := at_any 0 w h (by decide)
  have h0 := h.ok.get 0
  have h1 := h.ok.get 1
  clear h
  unfold wd at hA1 hA0
  rw [DG.b_eq] at h0 h1
  have hj : Go.bits .or .u64 (((ds.getD 1 0 : Nat) : Int) * 4294967296) ((ds.getD 0 0 : Nat) : Int) = ((ds.getD 0 0 + 4294967296 * ds.getD 1 0 : Nat) : Int) := by
    rw [bits_join .u64 64 (by decide) (fun n h0 h1 => by simp [IntKind.wrap, IntKind.bits, IntKind.signed]; omega) 32 _ _ (by omega) (by omega) (by omega) (by omega) (by omega) (by omega)]
    omega
  have hl : decide ((ds.length : Int) ≤ 2) = decide (ds.length ≤ 2) := by congr 1; exact propext (by omega)
  rw [← hl]
  generalize ds.getD 0 0 = x0 at *
  generalize ds.getD 1 0 = x1 at *
  generalize ((x0 + 4294967296 * x1 : Nat) : Int) = r at *
  clear hl
  obtain ⟨bl, hbl⟩ : ∃ bl, bl = decide ((ds.length : Int) ≤ 2) := ⟨_, rfl⟩
  rw [← hbl]
  have HBL := Lib.hid hbl
  clear hbl
  have HJ := Lib.hid hj
  have HA1 := Lib.hid hA1
  have HA0 := Lib.hid hA0
  clear hj hA1 hA0
  go_enter Tryz.func138, Tryz.ntmps138
  go_wp2_with fail
  refine HA1.out.mono ?_
  rintro e w1 ⟨rfl, rfl⟩
  go_wp2_with fail
  refine HA0.out.mono ?_
  rintro e w1 ⟨rfl, rfl⟩
  go_wp2_with fail
  go_ret2
  refine ⟨?_, rfl⟩
  rw [← HJ.out, HBL.out]
  rfl
end Go.Proofs.YtmepjcnpbjdlkaaGreatDoor
/- big: order, plus, minus of words by contract. -/
namespace Go.Proofs.YtmepjcnpbjdlkaaGreatDoor
set_option linter.unusedVariables false
set_option linter.unusedSimpArgs false
open Go.RowKit
attribute [local irreducible] Go.wpStill

/-- the greater of two -/
def mxI (a b : Int) : Int := if a < b then b else a
theorem mxI_nat (a b : Nat) : mxI a b = ((max a b : Nat) : Int) := by unfold mxI; split <;> omega
theorem max2_mx (k k' : IntKind) (x y : Int) : Builtin.max2 (.int k x) (.int k' y) = pure (.int k (mxI x y)) := by simp only [Builtin.max2, gt_iff_lt, mxI]
theorem max_mx (ats : Array TypeId) (ty : TypeId) (a b : Value) : Builtin.max_ ats ty #[a, b] = (Builtin.max2 a b >>= fun s => pure s) := by simp only [Builtin.max_, List.foldlM_cons, List.foldlM_nil]
attribute [local go_sem] max2_mx max_mx
/-- a row of words of one's own, as wide as it is long -/
def OwnW (w : World) (g : Nat) (L : List Nat) : Prop := w.heap[g]? = some (.cells (L.map wd).toArray 215 (0, 0))
theorem OwnW.ws {w : World} {g : Nat} {L : List Nat} (h : OwnW w g L) (ho : DG.Ok L) (hl : L.length ≤ 100000) : Ws w (.slice (some ⟨g, 0, none⟩) L.length L.length) L := by
  refine ⟨_, _, rfl, Nat.le_refl _, hl, ho, .inr ⟨g, _, rfl, h, fun i hi => ?_⟩⟩
  simp [hi]
theorem OwnW.cell {w : World} {g : Nat} {L : List Nat} (h : OwnW w g L) {i : Nat} (hi : i < L.length) : w.cell? ⟨g, i, none⟩ = some (wd (L.getD i 0)) ∧ w.frozen? ⟨g, i, none⟩ = false := by
  have h' : w.heap[g]? = some (.cells (L.map wd).toArray 215 (0, 0)) := h
  refine ⟨?_, by simp [World.frozen?, h']⟩
  rw [cell_of_row _ _ _ _ _ _ h']
  simp [hi]
theorem OwnW.kept {w w' : World} {g : Nat} {L : List Nat} (h : OwnW w g L) (hk : ∀ k, k < w.heap.size → w'.heap[k]? = w.heap[k]?) : OwnW w' g L := (hk g (lt_of_block h)).trans h
theorem OwnW.below {w w' : World} {g : Nat} {L : List Nat} (h : OwnW w g L) (hb : Below w.heap.size w w') : OwnW w' g L := h.kept hb.block
theorem OwnW.set {w : World} {g : Nat} {L : List Nat} (h : OwnW w g L) (i y : Nat) : OwnW (w.setCell ⟨g, i, none⟩ (wd y)) g (L.set i y) := by
  unfold OwnW
  rw [heap_setCell_same w g i _ _ _ h]
  congr 2
  apply Array.ext'
  simp [List.map_set]
theorem set_zero (acc : List Nat) (m y : Nat) (hm : 0 < m) : (acc ++ List.replicate m 0).set acc.length y = (acc ++ [y]) ++ List.replicate (m - 1) 0 := by
  obtain ⟨m, rfl⟩ : ∃ k, m = k + 1 := ⟨m - 1, by omega⟩
  rw [List.set_append_right _ _ (Nat.le_refl _), Nat.sub_self, List.replicate_succ, List.set_cons_zero, List.append_assoc]
  rfl
theorem made_words (n : Nat) : madeCells (Value.int .u32 0).cells (n * 1) = ((List.replicate n 0).map wd).toArray := by
  apply Array.ext
  · simp [madeCells]
  · intro i h1 h2
    simp [madeCells, Value.cells, wd, Nat.mod_one]
theorem make_words (n : Nat) (hn : n ≤ 1000000) (W : World) : (Instr.makeSlice 169 (.int .i64 (n : Int)) (.int .i64 (n : Int))).run Tryz.prog W = .ok (.slice (some ⟨W.heap.size, 0, none⟩) n n) (W.alloc (.cells ((List.replicate n 0).map wd).toArray 215)) := by
  have := run_makeSlice (P := Tryz.prog) W 169 215 Tryz.t215 (.int .u32 0) Tryz.underlying169 (by kernel_rfl) (by kernel_rfl) .i64 .i64 (n : Int) (n : Int) (by omega) (Int.le_refl _) (by show (n : Int).toNat * 1 ≤ _; omega) (by show (4 : Int) * n ≤ _; omega) (by omega)
  rw [this]
  simp only [Int.toNat_natCast]
  rw [← made_words]
  rfl
set_option maxHeartbeats 2000000 in
theorem order_any {va vb : Value} {xs ys : List Nat} (w : World) (ha : Ws w va xs) (hb : Ws w vb ys) : Calls Tryz.prog 144 #[va, vb] w fun e w' => e = .returned (.int .i64 (DG.cmpN (DG.val xs) (DG.val ys))) ∧ w' = w := by
  have hlx := ha.len
  have hly := hb.len
  have hA := fun i h => at_any i w ha h
  have hB := fun i h => at_any i w hb h
  have hox := ha.ok
  have hoy := hb.ok
  obtain ⟨ao, ca, rfl⟩ := ha.slice
  obtain ⟨bo, cb, rfl⟩ := hb.slice
  have HA := Lib.hid hA
  have HB := Lib.hid hB
  clear ha hb hA hB
  have hmx := mxI_nat xs.length ys.length
  obtain ⟨M, hM⟩ : ∃ M, M = max xs.length ys.length := ⟨_, rfl⟩
  rw [← hM] at hmx
  have hcx : DG.cmpN (DG.val xs) (DG.val ys) = DG.cmpN (DG.val xs) (DG.val ys) := rfl
  have hfin : (∀ j, 0 ≤ j → xs.getD j 0 = ys.getD j 0) → DG.cmpN (DG.val xs) (DG.val ys) = 0 := fun h => by
    have := DG.eq_of_all (xs := xs) (ys := ys) fun i => h i (Nat.zero_le _)
    unfold DG.cmpN; rw [if_neg (by omega), if_neg (by omega)]
  have hlt : ∀ n, xs.getD n 0 < ys.getD n 0 → (∀ j, n < j → xs.getD j 0 = ys.getD j 0) → DG.cmpN (DG.val xs) (DG.val ys) = -1 := fun n h h2 => by
    have := DG.lt_of_top hox hoy h h2
    unfold DG.cmpN; rw [if_pos (by omega)]
  have hgt : ∀ n, ys.getD n 0 < xs.getD n 0 → (∀ j, n < j → xs.getD j 0 = ys.getD j 0) → DG.cmpN (DG.val xs) (DG.val ys) = 1 := fun n h h2 => by
    have := DG.lt_of_top hoy hox h fun j hj => (h2 j hj).symm
    unfold DG.cmpN; rw [if_neg (by omega), if_pos (by omega)]
  have hbx : ∀ j, M ≤ j → xs.getD j 0 = ys.getD j 0 := fun j hj => by rw [DG.beyond (by omega), DG.beyond (by omega)]
  have hM2 : M ≤ 100000 := by omega
  generalize DG.cmpN (DG.val xs) (DG.val ys) = r at *
  have HFIN := Lib.hid hfin
  have HLT := Lib.hid hlt
  have HGT := Lib.hid hgt
  have HBX := Lib.hid hbx
  clear hfin hlt hgt hbx hcx hox hoy hM hlx hly
  go_enter Tryz.func144, Tryz.ntmps144
  go_wp2_with fail
  go_loopw [5] (fun iv wr => ∃ n : Nat, n ≤ M ∧ iv = .int .i64 ((n : Int) - 1) ∧ wr = w ∧ ∀ j, n ≤ j → xs.getD j 0 = ys.getD j 0) (fun iv _ => (intOf iv + 1).toNat)
  case atStart => exact ⟨M, Nat.le_refl _, by go_num, rfl, HBX.out⟩
  case round =>
    obtain ⟨n, hn, rfl, rfl, hall⟩ := hrel
    have HALL := Lib.hid hall
    clear hall
    by_cases h0 : n = 0
    · subst h0
      have e0 : ((0 : Nat) : Int) - 1 = -1 := rfl
      rw [e0]
      clear e0
      go_wp2_with fail
      go_ret
      exact ⟨by rw [HFIN.out HALL.out]; rfl, rfl⟩
    · obtain ⟨m, rfl⟩ : ∃ m, n = m + 1 := ⟨n - 1, by omega⟩
      have e1 : ((m + 1 : Nat) : Int) - 1 = (m : Int) := by omega
      have hge : decide ((m : Int) ≥ 0) = true := decide_eq_true (by omega)
      have hX := HA.out m (by omega)
      have hY := HB.out m (by omega)
      have hLT := HLT.out m
      have hGT := HGT.out m
      have hcont : xs.getD m 0 = ys.getD m 0 → ∀ j, m ≤ j → xs.getD j 0 = ys.getD j 0 := fun h j hj => by
        rcases Nat.lt_or_ge m j with h2 | h2
        · exact HALL.out j h2
        · have : j = m := by omega
          subst this; exact h
      rw [e1]
      unfold wd at hX hY
      generalize xs.getD m 0 = x at *
      generalize ys.getD m 0 = y at *
      have HX := Lib.hid hX
      have HY := Lib.hid hY
      have HLT1 := Lib.hid hLT
      have HGT1 := Lib.hid hGT
      have HC := Lib.hid hcont
      clear hX hY hLT hGT hcont h0 e1
      go_wp2_with fail
      refine HX.out.mono ?_
      rintro e w1 ⟨rfl, rfl⟩
      go_wp2_with fail
      refine HY.out.mono ?_
      rintro e w1 ⟨rfl, rfl⟩
      rcases Nat.lt_trichotomy x y with h | h | h
      · have hd : decide (x < y) = true := decide_eq_true (by omega)
        have HR := Lib.hid (HLT1.out h fun j hj => HALL.out j hj)
        clear h
        go_wp2_with fail
        go_ret
        exact ⟨by rw [HR.out]; rfl, rfl⟩
      · have hd : decide (x < y) = false := decide_eq_false (by omega)
        have hd2 : decide (y < x) = false := decide_eq_false (by omega)
        have HR := Lib.hid (HC.out h)
        clear h
        go_wp2_with fail
        exact ⟨⟨m, by omega, by go_num, trivial, HR.out⟩, by simp [intOf] <;> omega⟩
      · have hd : decide (x < y) = false := decide_eq_false (by omega)
        have hd2 : decide (y < x) = true := decide_eq_true (by omega)
        have HR := Lib.hid (HGT1.out h fun j hj => HALL.out j hj)
        clear h
        go_wp2_with fail
        go_ret
        exact ⟨by rw [HR.out]; rfl, rfl⟩
set_option maxHeartbeats 4000000 in
theorem minus_own {va vb : Value} {xs ys : List Nat} (w : World) (ha : Ws w va xs) (hb : Ws w vb ys) (hle : DG.val ys ≤ DG.val xs) (hlen : ys.length ≤ xs.length) : Calls Tryz.prog 145 #[va, vb] w fun e w' => ∃ v zs, e = .returned v ∧ Ws w' v zs ∧ zs.length = xs.length ∧ DG.val zs = DG.val xs - DG.val ys ∧ Below w.heap.size w w' ∧ (∀ k, v.ownBlock = some k → w.heap.size ≤ k) := by
  have hlx := ha.len
  have hox := ha.ok
  have hoy := hb.ok
  have hfin : ∀ (acc : List Nat) (c : Nat), acc.length = xs.length → DG.Ok acc → c ≤ 1 → DG.val acc + DG.low ys acc.length = DG.low xs acc.length + DG.b ^ acc.length * c → DG.val acc = DG.val xs - DG.val ys := fun acc c hl ho hc hv => by
    rw [DG.low_all xs (by omega), DG.low_all ys (by omega)] at hv
    have hlt := DG.val_lt ho
    rcases Nat.eq_zero_or_pos c with h | h
    · subst h; omega
    · have : c = 1 := by omega
      subst this
      omega
  have hstep : ∀ (acc : List Nat) (c : Nat), c ≤ 1 → DG.val acc + DG.low ys acc.length = DG.low xs acc.length + DG.b ^ acc.length * c → ∃ d c', (if xs.getD acc.length 0 < c + ys.getD acc.length 0 then xs.getD acc.length 0 + 4294967296 - (c + ys.getD acc.length 0) else xs.getD acc.length 0 - (c + ys.getD acc.length 0)) = d ∧ (if xs.getD acc.length 0 < c + ys.getD acc.length 0 then 1 else 0) = c' ∧ d < DG.b ∧ c' ≤ 1 ∧ DG.val (acc ++ [d]) + DG.low ys (acc ++ [d]).length = DG.low xs (acc ++ [d]).length + DG.b ^ (acc ++ [d]).length * c' := fun acc c hc hv => by
    obtain ⟨h1, h2, h3⟩ := DG.minus_step hox hoy hc hv
    exact ⟨_, _, rfl, rfl, h1, by split <;> omega, h3⟩
  have hgx := fun i => hox.get i
  have hgy := fun i => hoy.get i
  have h00 : DG.val [] + DG.low ys ([] : List Nat).length = DG.low xs ([] : List Nat).length + DG.b ^ ([] : List Nat).length * 0 := by simp [DG.val, DG.low_zero]
  rw [DG.b_eq] at hgx hgy
  have hcx := fun i (hi : i < xs.length) => ha
  have HWA := Lib.hid ha
  have HWB := Lib.hid hb
  obtain ⟨ao, ca, rfl⟩ := ha.slice
  obtain ⟨bo, cb, rfl⟩ := hb.slice
  have hmk := make_words xs.length (by omega)
  have HFIN := Lib.hid hfin
  have HST := Lib.hid hstep
  have HGX := Lib.hid hgx
  have HGY := Lib.hid hgy
  have H00 := Lib.hid h00
  have hown : OwnW (w.alloc (.cells ((List.replicate xs.length 0).map wd).toArray 215)) w.heap.size (List.replicate xs.length 0) := heap_alloc_new w _
  have hbel : Below w.heap.size w (w.alloc (.cells ((List.replicate xs.length 0).map wd).toArray 215)) := (Below.refl _ _).alloc (Nat.le_refl _) _
  have HOWN := Lib.hid hown
  have HBEL := Lib.hid hbel
  clear ha hb hcx hox hoy hfin hstep hgx hgy h00 hown hbel hle hlen
  generalize hob : (Obj.cells ((List.replicate xs.length 0).map wd).toArray 215) = ob at *
  go_enter Tryz.func145, Tryz.ntmps145
  go_wp2_with fail
  generalize hw0 : w.alloc ob = w0 at *
  have HW0 := Lib.hid hw0
  clear hw0 hmk hob
  go_loopw [6, 13] (fun l k wr => ∃ (acc : List Nat) (c : Nat), k = .int .i64 acc.length ∧ l = .int .u32 c ∧ acc.length ≤ xs.length ∧ DG.Ok acc ∧ c ≤ 1 ∧ DG.val acc + DG.low ys acc.length = DG.low xs acc.length + DG.b ^ acc.length * c ∧ OwnW wr w.heap.size (acc ++ List.replicate (xs.length - acc.length) 0) ∧ Below w.heap.size w wr) (fun _ k _ => xs.length - (intOf k).toNat)
  case atStart => exact ⟨[], 0, rfl, rfl, Nat.zero_le _, DG.Ok.nil, by omega, H00.out, HOWN.out, HBEL.out⟩
  case round =>
    obtain ⟨acc, c, rfl, rfl, hal, hok, hc, hv, hO, hW⟩ := hrel
    by_cases hlt : acc.length < xs.length
    · have hdl : decide (acc.length < xs.length) = true := decide_eq_true hlt
      obtain ⟨d, c', hd1, hd2, hdb, hc1, hv1⟩ := HST.out acc c hc hv
      obtain ⟨g, rfl, hcx, cs, hgc⟩ := (HWA.out.below hW).cell hlt
      have hgl := lt_of_block hgc
      have hB := fun w1 (h : Below wr.heap.size wr w1) => at_any acc.length w1 ((HWB.out.below hW).below h) (by omega)
      have hS := fun w1 => sub32_any (xs.getD acc.length 0) (ys.getD acc.length 0) c w1 (HGX.out _) (HGY.out _) hc
      rw [hd1, hd2] at hS
      have hset := fun wa (h : OwnW wa w.heap.size (acc ++ List.replicate (xs.length - acc.length) 0)) => h.set acc.length d
      have hsz := set_zero acc (xs.length - acc.length) d (by omega)
      rw [hsz] at hset
      have hlen1 : (acc ++ [d]).length = acc.length + 1 := by simp
      have hsub : xs.length - acc.length - 1 = xs.length - (acc ++ [d]).length := by omega
      rw [hsub] at hset
      have hO1 := hO.below (Below.refl wr.heap.size wr).drew
      obtain ⟨hz1, hz2⟩ := hO1.cell (i := acc.length) (by simp; omega)
      have hset1 := hset _ hO1
      have hwsz : w.heap.size < wr.heap.size := lt_of_block hO
      unfold wd at hcx hB hS hset1 hz1
      clear hset hsz hsub hd1 hd2 hgc cs
      generalize xs.getD acc.length 0 = x at *
      generalize ys.getD acc.length 0 = y at *
      have HV1 := Lib.hid hv1
      have HCX := Lib.hid hcx
      have HB := Lib.hid hB
      have HS := Lib.hid hS
      have HSET1 := Lib.hid hset1
      have HL1 := Lib.hid hlen1
      have HOK1 := Lib.hid (hok.snoc hdb)
      clear hv1 hcx hB hS hset1 hv hlen1 hO1 hok
      go_wp2_with fail
      refine wp_region_till (k := 15) (S := fun w' => Below wr.heap.size wr w') (by kernel_rfl) ?_
      have hHeld : Below wr.heap.size wr wr.drew := (Below.refl _ _).drew
      (refine rt_yes 0 ?v1 (by simp only [List.getElem?_toArray, List.getElem?_cons_succ, List.getElem?_cons_zero]; rfl) (by kernel_rfl) (by kernel_rfl) (by kernel_rfl) (by kernel_rfl) (by exact fun _ _ _ h => h) (by kernel_rfl) (by exact fun _ => hHeld) ?y1 ?z1; case y1 => (intro w; go_simp; (try (rw [if_neg (by omega)])); (try with_reducible rfl)))
      (try simp only [Act.put, List.setIfInBounds_toArray, List.set_cons_zero, List.set_cons_succ])
      (refine rt_yes 1 ?v2 (by simp only [List.getElem?_toArray, List.getElem?_cons_succ, List.getElem?_cons_zero]; rfl) (by kernel_rfl) (by kernel_rfl) (by kernel_rfl) (by kernel_rfl) (by exact fun _ _ _ h => h) (by kernel_rfl) (by exact fun _ => hHeld) ?y2 ?z2; case y2 => (intro w; go_simp; (try (rw [if_neg (by omega)])); (try with_reducible rfl)))
      (try simp only [Act.put, List.setIfInBounds_toArray, List.set_cons_zero, List.set_cons_succ])
      (refine rt_yes 2 ?v3 (by simp only [List.getElem?_toArray, List.getElem?_cons_succ, List.getElem?_cons_zero]; rfl) (by kernel_rfl) (by kernel_rfl) (by kernel_rfl) (by kernel_rfl) (by exact fun _ _ _ h => h) (by kernel_rfl) (by exact fun _ => hHeld) ?y3 ?z3; case y3 => (intro w; go_simp; (try (rw [if_neg (by omega)])); (try with_reducible rfl)))
      (try simp only [Act.put, List.setIfInBounds_toArray, List.set_cons_zero, List.set_cons_succ])
      (refine rt_yes 3 ?v4 (by simp only [List.getElem?_toArray, List.getElem?_cons_succ, List.getElem?_cons_zero]; rfl) (by kernel_rfl) (by kernel_rfl) (by kernel_rfl) (by kernel_rfl) (by exact fun _ _ _ h => h) (by kernel_rfl) (by exact fun _ => hHeld) ?y4 ?z4; case y4 => (intro w; go_simp; (try (rw [if_neg (by omega)])); (try with_reducible rfl)))
      (try simp only [Act.put, List.setIfInBounds_toArray, List.set_cons_zero, List.set_cons_succ])
      (refine rt_yes 4 ?v5 (by simp only [List.getElem?_toArray, List.getElem?_cons_succ, List.getElem?_cons_zero]; rfl) (by kernel_rfl) (by kernel_rfl) (by kernel_rfl) (by kernel_rfl) (by exact fun _ _ _ h => h) (by kernel_rfl) (by exact fun _ => hHeld) ?y5 ?z5; case y5 => (intro w; go_simp; (try (rw [if_neg (by omega)])); (try with_reducible rfl)))
      (try simp only [Act.put, List.setIfInBounds_toArray, List.set_cons_zero, List.set_cons_succ])
      refine rt_load 5 _ (by simp only [List.getElem?_toArray, List.getElem?_cons_succ, List.getElem?_cons_zero]; rfl) (by kernel_rfl) (by kernel_rfl) (by kernel_rfl) (by kernel_rfl) (by kernel_rfl) (by kernel_rfl) (by exact fun _ _ _ h => h) (by kernel_rfl) hHeld (fun w' hS => (exec_load_at ((cell_kept (hS.block g hgl)).trans HCX.out) rfl rfl (fun w => by kernel_rfl))) ?_
      (try simp only [Act.put, List.setIfInBounds_toArray, List.set_cons_zero, List.set_cons_succ])
      (refine rt_yes 6 ?v6 (by simp only [List.getElem?_toArray, List.getElem?_cons_succ, List.getElem?_cons_zero]; rfl) (by kernel_rfl) (by kernel_rfl) (by kernel_rfl) (by kernel_rfl) (by exact fun _ _ _ h => h) (by kernel_rfl) (by exact fun _ => hHeld) ?y6 ?z6; case y6 => (intro w; go_simp; (try (rw [if_neg (by omega)])); (try with_reducible rfl)))
      (try simp only [Act.put, List.setIfInBounds_toArray, List.set_cons_zero, List.set_cons_succ])
      (refine rt_yes 7 ?v7 (by simp only [List.getElem?_toArray, List.getElem?_cons_succ, List.getElem?_cons_zero]; rfl) (by kernel_rfl) (by kernel_rfl) (by kernel_rfl) (by kernel_rfl) (by exact fun _ _ _ h => h) (by kernel_rfl) (by exact fun _ => hHeld) ?y7 ?z7; case y7 => (intro w; go_simp; (try (rw [if_neg (by omega)])); (try with_reducible rfl)))
      (try simp only [Act.put, List.setIfInBounds_toArray, List.set_cons_zero, List.set_cons_succ])
      (refine rt_yes 9 ?v8 (by simp only [List.getElem?_toArray, List.getElem?_cons_succ, List.getElem?_cons_zero]; rfl) (by kernel_rfl) (by kernel_rfl) (by kernel_rfl) (by kernel_rfl) (by exact fun _ _ _ h => h) (by kernel_rfl) (by exact fun _ => hHeld) ?y8 ?z8; case y8 => (intro w; go_simp; (try (rw [if_neg (by omega)])); (try with_reducible rfl)))
      (try simp only [Act.put, List.setIfInBounds_toArray, List.set_cons_zero, List.set_cons_succ])
      refine rt_call 8 _ _ (by simp only [List.getElem?_toArray, List.getElem?_cons_succ, List.getElem?_cons_zero]; rfl) (by kernel_rfl) (by kernel_rfl) (fun w => by go_simp; exact ⟨rfl, rfl⟩) ?_
      refine (HB.out _ hHeld).mono ?_
      rintro e w5 ⟨rfl, rfl⟩
      refine ⟨_, rfl, fun _ => hHeld, ?_⟩
      (try simp only [Act.put, List.setIfInBounds_toArray, List.set_cons_zero, List.set_cons_succ])
      refine rt_call 10 _ _ (by simp only [List.getElem?_toArray, List.getElem?_cons_succ, List.getElem?_cons_zero]; rfl) (by kernel_rfl) (by kernel_rfl) (fun w => by go_simp; exact ⟨rfl, rfl⟩) ?_
      refine (HS.out _).mono ?_
      rintro e w6 ⟨rfl, rfl⟩
      refine ⟨_, rfl, fun _ => hHeld, ?_⟩
      (try simp only [Act.put, List.setIfInBounds_toArray, List.set_cons_zero, List.set_cons_succ])
      (refine rt_yes 11 ?v9 (by simp only [List.getElem?_toArray, List.getElem?_cons_succ, List.getElem?_cons_zero]; rfl) (by kernel_rfl) (by kernel_rfl) (by kernel_rfl) (by kernel_rfl) (by exact fun _ _ _ h => h) (by kernel_rfl) (by exact fun _ => hHeld) ?y9 ?z9; case y9 => (intro w; go_simp; (try (rw [if_neg (by omega)])); (try with_reducible rfl)))
      (try simp only [Act.put, List.setIfInBounds_toArray, List.set_cons_zero, List.set_cons_succ])
      (refine rt_yes 12 ?v10 (by simp only [List.getElem?_toArray, List.getElem?_cons_succ, List.getElem?_cons_zero]; rfl) (by kernel_rfl) (by kernel_rfl) (by kernel_rfl) (by kernel_rfl) (by exact fun _ _ _ h => h) (by kernel_rfl) (by exact fun _ => hHeld) ?y10 ?z10; case y10 => (intro w; go_simp; (try (rw [if_neg (by omega)])); (try with_reducible rfl)))
      (try simp only [Act.put, List.setIfInBounds_toArray, List.set_cons_zero, List.set_cons_succ])
      (refine rt_yes 13 ?v11 (by simp only [List.getElem?_toArray, List.getElem?_cons_succ, List.getElem?_cons_zero]; rfl) (by kernel_rfl) (by kernel_rfl) (by kernel_rfl) (by kernel_rfl) (by exact fun _ _ _ h => h) (by kernel_rfl) (by exact fun _ => hHeld) ?y11 ?z11; case y11 => (intro w; go_simp; (try (rw [if_neg (by omega)])); (try with_reducible rfl)))
      (try simp only [Act.put, List.setIfInBounds_toArray, List.set_cons_zero, List.set_cons_succ])
      (refine rt_yes 14 ?v12 (by simp only [List.getElem?_toArray, List.getElem?_cons_succ, List.getElem?_cons_zero]; rfl) (by kernel_rfl) (by kernel_rfl) (by kernel_rfl) (by kernel_rfl) (by exact fun _ _ _ h => h) (by kernel_rfl) (by exact fun _ => hHeld) ?y12 ?z12; case y12 => (intro w; go_simp; (try (rw [if_neg (by omega)])); (try with_reducible rfl)))
      (try simp only [Act.put, List.setIfInBounds_toArray, List.set_cons_zero, List.set_cons_succ])
      refine rt_skip 15 (wr.drew.setCell ⟨w.heap.size, acc.length, none⟩ (.int .u32 (d : Int))) (by simp only [List.getElem?_toArray, List.getElem?_cons_succ, List.getElem?_cons_zero]; rfl) (by kernel_rfl) (by kernel_rfl) (by go_simp) (till_past (by kernel_rfl)) ?_
      (try simp only [Act.put, List.setIfInBounds_toArray, List.set_cons_zero, List.set_cons_succ])
      (refine rt_yes 16 ?v13 (by simp only [List.getElem?_toArray, List.getElem?_cons_succ, List.getElem?_cons_zero]; rfl) (by kernel_rfl) (by kernel_rfl) (by kernel_rfl) (by kernel_rfl) (by exact fun _ _ _ h => h) (by kernel_rfl) (by exact till_past (by kernel_rfl)) ?y13 ?z13; case y13 => (intro w; go_simp; (try (rw [if_neg (by omega)])); (try with_reducible rfl)))
      (try simp only [Act.put, List.setIfInBounds_toArray, List.set_cons_zero, List.set_cons_succ])
      refine rt_done (by kernel_rfl) ?_ _
      have hW2 : Below w.heap.size w (wr.drew.setCell ⟨w.heap.size, acc.length, none⟩ (.int .u32 (d : Int))) := hW.drew.setCell (Nat.le_refl _) _
      generalize wr.drew.setCell ⟨w.heap.size, acc.length, none⟩ (.int .u32 (d : Int)) = w9 at *
      go_wp2_with fail
      exact ⟨⟨acc ++ [d], c', by rw [HL1.out]; go_num, rfl, by rw [HL1.out]; omega, HOK1.out, hc1, HV1.out, HSET1.out, hW2⟩, by simp [intOf]; omega⟩
    · have hdl : decide (acc.length < xs.length) = false := decide_eq_false hlt
      have hl : acc.length = xs.length := by omega
      have hfin := HFIN.out acc c hl hok hc hv
      rw [hl, Nat.sub_self, List.replicate_zero, List.append_nil] at hO
      have hws := hO.ws hok (by omega)
      rw [hl] at hws
      have HF := Lib.hid hfin
      have HWS := Lib.hid hws
      clear hfin hws hv hO hok
      go_wp2_with fail
      go_ret
      exact ⟨_, acc, rfl, HWS.out, hl, HF.out, hW, fun k hk => Nat.le_of_eq (Option.some.inj hk)⟩
theorem minus_any {va vb : Value} {xs ys : List Nat} (w : World) (ha : Ws w va xs) (hb : Ws w vb ys) (hle : DG.val ys ≤ DG.val xs) (hlen : ys.length ≤ xs.length) : Calls Tryz.prog 145 #[va, vb] w fun e w' => ∃ v zs, e = .returned v ∧ Ws w' v zs ∧ zs.length = xs.length ∧ DG.val zs = DG.val xs - DG.val ys ∧ Below w.heap.size w w' := by
  refine (minus_own w ha hb hle hlen).mono ?_
  rintro e w' ⟨v, zs, h1, h2, h3, h4, h5, h6⟩
  exact ⟨v, zs, h1, h2, h3, h4, h5⟩
set_option maxHeartbeats 4000000 in
theorem plus_own {va vb : Value} {xs ys : List Nat} (w : World) (ha : Ws w va xs) (hb : Ws w vb ys) (hlm : max xs.length ys.length ≤ 99999) : Calls Tryz.prog 143 #[va, vb] w fun e w' => ∃ v zs, e = .returned v ∧ Ws w' v zs ∧ DG.val zs = DG.val xs + DG.val ys ∧ Below w.heap.size w w' ∧ (∀ k, v.ownBlock = some k → w.heap.size ≤ k) := by
  have hox := ha.ok
  have hoy := hb.ok
  have hmx := mxI_nat xs.length ys.length
  obtain ⟨M, hM⟩ : ∃ M, M = max xs.length ys.length := ⟨_, rfl⟩
  rw [← hM] at hmx hlm
  have hfin : ∀ (acc : List Nat) (c : Nat), acc.length = M → DG.val acc + DG.b ^ acc.length * c = DG.low xs acc.length + DG.low ys acc.length → DG.val (acc ++ [c]) = DG.val xs + DG.val ys := fun acc c hl hv => by
    rw [DG.low_all xs (by omega), DG.low_all ys (by omega)] at hv
    rw [DG.val_snoc, hv]
  have hstep : ∀ (acc : List Nat) (c : Nat), c ≤ 1 → DG.val acc + DG.b ^ acc.length * c = DG.low xs acc.length + DG.low ys acc.length → ∃ d c', (xs.getD acc.length 0 + ys.getD acc.length 0 + c) % 4294967296 = d ∧ (xs.getD acc.length 0 + ys.getD acc.length 0 + c) / 4294967296 = c' ∧ d < DG.b ∧ c' ≤ 1 ∧ DG.val (acc ++ [d]) + DG.b ^ (acc ++ [d]).length * c' = DG.low xs (acc ++ [d]).length + DG.low ys (acc ++ [d]).length := fun acc c hc hv => by
    obtain ⟨h1, h2, h3⟩ := DG.plus_step hox hoy hc hv
    have e : xs.getD acc.length 0 + ys.getD acc.length 0 + c = c + xs.getD acc.length 0 + ys.getD acc.length 0 := by omega
    rw [e]
    exact ⟨_, _, rfl, rfl, Nat.mod_lt _ DG.b_pos, h2, h3⟩
  have hgx := fun i => hox.get i
  have hgy := fun i => hoy.get i
  have h00 : DG.val [] + DG.b ^ ([] : List Nat).length * 0 = DG.low xs ([] : List Nat).length + DG.low ys ([] : List Nat).length := by simp [DG.val, DG.low_zero]
  rw [DG.b_eq] at hgx hgy
  have HWA := Lib.hid ha
  have HWB := Lib.hid hb
  obtain ⟨ao, ca, rfl⟩ := ha.slice
  obtain ⟨bo, cb, rfl⟩ := hb.slice
  have hmk := make_words (M + 1) (by omega)
  have hM1 : ((M + 1 : Nat) : Int) = (M : Int) + 1 := by omega
  rw [hM1] at hmk
  have HFIN := Lib.hid hfin
  have HST := Lib.hid hstep
  have HGX := Lib.hid hgx
  have HGY := Lib.hid hgy
  have H00 := Lib.hid h00
  have hown : OwnW (w.alloc (.cells ((List.replicate (M + 1) 0).map wd).toArray 215)) w.heap.size (List.replicate (M + 1) 0) := heap_alloc_new w _
  have hbel : Below w.heap.size w (w.alloc (.cells ((List.replicate (M + 1) 0).map wd).toArray 215)) := (Below.refl _ _).alloc (Nat.le_refl _) _
  have HOWN := Lib.hid hown
  have HBEL := Lib.hid hbel
  clear ha hb hox hoy hfin hstep hgx hgy h00 hown hbel hM hM1
  generalize hob : (Obj.cells ((List.replicate (M + 1) 0).map wd).toArray 215) = ob at *
  go_enter Tryz.func143, Tryz.ntmps143
  go_wp2_with fail
  generalize hw0 : w.alloc ob = w0 at *
  have HW0 := Lib.hid hw0
  clear hw0 hmk hob
  go_loopw [7, 18] (fun l k wr => ∃ (acc : List Nat) (c : Nat), k = .int .i64 acc.length ∧ l = .int .u32 c ∧ acc.length ≤ M ∧ DG.Ok acc ∧ c ≤ 1 ∧ DG.val acc + DG.b ^ acc.length * c = DG.low xs acc.length + DG.low ys acc.length ∧ OwnW wr w.heap.size (acc ++ List.replicate (M + 1 - acc.length) 0) ∧ Below w.heap.size w wr) (fun _ k _ => M - (intOf k).toNat)
  case atStart => exact ⟨[], 0, rfl, rfl, Nat.zero_le _, DG.Ok.nil, by omega, H00.out, HOWN.out, HBEL.out⟩
  case round =>
    obtain ⟨acc, c, rfl, rfl, hal, hok, hc, hv, hO, hW⟩ := hrel
    have hsz := fun d => set_zero acc (M + 1 - acc.length) d (by omega)
    obtain ⟨hz1, hz2⟩ := hO.cell (i := acc.length) (by simp; omega)
    have hset := fun d => hO.set acc.length d
    by_cases hlt : acc.length < M
    · have hdl : decide (acc.length < M) = true := decide_eq_true hlt
      obtain ⟨d, c', hd1, hd2, hdb, hc1, hv1⟩ := HST.out acc c hc hv
      have hA := at_any acc.length wr (HWA.out.below hW) (by omega)
      have hB := at_any acc.length wr (HWB.out.below hW) (by omega)
      have hS := add32_any (xs.getD acc.length 0) (ys.getD acc.length 0) c wr (HGX.out _) (HGY.out _) (by omega)
      rw [hd1, hd2] at hS
      have hset1 := hset d
      have hlen1 : (acc ++ [d]).length = acc.length + 1 := by simp
      rw [hsz, show M + 1 - acc.length - 1 = M + 1 - (acc ++ [d]).length by omega] at hset1
      have hwsz : w.heap.size < wr.heap.size := lt_of_block hO
      have hW2 : Below w.heap.size w (wr.setCell ⟨w.heap.size, acc.length, none⟩ (wd d)) := hW.setCell (Nat.le_refl _) _
      unfold wd at hA hB hS hset1 hz1 hW2
      clear hset hsz hd1 hd2
      generalize xs.getD acc.length 0 = x at *
      generalize ys.getD acc.length 0 = y at *
      have HV1 := Lib.hid hv1
      have HA := Lib.hid hA
      have HB := Lib.hid hB
      have HS := Lib.hid hS
      have HSET1 := Lib.hid hset1
      have HL1 := Lib.hid hlen1
      have HW2 := Lib.hid hW2
      have HOK1 := Lib.hid (hok.snoc hdb)
      clear hv1 hA hB hS hset1 hv hlen1 hO hok hW2
      go_wp2_with fail
      refine HA.out.mono ?_
      rintro e w5 ⟨rfl, rfl⟩
      go_wp2_with fail
      refine HB.out.mono ?_
      rintro e w6 ⟨rfl, rfl⟩
      go_wp2_with fail
      refine HS.out.mono ?_
      rintro e w7 ⟨rfl, rfl⟩
      go_wp2_with fail
      generalize w7.setCell ⟨w.heap.size, acc.length, none⟩ (.int .u32 (d : Int)) = w9 at *
      exact ⟨⟨acc ++ [d], c', by rw [HL1.out]; go_num, rfl, by rw [HL1.out]; omega, HOK1.out, hc1, HV1.out, HSET1.out, HW2.out⟩, by simp [intOf]; omega⟩
    · have hdl : decide (acc.length < M) = false := decide_eq_false hlt
      have hl : acc.length = M := by omega
      have hfin := HFIN.out acc c hl hv
      have hset1 := hset c
      rw [hsz, show M + 1 - acc.length - 1 = 0 by omega, List.replicate_zero, List.append_nil] at hset1
      have hws := hset1.ws (hok.snoc (by rw [DG.b_eq]; omega)) (by simp; omega)
      have hlen1 : (acc ++ [c]).length = M + 1 := by simp; omega
      rw [hlen1] at hws
      have hW2 : Below w.heap.size w (wr.setCell ⟨w.heap.size, acc.length, none⟩ (wd c)) := hW.setCell (Nat.le_refl _) _
      unfold wd at hws hz1 hW2
      rw [hl] at hws hz1 hz2 hW2
      have HF := Lib.hid hfin
      have HWS := Lib.hid hws
      have HW2 := Lib.hid hW2
      clear hfin hws hv hO hok hset1 hset hsz hW2 hlen1
      go_wp2_with fail
      go_ret
      exact ⟨_, acc ++ [c], rfl, HWS.out, HF.out, HW2.out, fun k hk => Nat.le_of_eq (Option.some.inj hk)⟩
theorem plus_any {va vb : Value} {xs ys : List Nat} (w : World) (ha : Ws w va xs) (hb : Ws w vb ys) (hlm : max xs.length ys.length ≤ 99999) : Calls Tryz.prog 143 #[va, vb] w fun e w' => ∃ v zs, e = .returned v ∧ Ws w' v zs ∧ DG.val zs = DG.val xs + DG.val ys ∧ Below w.heap.size w w' := by
  refine (plus_own w ha hb hlm).mono ?_
  rintro e w' ⟨v, zs, h1, h2, h3, h4, h5⟩
  exact ⟨v, zs, h1, h2, h3, h4⟩
end Go.Proofs.YtmepjcnpbjdlkaaGreatDoor
/- big: a whole number in memory; to, NewInt by contract. -/
namespace Go.Proofs.YtmepjcnpbjdlkaaGreatDoor
set_option linter.unusedVariables false
set_option linter.unusedSimpArgs false
open Go.RowKit
attribute [local irreducible] Go.wpStill

/-- a whole number: whether it is below 0, and its size -/
def BigAt (w : World) (p : Nat) (s : Bool) (m : Nat) : Prop := ∃ v, w.heap[p]? = some (.cells #[.bool s, v] 171 (0, 0)) ∧ Ws w v (DG.dig m)
/-- its words lie in blocks from B on -/
def BigFrom (B : Nat) (w : World) (p : Nat) (s : Bool) (m : Nat) : Prop := ∃ v, w.heap[p]? = some (.cells #[.bool s, v] 171 (0, 0)) ∧ Ws w v (DG.dig m) ∧ ∀ k, v.ownBlock = some k → B ≤ k
theorem BigFrom.at {B : Nat} {w : World} {p : Nat} {s : Bool} {m : Nat} (h : BigFrom B w p s m) : BigAt w p s m := by
  obtain ⟨v, h1, h2, _⟩ := h
  exact ⟨v, h1, h2⟩
theorem BigFrom.below {B : Nat} {w w' : World} {p : Nat} {s : Bool} {m : Nat} (h : BigFrom B w p s m) (hb : Below w.heap.size w w') : BigFrom B w' p s m := by
  obtain ⟨v, h1, h2, h3⟩ := h
  exact ⟨v, (hb.block p (lt_of_block h1)).trans h1, h2.below hb, h3⟩
theorem BigFrom.low {B B' : Nat} {w : World} {p : Nat} {s : Bool} {m : Nat} (h : BigFrom B w p s m) (hB : B' ≤ B) : BigFrom B' w p s m := by
  obtain ⟨v, h1, h2, h3⟩ := h
  exact ⟨v, h1, h2, fun k hk => Nat.le_trans hB (h3 k hk)⟩
/-- a block ahead of B is turned -/
theorem BigFrom.past {B g : Nat} {w w' : World} {p : Nat} {s : Bool} {m : Nat} (h : BigFrom B w p s m) (hg : g < B) (hp : p ≠ g) (hk : ∀ k, k ≠ g → w'.heap[k]? = w.heap[k]?) : BigFrom B w' p s m := by
  obtain ⟨v, h1, ⟨ao, cap, h2, h4, h5, h6, h7⟩, h3⟩ := h
  refine ⟨v, (hk p hp).trans h1, ⟨ao, cap, h2, h4, h5, h6, ?_⟩, h3⟩
  rcases h7 with h7 | ⟨b, cs, h8, h9, h10⟩
  · exact .inl h7
  · refine .inr ⟨b, cs, h8, (hk b ?_).trans h9, h10⟩
    have := h3 b (by rw [h2, h8]; rfl)
    omega
theorem BigAt.keep {w w' : World} {p : Nat} {s : Bool} {m : Nat} (h : BigAt w p s m) (hp : w'.heap[p]? = w.heap[p]?) (hk : KeepsW w w') : BigAt w' p s m := by
  obtain ⟨v, h1, h2⟩ := h
  exact ⟨v, hp.trans h1, h2.keep hk⟩
theorem BigAt.below {w w' : World} {p : Nat} {s : Bool} {m : Nat} (h : BigAt w p s m) (hb : Below w.heap.size w w') : BigAt w' p s m := by
  obtain ⟨v, h1, h2⟩ := h
  exact ⟨v, (hb.block p (lt_of_block h1)).trans h1, h2.below hb⟩
theorem BigAt.lt {w : World} {p : Nat} {s : Bool} {m : Nat} (h : BigAt w p s m) : p < w.heap.size := by
  obtain ⟨v, h1, h2⟩ := h
  exact lt_of_block h1
theorem BigAt.keeps {w w' : World} {p : Nat} {s : Bool} {m : Nat} (h : BigAt w p s m) (hg : w.grownBy w' (some p)) : KeepsW w w' := by
  obtain ⟨v, h1, h2⟩ := h
  exact KeepsW.grown hg h1 (by decide)
/-- another number is turned -/
theorem BigAt.other {w w' : World} {p q : Nat} {s t : Bool} {m n : Nat} (h : BigAt w p s m) (hq : BigAt w q t n) (hg : w.grownBy w' (some q)) (hne : p ≠ q) : BigAt w' p s m :=
  h.keep (hg.block p h.lt (fun e => hne (by injection e))) (hq.keeps hg)
theorem BigAt.new (w : World) : BigAt (w.alloc (.cells #[.bool false, .slice none 0 0] 171)) w.heap.size false 0 := ⟨_, heap_alloc_new w _, by rw [DG.dig_zero]; exact Ws.nil _⟩
theorem Ws.take {w : World} {ao : Option Addr} {n cap : Nat} {ds : List Nat} (h : Ws w (.slice ao n cap) ds) (k : Nat) (hk : k ≤ ds.length) : Ws w (.slice ao k cap) (ds.take k) := by
  obtain ⟨ao', cap', h1, h2, h3, h4, h5⟩ := h
  injection h1 with h1 h6 h7
  subst h1
  subst h7
  have hl : (ds.take k).length = k := by rw [List.length_take]; omega
  refine ⟨ao, cap, by rw [hl], by omega, by omega, h4.take k, ?_⟩
  rcases h5 with h5 | ⟨g, cs, h5, h6, h7⟩
  · left; subst h5; simp
  · refine .inr ⟨g, cs, h5, h6, fun i hi => ?_⟩
    rw [h7 i (by omega)]
    congr 2
    rw [List.getD_eq_getElem?_getD, List.getD_eq_getElem?_getD, List.getElem?_take_of_lt (by omega)]
/-- a slice's length -/
def lenOf : Value → Nat
  | .slice _ n _ => n
  | _ => 0
set_option maxHeartbeats 4000000 in
theorem to_own {p : Nat} {x y : Value} {v : Value} {ds : List Nat} (B : Nat) (s : Bool) (w : World) (hp : w.heap[p]? = some (.cells #[x, y] 171 (0, 0))) (hv : Ws w v ds) (hB : ∀ k, v.ownBlock = some k → B ≤ k) : Calls Tryz.prog 140 #[.pointer (some ⟨p, 0, none⟩), .bool s, v] w fun e w' => e = .returned (.pointer (some ⟨p, 0, none⟩)) ∧ BigFrom B w' p (s && decide (0 < DG.val ds)) (DG.val ds) ∧ w.grownBy w' (some p) := by
  have hlen := hv.len
  have hok := hv.ok
  have HV := Lib.hid hv
  obtain ⟨ao, ca, hv1, hca, _⟩ := hv
  subst hv1
  have hc1 : w.cell? ⟨p, 1, none⟩ = some y := by rw [cell_of_row _ _ _ _ _ _ hp]; rfl
  have hf1 : w.frozen? ⟨p, 1, none⟩ = false := by simp [World.frozen?, hp]
  have hc0 : ∀ u, (w.setCell ⟨p, 1, none⟩ u).cell? ⟨p, 0, none⟩ = some x := fun u => by
    rw [cell_of_row _ _ _ _ _ _ (heap_setCell_same w p 1 _ _ u hp)]; rfl
  have hf0 : ∀ u, (w.setCell ⟨p, 1, none⟩ u).frozen? ⟨p, 0, none⟩ = false := fun u => by
    simp [World.frozen?, heap_setCell_same w p 1 _ _ u hp]
  have hfin : ∀ (n : Nat) (b : Bool), n ≤ ds.length → (∀ i, n ≤ i → ds.getD i 0 = 0) → (n = 0 ∨ ds.getD (n - 1) 0 ≠ 0) → b = (s && decide (0 < n)) → BigFrom B ((w.setCell ⟨p, 1, none⟩ (.slice ao n ca)).setCell ⟨p, 0, none⟩ (.bool b)) p (s && decide (0 < DG.val ds)) (DG.val ds) ∧ w.grownBy ((w.setCell ⟨p, 1, none⟩ (.slice ao n ca)).setCell ⟨p, 0, none⟩ (.bool b)) (some p) := by
    intro n b hn hz hl hb
    have ht := DG.dig_take hok hn hz hl
    have hs : (decide (0 < DG.val ds)) = decide (0 < n) := by
      congr 1
      apply propext
      have h1 : (DG.dig (DG.val ds)).length = n := by rw [← ht, List.length_take]; omega
      constructor
      · intro h
        rw [DG.dig_pos (by omega)] at h1
        simp at h1; omega
      · intro h
        rcases Nat.eq_zero_or_pos (DG.val ds) with h2 | h2
        · rw [h2, DG.dig_zero] at h1; simp at h1; omega
        · exact h2
    rw [hs, ← hb]
    have h1 := heap_setCell_same w p 1 _ _ (.slice ao n ca) hp
    have h2 := heap_setCell_same _ p 0 _ _ (.bool b) h1
    have hg : w.grownBy ((w.setCell ⟨p, 1, none⟩ (.slice ao n ca)).setCell ⟨p, 0, none⟩ (.bool b)) (some p) := ⟨rfl, rfl, rfl, by simp, fun k hk hne => by
      have : k ≠ p := fun e => hne (by rw [e])
      rw [heap_setCell_other _ _ _ _ this, heap_setCell_other _ _ _ _ this]⟩
    refine ⟨⟨.slice ao n ca, h2, ?_, fun k hk => hB k (by cases ao <;> exact hk)⟩, hg⟩
    rw [← ht]
    exact (HV.out.take n hn).keep (KeepsW.grown hg hp (by decide))
  have HFIN := Lib.hid hfin
  have hgd := fun i => hok.get i
  have HGD := Lib.hid hgd
  clear hfin hgd hok hB
  have hlo : decide ((0 : Nat) < 0) = false := by decide
  cases s <;> (
    go_enter Tryz.func140, Tryz.ntmps140
    go_wp2_with fail
    go_loopw [2] (fun v wr => ∃ n : Nat, n ≤ ds.length ∧ v = .slice ao n ca ∧ wr = w ∧ ∀ i, n ≤ i → ds.getD i 0 = 0) (fun v _ => lenOf v)
    case atStart => exact ⟨ds.length, Nat.le_refl _, rfl, rfl, fun i hi => DG.beyond (by omega)⟩
    case round =>
      obtain ⟨n, hn, rfl, rfl, hz⟩ := hrel
      have HZ := Lib.hid hz
      clear hz
      rcases Nat.eq_zero_or_pos n with h0 | h0
      · subst h0
        have HF := Lib.hid (HFIN.out 0 false (Nat.zero_le _) HZ.out (.inl rfl) (by simp))
        go_wp2_with fail
        go_ret
        exact ⟨rfl, HF.out⟩
      · obtain ⟨m, rfl⟩ : ∃ m, n = m + 1 := ⟨n - 1, by omega⟩
        obtain ⟨g, rfl, hc, _⟩ := HV.out.cell (i := m) (by omega)
        have hwx : ((m + 1 : Nat) : Int) - 1 = (m : Int) := by omega
        have hpos : decide (0 < m + 1) = true := by simp
        unfold wd at hc
        have hcz : ds.getD m 0 = 0 → ∀ i, m ≤ i → ds.getD i 0 = 0 := fun h i hi => by
          rcases Nat.lt_or_ge m i with h2 | h2
          · exact HZ.out i h2
          · have : i = m := by omega
            subst this; exact h
        have hf2 := fun b h1 h2 => HFIN.out (m + 1) b hn HZ.out h1 h2
        rw [show m + 1 - 1 = m from rfl] at hf2
        generalize ds.getD m 0 = x at *
        have HCZ := Lib.hid hcz
        have HF2 := Lib.hid hf2
        clear hcz hf2
        by_cases hx : x = 0
        · have HR := Lib.hid (HCZ.out hx)
          have hxe : ((x : Int) == 0) = true := by simp [hx]
          clear hx
          go_wp2_with fail
          exact ⟨⟨m, by omega, by go_num, trivial, HR.out⟩, by simp [lenOf] <;> omega⟩
        · have hxe : ((x : Int) == 0) = false := by simp [hx]
          have HF := Lib.hid (HF2.out _ (.inr hx) rfl)
          clear hx
          rw [hpos] at HF
          go_wp2_with fail
          go_ret
          exact ⟨rfl, HF.out⟩)
theorem to_any {p : Nat} {x y : Value} {v : Value} {ds : List Nat} (s : Bool) (w : World) (hp : w.heap[p]? = some (.cells #[x, y] 171 (0, 0))) (hv : Ws w v ds) : Calls Tryz.prog 140 #[.pointer (some ⟨p, 0, none⟩), .bool s, v] w fun e w' => e = .returned (.pointer (some ⟨p, 0, none⟩)) ∧ BigAt w' p (s && decide (0 < DG.val ds)) (DG.val ds) ∧ w.grownBy w' (some p) := by
  refine (to_own 0 s w hp hv fun _ _ => Nat.zero_le _).mono ?_
  rintro e w' ⟨h1, h2, h3⟩
  exact ⟨h1, h2.at, h3⟩
end Go.Proofs.YtmepjcnpbjdlkaaGreatDoor
/- big: NewInt, Sign, Bit, IsInt64, Int64 by contract, of numbers from 0 on. -/
namespace Go.Proofs.YtmepjcnpbjdlkaaGreatDoor
set_option linter.unusedVariables false
set_option linter.unusedSimpArgs false
open Go.RowKit
attribute [local irreducible] Go.wpStill

theorem ws_two {w : World} {g : Nat} {a b : Nat} {n : Nat} (h : w.heap[g]? = some (.cells #[wd a, wd b] 215 (0, 0))) (ha : a < DG.b) (hb : b < DG.b) : Ws w (.slice (some ⟨g, 0, none⟩) 2 2) [a, b] :=
  ⟨_, _, rfl, by simp, by simp, (DG.Ok.nil.cons hb).cons ha, .inr ⟨g, _, rfl, h, fun i hi => by
    match i, hi with
    | 0, _ => rfl
    | 1, _ => rfl⟩⟩
set_option maxHeartbeats 4000000 in
theorem newInt_any (x : Nat) (w : World) (hx : x < 9223372036854775808) : Calls Tryz.prog 119 #[.int .i64 (x : Int)] w fun e w' => ∃ p, e = .returned (.pointer (some ⟨p, 0, none⟩)) ∧ w.heap.size ≤ p ∧ BigAt w' p false x ∧ Below w.heap.size w w' := by
  have hneg : decide ((x : Int) < 0) = false := decide_eq_false (by omega)
  have e0 : (x : Int) % 4294967296 = ((x % 4294967296 : Nat) : Int) := by omega
  have e1 : (x : Int) / 4294967296 = ((x / 4294967296 : Nat) : Int) := by omega
  have hval : DG.val [x % 4294967296, x / 4294967296] = x := by simp only [DG.val, DG.b_eq]; omega
  have ht : ∀ w1 : World, ∀ (v : Value), w1 = ((w.alloc (.cells #[.bool false, .slice none 0 0] 171)).alloc (.cells #[wd (x % 4294967296), wd (x / 4294967296)] 215)) → Calls Tryz.prog 140 #[.pointer (some ⟨w.heap.size, 0, none⟩), .bool false, .slice (some ⟨w.heap.size + 1, 0, none⟩) 2 2] w1 fun e w' => e = .returned (.pointer (some ⟨w.heap.size, 0, none⟩)) ∧ BigAt w' w.heap.size false x ∧ Below w.heap.size w w' := fun w1 v hw1 => by
    have hp := heap_alloc2_old w (.cells #[.bool false, .slice none 0 0] 171) (.cells #[wd (x % 4294967296), wd (x / 4294967296)] 215)
    have hq := heap_alloc2_new w (.cells #[.bool false, .slice none 0 0] 171) (.cells #[wd (x % 4294967296), wd (x / 4294967296)] 215)
    have hb := ((Below.refl w.heap.size w).alloc (Nat.le_refl _) (.cells #[.bool false, .slice none 0 0] 171)).alloc (by simp) (.cells #[wd (x % 4294967296), wd (x / 4294967296)] 215)
    rw [← hw1] at hp hq hb
    have hsz : w.heap.size ≤ w1.heap.size := hb.size
    refine (to_any false w1 hp (ws_two (n := 0) hq (by rw [DG.b_eq]; omega) (by rw [DG.b_eq]; omega))).mono ?_
    rintro e w' ⟨rfl, h1, h2⟩
    rw [hval] at h1
    exact ⟨rfl, h1, hb.grown h2 hsz fun k hk => by injection hk with hk; omega⟩
  unfold wd at ht
  rw [← e0, ← e1] at ht
  have HT := Lib.hid ht
  clear ht e0 e1 hval
  go_enter Tryz.func119, Tryz.ntmps119
  go_wp2_with fail
  refine (HT.out _ undef rfl).mono ?_
  rintro e w' ⟨rfl, h1, h2⟩
  have H1 := Lib.hid h1
  have H2 := Lib.hid h2
  clear h1 h2
  go_wp2_with fail
  go_ret
  exact ⟨w.heap.size, rfl, Nat.le_refl _, H1.out, H2.out⟩
set_option maxHeartbeats 4000000 in
theorem sign_any (p : Nat) (s : Bool) (m : Nat) (w : World) (h : BigAt w p s m) : Calls Tryz.prog 116 #[.pointer (some ⟨p, 0, none⟩)] w fun e w' => e = .returned (.int .i64 (if s = true then -1 else if 0 < m then 1 else 0)) ∧ w' = w := by
  obtain ⟨v, hp, hv⟩ := h
  obtain ⟨ao, ca, hvs, _⟩ := hv
  have hc0 : w.cell? ⟨p, 0, none⟩ = some (.bool s) := by rw [cell_of_row _ _ _ _ _ _ hp]; rfl
  have hc1 : w.cell? ⟨p, 1, none⟩ = some v := by rw [cell_of_row _ _ _ _ _ _ hp]; rfl
  have hl : decide (0 < (DG.dig m).length) = decide (0 < m) := by
    congr 1
    apply propext
    by_cases h : m = 0
    · subst h; rw [DG.dig_zero]; simp
    · rw [DG.dig_pos h, List.length_cons]; omega
  subst hvs
  generalize (DG.dig m).length = n at *
  cases s
  · by_cases hm : 0 < m
    · have h1 : decide (0 < n) = true := by rw [hl]; exact decide_eq_true hm
      rw [if_neg (by decide), if_pos hm]
      clear hl hm
      go_enter Tryz.func116, Tryz.ntmps116
      go_wp2_with fail
      go_ret
      exact ⟨rfl, rfl⟩
    · have h1 : decide (0 < n) = false := by rw [hl]; exact decide_eq_false hm
      rw [if_neg (by decide), if_neg hm]
      clear hl hm
      go_enter Tryz.func116, Tryz.ntmps116
      go_wp2_with fail
      go_ret
      exact ⟨rfl, rfl⟩
  · rw [if_pos rfl]
    clear hl
    go_enter Tryz.func116, Tryz.ntmps116
    go_wp2_with fail
    go_ret
    exact ⟨rfl, rfl⟩
set_option maxHeartbeats 4000000 in
/-- the lowest bit -/
theorem bit0_any (p : Nat) (s : Bool) (m : Nat) (w : World) (h : BigAt w p s m) : Calls Tryz.prog 117 #[.pointer (some ⟨p, 0, none⟩), .int .i64 0] w fun e w' => e = .returned (.int .u64 ((m % 2 : Nat) : Int)) ∧ w' = w := by
  obtain ⟨v, hp, hv⟩ := h
  have hA := at_any 0 w hv (by decide)
  rw [DG.getD_div, Nat.pow_zero, Nat.div_one, DG.b_eq] at hA
  obtain ⟨ao, ca, hvs, _⟩ := hv
  have hc1 : w.cell? ⟨p, 1, none⟩ = some v := by rw [cell_of_row _ _ _ _ _ _ hp]; rfl
  subst hvs
  have hm : m % 2 = m % 4294967296 % 2 := by omega
  rw [hm]
  unfold wd at hA
  have hlt : m % 4294967296 < 4294967296 := by omega
  generalize m % 4294967296 = x at *
  have hbit : Go.bits .and .u32 (x : Int) 1 = ((x % 2 : Nat) : Int) := by
    have := bits_mask .u32 32 (by decide) (fun n h0 h1 => by rw [IntKind.wrap_u32]; omega) 1 (by decide) (x : Int) (by omega) (by omega)
    rw [show ((2 : Int) ^ 1 - 1) = 1 from rfl, show ((2 : Int) ^ 1) = 2 from rfl] at this
    rw [this]; omega
  have hlt2 : x % 2 < 2 := by omega
  generalize hy : x % 2 = y at *
  have HA := Lib.hid hA
  clear hA hm hy
  go_enter Tryz.func117, Tryz.ntmps117
  go_wp2_with fail
  refine HA.out.mono ?_
  rintro e w5 ⟨rfl, rfl⟩
  go_wp2_with fail
  go_ret
  exact ⟨rfl, rfl⟩
set_option maxHeartbeats 4000000 in
theorem isInt64_any (p : Nat) (m : Nat) (w : World) (h : BigAt w p false m) : Calls Tryz.prog 120 #[.pointer (some ⟨p, 0, none⟩)] w fun e w' => e = .returned (.bool (decide (m < 9223372036854775808))) ∧ w' = w := by
  obtain ⟨v, hp, hv⟩ := h
  have hS := small_any w hv
  have hl := DG.len_le_iff m 2
  rw [DG.getD_div, DG.getD_div, Nat.pow_zero, Nat.div_one, Nat.pow_one, DG.b_eq] at hS
  obtain ⟨ao, ca, hvs, _⟩ := hv
  have hc0 : w.cell? ⟨p, 0, none⟩ = some (.bool false) := by rw [cell_of_row _ _ _ _ _ _ hp]; rfl
  have hc1 : w.cell? ⟨p, 1, none⟩ = some v := by rw [cell_of_row _ _ _ _ _ _ hp]; rfl
  subst hvs
  have hb2 : DG.b ^ 2 = 18446744073709551616 := rfl
  rw [hb2] at hl
  have hx : m % 4294967296 + 4294967296 * (m / 4294967296 % 4294967296) = m % 18446744073709551616 := by omega
  rw [hx] at hS
  have hr : decide (m < 9223372036854775808) = (decide ((DG.dig m).length ≤ 2) && decide (m % 18446744073709551616 < 9223372036854775808)) := by
    rw [← Bool.decide_and]
    congr 1
    apply propext
    omega
  rw [hr]
  generalize (DG.dig m).length = n at *
  generalize m % 18446744073709551616 = x at *
  have HS := Lib.hid hS
  clear hS hl hr hx
  by_cases h1 : n ≤ 2
  · by_cases h2 : x < 9223372036854775808
    · have e1 : decide (n ≤ 2) = true := decide_eq_true h1
      have e2 : decide (x < 9223372036854775808) = true := decide_eq_true h2
      have e3 : decide ((x : Int) < 9223372036854775808) = true := decide_eq_true (by omega)
      rw [e1, e2]
      rw [e1] at HS
      go_enter Tryz.func120, Tryz.ntmps120
      go_wp2_with fail
      refine HS.out.mono ?_
      rintro e w5 ⟨rfl, rfl⟩
      go_wp2_with fail
      go_ret
      exact ⟨rfl, rfl⟩
    · have e1 : decide (n ≤ 2) = true := decide_eq_true h1
      have e2 : decide (x < 9223372036854775808) = false := decide_eq_false h2
      have e3 : decide ((x : Int) < 9223372036854775808) = false := decide_eq_false (by omega)
      rw [e1, e2]
      rw [e1] at HS
      go_enter Tryz.func120, Tryz.ntmps120
      go_wp2_with fail
      refine HS.out.mono ?_
      rintro e w5 ⟨rfl, rfl⟩
      go_wp2_with fail
      go_ret
      exact ⟨rfl, rfl⟩
  · have e1 : decide (n ≤ 2) = false := decide_eq_false h1
    rw [e1, Bool.false_and]
    rw [e1] at HS
    go_enter Tryz.func120, Tryz.ntmps120
    go_wp2_with fail
    refine HS.out.mono ?_
    rintro e w5 ⟨rfl, rfl⟩
    go_wp2_with fail
    go_ret
    exact ⟨rfl, rfl⟩
set_option maxHeartbeats 4000000 in
theorem int64_any (p : Nat) (m : Nat) (w : World) (h : BigAt w p false m) (hm : m < 9223372036854775808) : Calls Tryz.prog 121 #[.pointer (some ⟨p, 0, none⟩)] w fun e w' => e = .returned (.int .i64 (m : Int)) ∧ w' = w := by
  obtain ⟨v, hp, hv⟩ := h
  have hS := small_any w hv
  rw [DG.getD_div, DG.getD_div, Nat.pow_zero, Nat.div_one, Nat.pow_one, DG.b_eq] at hS
  obtain ⟨ao, ca, hvs, _⟩ := hv
  have hc0 : w.cell? ⟨p, 0, none⟩ = some (.bool false) := by rw [cell_of_row _ _ _ _ _ _ hp]; rfl
  have hc1 : w.cell? ⟨p, 1, none⟩ = some v := by rw [cell_of_row _ _ _ _ _ _ hp]; rfl
  subst hvs
  have hx : m % 4294967296 + 4294967296 * (m / 4294967296 % 4294967296) = m := by omega
  rw [hx] at hS
  have HS := Lib.hid hS
  clear hS hx
  go_enter Tryz.func121, Tryz.ntmps121
  go_wp2_with fail
  refine HS.out.mono ?_
  rintro e w5 ⟨rfl, rfl⟩
  go_wp2_with fail
  go_ret
  exact ⟨rfl, rfl⟩
end Go.Proofs.YtmepjcnpbjdlkaaGreatDoor
/- big: Lsh by one by contract. -/
namespace Go.Proofs.YtmepjcnpbjdlkaaGreatDoor
set_option linter.unusedVariables false
set_option linter.unusedSimpArgs false
open Go.RowKit
attribute [local irreducible] Go.wpStill

theorem below_grown {w w1 w2 : World} {p : Nat} (h : Below w.heap.size w w1) (g : w1.grownBy w2 (some p)) : w.grownBy w2 (some p) :=
  ⟨g.os.trans h.os, g.tape.trans h.tape, g.output.trans h.output, Nat.le_trans h.size g.size, fun k hk hne => (g.block k (Nat.lt_of_lt_of_le hk h.size) hne).trans (h.block k hk)⟩
set_option maxHeartbeats 4000000 in
theorem lsh1_own (p q : Nat) (x y : Value) (m : Nat) (w : World) (hp : w.heap[p]? = some (.cells #[x, y] 171 (0, 0))) (hq : BigAt w q false m) (hml : (DG.dig m).length ≤ 99000) : Calls Tryz.prog 114 #[.pointer (some ⟨p, 0, none⟩), .pointer (some ⟨q, 0, none⟩), .int .u64 1] w fun e w' => e = .returned (.pointer (some ⟨p, 0, none⟩)) ∧ BigFrom w.heap.size w' p false (2 * m) ∧ w.grownBy w' (some p) := by
  obtain ⟨v, hq1, hv⟩ := hq
  have hok := hv.ok
  have HWA := Lib.hid hv
  obtain ⟨ao, ca, rfl⟩ := hv.slice
  have hql := lt_of_block hq1
  have hpl := lt_of_block hp
  generalize hds : DG.dig m = ds at *
  have hvm : DG.val ds = m := by rw [← hds, DG.val_dig]
  have hc0 : w.cell? ⟨q, 0, none⟩ = some (.bool false) := by rw [cell_of_row _ _ _ _ _ _ hq1]; rfl
  have hc1 : w.cell? ⟨q, 1, none⟩ = some (.slice ao ds.length ca) := by rw [cell_of_row _ _ _ _ _ _ hq1]; rfl
  have hmk := make_words (ds.length + 1) (by omega)
  have hM1 : ((ds.length + 1 : Nat) : Int) = (ds.length : Int) + 1 := by omega
  rw [hM1] at hmk
  have hown : OwnW (w.alloc (.cells ((List.replicate (ds.length + 1) 0).map wd).toArray 215)) w.heap.size (List.replicate (ds.length + 1) 0) := heap_alloc_new w _
  have hbel : Below w.heap.size w (w.alloc (.cells ((List.replicate (ds.length + 1) 0).map wd).toArray 215)) := (Below.refl _ _).alloc (Nat.le_refl _) _
  have hgd := fun i => hok.get i
  rw [DG.b_eq] at hgd
  have hstep : ∀ (acc : List Nat) (c : Nat), c ≤ 1 → DG.val acc + DG.b ^ acc.length * c = 2 * DG.low ds acc.length → ∃ d c' : Nat, Go.bits .or .u32 (c : Int) (((ds.getD acc.length 0 : Nat) : Int) * 2 % 4294967296) = (d : Int) ∧ ((ds.getD acc.length 0 : Nat) : Int) * 2 / 4294967296 = (c' : Int) ∧ d < DG.b ∧ c' ≤ 1 ∧ DG.val (acc ++ [d]) + DG.b ^ (acc ++ [d]).length * c' = 2 * DG.low ds (acc ++ [d]).length := fun acc c hc hv => by
    have h := DG.up_step (q := 0) (i := acc.length) (r := 1) hok (by decide) (acc := acc) (c := c) (by omega) (by simp) (by rw [hv]; simp)
    obtain ⟨h1, h2, h3⟩ := h
    have hg := hgd acc.length
    have hlen : (acc ++ [(ds.getD acc.length 0 * 2 ^ 1 + c) % DG.b]).length = acc.length + 1 := by simp
    rw [hlen] at h3
    generalize ds.getD acc.length 0 = a at *
    refine ⟨(a * 2 ^ 1 + c) % DG.b, (a * 2 ^ 1 + c) / DG.b, ?_, ?_, Nat.mod_lt _ DG.b_pos, by omega, ?_⟩
    · rw [DG.b_eq]
      have e1 : (a : Int) * 2 % 4294967296 = ((a * 2 % 4294967296 : Nat) : Int) := by omega
      rw [e1, (andor_nat c (a * 2 % 4294967296) (by omega) (by omega)).2]
      have hor : c ||| a * 2 % 4294967296 = c + a * 2 % 4294967296 := by
        have hev : a * 2 % 4294967296 = 2 ^ 1 * (a * 2 % 4294967296 / 2) := by omega
        rw [hev, Nat.or_comm, ← Nat.two_pow_add_eq_or_of_lt (show c < 2 ^ 1 by omega)]
        omega
      rw [hor]
      omega
    · rw [DG.b_eq]; omega
    · rw [hlen, h3]; simp
  have h00 : DG.val [] + DG.b ^ ([] : List Nat).length * 0 = 2 * DG.low ds ([] : List Nat).length := by simp [DG.val, DG.low_zero]
  have hfin : ∀ (acc : List Nat) (c : Nat), acc.length = ds.length → DG.val acc + DG.b ^ acc.length * c = 2 * DG.low ds acc.length → DG.val (acc ++ [c]) = 2 * m := fun acc c hl hv => by
    rw [DG.val_snoc, hv, DG.low_all ds (by omega), hvm]
  have HFIN := Lib.hid hfin
  have HST := Lib.hid hstep
  have HGD := Lib.hid hgd
  have H00 := Lib.hid h00
  have HP := Lib.hid hp
  have HOWN := Lib.hid hown
  have HBEL := Lib.hid hbel
  have hq0 := hq1
  have HQ1 := Lib.hid hq0
  clear hv hok hfin hstep hgd h00 hown hbel hM1 hp hds hvm hq1 hq0
  generalize hob : (Obj.cells ((List.replicate (ds.length + 1) 0).map wd).toArray 215) = ob at *
  have hc1' : (w.alloc ob).cell? ⟨q, 1, none⟩ = some (.slice ao ds.length ca) := (cell_kept (heap_alloc_old _ _ hql)).trans hc1
  go_enter Tryz.func114, Tryz.ntmps114
  go_wp2_with fail
  generalize hw0 : w.alloc ob = w0 at *
  have HW0 := Lib.hid hw0
  clear hw0 hmk hob
  go_loopw [27] (fun k wr => ∃ (acc : List Nat) (c : Nat), k = .int .i64 acc.length ∧ acc.length ≤ ds.length ∧ DG.Ok acc ∧ c ≤ 1 ∧ DG.val acc + DG.b ^ acc.length * c = 2 * DG.low ds acc.length ∧ OwnW wr w.heap.size ((acc ++ [c]) ++ List.replicate (ds.length - acc.length) 0) ∧ Below w.heap.size w wr) (fun k _ => ds.length - (intOf k).toNat)
  case atStart => exact ⟨[], 0, rfl, Nat.zero_le _, DG.Ok.nil, by omega, H00.out, HOWN.out, HBEL.out⟩
  case round =>
    obtain ⟨acc, c, rfl, hal, hok, hc, hv, hO, hW⟩ := hrel
    by_cases hlt : acc.length < ds.length
    · have hdl : decide (acc.length < ds.length) = true := decide_eq_true hlt
      obtain ⟨d, c', hd1, hd2, hdb, hcc, hv1⟩ := HST.out acc c hc hv
      obtain ⟨g, rfl, hcx, cs, hgc⟩ := (HWA.out.below hW).cell hlt
      obtain ⟨hz1, hz2⟩ := hO.cell (i := acc.length) (by simp)
      have hgt : ((acc ++ [c]) ++ List.replicate (ds.length - acc.length) 0).getD acc.length 0 = c := by
        rw [List.getD_eq_getElem?_getD, List.getElem?_append_left (by simp)]
        simp
      rw [hgt] at hz1
      have hO2 := hO.set acc.length d
      have hset1 : ((acc ++ [c]) ++ List.replicate (ds.length - acc.length) 0).set acc.length d = (acc ++ [d]) ++ List.replicate (ds.length - acc.length) 0 := by
        rw [List.set_append_left _ _ (by simp), List.set_append_right _ _ (Nat.le_refl _), Nat.sub_self]
        rfl
      rw [hset1] at hO2
      have hlen1 : (acc ++ [d]).length = acc.length + 1 := by simp
      obtain ⟨hy1, hy2⟩ := hO2.cell (i := acc.length + 1) (by simp; omega)
      have hO3 := hO2.set (acc.length + 1) c'
      have hset2 := set_zero (acc ++ [d]) (ds.length - acc.length) c' (by omega)
      rw [hlen1] at hset2
      rw [hset2, show ds.length - acc.length - 1 = ds.length - (acc ++ [d]).length by omega] at hO3
      have hwsz : w.heap.size < wr.heap.size := lt_of_block hO
      have hW2 : Below w.heap.size w ((wr.setCell ⟨w.heap.size, acc.length, none⟩ (wd d)).setCell ⟨w.heap.size, acc.length + 1, none⟩ (wd c')) := (hW.setCell (Nat.le_refl _) _).setCell (Nat.le_refl _) _
      unfold wd at hcx hz1 hy1 hO3 hW2 hy2
      generalize ((((acc ++ [d]) ++ List.replicate (ds.length - acc.length) 0).getD (acc.length + 1) 0 : Nat) : Int) = z0 at hy1
      have hgx := HGD.out acc.length
      clear hset1 hset2 hgt hO2 hgc cs
      generalize ds.getD acc.length 0 = a at *
      have HV1 := Lib.hid hv1
      have HO3 := Lib.hid hO3
      have HL1 := Lib.hid hlen1
      have HW2 := Lib.hid hW2
      have HOK1 := Lib.hid (hok.snoc hdb)
      clear hv1 hv hlen1 hO hok hW2 hO3
      go_wp2_with fail
      exact ⟨⟨acc ++ [d], c', by rw [HL1.out]; go_num, by rw [HL1.out]; omega, HOK1.out, hcc, HV1.out, HO3.out, HW2.out⟩, by simp [intOf]; omega⟩
    · have hdl : decide (acc.length < ds.length) = false := decide_eq_false hlt
      have hl : acc.length = ds.length := by omega
      have hfin := HFIN.out acc c hl hv
      rw [hl, Nat.sub_self, List.replicate_zero, List.append_nil] at hO
      have hlen1 : (acc ++ [c]).length = ds.length + 1 := by simp; omega
      have hws := hO.ws (hok.snoc (by rw [DG.b_eq]; omega)) (by omega)
      rw [hlen1] at hws
      have hp2 := (hW.block p hpl).trans HP.out
      have ht := to_own w.heap.size false wr hp2 hws (fun k hk => Nat.le_of_eq (Option.some.inj hk))
      rw [hfin, Bool.false_and] at ht
      have hc0' : wr.cell? ⟨q, 0, none⟩ = some (.bool false) := (cell_kept (hW.block q hql)).trans hc0
      have HT := Lib.hid ht
      have HWW := Lib.hid hW
      clear hfin hws hv hO hok ht hlen1 hp2 hW
      go_wp2_with fail
      refine HT.out.mono ?_
      rintro e w' ⟨rfl, h1, h2⟩
      have H1 := Lib.hid h1
      have H2 := Lib.hid (below_grown HWW.out h2)
      clear h1 h2
      go_wp2_with fail
      go_ret
      exact ⟨rfl, H1.out, H2.out⟩
theorem lsh1_any (p q : Nat) (x y : Value) (m : Nat) (w : World) (hp : w.heap[p]? = some (.cells #[x, y] 171 (0, 0))) (hq : BigAt w q false m) (hml : (DG.dig m).length ≤ 99000) : Calls Tryz.prog 114 #[.pointer (some ⟨p, 0, none⟩), .pointer (some ⟨q, 0, none⟩), .int .u64 1] w fun e w' => e = .returned (.pointer (some ⟨p, 0, none⟩)) ∧ BigAt w' p false (2 * m) ∧ w.grownBy w' (some p) := by
  refine (lsh1_own p q x y m w hp hq hml).mono ?_
  rintro e w' ⟨h1, h2, h3⟩
  exact ⟨h1, h2.at, h3⟩
end Go.Proofs.YtmepjcnpbjdlkaaGreatDoor
