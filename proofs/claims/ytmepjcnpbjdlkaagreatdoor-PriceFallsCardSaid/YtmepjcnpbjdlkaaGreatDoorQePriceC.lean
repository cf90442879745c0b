/- texts of this claim, laid together: PriceC, PriceD, PriceE. -/
import Derived.Test.YtmepjcnpbjdlkaaGreatDoorQePriceA
/- price.of, checked, Check: by contract. -/
namespace Go.Proofs.YtmepjcnpbjdlkaaGreatDoor
set_option linter.unusedVariables false
set_option linter.unusedSimpArgs false
open Go.RowKit
attribute [local irreducible] Go.wpStill

/-- a paper of its kind -/
inductive PaperP (s : SecV) : Value → Int → Prop
  | equity (h : s.kind = 1) : PaperP s (.iface 203 (.agg (secC s))) (eqN s)
  | bond (h : s.kind = 2) : PaperP s (.iface 206 (.agg (secC s))) (bondN s)
  | bill (h : s.kind = 3) : PaperP s (.iface 204 (.agg (secC s))) (billN s)
  | cash (h : s.kind = 4) : PaperP s (.iface 208 (.agg (secC s))) (eqN s)
def OfP2 (s : SecV) (w : World) (e : Ending) (w' : World) : Prop := ∃ v, e = .returned v ∧ ((s.kind < 1 ∨ 4 < s.kind) ∧ v = .nilIface ∨ ∃ n, PaperP s v n) ∧ Below w.heap.size w w'
set_option maxRecDepth 100000 in
set_option maxHeartbeats 4000000 in
theorem paper_any (s : SecV) (w : World) : Calls Tryz.prog 110 #[.agg (secC s)] w (OfP2 s w) := by
  obtain ⟨c0, c1, c2, c3, c4, c5, c6, c7, c8, c9, c10, c11, kind, face, coupon, per, basis, start, finish, cur⟩ := s
  have HG := Lib.hid (heap_alloc_new w (.cells (secC ⟨c0, c1, c2, c3, c4, c5, c6, c7, c8, c9, c10, c11, kind, face, coupon, per, basis, start, finish, cur⟩) 25))
  by_cases h1 : kind = 1
  · subst h1
    go_enter Tryz.func110, Tryz.ntmps110
    go_wp2_with (refine wpList_val (.agg (secC ⟨c0, c1, c2, c3, c4, c5, c6, c7, c8, c9, c10, c11, 1, face, coupon, per, basis, start, finish, cur⟩)) (by kernel_rfl) (exec_load_row HG.out rfl rfl Tryz.underlying25 rfl (by kernel_rfl)) ?_)
    go_ret
    exact ⟨_, rfl, .inr ⟨_, .equity rfl⟩, (Below.refl _ _).alloc (Nat.le_refl _) _⟩
  by_cases h2 : kind = 2
  · subst h2
    clear h1
    go_enter Tryz.func110, Tryz.ntmps110
    go_wp2_with (refine wpList_val (.agg (secC ⟨c0, c1, c2, c3, c4, c5, c6, c7, c8, c9, c10, c11, 2, face, coupon, per, basis, start, finish, cur⟩)) (by kernel_rfl) (exec_load_row HG.out rfl rfl Tryz.underlying25 rfl (by kernel_rfl)) ?_)
    go_ret
    exact ⟨_, rfl, .inr ⟨_, .bond rfl⟩, (Below.refl _ _).alloc (Nat.le_refl _) _⟩
  by_cases h3 : kind = 3
  · subst h3
    clear h1 h2
    go_enter Tryz.func110, Tryz.ntmps110
    go_wp2_with (refine wpList_val (.agg (secC ⟨c0, c1, c2, c3, c4, c5, c6, c7, c8, c9, c10, c11, 3, face, coupon, per, basis, start, finish, cur⟩)) (by kernel_rfl) (exec_load_row HG.out rfl rfl Tryz.underlying25 rfl (by kernel_rfl)) ?_)
    go_ret
    exact ⟨_, rfl, .inr ⟨_, .bill rfl⟩, (Below.refl _ _).alloc (Nat.le_refl _) _⟩
  by_cases h4 : kind = 4
  · subst h4
    clear h1 h2 h3
    go_enter Tryz.func110, Tryz.ntmps110
    go_wp2_with (refine wpList_val (.agg (secC ⟨c0, c1, c2, c3, c4, c5, c6, c7, c8, c9, c10, c11, 4, face, coupon, per, basis, start, finish, cur⟩)) (by kernel_rfl) (exec_load_row HG.out rfl rfl Tryz.underlying25 rfl (by kernel_rfl)) ?_)
    go_ret
    exact ⟨_, rfl, .inr ⟨_, .cash rfl⟩, (Below.refl _ _).alloc (Nat.le_refl _) _⟩
  have hk : kind < 1 ∨ 4 < kind := by omega
  have e1 : (kind == 1) = false := by simpa using h1
  have e2 : (kind == 2) = false := by simpa using h2
  have e3 : (kind == 3) = false := by simpa using h3
  have e4 : (kind == 4) = false := by simpa using h4
  have HK := Lib.hid hk
  clear h1 h2 h3 h4 hk
  go_enter Tryz.func110, Tryz.ntmps110
  go_wp2_with fail
  go_ret
  exact ⟨_, rfl, .inl ⟨HK.out, rfl⟩, (Below.refl _ _).alloc (Nat.le_refl _) _⟩
/-- the check of a paper, found by its kind -/
theorem mEquity (n : Nat) (cs : Array Value) (w : World) : (Go.method (n + 1) 203 (.agg cs) "custody/price.check").run Tryz.prog w = .ok (212, .agg cs) w := by kernel_rfl
theorem mBond (n : Nat) (cs : Array Value) (w : World) : (Go.method (n + 1) 206 (.agg cs) "custody/price.check").run Tryz.prog w = .ok (222, .agg cs) w := by kernel_rfl
theorem mBill (n : Nat) (cs : Array Value) (w : World) : (Go.method (n + 1) 204 (.agg cs) "custody/price.check").run Tryz.prog w = .ok (217, .agg cs) w := by kernel_rfl
theorem codeConv (s : SecV) (b : Nat) (w : World) (hs : w.heap[b]? = some (.cells (secC s) 25 (0, 0))) : (convert 132 9 (.slice (some ⟨b, 0, none⟩) 12 12)).run Tryz.prog w = .ok (.string ⟨(codeL s).toArray⟩) w := by
  have := run_convert_bytes_back (P := Tryz.prog) w 132 9 5 ⟨b, 0, none⟩ 12 (codeL s) Tryz.underlying132 Tryz.underlying5 Tryz.underlying9 (fun j hj => by
    rw [addr_add, cell_of_row _ _ _ _ _ _ hs, Nat.zero_add]
    simp [codeL] at hj
    rcases j with _ | _ | _ | _ | _ | _ | _ | _ | _ | _ | _ | _ | j
    all_goals first | rfl | omega)
  exact this
end Go.Proofs.YtmepjcnpbjdlkaaGreatDoor
/- price.checked, Check: by contract. -/
namespace Go.Proofs.YtmepjcnpbjdlkaaGreatDoor
set_option linter.unusedVariables false
set_option linter.unusedSimpArgs false
open Go.RowKit
attribute [local irreducible] Go.wpStill

theorem mCash (n : Nat) (s : SecV) (w : World) : (Go.method (n + 1) 208 (.agg (secC s)) "custody/price.check").run Tryz.prog w = .ok (212, .agg (secC s)) w := by kernel_rfl
def codeBad (s : SecV) : Bool := if s.kind = 4 then decide (codeL s ≠ zeros 12) else decide ((isinR (codeL s)).1 ≠ 0)
def curBad (s : SecV) : Bool := decide ((hasR s.cur.data.toList formCur).1 ≠ 0)
def kindN (s : SecV) : Int := if s.kind = 2 then bondN s else if s.kind = 3 then billN s else eqN s
def checkN (s : SecV) : Int := if s.kind < 1 ∨ 4 < s.kind then 24 else if codeBad s = true then 4 else if curBad s = true then 4 else kindN s
theorem eqItems_vals {P : Program} (w : World) (d : Nat) {e : TypeId} {k : IntKind} (he : P.plainKey e = true) (hc : P.cellsOf e = 1) (hu : P.underlying e = some (.int k)) (ls ms : List Int) : ∀ (is : List Nat), (∀ i, i ∈ is → i < ls.length ∧ i < ms.length) →
    (Op.eqItems (d + 1) e (P.cellsOf e) (ls.map (Value.int k)).toArray (ms.map (Value.int k)).toArray is).run P w = .ok (is.all fun i => decide (ls[i]? = ms[i]?)) w
  | [], _ => by simp [Op.eqItems]
  | i :: is, h => by
    obtain ⟨h1, h2⟩ := h i (by simp)
    have ih := eqItems_vals w d he hc hu ls ms is (fun j hj => h j (by simp [hj]))
    have e1 := run_part_plain (P := P) w he (off := i * P.cellsOf e) (xs := (ls.map (Value.int k)).toArray) (v := .int k ls[i]) (by rw [hc, Nat.mul_one]; simp [h1])
    have e2 := run_part_plain (P := P) w he (off := i * P.cellsOf e) (xs := (ms.map (Value.int k)).toArray) (v := .int k ms[i]) (by rw [hc, Nat.mul_one]; simp [h2])
    have e3 : (Op.equalIn (d + 1) e (.int k ls[i]) (.int k ms[i])).run P w = .ok (ls[i] == ms[i]) w := run_equalIn_int w d _ _ _ _ _ hu
    simp only [Op.eqItems, Sem.run_bind, e1, e2, e3, Result.andThen_ok, List.all_cons]
    rw [List.getElem?_eq_getElem h1, List.getElem?_eq_getElem h2]
    by_cases hq : ls[i] = ms[i]
    · simp [hq, ih]
    · simp [hq]
theorem eqIsin (l m : List UInt8) (hl : l.length = 12) (hm : m.length = 12) (w : World) : (Op.equalIn 10000 23 (.agg (bytesV l)) (.agg (bytesV m))).run Tryz.prog w = .ok (decide (l = m)) w := by
  obtain ⟨i, hi⟩ : ∃ i, Tryz.prog.info? 5 = some i := Option.isSome_iff_exists.1 (by kernel_rfl)
  rw [run_equalIn_array w 9999 _ _ Tryz.underlying23 hi]
  have hb : ∀ l : List UInt8, bytesV l = ((l.map fun c : UInt8 => (c.toNat : Int)).map (Value.int .u8)).toArray := fun l => by simp [bytesV]
  rw [hb l, hb m, eqItems_vals w 9998 (by kernel_rfl) (by kernel_rfl) Tryz.underlying5 _ _ _ (fun i hi => by have := List.mem_range.1 hi; simp [hl, hm]; exact this)]
  refine congrArg (fun b => Result.ok b w) ?_
  rw [Bool.eq_iff_iff, List.all_eq_true]
  simp only [decide_eq_true_eq]
  constructor
  · intro h
    apply List.ext_getElem? 
    intro j
    by_cases hj : j < 12
    · have := h j (List.mem_range.2 hj)
      simp only [List.getElem?_map] at this
      rw [List.getElem?_eq_getElem (by omega), List.getElem?_eq_getElem (by omega)] at this ⊢
      simp only [Option.map_some, Option.some.injEq] at this ⊢
      exact UInt8.toNat_inj.1 (by omega)
    · rw [List.getElem?_eq_none (by omega), List.getElem?_eq_none (by omega)]
  · intro h j _
    rw [h]
/-- what checked hands back -/
def CheckedP (s : SecV) (w : World) (e : Ending) (w' : World) : Prop := ∃ p v, e = .returned (.tuple #[p, v]) ∧ ErrP v (checkN s) none ∧ (checkN s = 0 → ∃ n, PaperP s p n) ∧ Below w.heap.size w w'
theorem codeL_len (s : SecV) : (codeL s).length = 12 := rfl
set_option maxRecDepth 100000 in
set_option maxHeartbeats 4000000 in
theorem checked_no (s : SecV) (w : World) (hk : s.kind < 1 ∨ 4 < s.kind) : Calls Tryz.prog 63 #[.agg (secC s)] w (CheckedP s w) := by
  have hN : checkN s = 24 := by unfold checkN; rw [if_pos hk]
  have hP := fun w => paper_any s w
  obtain ⟨c0, c1, c2, c3, c4, c5, c6, c7, c8, c9, c10, c11, kind, face, coupon, per, basis, start, finish, cur⟩ := s
  have HN := Lib.hid hN
  have HP := Lib.hid hP
  have HK := Lib.hid hk
  have HG := Lib.hid (heap_alloc_new w (.cells (secC ⟨c0, c1, c2, c3, c4, c5, c6, c7, c8, c9, c10, c11, kind, face, coupon, per, basis, start, finish, cur⟩) 25))
  clear hN hP hk
  go_enter Tryz.func63, Tryz.ntmps63
  go_wp2_with (refine wpList_val (.agg (secC ⟨c0, c1, c2, c3, c4, c5, c6, c7, c8, c9, c10, c11, kind, face, coupon, per, basis, start, finish, cur⟩)) (by kernel_rfl) (exec_load_row HG.out rfl rfl Tryz.underlying25 rfl (by kernel_rfl)) ?_)
  refine (HP.out _).mono ?_
  rintro e w1 ⟨v, rfl, (⟨_, rfl⟩ | ⟨n, hP⟩), hB⟩
  · go_wp2_with fail
    go_ret2
    exact ⟨_, _, rfl, (by rw [HN.out]; exact errP_errno (by decide) (by decide)), (fun h => by rw [HN.out] at h; cases h), ((Below.refl _ _).alloc (Nat.le_refl _) _).trans (hB.mono (by simp))⟩
  · exfalso
    have := HK.out
    cases hP <;> simp_all

set_option maxRecDepth 100000 in
set_option maxHeartbeats 8000000 in
theorem checked_1 (s : SecV) (w : World) (hk : s.kind = 1) (hcs : s.cur.size ≤ 140737488351232) (hok : Ok w) : Calls Tryz.prog 63 #[.agg (secC s)] w (CheckedP s w) := by
  have hP := fun w => paper_any s w
  have hC := fun w => equity_any s w
  have hCur := fun w => currency_any s.cur w hcs
  have hI := fun w => isinf_any ⟨(codeL s).toArray⟩ w (by simp [codeL_len, ByteArray.size])
  have hconv := fun b w => codeConv s b w
  have hN4 : codeBad s = true → checkN s = 4 := fun h => by unfold checkN; rw [if_neg (by omega), if_pos h]
  have hN4' : codeBad s = false → curBad s = true → checkN s = 4 := fun h h2 => by unfold checkN; rw [if_neg (by omega), if_neg (by rw [h]; exact Bool.false_ne_true), if_pos h2]
  have hN0 : codeBad s = false → curBad s = false → checkN s = eqN s := fun h h2 => by unfold checkN kindN; rw [if_neg (by omega), if_neg (by rw [h]; exact Bool.false_ne_true), if_neg (by rw [h2]; exact Bool.false_ne_true)]; simp [hk]
  have hcb : codeBad s = decide ((isinR (codeL s)).1 ≠ 0) := by unfold codeBad; simp [hk]
  have hub : curBad s = decide ((hasR s.cur.data.toList formCur).1 ≠ 0) := rfl
  have hlz : ∀ r : Int, (if r = 0 then codeL s else zeros 12).length = 12 := fun r => by split <;> rfl
  have hm := fun (n : Nat) (w : World) => mEquity n (secC s) w
  obtain ⟨c0, c1, c2, c3, c4, c5, c6, c7, c8, c9, c10, c11, kind, face, coupon, per, basis, start, finish, cur⟩ := s
  simp only at hk hcs hCur
  subst hk
  generalize codeBad ⟨c0, c1, c2, c3, c4, c5, c6, c7, c8, c9, c10, c11, 1, face, coupon, per, basis, start, finish, cur⟩ = cb at *
  generalize curBad ⟨c0, c1, c2, c3, c4, c5, c6, c7, c8, c9, c10, c11, 1, face, coupon, per, basis, start, finish, cur⟩ = ub at *
  simp only [ByteArray.data, List.toList_toArray] at hI
  have HN4 := Lib.hid hN4
  have HN4' := Lib.hid hN4'
  have HN0 := Lib.hid hN0
  have HCB := Lib.hid hcb
  have HUB := Lib.hid hub
  have HP := Lib.hid hP
  have HC := Lib.hid hC
  have HCUR := Lib.hid hCur
  have HI := Lib.hid hI
  have HCONV := Lib.hid hconv
  have HLZ := Lib.hid hlz
  have HM := Lib.hid hm
  have HOK := Lib.hid hok
  have HG := Lib.hid (heap_alloc_new w (.cells (secC ⟨c0, c1, c2, c3, c4, c5, c6, c7, c8, c9, c10, c11, 1, face, coupon, per, basis, start, finish, cur⟩) 25))
  have z0 := (Below.refl w.heap.size w).alloc (Nat.le_refl _) (.cells (secC ⟨c0, c1, c2, c3, c4, c5, c6, c7, c8, c9, c10, c11, 1, face, coupon, per, basis, start, finish, cur⟩) 25)
  have HZ0 := Lib.hid z0
  clear hN4 hN4' hN0 hcb hub hP hC hCur hI hconv hlz hm hok z0
  go_enter Tryz.func63, Tryz.ntmps63
  go_wp2_with (refine wpList_val (.agg (secC ⟨c0, c1, c2, c3, c4, c5, c6, c7, c8, c9, c10, c11, 1, face, coupon, per, basis, start, finish, cur⟩)) (by kernel_rfl) (exec_load_row HG.out rfl rfl Tryz.underlying25 rfl (by kernel_rfl)) ?_)
  refine (HP.out _).mono ?_
  rintro e w1 ⟨v, rfl, hv, hB1⟩
  obtain rfl : v = .iface 203 (.agg (secC ⟨c0, c1, c2, c3, c4, c5, c6, c7, c8, c9, c10, c11, 1, face, coupon, per, basis, start, finish, cur⟩)) := by
    rcases hv with ⟨h, _⟩ | ⟨n, hP⟩
    · simp at h
    · cases hP <;> simp_all
  have hG1 : w1.heap[w.heap.size]? = some (.cells (secC ⟨c0, c1, c2, c3, c4, c5, c6, c7, c8, c9, c10, c11, 1, face, coupon, per, basis, start, finish, cur⟩) 25 (0, 0)) := (hB1.block _ (by simp)).trans HG.out
  have hcv := HCONV.out w.heap.size w1 hG1
  have HG1 := Lib.hid hG1
  have HZ1 := Lib.hid (HZ0.out.trans (hB1.mono (by simp)))
  have hs1 : w.heap.size < w1.heap.size := lt_of_block hG1
  clear hG1 hv hB1
  go_wp2_with fail
  refine (HI.out w1 (HOK.out.below HZ1.out)).mono ?_
  rintro e w2 ⟨v, rfl, hE, hB2⟩
  have hG2 : w2.heap[w.heap.size]? = some (.cells (secC ⟨c0, c1, c2, c3, c4, c5, c6, c7, c8, c9, c10, c11, 1, face, coupon, per, basis, start, finish, cur⟩) 25 (0, 0)) := (hB2.block _ hs1).trans HG1.out
  have HG2 := Lib.hid hG2
  have HZ2 := Lib.hid (HZ1.out.trans (hB2.mono HZ1.out.size))
  have hs2 : w.heap.size < w2.heap.size := lt_of_block hG2
  clear hG2 hB2 hcv
  have hbs : (bytesV (if (isinR (codeL ⟨c0, c1, c2, c3, c4, c5, c6, c7, c8, c9, c10, c11, 1, face, coupon, per, basis, start, finish, cur⟩)).1 = 0 then codeL ⟨c0, c1, c2, c3, c4, c5, c6, c7, c8, c9, c10, c11, 1, face, coupon, per, basis, start, finish, cur⟩ else zeros 12)).size = 12 := by rw [bytesV_size]; exact HLZ.out _
  have hb1 := bytesV_one (if (isinR (codeL ⟨c0, c1, c2, c3, c4, c5, c6, c7, c8, c9, c10, c11, 1, face, coupon, per, basis, start, finish, cur⟩)).1 = 0 then codeL ⟨c0, c1, c2, c3, c4, c5, c6, c7, c8, c9, c10, c11, 1, face, coupon, per, basis, start, finish, cur⟩ else zeros 12)
  generalize hR : isinR (codeL ⟨c0, c1, c2, c3, c4, c5, c6, c7, c8, c9, c10, c11, 1, face, coupon, per, basis, start, finish, cur⟩) = R at *
  have HBS := Lib.hid hbs
  have HB1 := Lib.hid hb1
  have HR := Lib.hid hR
  clear hbs hb1 hR
  generalize bytesV (if R.1 = 0 then codeL ⟨c0, c1, c2, c3, c4, c5, c6, c7, c8, c9, c10, c11, 1, face, coupon, per, basis, start, finish, cur⟩ else zeros 12) = cells at HBS HB1 ⊢
  by_cases hr : R.1 = 0
  · obtain ⟨rfl, _⟩ := hE.zero hr
    have HR0 := Lib.hid hr
    clear hr hE
    go_wp2_with (refine wpList_store_any rfl 23 _ _ rfl w2.heap.size cells rfl rfl 23 _ (heap_alloc_new w2 _) (by rw [HBS.out]; kernel_rfl) (by rw [HBS.out]; rfl) HB1.out ?_; intro w3 h3 s3 bl3 ot3; have hG3 := (ot3 w.heap.size (by omega)).trans ((heap_alloc_old _ _ hs2).trans HG2.out); have hc12 : w3.cell? ⟨w.heap.size, 12, none⟩ = some (.int .i64 1) := (by rw [cell_of_row _ _ _ _ _ _ hG3]; rfl); have hc19 : w3.cell? ⟨w.heap.size, 19, none⟩ = some (.string cur) := (by rw [cell_of_row _ _ _ _ _ _ hG3]; rfl); have HG3 := Lib.hid hG3; have HZ3 := Lib.hid (bl3 _ _ (HZ2.out.alloc HZ2.out.size _) HZ2.out.size); clear h3 s3 bl3 ot3 hG3)
    refine (HCUR.out w3 (HOK.out.below HZ3.out)).mono ?_
    rintro e w4 ⟨v2, rfl, hE2, hB4⟩
    have HZ4 := Lib.hid (HZ3.out.trans (hB4.mono HZ3.out.size))
    clear hB4 hc12 hc19
    by_cases hu : (hasR cur.data.toList formCur).1 = 0
    · obtain ⟨rfl, _⟩ := hE2.zero hu
      have HNN := Lib.hid (HN0.out (by rw [HCB.out]; simp [HR0.out]) (by rw [HUB.out]; simp [hu]))
      have hm := HM.out
      clear hu hE2
      go_wp2_with fail
      refine (HC.out w4).mono ?_
      rintro e w5 ⟨v5, rfl, hE5, hB5⟩
      clear hm
      go_wp2_with fail
      go_ret2
      exact ⟨_, _, rfl, (by rw [HNN.out]; exact hE5), (fun _ => ⟨_, .equity rfl⟩), HZ4.out.trans (hB5.mono HZ4.out.size)⟩
    · obtain ⟨t, x, rfl⟩ := hE2.held hu
      have HNN := Lib.hid (HN4'.out (by rw [HCB.out]; simp [HR0.out]) (by rw [HUB.out]; simp [hu]))
      clear hu hE2
      go_wp2_with fail
      go_ret2
      exact ⟨_, _, rfl, (by rw [HNN.out]; exact errP_pri _ (by decide) (by decide)), (fun h => by rw [HNN.out] at h; cases h), HZ4.out⟩
  · obtain ⟨t, x, rfl⟩ := hE.held hr
    have HNN := Lib.hid (HN4.out (by rw [HCB.out]; simp [hr]))
    clear hr hE
    go_wp2_with (refine wpList_store_any rfl 23 _ _ rfl w2.heap.size cells rfl rfl 23 _ (heap_alloc_new w2 _) (by rw [HBS.out]; kernel_rfl) (by rw [HBS.out]; rfl) HB1.out ?_; intro w3 h3 s3 bl3 ot3; have hG3 := (ot3 w.heap.size (by omega)).trans ((heap_alloc_old _ _ hs2).trans HG2.out); have hc12 : w3.cell? ⟨w.heap.size, 12, none⟩ = some (.int .i64 1) := (by rw [cell_of_row _ _ _ _ _ _ hG3]; rfl); have hc19 : w3.cell? ⟨w.heap.size, 19, none⟩ = some (.string cur) := (by rw [cell_of_row _ _ _ _ _ _ hG3]; rfl); have HG3 := Lib.hid hG3; have HZ3 := Lib.hid (bl3 _ _ (HZ2.out.alloc HZ2.out.size _) HZ2.out.size); clear h3 s3 bl3 ot3 hG3)
    go_ret2
    exact ⟨_, _, rfl, (by rw [HNN.out]; exact errP_pri _ (by decide) (by decide)), (fun h => by rw [HNN.out] at h; cases h), HZ3.out⟩
set_option maxRecDepth 100000 in
set_option maxHeartbeats 8000000 in
theorem checked_2 (s : SecV) (w : World) (hk : s.kind = 2) (hcs : s.cur.size ≤ 140737488351232) (hok : Ok w) : Calls Tryz.prog 63 #[.agg (secC s)] w (CheckedP s w) := by
  have hP := fun w => paper_any s w
  have hC := fun w => bond_any s w
  have hCur := fun w => currency_any s.cur w hcs
  have hI := fun w => isinf_any ⟨(codeL s).toArray⟩ w (by simp [codeL_len, ByteArray.size])
  have hconv := fun b w => codeConv s b w
  have hN4 : codeBad s = true → checkN s = 4 := fun h => by unfold checkN; rw [if_neg (by omega), if_pos h]
  have hN4' : codeBad s = false → curBad s = true → checkN s = 4 := fun h h2 => by unfold checkN; rw [if_neg (by omega), if_neg (by rw [h]; exact Bool.false_ne_true), if_pos h2]
  have hN0 : codeBad s = false → curBad s = false → checkN s = bondN s := fun h h2 => by unfold checkN kindN; rw [if_neg (by omega), if_neg (by rw [h]; exact Bool.false_ne_true), if_neg (by rw [h2]; exact Bool.false_ne_true)]; simp [hk]
  have hcb : codeBad s = decide ((isinR (codeL s)).1 ≠ 0) := by unfold codeBad; simp [hk]
  have hub : curBad s = decide ((hasR s.cur.data.toList formCur).1 ≠ 0) := rfl
  have hlz : ∀ r : Int, (if r = 0 then codeL s else zeros 12).length = 12 := fun r => by split <;> rfl
  have hm := fun (n : Nat) (w : World) => mBond n (secC s) w
  obtain ⟨c0, c1, c2, c3, c4, c5, c6, c7, c8, c9, c10, c11, kind, face, coupon, per, basis, start, finish, cur⟩ := s
  simp only at hk hcs hCur
  subst hk
  generalize codeBad ⟨c0, c1, c2, c3, c4, c5, c6, c7, c8, c9, c10, c11, 2, face, coupon, per, basis, start, finish, cur⟩ = cb at *
  generalize curBad ⟨c0, c1, c2, c3, c4, c5, c6, c7, c8, c9, c10, c11, 2, face, coupon, per, basis, start, finish, cur⟩ = ub at *
  simp only [ByteArray.data, List.toList_toArray] at hI
  have HN4 := Lib.hid hN4
  have HN4' := Lib.hid hN4'
  have HN0 := Lib.hid hN0
  have HCB := Lib.hid hcb
  have HUB := Lib.hid hub
  have HP := Lib.hid hP
  have HC := Lib.hid hC
  have HCUR := Lib.hid hCur
  have HI := Lib.hid hI
  have HCONV := Lib.hid hconv
  have HLZ := Lib.hid hlz
  have HM := Lib.hid hm
  have HOK := Lib.hid hok
  have HG := Lib.hid (heap_alloc_new w (.cells (secC ⟨c0, c1, c2, c3, c4, c5, c6, c7, c8, c9, c10, c11, 2, face, coupon, per, basis, start, finish, cur⟩) 25))
  have z0 := (Below.refl w.heap.size w).alloc (Nat.le_refl _) (.cells (secC ⟨c0, c1, c2, c3, c4, c5, c6, c7, c8, c9, c10, c11, 2, face, coupon, per, basis, start, finish, cur⟩) 25)
  have HZ0 := Lib.hid z0
  clear hN4 hN4' hN0 hcb hub hP hC hCur hI hconv hlz hm hok z0
  go_enter Tryz.func63, Tryz.ntmps63
  go_wp2_with (refine wpList_val (.agg (secC ⟨c0, c1, c2, c3, c4, c5, c6, c7, c8, c9, c10, c11, 2, face, coupon, per, basis, start, finish, cur⟩)) (by kernel_rfl) (exec_load_row HG.out rfl rfl Tryz.underlying25 rfl (by kernel_rfl)) ?_)
  refine (HP.out _).mono ?_
  rintro e w1 ⟨v, rfl, hv, hB1⟩
  obtain rfl : v = .iface 206 (.agg (secC ⟨c0, c1, c2, c3, c4, c5, c6, c7, c8, c9, c10, c11, 2, face, coupon, per, basis, start, finish, cur⟩)) := by
    rcases hv with ⟨h, _⟩ | ⟨n, hP⟩
    · simp at h
    · cases hP <;> simp_all
  have hG1 : w1.heap[w.heap.size]? = some (.cells (secC ⟨c0, c1, c2, c3, c4, c5, c6, c7, c8, c9, c10, c11, 2, face, coupon, per, basis, start, finish, cur⟩) 25 (0, 0)) := (hB1.block _ (by simp)).trans HG.out
  have hcv := HCONV.out w.heap.size w1 hG1
  have HG1 := Lib.hid hG1
  have HZ1 := Lib.hid (HZ0.out.trans (hB1.mono (by simp)))
  have hs1 : w.heap.size < w1.heap.size := lt_of_block hG1
  clear hG1 hv hB1
  go_wp2_with fail
  refine (HI.out w1 (HOK.out.below HZ1.out)).mono ?_
  rintro e w2 ⟨v, rfl, hE, hB2⟩
  have hG2 : w2.heap[w.heap.size]? = some (.cells (secC ⟨c0, c1, c2, c3, c4, c5, c6, c7, c8, c9, c10, c11, 2, face, coupon, per, basis, start, finish, cur⟩) 25 (0, 0)) := (hB2.block _ hs1).trans HG1.out
  have HG2 := Lib.hid hG2
  have HZ2 := Lib.hid (HZ1.out.trans (hB2.mono HZ1.out.size))
  have hs2 : w.heap.size < w2.heap.size := lt_of_block hG2
  clear hG2 hB2 hcv
  have hbs : (bytesV (if (isinR (codeL ⟨c0, c1, c2, c3, c4, c5, c6, c7, c8, c9, c10, c11, 2, face, coupon, per, basis, start, finish, cur⟩)).1 = 0 then codeL ⟨c0, c1, c2, c3, c4, c5, c6, c7, c8, c9, c10, c11, 2, face, coupon, per, basis, start, finish, cur⟩ else zeros 12)).size = 12 := by rw [bytesV_size]; exact HLZ.out _
  have hb1 := bytesV_one (if (isinR (codeL ⟨c0, c1, c2, c3, c4, c5, c6, c7, c8, c9, c10, c11, 2, face, coupon, per, basis, start, finish, cur⟩)).1 = 0 then codeL ⟨c0, c1, c2, c3, c4, c5, c6, c7, c8, c9, c10, c11, 2, face, coupon, per, basis, start, finish, cur⟩ else zeros 12)
  generalize hR : isinR (codeL ⟨c0, c1, c2, c3, c4, c5, c6, c7, c8, c9, c10, c11, 2, face, coupon, per, basis, start, finish, cur⟩) = R at *
  have HBS := Lib.hid hbs
  have HB1 := Lib.hid hb1
  have HR := Lib.hid hR
  clear hbs hb1 hR
  generalize bytesV (if R.1 = 0 then codeL ⟨c0, c1, c2, c3, c4, c5, c6, c7, c8, c9, c10, c11, 2, face, coupon, per, basis, start, finish, cur⟩ else zeros 12) = cells at HBS HB1 ⊢
  by_cases hr : R.1 = 0
  · obtain ⟨rfl, _⟩ := hE.zero hr
    have HR0 := Lib.hid hr
    clear hr hE
    go_wp2_with (refine wpList_store_any rfl 23 _ _ rfl w2.heap.size cells rfl rfl 23 _ (heap_alloc_new w2 _) (by rw [HBS.out]; kernel_rfl) (by rw [HBS.out]; rfl) HB1.out ?_; intro w3 h3 s3 bl3 ot3; have hG3 := (ot3 w.heap.size (by omega)).trans ((heap_alloc_old _ _ hs2).trans HG2.out); have hc12 : w3.cell? ⟨w.heap.size, 12, none⟩ = some (.int .i64 2) := (by rw [cell_of_row _ _ _ _ _ _ hG3]; rfl); have hc19 : w3.cell? ⟨w.heap.size, 19, none⟩ = some (.string cur) := (by rw [cell_of_row _ _ _ _ _ _ hG3]; rfl); have HG3 := Lib.hid hG3; have HZ3 := Lib.hid (bl3 _ _ (HZ2.out.alloc HZ2.out.size _) HZ2.out.size); clear h3 s3 bl3 ot3 hG3)
    refine (HCUR.out w3 (HOK.out.below HZ3.out)).mono ?_
    rintro e w4 ⟨v2, rfl, hE2, hB4⟩
    have HZ4 := Lib.hid (HZ3.out.trans (hB4.mono HZ3.out.size))
    clear hB4 hc12 hc19
    by_cases hu : (hasR cur.data.toList formCur).1 = 0
    · obtain ⟨rfl, _⟩ := hE2.zero hu
      have HNN := Lib.hid (HN0.out (by rw [HCB.out]; simp [HR0.out]) (by rw [HUB.out]; simp [hu]))
      have hm := HM.out
      clear hu hE2
      go_wp2_with fail
      refine (HC.out w4).mono ?_
      rintro e w5 ⟨v5, rfl, hE5, hB5⟩
      clear hm
      go_wp2_with fail
      go_ret2
      exact ⟨_, _, rfl, (by rw [HNN.out]; exact hE5), (fun _ => ⟨_, .bond rfl⟩), HZ4.out.trans (hB5.mono HZ4.out.size)⟩
    · obtain ⟨t, x, rfl⟩ := hE2.held hu
      have HNN := Lib.hid (HN4'.out (by rw [HCB.out]; simp [HR0.out]) (by rw [HUB.out]; simp [hu]))
      clear hu hE2
      go_wp2_with fail
      go_ret2
      exact ⟨_, _, rfl, (by rw [HNN.out]; exact errP_pri _ (by decide) (by decide)), (fun h => by rw [HNN.out] at h; cases h), HZ4.out⟩
  · obtain ⟨t, x, rfl⟩ := hE.held hr
    have HNN := Lib.hid (HN4.out (by rw [HCB.out]; simp [hr]))
    clear hr hE
    go_wp2_with (refine wpList_store_any rfl 23 _ _ rfl w2.heap.size cells rfl rfl 23 _ (heap_alloc_new w2 _) (by rw [HBS.out]; kernel_rfl) (by rw [HBS.out]; rfl) HB1.out ?_; intro w3 h3 s3 bl3 ot3; have hG3 := (ot3 w.heap.size (by omega)).trans ((heap_alloc_old _ _ hs2).trans HG2.out); have hc12 : w3.cell? ⟨w.heap.size, 12, none⟩ = some (.int .i64 2) := (by rw [cell_of_row _ _ _ _ _ _ hG3]; rfl); have hc19 : w3.cell? ⟨w.heap.size, 19, none⟩ = some (.string cur) := (by rw [cell_of_row _ _ _ _ _ _ hG3]; rfl); have HG3 := Lib.hid hG3; have HZ3 := Lib.hid (bl3 _ _ (HZ2.out.alloc HZ2.out.size _) HZ2.out.size); clear h3 s3 bl3 ot3 hG3)
    go_ret2
    exact ⟨_, _, rfl, (by rw [HNN.out]; exact errP_pri _ (by decide) (by decide)), (fun h => by rw [HNN.out] at h; cases h), HZ3.out⟩
set_option maxRecDepth 100000 in
set_option maxHeartbeats 8000000 in
theorem checked_3 (s : SecV) (w : World) (hk : s.kind = 3) (hcs : s.cur.size ≤ 140737488351232) (hok : Ok w) : Calls Tryz.prog 63 #[.agg (secC s)] w (CheckedP s w) := by
  have hP := fun w => paper_any s w
  have hC := fun w => bill_any s w
  have hCur := fun w => currency_any s.cur w hcs
  have hI := fun w => isinf_any ⟨(codeL s).toArray⟩ w (by simp [codeL_len, ByteArray.size])
  have hconv := fun b w => codeConv s b w
  have hN4 : codeBad s = true → checkN s = 4 := fun h => by unfold checkN; rw [if_neg (by omega), if_pos h]
  have hN4' : codeBad s = false → curBad s = true → checkN s = 4 := fun h h2 => by unfold checkN; rw [if_neg (by omega), if_neg (by rw [h]; exact Bool.false_ne_true), if_pos h2]
  have hN0 : codeBad s = false → curBad s = false → checkN s = billN s := fun h h2 => by unfold checkN kindN; rw [if_neg (by omega), if_neg (by rw [h]; exact Bool.false_ne_true), if_neg (by rw [h2]; exact Bool.false_ne_true)]; simp [hk]
  have hcb : codeBad s = decide ((isinR (codeL s)).1 ≠ 0) := by unfold codeBad; simp [hk]
  have hub : curBad s = decide ((hasR s.cur.data.toList formCur).1 ≠ 0) := rfl
  have hlz : ∀ r : Int, (if r = 0 then codeL s else zeros 12).length = 12 := fun r => by split <;> rfl
  have hm := fun (n : Nat) (w : World) => mBill n (secC s) w
  obtain ⟨c0, c1, c2, c3, c4, c5, c6, c7, c8, c9, c10, c11, kind, face, coupon, per, basis, start, finish, cur⟩ := s
  simp only at hk hcs hCur
  subst hk
  generalize codeBad ⟨c0, c1, c2, c3, c4, c5, c6, c7, c8, c9, c10, c11, 3, face, coupon, per, basis, start, finish, cur⟩ = cb at *
  generalize curBad ⟨c0, c1, c2, c3, c4, c5, c6, c7, c8, c9, c10, c11, 3, face, coupon, per, basis, start, finish, cur⟩ = ub at *
  simp only [ByteArray.data, List.toList_toArray] at hI
  have HN4 := Lib.hid hN4
  have HN4' := Lib.hid hN4'
  have HN0 := Lib.hid hN0
  have HCB := Lib.hid hcb
  have HUB := Lib.hid hub
  have HP := Lib.hid hP
  have HC := Lib.hid hC
  have HCUR := Lib.hid hCur
  have HI := Lib.hid hI
  have HCONV := Lib.hid hconv
  have HLZ := Lib.hid hlz
  have HM := Lib.hid hm
  have HOK := Lib.hid hok
  have HG := Lib.hid (heap_alloc_new w (.cells (secC ⟨c0, c1, c2, c3, c4, c5, c6, c7, c8, c9, c10, c11, 3, face, coupon, per, basis, start, finish, cur⟩) 25))
  have z0 := (Below.refl w.heap.size w).alloc (Nat.le_refl _) (.cells (secC ⟨c0, c1, c2, c3, c4, c5, c6, c7, c8, c9, c10, c11, 3, face, coupon, per, basis, start, finish, cur⟩) 25)
  have HZ0 := Lib.hid z0
  clear hN4 hN4' hN0 hcb hub hP hC hCur hI hconv hlz hm hok z0
  go_enter Tryz.func63, Tryz.ntmps63
  go_wp2_with (refine wpList_val (.agg (secC ⟨c0, c1, c2, c3, c4, c5, c6, c7, c8, c9, c10, c11, 3, face, coupon, per, basis, start, finish, cur⟩)) (by kernel_rfl) (exec_load_row HG.out rfl rfl Tryz.underlying25 rfl (by kernel_rfl)) ?_)
  refine (HP.out _).mono ?_
  rintro e w1 ⟨v, rfl, hv, hB1⟩
  obtain rfl : v = .iface 204 (.agg (secC ⟨c0, c1, c2, c3, c4, c5, c6, c7, c8, c9, c10, c11, 3, face, coupon, per, basis, start, finish, cur⟩)) := by
    rcases hv with ⟨h, _⟩ | ⟨n, hP⟩
    · simp at h
    · cases hP <;> simp_all
  have hG1 : w1.heap[w.heap.size]? = some (.cells (secC ⟨c0, c1, c2, c3, c4, c5, c6, c7, c8, c9, c10, c11, 3, face, coupon, per, basis, start, finish, cur⟩) 25 (0, 0)) := (hB1.block _ (by simp)).trans HG.out
  have hcv := HCONV.out w.heap.size w1 hG1
  have HG1 := Lib.hid hG1
  have HZ1 := Lib.hid (HZ0.out.trans (hB1.mono (by simp)))
  have hs1 : w.heap.size < w1.heap.size := lt_of_block hG1
  clear hG1 hv hB1
  go_wp2_with fail
  refine (HI.out w1 (HOK.out.below HZ1.out)).mono ?_
  rintro e w2 ⟨v, rfl, hE, hB2⟩
  have hG2 : w2.heap[w.heap.size]? = some (.cells (secC ⟨c0, c1, c2, c3, c4, c5, c6, c7, c8, c9, c10, c11, 3, face, coupon, per, basis, start, finish, cur⟩) 25 (0, 0)) := (hB2.block _ hs1).trans HG1.out
  have HG2 := Lib.hid hG2
  have HZ2 := Lib.hid (HZ1.out.trans (hB2.mono HZ1.out.size))
  have hs2 : w.heap.size < w2.heap.size := lt_of_block hG2
  clear hG2 hB2 hcv
  have hbs : (bytesV (if (isinR (codeL ⟨c0, c1, c2, c3, c4, c5, c6, c7, c8, c9, c10, c11, 3, face, coupon, per, basis, start, finish, cur⟩)).1 = 0 then codeL ⟨c0, c1, c2, c3, c4, c5, c6, c7, c8, c9, c10, c11, 3, face, coupon, per, basis, start, finish, cur⟩ else zeros 12)).size = 12 := by rw [bytesV_size]; exact HLZ.out _
  have hb1 := bytesV_one (if (isinR (codeL ⟨c0, c1, c2, c3, c4, c5, c6, c7, c8, c9, c10, c11, 3, face, coupon, per, basis, start, finish, cur⟩)).1 = 0 then codeL ⟨c0, c1, c2, c3, c4, c5, c6, c7, c8, c9, c10, c11, 3, face, coupon, per, basis, start, finish, cur⟩ else zeros 12)
  generalize hR : isinR (codeL ⟨c0, c1, c2, c3, c4, c5, c6, c7, c8, c9, c10, c11, 3, face, coupon, per, basis, start, finish, cur⟩) = R at *
  have HBS := Lib.hid hbs
  have HB1 := Lib.hid hb1
  have HR := Lib.hid hR
  clear hbs hb1 hR
  generalize bytesV (if R.1 = 0 then codeL ⟨c0, c1, c2, c3, c4, c5, c6, c7, c8, c9, c10, c11, 3, face, coupon, per, basis, start, finish, cur⟩ else zeros 12) = cells at HBS HB1 ⊢
  by_cases hr : R.1 = 0
  · obtain ⟨rfl, _⟩ := hE.zero hr
    have HR0 := Lib.hid hr
    clear hr hE
    go_wp2_with (refine wpList_store_any rfl 23 _ _ rfl w2.heap.size cells rfl rfl 23 _ (heap_alloc_new w2 _) (by rw [HBS.out]; kernel_rfl) (by rw [HBS.out]; rfl) HB1.out ?_; intro w3 h3 s3 bl3 ot3; have hG3 := (ot3 w.heap.size (by omega)).trans ((heap_alloc_old _ _ hs2).trans HG2.out); have hc12 : w3.cell? ⟨w.heap.size, 12, none⟩ = some (.int .i64 3) := (by rw [cell_of_row _ _ _ _ _ _ hG3]; rfl); have hc19 : w3.cell? ⟨w.heap.size, 19, none⟩ = some (.string cur) := (by rw [cell_of_row _ _ _ _ _ _ hG3]; rfl); have HG3 := Lib.hid hG3; have HZ3 := Lib.hid (bl3 _ _ (HZ2.out.alloc HZ2.out.size _) HZ2.out.size); clear h3 s3 bl3 ot3 hG3)
    refine (HCUR.out w3 (HOK.out.below HZ3.out)).mono ?_
    rintro e w4 ⟨v2, rfl, hE2, hB4⟩
    have HZ4 := Lib.hid (HZ3.out.trans (hB4.mono HZ3.out.size))
    clear hB4 hc12 hc19
    by_cases hu : (hasR cur.data.toList formCur).1 = 0
    · obtain ⟨rfl, _⟩ := hE2.zero hu
      have HNN := Lib.hid (HN0.out (by rw [HCB.out]; simp [HR0.out]) (by rw [HUB.out]; simp [hu]))
      have hm := HM.out
      clear hu hE2
      go_wp2_with fail
      refine (HC.out w4).mono ?_
      rintro e w5 ⟨v5, rfl, hE5, hB5⟩
      clear hm
      go_wp2_with fail
      go_ret2
      exact ⟨_, _, rfl, (by rw [HNN.out]; exact hE5), (fun _ => ⟨_, .bill rfl⟩), HZ4.out.trans (hB5.mono HZ4.out.size)⟩
    · obtain ⟨t, x, rfl⟩ := hE2.held hu
      have HNN := Lib.hid (HN4'.out (by rw [HCB.out]; simp [HR0.out]) (by rw [HUB.out]; simp [hu]))
      clear hu hE2
      go_wp2_with fail
      go_ret2
      exact ⟨_, _, rfl, (by rw [HNN.out]; exact errP_pri _ (by decide) (by decide)), (fun h => by rw [HNN.out] at h; cases h), HZ4.out⟩
  · obtain ⟨t, x, rfl⟩ := hE.held hr
    have HNN := Lib.hid (HN4.out (by rw [HCB.out]; simp [hr]))
    clear hr hE
    go_wp2_with (refine wpList_store_any rfl 23 _ _ rfl w2.heap.size cells rfl rfl 23 _ (heap_alloc_new w2 _) (by rw [HBS.out]; kernel_rfl) (by rw [HBS.out]; rfl) HB1.out ?_; intro w3 h3 s3 bl3 ot3; have hG3 := (ot3 w.heap.size (by omega)).trans ((heap_alloc_old _ _ hs2).trans HG2.out); have hc12 : w3.cell? ⟨w.heap.size, 12, none⟩ = some (.int .i64 3) := (by rw [cell_of_row _ _ _ _ _ _ hG3]; rfl); have hc19 : w3.cell? ⟨w.heap.size, 19, none⟩ = some (.string cur) := (by rw [cell_of_row _ _ _ _ _ _ hG3]; rfl); have HG3 := Lib.hid hG3; have HZ3 := Lib.hid (bl3 _ _ (HZ2.out.alloc HZ2.out.size _) HZ2.out.size); clear h3 s3 bl3 ot3 hG3)
    go_ret2
    exact ⟨_, _, rfl, (by rw [HNN.out]; exact errP_pri _ (by decide) (by decide)), (fun h => by rw [HNN.out] at h; cases h), HZ3.out⟩
set_option maxRecDepth 100000 in
set_option maxHeartbeats 8000000 in
theorem checked_4 (s : SecV) (w : World) (hk : s.kind = 4) (hcs : s.cur.size ≤ 140737488351232) (hok : Ok w) : Calls Tryz.prog 63 #[.agg (secC s)] w (CheckedP s w) := by
  have hP := fun w => paper_any s w
  have hC := fun w => equity_any s w
  have hCur := fun w => currency_any s.cur w hcs
  have hI := fun w => isinf_any ⟨(codeL s).toArray⟩ w (by simp [codeL_len, ByteArray.size])
  have hconv := fun b w => codeConv s b w
  have hN4 : codeBad s = true → checkN s = 4 := fun h => by unfold checkN; rw [if_neg (by omega), if_pos h]
  have hN4' : codeBad s = false → curBad s = true → checkN s = 4 := fun h h2 => by unfold checkN; rw [if_neg (by omega), if_neg (by rw [h]; exact Bool.false_ne_true), if_pos h2]
  have hN0 : codeBad s = false → curBad s = false → checkN s = eqN s := fun h h2 => by unfold checkN kindN; rw [if_neg (by omega), if_neg (by rw [h]; exact Bool.false_ne_true), if_neg (by rw [h2]; exact Bool.false_ne_true)]; simp [hk]
  have hcb : codeBad s = decide (codeL s ≠ zeros 12) := by unfold codeBad; simp [hk]
  have hub : curBad s = decide ((hasR s.cur.data.toList formCur).1 ≠ 0) := rfl
  have hlz : ∀ r : Int, (if r = 0 then codeL s else zeros 12).length = 12 := fun r => by split <;> rfl
  have hm := fun (n : Nat) (w : World) => mCash n s w
  obtain ⟨c0, c1, c2, c3, c4, c5, c6, c7, c8, c9, c10, c11, kind, face, coupon, per, basis, start, finish, cur⟩ := s
  simp only at hk hcs hCur
  subst hk
  generalize codeBad ⟨c0, c1, c2, c3, c4, c5, c6, c7, c8, c9, c10, c11, 4, face, coupon, per, basis, start, finish, cur⟩ = cb at *
  generalize curBad ⟨c0, c1, c2, c3, c4, c5, c6, c7, c8, c9, c10, c11, 4, face, coupon, per, basis, start, finish, cur⟩ = ub at *
  simp only [ByteArray.data, List.toList_toArray] at hI
  have HN4 := Lib.hid hN4
  have HN4' := Lib.hid hN4'
  have HN0 := Lib.hid hN0
  have HCB := Lib.hid hcb
  have HUB := Lib.hid hub
  have HP := Lib.hid hP
  have HC := Lib.hid hC
  have HCUR := Lib.hid hCur
  have HI := Lib.hid hI
  have HCONV := Lib.hid hconv
  have HLZ := Lib.hid hlz
  have HM := Lib.hid hm
  have HOK := Lib.hid hok
  have HG := Lib.hid (heap_alloc_new w (.cells (secC ⟨c0, c1, c2, c3, c4, c5, c6, c7, c8, c9, c10, c11, 4, face, coupon, per, basis, start, finish, cur⟩) 25))
  have z0 := (Below.refl w.heap.size w).alloc (Nat.le_refl _) (.cells (secC ⟨c0, c1, c2, c3, c4, c5, c6, c7, c8, c9, c10, c11, 4, face, coupon, per, basis, start, finish, cur⟩) 25)
  have HZ0 := Lib.hid z0
  clear hN4 hN4' hN0 hcb hub hP hC hCur hI hconv hlz hm hok z0
  go_enter Tryz.func63, Tryz.ntmps63
  go_wp2_with (refine wpList_val (.agg (secC ⟨c0, c1, c2, c3, c4, c5, c6, c7, c8, c9, c10, c11, 4, face, coupon, per, basis, start, finish, cur⟩)) (by kernel_rfl) (exec_load_row HG.out rfl rfl Tryz.underlying25 rfl (by kernel_rfl)) ?_)
  refine (HP.out _).mono ?_
  rintro e w1 ⟨v, rfl, hv, hB1⟩
  obtain rfl : v = .iface 208 (.agg (secC ⟨c0, c1, c2, c3, c4, c5, c6, c7, c8, c9, c10, c11, 4, face, coupon, per, basis, start, finish, cur⟩)) := by
    rcases hv with ⟨h, _⟩ | ⟨n, hP⟩
    · simp at h
    · cases hP <;> simp_all
  have hG1 : w1.heap[w.heap.size]? = some (.cells (secC ⟨c0, c1, c2, c3, c4, c5, c6, c7, c8, c9, c10, c11, 4, face, coupon, per, basis, start, finish, cur⟩) 25 (0, 0)) := (hB1.block _ (by simp)).trans HG.out
  have hcv := HCONV.out w.heap.size w1 hG1
  have HG1 := Lib.hid hG1
  have HZ1 := Lib.hid (HZ0.out.trans (hB1.mono (by simp)))
  have hs1 : w.heap.size < w1.heap.size := lt_of_block hG1
  clear hG1 hv hB1
  go_wp2_with fail
  refine (HI.out w1 (HOK.out.below HZ1.out)).mono ?_
  rintro e w2 ⟨v, rfl, hE, hB2⟩
  have hG2 : w2.heap[w.heap.size]? = some (.cells (secC ⟨c0, c1, c2, c3, c4, c5, c6, c7, c8, c9, c10, c11, 4, face, coupon, per, basis, start, finish, cur⟩) 25 (0, 0)) := (hB2.block _ hs1).trans HG1.out
  have HG2 := Lib.hid hG2
  have HZ2 := Lib.hid (HZ1.out.trans (hB2.mono HZ1.out.size))
  have hs2 : w.heap.size < w2.heap.size := lt_of_block hG2
  clear hG2 hB2 hcv
  have hbs : (bytesV (if (isinR (codeL ⟨c0, c1, c2, c3, c4, c5, c6, c7, c8, c9, c10, c11, 4, face, coupon, per, basis, start, finish, cur⟩)).1 = 0 then codeL ⟨c0, c1, c2, c3, c4, c5, c6, c7, c8, c9, c10, c11, 4, face, coupon, per, basis, start, finish, cur⟩ else zeros 12)).size = 12 := by rw [bytesV_size]; exact HLZ.out _
  have hb1 := bytesV_one (if (isinR (codeL ⟨c0, c1, c2, c3, c4, c5, c6, c7, c8, c9, c10, c11, 4, face, coupon, per, basis, start, finish, cur⟩)).1 = 0 then codeL ⟨c0, c1, c2, c3, c4, c5, c6, c7, c8, c9, c10, c11, 4, face, coupon, per, basis, start, finish, cur⟩ else zeros 12)
  generalize hR : isinR (codeL ⟨c0, c1, c2, c3, c4, c5, c6, c7, c8, c9, c10, c11, 4, face, coupon, per, basis, start, finish, cur⟩) = R at *
  have HBS := Lib.hid hbs
  have HB1 := Lib.hid hb1
  have HR := Lib.hid hR
  clear hbs hb1 hR
  generalize bytesV (if R.1 = 0 then codeL ⟨c0, c1, c2, c3, c4, c5, c6, c7, c8, c9, c10, c11, 4, face, coupon, per, basis, start, finish, cur⟩ else zeros 12) = cells at HBS HB1 ⊢
  have heq := eqIsin (codeL ⟨c0, c1, c2, c3, c4, c5, c6, c7, c8, c9, c10, c11, 4, face, coupon, per, basis, start, finish, cur⟩) (zeros 12) rfl rfl
  have HEQ := Lib.hid heq
  clear heq
  have hrow : ∀ w3 : World, w3.heap[w.heap.size]? = some (.cells (secC ⟨c0, c1, c2, c3, c4, c5, c6, c7, c8, c9, c10, c11, 4, face, coupon, per, basis, start, finish, cur⟩) 25 (0, 0)) → w3.rangeAt w.heap.size 0 [.int .u8 (c0.toNat : Nat), .int .u8 (c1.toNat : Nat), .int .u8 (c2.toNat : Nat), .int .u8 (c3.toNat : Nat), .int .u8 (c4.toNat : Nat), .int .u8 (c5.toNat : Nat), .int .u8 (c6.toNat : Nat), .int .u8 (c7.toNat : Nat), .int .u8 (c8.toNat : Nat), .int .u8 (c9.toNat : Nat), .int .u8 (c10.toNat : Nat), .int .u8 (c11.toNat : Nat)] := fun w3 h => rangeAt_of_row h 0 _ (fun j v hv => by
    rcases j with _ | _ | _ | _ | _ | _ | _ | _ | _ | _ | _ | _ | j
    all_goals first | exact hv | simp at hv)
  have HROW := Lib.hid hrow
  clear hrow hE
  cases hz : decide (codeL ⟨c0, c1, c2, c3, c4, c5, c6, c7, c8, c9, c10, c11, 4, face, coupon, per, basis, start, finish, cur⟩ = zeros 12)
  · have HZ := Lib.hid hz
    have HNN := Lib.hid (HN4.out (by rw [HCB.out]; simpa using hz))
    clear hz
    go_wp2_with (first | (refine wpList_store_any rfl 23 _ _ rfl w2.heap.size cells rfl rfl 23 _ (heap_alloc_new w2 _) (by rw [HBS.out]; kernel_rfl) (by rw [HBS.out]; rfl) HB1.out ?_; intro w3 h3 s3 bl3 ot3; have hG3 := (ot3 w.heap.size (by omega)).trans ((heap_alloc_old _ _ hs2).trans HG2.out); have hc12 : w3.cell? ⟨w.heap.size, 12, none⟩ = some (.int .i64 4) := (by rw [cell_of_row _ _ _ _ _ _ hG3]; rfl); have hc19 : w3.cell? ⟨w.heap.size, 19, none⟩ = some (.string cur) := (by rw [cell_of_row _ _ _ _ _ _ hG3]; rfl); have HG3 := Lib.hid hG3; have HZ3 := Lib.hid (bl3 _ _ (HZ2.out.alloc HZ2.out.size _) HZ2.out.size); clear h3 s3 bl3 ot3 hG3) | (refine wpList_val (.agg #[.int .u8 (c0.toNat : Nat), .int .u8 (c1.toNat : Nat), .int .u8 (c2.toNat : Nat), .int .u8 (c3.toNat : Nat), .int .u8 (c4.toNat : Nat), .int .u8 (c5.toNat : Nat), .int .u8 (c6.toNat : Nat), .int .u8 (c7.toNat : Nat), .int .u8 (c8.toNat : Nat), .int .u8 (c9.toNat : Nat), .int .u8 (c10.toNat : Nat), .int .u8 (c11.toNat : Nat)]) (by kernel_rfl) (exec_load_mid (HROW.out _ HG3.out) rfl rfl Tryz.underlying23 rfl (by kernel_rfl)) ?_) | (refine wpList_val (.bool true) (by kernel_rfl) (exec_neq_val (r := false) rfl rfl rfl (by kernel_rfl) (fun w => (HEQ.out w).trans (by rw [HZ.out])) rfl) ?_))
    go_ret2
    exact ⟨_, _, rfl, (by rw [HNN.out]; exact errP_pri _ (by decide) (by decide)), (fun h => by rw [HNN.out] at h; cases h), HZ3.out⟩
  · have HZ := Lib.hid hz
    have HCF := Lib.hid (HCB.out.trans (show decide (codeL ⟨c0, c1, c2, c3, c4, c5, c6, c7, c8, c9, c10, c11, 4, face, coupon, per, basis, start, finish, cur⟩ ≠ zeros 12) = false by simpa using hz))
    clear hz
    go_wp2_with (first | (refine wpList_store_any rfl 23 _ _ rfl w2.heap.size cells rfl rfl 23 _ (heap_alloc_new w2 _) (by rw [HBS.out]; kernel_rfl) (by rw [HBS.out]; rfl) HB1.out ?_; intro w3 h3 s3 bl3 ot3; have hG3 := (ot3 w.heap.size (by omega)).trans ((heap_alloc_old _ _ hs2).trans HG2.out); have hc12 : w3.cell? ⟨w.heap.size, 12, none⟩ = some (.int .i64 4) := (by rw [cell_of_row _ _ _ _ _ _ hG3]; rfl); have hc19 : w3.cell? ⟨w.heap.size, 19, none⟩ = some (.string cur) := (by rw [cell_of_row _ _ _ _ _ _ hG3]; rfl); have HG3 := Lib.hid hG3; have HZ3 := Lib.hid (bl3 _ _ (HZ2.out.alloc HZ2.out.size _) HZ2.out.size); clear h3 s3 bl3 ot3 hG3) | (refine wpList_val (.agg #[.int .u8 (c0.toNat : Nat), .int .u8 (c1.toNat : Nat), .int .u8 (c2.toNat : Nat), .int .u8 (c3.toNat : Nat), .int .u8 (c4.toNat : Nat), .int .u8 (c5.toNat : Nat), .int .u8 (c6.toNat : Nat), .int .u8 (c7.toNat : Nat), .int .u8 (c8.toNat : Nat), .int .u8 (c9.toNat : Nat), .int .u8 (c10.toNat : Nat), .int .u8 (c11.toNat : Nat)]) (by kernel_rfl) (exec_load_mid (HROW.out _ HG3.out) rfl rfl Tryz.underlying23 rfl (by kernel_rfl)) ?_) | (refine wpList_val (.bool false) (by kernel_rfl) (exec_neq_val (r := true) rfl rfl rfl (by kernel_rfl) (fun w => (HEQ.out w).trans (by rw [HZ.out])) rfl) ?_))
    refine (HCUR.out w3 (HOK.out.below HZ3.out)).mono ?_
    rintro e w4 ⟨v2, rfl, hE2, hB4⟩
    have HZ4 := Lib.hid (HZ3.out.trans (hB4.mono HZ3.out.size))
    clear hB4 hc12 hc19
    by_cases hu : (hasR cur.data.toList formCur).1 = 0
    · obtain ⟨rfl, _⟩ := hE2.zero hu
      have HNN := Lib.hid (HN0.out (HCF.out) (by rw [HUB.out]; simp [hu]))
      have hm := HM.out
      clear hu hE2
      go_wp2_with fail
      refine (HC.out w4).mono ?_
      rintro e w5 ⟨v5, rfl, hE5, hB5⟩
      clear hm
      go_wp2_with fail
      go_ret2
      exact ⟨_, _, rfl, (by rw [HNN.out]; exact hE5), (fun _ => ⟨_, .cash rfl⟩), HZ4.out.trans (hB5.mono HZ4.out.size)⟩
    · obtain ⟨t, x, rfl⟩ := hE2.held hu
      have HNN := Lib.hid (HN4'.out (HCF.out) (by rw [HUB.out]; simp [hu]))
      clear hu hE2
      go_wp2_with fail
      go_ret2
      exact ⟨_, _, rfl, (by rw [HNN.out]; exact errP_pri _ (by decide) (by decide)), (fun h => by rw [HNN.out] at h; cases h), HZ4.out⟩
end Go.Proofs.YtmepjcnpbjdlkaaGreatDoor
/- price.Check and the document's Check: by contract. -/
namespace Go.Proofs.YtmepjcnpbjdlkaaGreatDoor
set_option linter.unusedVariables false
set_option linter.unusedSimpArgs false
open Go.RowKit
attribute [local irreducible] Go.wpStill

theorem checked_any (s : SecV) (w : World) (hcs : s.cur.size ≤ 140737488351232) (hok : Ok w) : Calls Tryz.prog 63 #[.agg (secC s)] w (CheckedP s w) := by
  by_cases hk : s.kind < 1 ∨ 4 < s.kind
  · exact checked_no s w hk
  · by_cases h1 : s.kind = 1
    · exact checked_1 s w h1 hcs hok
    · by_cases h2 : s.kind = 2
      · exact checked_2 s w h2 hcs hok
      · by_cases h3 : s.kind = 3
        · exact checked_3 s w h3 hcs hok
        · exact checked_4 s w (by omega) hcs hok
set_option maxRecDepth 100000 in
set_option maxHeartbeats 2000000 in
theorem priceCheck_any (s : SecV) (w : World) (hcs : s.cur.size ≤ 140737488351232) (hok : Ok w) : Calls Tryz.prog 34 #[.agg (secC s)] w (ErrR (checkN s) w) := by
  have hC := fun w hok => checked_any s w hcs hok
  obtain ⟨c0, c1, c2, c3, c4, c5, c6, c7, c8, c9, c10, c11, kind, face, coupon, per, basis, start, finish, cur⟩ := s
  have HC := Lib.hid hC
  have HOK := Lib.hid hok
  have z0 := (Below.refl w.heap.size w).alloc (Nat.le_refl _) (.cells (secC ⟨c0, c1, c2, c3, c4, c5, c6, c7, c8, c9, c10, c11, kind, face, coupon, per, basis, start, finish, cur⟩) 25)
  have HZ0 := Lib.hid z0
  have HG := Lib.hid (heap_alloc_new w (.cells (secC ⟨c0, c1, c2, c3, c4, c5, c6, c7, c8, c9, c10, c11, kind, face, coupon, per, basis, start, finish, cur⟩) 25))
  clear hC hok z0
  go_enter Tryz.func34, Tryz.ntmps34
  go_wp2_with (refine wpList_val (.agg (secC ⟨c0, c1, c2, c3, c4, c5, c6, c7, c8, c9, c10, c11, kind, face, coupon, per, basis, start, finish, cur⟩)) (by kernel_rfl) (exec_load_row HG.out rfl rfl Tryz.underlying25 rfl (by kernel_rfl)) ?_)
  refine (HC.out _ (HOK.out.below HZ0.out)).mono ?_
  rintro e w1 ⟨p, v, rfl, hE, _, hB⟩
  go_wp2_with fail
  go_ret
  exact ⟨_, rfl, hE, HZ0.out.trans (hB.mono (by simp))⟩

end Go.Proofs.YtmepjcnpbjdlkaaGreatDoor
