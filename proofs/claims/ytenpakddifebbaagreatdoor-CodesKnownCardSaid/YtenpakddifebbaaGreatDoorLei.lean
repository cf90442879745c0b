/- codes.LeiDigits and codes.Lei: by contract. -/
import Derived.Test.YtenpakddifebbaaGreatDoorLeiRef
import Derived.Test.YtenpakddifebbaaGreatDoorReg
import Derived.Test.YtenpakddifebbaaGreatDoorShelf
import Derived.Deep.DeepCutAuto
namespace Go.Proofs.YtenpakddifebbaaGreatDoor
set_option linter.unusedVariables false
set_option linter.unusedSimpArgs false
open Go.RowKit

theorem repeat18 (w : World) : Calls Tryz.prog 30 #[.string ⟨#[83]⟩, .int .i64 18] w fun e w' => e = .returned (.string ⟨formLeiHead.toArray⟩) ∧ Below w.heap.size w w' := by
  have h := Tryz.strings_Repeat ⟨#[83]⟩ 18 w (by decide) (by decide)
  have e : (Lib.repeatL (⟨#[83]⟩ : ByteArray).data.toList 18).toArray = formLeiHead.toArray := by rfl
  rw [e] at h
  exact h
theorem run_pairString {w : World} {g : Nat} {a b : UInt8} {t : TypeId} {fr : Nat × Nat} (h : w.heap[g]? = some (.cells #[.int .u8 (a.toNat : Nat), .int .u8 (b.toNat : Nat)] t fr)) :
    (convert 46 9 (.slice (some ⟨g, 0, none⟩) 2 2)).run Tryz.prog w = .ok (.string ⟨#[a, b]⟩) w := by
  have := run_convert_bytes_back (P := Tryz.prog) w 46 9 5 ⟨g, 0, none⟩ 2 [a, b] Tryz.underlying46 Tryz.underlying5 Tryz.underlying9 (fun j hj => by
    have hj0 : j = 0 ∨ j = 1 := by simp at hj; omega
    rcases hj0 with rfl | rfl
    · show w.cell? ⟨g, 0, none⟩ = _
      rw [cell_of_row _ _ _ _ _ _ h]
      simp
    · show w.cell? ⟨g, 1, none⟩ = _
      rw [cell_of_row _ _ _ _ _ _ h]
      simp)
  exact this
/-- a call hands back a text and an error -/
def RetStr (l : List UInt8) (r : Int × Option (Int × Int)) (w : World) (e : Ending) (w' : World) : Prop := ∃ v, e = .returned (.tuple #[.string ⟨l.toArray⟩, v]) ∧ ErrP v r.1 r.2 ∧ Below w.heap.size w w'

set_option maxRecDepth 100000 in
set_option maxHeartbeats 1000000 in
theorem leiDigits_any (s : ByteArray) (w : World) (hs : s.size ≤ 140737488351232) (hok : Ok w) :
    Calls Tryz.prog 14 #[.string s] w (RetStr (leiDigitsR s.data.toList) (hasR s.data.toList formLeiHead) w) := by
  have HOK := Lib.hid hok
  clear hok
  by_cases h1 : (hasR s.data.toList formLeiHead).1 = 0
  · have hsig := hasR_signs h1
    have hz := hasR_zero h1
    have hlen := (hasR_fits h1).1
    have h18 : s.size = 18 := by simpa [formLeiHead] using hlen
    have e : leiDigitsR s.data.toList = digits2 s.data.toList := by unfold leiDigitsR; rw [if_pos h1]
    rw [e, hz]
    have hd := fun w => digits_any s w (by omega) hsig
    obtain ⟨a, b, hab⟩ : ∃ a b, digits2 s.data.toList = [a, b] := ⟨_, _, rfl⟩
    rw [hab] at hd ⊢
    have hbv : bytesV [a, b] = #[.int .u8 (a.toNat : Nat), .int .u8 (b.toNat : Nat)] := rfl
    rw [hbv] at hd
    have HD := Lib.hid hd
    have HZ := Lib.hid hz
    clear hd hz hab hsig e hlen h1 hbv
    go_enter Tryz.func14, Tryz.ntmps14
    go_wp2_with fail
    refine (repeat18 _).mono ?_
    rintro e w1 ⟨rfl, hb1⟩
    go_wp2_with fail
    refine (has_form s formLeiHead _ (by omega) (by decide) (by decide) (Ok.below HOK.out hb1)).mono ?_
    rintro e w2 ⟨v, rfl, hE, hb2⟩
    rw [HZ.out] at hE
    obtain ⟨rfl, _⟩ := hE.zero rfl
    have hbw2 := hb1.trans (hb2.mono hb1.size)
    clear hb1 hb2
    go_wp2_with fail
    refine (HD.out _).mono ?_
    rintro e w3 ⟨rfl, hb3⟩
    have hbw3 := hbw2.trans (hb3.mono hbw2.size)
    go_wp2_with (refine wpList_store_any rfl 67 _ _ rfl w3.heap.size _ rfl rfl 67 _ (heap_alloc_new w3 _) (by kernel_rfl) rfl (by simp [Value.oneCell']) ?_; intro w4 hr4 hs4 hbl4 _; have hcv := run_pairString hr4)
    go_ret2
    exact ⟨_, rfl, .nil, hbl4 _ _ (hbw3.alloc hbw3.size _) hbw3.size⟩
  · have e : leiDigitsR s.data.toList = [] := by unfold leiDigitsR; rw [if_neg h1]
    rw [e]
    clear e
    go_enter Tryz.func14, Tryz.ntmps14
    go_wp2_with fail
    refine (repeat18 _).mono ?_
    rintro e w1 ⟨rfl, hb1⟩
    go_wp2_with fail
    refine (has_form s formLeiHead _ (by omega) (by decide) (by decide) (Ok.below HOK.out hb1)).mono ?_
    rintro e w2 ⟨v, rfl, hE, hb2⟩
    obtain ⟨t, x, rfl⟩ := hE.held h1
    go_wp2
    go_ret2
    exact ⟨_, rfl, hE, hb1.trans (hb2.mono hb1.size)⟩

theorem eqPair (x y a b : Int) (w : World) : (Op.equalIn 10000 67 (.agg #[.int .u8 x, .int .u8 y]) (.agg #[.int .u8 a, .int .u8 b])).run Tryz.prog w = .ok (x == a && y == b) w := by
  obtain ⟨i, hi⟩ : ∃ i, Tryz.prog.info? 5 = some i := Option.isSome_iff_exists.1 (by kernel_rfl)
  have hc : Tryz.prog.cellsOf 5 = 1 := by kernel_rfl
  have hp : Tryz.prog.plainKey 5 = true := by kernel_rfl
  rw [run_equalIn_array w 9999 _ _ Tryz.underlying67 hi, hc]
  have p0 : ∀ (u v : Value) (w : World), (part 5 #[u, v] 0).run Tryz.prog w = .ok u w := fun u v w => run_part_plain w hp rfl
  have p1 : ∀ (u v : Value) (w : World), (part 5 #[u, v] 1).run Tryz.prog w = .ok v w := fun u v w => run_part_plain w hp rfl
  have q : ∀ (u v : Int) (w : World), (Op.equalIn 9999 5 (.int .u8 u) (.int .u8 v)).run Tryz.prog w = .ok (u == v) w := fun u v w => run_equalIn_int w 9998 _ _ _ _ _ Tryz.underlying5
  show (Op.eqItems 9999 5 1 _ _ [0, 1]).run Tryz.prog w = _
  simp only [Op.eqItems, Nat.zero_mul, Nat.one_mul, Sem.run_bind, p0, p1, q, Result.andThen_ok]
  cases h1 : x == a <;> cases h2 : y == b <;> simp [Sem.run_bind, p1, q, h2]

theorem leiBytes {s : ByteArray} (h20 : s.size = 20) : s.data.toList.drop 18 = [s[18], s[19]] := by
  have hl : s.data.toList.length = 20 := by simpa using h20
  have g18 : s.data.toList[18] = s[18] := by
    rw [← byte_at s 18 (by omega), List.getD_eq_getElem?_getD, List.getElem?_eq_getElem (by omega)]; rfl
  have g19 : s.data.toList[19] = s[19] := by
    rw [← byte_at s 19 (by omega), List.getD_eq_getElem?_getD, List.getElem?_eq_getElem (by omega)]; rfl
  rw [List.drop_eq_getElem_cons (by omega), List.drop_eq_getElem_cons (by omega), List.drop_of_length_le (by omega), g18, g19]

set_option maxRecDepth 100000 in
set_option maxHeartbeats 2000000 in
theorem leif_any (s : ByteArray) (w : World) (hs : s.size ≤ 140737488400000) (hok : Ok w) :
    Calls Tryz.prog 12 #[.string s] w (RetArr (if (leiR s.data.toList).1 = 0 then s.data.toList else zeros 20) (leiR s.data.toList) w) := by
  have HOK := Lib.hid hok
  clear hok
  have hb0 := heap_alloc_new w (.cells #[.int .u8 0, .int .u8 0, .int .u8 0, .int .u8 0, .int .u8 0, .int .u8 0, .int .u8 0, .int .u8 0, .int .u8 0, .int .u8 0, .int .u8 0, .int .u8 0, .int .u8 0, .int .u8 0, .int .u8 0, .int .u8 0, .int .u8 0, .int .u8 0, .int .u8 0, .int .u8 0] 35)
  have HB0 := Lib.hid hb0
  clear hb0
  have hform : (⟨formLeiHead.toArray⟩ : ByteArray) ++ ({ data := #[68, 68] } : ByteArray) = ⟨formLei.toArray⟩ := by decide
  have hfs : (⟨formLeiHead.toArray⟩ : ByteArray).size = 18 := rfl
  have hfs2 : ({ data := #[68, 68] } : ByteArray).size = 2 := rfl
  by_cases h1 : (hasR s.data.toList formLei).1 = 0
  · have hz := hasR_zero h1
    have hsig := hasR_signs h1
    have h20 : s.size = 20 := by have := (hasR_head h1).2; simpa using this
    have h18le : (18 : Nat) ≤ s.size := by omega
    have et : (s.extract 0 18).data.toList = s.data.toList.take 18 := by simp
    have hd := fun w => digits_any (s.extract 0 18) w (by simp; omega) (by rw [et]; exact fun c hc => hsig c (List.mem_of_mem_take hc))
    rw [et] at hd
    have hR : leiR s.data.toList = if [s[18], s[19]] = digits2 (s.data.toList.take 18) then (0, none) else (7, none) := by
      unfold leiR; rw [if_pos h1, leiBytes h20]
    obtain ⟨a, b, hab⟩ : ∃ a b, digits2 (s.data.toList.take 18) = [a, b] := ⟨_, _, rfl⟩
    rw [hab] at hd hR
    have hbv : bytesV [a, b] = #[.int .u8 (a.toNat : Nat), .int .u8 (b.toNat : Nat)] := rfl
    rw [hbv] at hd
    have HD := Lib.hid hd
    have HZ := Lib.hid hz
    have HRR := Lib.hid hR
    clear hd hz hab hsig hbv et hR h1
    have hgp : Tryz.prog.eqGuardType Tryz.prog.depth 67 = false := by kernel_rfl
    have HGP := Lib.hid hgp
    clear hgp
    by_cases h2 : [s[18], s[19]] = [a, b]
    · have HR0 : Hid (leiR s.data.toList = (0, none)) := by show _ = _; rw [HRR.out, if_pos h2]
      rw [HR0.out, if_pos rfl]
      have HEQ : Hid ((!((s[18].toNat : Int) == (a.toNat : Int) && (s[19].toNat : Int) == (b.toNat : Int))) = false) := by
        show _ = _
        simp only [List.cons.injEq, and_true] at h2
        rw [h2.1, h2.2]; simp
      clear h2
      go_enter Tryz.func12, Tryz.ntmps12
      go_wp2_with fail
      refine (repeat18 _).mono ?_
      rintro e w1 ⟨rfl, hB1⟩
      have hb1 := blk_below hB1 HB0.out (by simp)
      have hB1' : Below w.heap.size w w1 := ((Below.refl _ _).alloc (Nat.le_refl _) _).trans (hB1.mono (by simp))
      go_wp2_with fail
      refine (has_form s formLei _ hs (by decide) (by decide) (Ok.below HOK.out hB1')).mono ?_
      rintro e w2 ⟨v, rfl, hE, hB2⟩
      have hb2 := blk_below hB2 hb1 (lt_of_block hb1)
      have hB2' := hB1'.trans (hB2.mono hB1'.size)
      have hlt2 := lt_of_block hb2
      clear hB1 hB1' hb1 hB2
      rw [HZ.out] at hE
      obtain ⟨rfl, _⟩ := hE.zero rfl
      have hcv := run_bytes_of_string (P := Tryz.prog) w2 9 46 5 s Tryz.underlying9 Tryz.underlying46 Tryz.underlying5
      have hge := grownCap_ge w2 s.size 0 5
      have hrow : ∀ (j : Nat) (v : Value), (bytesV s.data.toList).toList[j]? = some v → (bytesRow s (grownCap w2 s.size 0 5))[j]? = some v := by
        intro j v hv
        simp only [bytesV, List.getElem?_map, Option.map_eq_some_iff] at hv
        obtain ⟨c, hc, rfl⟩ := hv
        have hj : j < s.data.toList.length := (List.getElem?_eq_some_iff.1 hc).1
        have hj' : j < s.data.size := by simpa using hj
        rw [bytesRow_at s _ j hj']
        rw [List.getElem?_eq_getElem hj] at hc
        simp at hc
        rw [← hc]
      have hr18 : (bytesRow s (grownCap w2 s.size 0 5))[18]? = some (.int .u8 (s[18].toNat : Nat)) := by
        rw [bytesRow_at s _ 18 (by show 18 < s.size; omega)]; rfl
      have hr19 : (bytesRow s (grownCap w2 s.size 0 5))[19]? = some (.int .u8 (s[19].toNat : Nat)) := by
        rw [bytesRow_at s _ 19 (by show 19 < s.size; omega)]; rfl
      generalize bytesRow s (grownCap w2 s.size 0 5) = R at *
      generalize grownCap w2 s.size 0 5 = C at *
      have hC : 20 ≤ C := by omega
      have hCi : (20 : Int) ≤ (C : Int) := by omega
      have hCn : C ≠ 18 := by omega
      have hCn2 : ¬ C = 0 := by omega
      have HR := Lib.hid hrow
      have HC18 := Lib.hid hr18
      have HC19 := Lib.hid hr19
      clear hrow hge hr18 hr19
      have hat : ∀ (w' : World), (Instr.arrayAt 35 (.slice (some ⟨w2.heap.size, 0, none⟩) 20 C)).run Tryz.prog w' = .ok (.pointer (some ⟨w2.heap.size, 0, none⟩)) w' := fun w' => by
        simp [Instr.arrayAt, run_underlying Tryz.underlying35]
      have hat2 : ∀ (w' : World), (Instr.arrayAt 67 (.slice (some ⟨w2.heap.size, 18, none⟩) 2 (C - 18))).run Tryz.prog w' = .ok (.pointer (some ⟨w2.heap.size, 18, none⟩)) w' := fun w' => by
        simp [Instr.arrayAt, run_underlying Tryz.underlying67]
      go_upto_region 5 with fail
      have hblk : (w2.alloc (.cells R 5 (R.size, R.size + 1))).heap[w2.heap.size]? = some (.cells R 5 (R.size, R.size + 1)) := heap_alloc_new _ _
      have hbr := (hB2'.alloc hB2'.size (.cells R 5 (R.size, R.size + 1)))
      refine wp_region_held_drew (S := fun w' => w'.cell? ⟨w2.heap.size, 18, none⟩ = some (.int .u8 (s[18].toNat : Nat)) ∧ w'.cell? ⟨w2.heap.size, 19, none⟩ = some (.int .u8 (s[19].toNat : Nat)) ∧ (w'.heap[w2.heap.size]? = some (.cells R 5 (R.size, R.size + 1)) ∧ Below w.heap.size w w' ∧ w'.heap[w.heap.size]? = some (.cells #[.int .u8 0, .int .u8 0, .int .u8 0, .int .u8 0, .int .u8 0, .int .u8 0, .int .u8 0, .int .u8 0, .int .u8 0, .int .u8 0, .int .u8 0, .int .u8 0, .int .u8 0, .int .u8 0, .int .u8 0, .int .u8 0, .int .u8 0, .int .u8 0, .int .u8 0, .int .u8 0] 35 (0, 0)))) (by kernel_rfl) ⟨by
        show (w2.alloc (.cells R 5 (R.size, R.size + 1))).cell? _ = _
        rw [cell_of_row _ _ _ _ _ _ hblk]; exact HC18.out, by
        show (w2.alloc (.cells R 5 (R.size, R.size + 1))).cell? _ = _
        rw [cell_of_row _ _ _ _ _ _ hblk]; exact HC19.out, hblk, hbr.drew.drew, (heap_alloc_old w2 _ hlt2).trans hb2⟩ (fun hHeld => ?_)
      (refine rg_yes 0 ?v1 (by simp only [List.getElem?_toArray, List.getElem?_cons_succ, List.getElem?_cons_zero]; rfl) (by kernel_rfl) (by kernel_rfl) (by kernel_rfl) (by exact fun _ _ _ h => h) (by kernel_rfl) (by assumption) ?y1 ?z1; case y1 => (intro w hSw; (try dsimp only at hSw); go_simp; (try (rw [if_neg (by omega)])); (try with_reducible rfl)))
      (try simp only [Act.put, List.setIfInBounds_toArray, List.set_cons_zero, List.set_cons_succ])
      (refine rg_yes 1 ?v2 (by simp only [List.getElem?_toArray, List.getElem?_cons_succ, List.getElem?_cons_zero]; rfl) (by kernel_rfl) (by kernel_rfl) (by kernel_rfl) (by exact fun _ _ _ h => h) (by kernel_rfl) (by assumption) ?y2 ?z2; case y2 => (intro w hSw; (try dsimp only at hSw); go_simp; (try (rw [if_neg (by omega)])); (try with_reducible rfl)))
      (try simp only [Act.put, List.setIfInBounds_toArray, List.set_cons_zero, List.set_cons_succ])
      (refine rg_yes 2 ?v3 (by simp only [List.getElem?_toArray, List.getElem?_cons_succ, List.getElem?_cons_zero]; rfl) (by kernel_rfl) (by kernel_rfl) (by kernel_rfl) (by exact fun _ _ _ h => h) (by kernel_rfl) (by assumption) ?y3 ?z3; case y3 => (intro w hSw; (try dsimp only at hSw); go_simp; (try (rw [if_neg (by omega)])); (try with_reducible rfl)))
      (try simp only [Act.put, List.setIfInBounds_toArray, List.set_cons_zero, List.set_cons_succ])
      (refine rg_yes 3 ?v4 (by simp only [List.getElem?_toArray, List.getElem?_cons_succ, List.getElem?_cons_zero]; rfl) (by kernel_rfl) (by kernel_rfl) (by kernel_rfl) (by exact fun _ _ _ h => h) (by kernel_rfl) (by assumption) ?y4 ?z4; case y4 => (intro w hSw; (try dsimp only at hSw); go_simp; (try (rw [if_neg (by omega)])); (try with_reducible rfl)))
      (try simp only [Act.put, List.setIfInBounds_toArray, List.set_cons_zero, List.set_cons_succ])
      (refine rg_yes 4 ?v5 (by simp only [List.getElem?_toArray, List.getElem?_cons_succ, List.getElem?_cons_zero]; rfl) (by kernel_rfl) (by kernel_rfl) (by kernel_rfl) (by exact fun _ _ _ h => h) (by kernel_rfl) (by assumption) ?y5 ?z5; case y5 => (intro w hSw; (try dsimp only at hSw); go_simp; (try (rw [if_neg (by omega)])); (try with_reducible rfl)))
      (try simp only [Act.put, List.setIfInBounds_toArray, List.set_cons_zero, List.set_cons_succ])
      (refine rg_yes 5 ?v6 (by simp only [List.getElem?_toArray, List.getElem?_cons_succ, List.getElem?_cons_zero]; rfl) (by kernel_rfl) (by kernel_rfl) (by kernel_rfl) (by exact fun _ _ _ h => h) (by kernel_rfl) (by assumption) ?y6 ?z6; case y6 => (intro w hSw; (try dsimp only at hSw); go_simp; (try (rw [if_neg (by omega)])); (try with_reducible rfl)))
      (try simp only [Act.put, List.setIfInBounds_toArray, List.set_cons_zero, List.set_cons_succ])
      refine rg_call 6 _ _ (by simp only [List.getElem?_toArray, List.getElem?_cons_succ, List.getElem?_cons_zero]; rfl) (by kernel_rfl) (by kernel_rfl) (fun w => by go_simp; exact ⟨rfl, rfl⟩) ?_
      refine (HD.out _).mono ?_
      rintro e w5 ⟨rfl, hb5⟩
      refine ⟨_, rfl, ?_, fun hHeld => ?_⟩
      · have hrow5 := rowAt_below hHeld.2.2.1 hb5
        exact ⟨by rw [cell_of_row _ _ _ _ _ _ hrow5]; exact HC18.out, by rw [cell_of_row _ _ _ _ _ _ hrow5]; exact HC19.out, hrow5, hHeld.2.2.2.1.trans (hb5.mono hHeld.2.2.2.1.size), rowAt_below hHeld.2.2.2.2 hb5⟩
      refine rg_yes 7 _ (by simp only [List.getElem?_toArray, List.getElem?_cons_succ, List.getElem?_cons_zero]; rfl) (by kernel_rfl) (by kernel_rfl) (by kernel_rfl) (by exact fun _ _ _ h => h) (by kernel_rfl) (by assumption) (by exact fun w' hS => (exec_neq_val rfl rfl rfl HGP.out (eqPair _ _ _ _) HEQ.out)) ?_
      (try simp only [Act.put, List.setIfInBounds_toArray, List.set_cons_zero, List.set_cons_succ])
      refine wpAnyH_done (by kernel_rfl) ?_ _
      obtain ⟨_, _, hrow5, hbw5, hres5⟩ := hHeld

      have hra : w5.rangeAt w2.heap.size 0 (bytesV s.data.toList).toList := fun j v hv => by
        rw [Nat.zero_add, cell_of_row _ _ _ _ _ _ hrow5]
        exact HR.out j v hv
      have hsz : (bytesV s.data.toList).toList.length = 20 := by simp [bytesV]; exact h20
      have HRA := Lib.hid hra
      have HSZ := Lib.hid hsz
      clear hra hsz hrow5
      go_wp2_with (first | (refine wpList_load_mid rfl 35 _ rfl w2.heap.size 0 rfl (bytesV s.data.toList).toList _ HRA.out Tryz.underlying35 rfl (by rw [HSZ.out]; kernel_rfl) ?_) | (refine wpList_store_row rfl 35 _ _ rfl w.heap.size (bytesV s.data.toList) rfl rfl 35 _ hres5 (by rw [bytesV_size, len_str, h20]; kernel_rfl) (by rw [bytesV_size, len_str, h20]; rfl) (bytesV_one _) ?_))
      exact bodyPost_ret (v := .tuple #[.agg _, .nilIface]) (results_cell_row_tmp (fn := Tryz.f12) (p := 2) (u := 3) rfl _ _ w.heap.size 35 _ (0, 0) _ rfl (setRow_heap _ _ _ _ _ _ hres5) Tryz.underlying35 rfl (by rw [bytesV_size, len_str, h20]; kernel_rfl)) rfl (RetArr.mk' (by rfl) .nil (below_setRow hbw5 (Nat.le_refl _) _))
    · have HR0 : Hid (leiR s.data.toList = (7, none)) := by show _ = _; rw [HRR.out, if_neg h2]
      rw [HR0.out, if_neg (by decide)]
      have HEQ : Hid ((!((s[18].toNat : Int) == (a.toNat : Int) && (s[19].toNat : Int) == (b.toNat : Int))) = true) := by
        show _ = _
        simp only [List.cons.injEq, and_true] at h2
        simp only [Bool.not_eq_true', Bool.and_eq_false_iff, beq_eq_false_iff_ne, ne_eq]
        rw [← UInt8.toNat_inj, ← UInt8.toNat_inj] at h2
        omega
      clear h2
      go_enter Tryz.func12, Tryz.ntmps12
      go_wp2_with fail
      refine (repeat18 _).mono ?_
      rintro e w1 ⟨rfl, hB1⟩
      have hb1 := blk_below hB1 HB0.out (by simp)
      have hB1' : Below w.heap.size w w1 := ((Below.refl _ _).alloc (Nat.le_refl _) _).trans (hB1.mono (by simp))
      go_wp2_with fail
      refine (has_form s formLei _ hs (by decide) (by decide) (Ok.below HOK.out hB1')).mono ?_
      rintro e w2 ⟨v, rfl, hE, hB2⟩
      have hb2 := blk_below hB2 hb1 (lt_of_block hb1)
      have hB2' := hB1'.trans (hB2.mono hB1'.size)
      have hlt2 := lt_of_block hb2
      clear hB1 hB1' hb1 hB2
      rw [HZ.out] at hE
      obtain ⟨rfl, _⟩ := hE.zero rfl
      have hcv := run_bytes_of_string (P := Tryz.prog) w2 9 46 5 s Tryz.underlying9 Tryz.underlying46 Tryz.underlying5
      have hge := grownCap_ge w2 s.size 0 5
      have hrow : ∀ (j : Nat) (v : Value), (bytesV s.data.toList).toList[j]? = some v → (bytesRow s (grownCap w2 s.size 0 5))[j]? = some v := by
        intro j v hv
        simp only [bytesV, List.getElem?_map, Option.map_eq_some_iff] at hv
        obtain ⟨c, hc, rfl⟩ := hv
        have hj : j < s.data.toList.length := (List.getElem?_eq_some_iff.1 hc).1
        have hj' : j < s.data.size := by simpa using hj
        rw [bytesRow_at s _ j hj']
        rw [List.getElem?_eq_getElem hj] at hc
        simp at hc
        rw [← hc]
      have hr18 : (bytesRow s (grownCap w2 s.size 0 5))[18]? = some (.int .u8 (s[18].toNat : Nat)) := by
        rw [bytesRow_at s _ 18 (by show 18 < s.size; omega)]; rfl
      have hr19 : (bytesRow s (grownCap w2 s.size 0 5))[19]? = some (.int .u8 (s[19].toNat : Nat)) := by
        rw [bytesRow_at s _ 19 (by show 19 < s.size; omega)]; rfl
      generalize bytesRow s (grownCap w2 s.size 0 5) = R at *
      generalize grownCap w2 s.size 0 5 = C at *
      have hC : 20 ≤ C := by omega
      have hCi : (20 : Int) ≤ (C : Int) := by omega
      have hCn : C ≠ 18 := by omega
      have hCn2 : ¬ C = 0 := by omega
      have HR := Lib.hid hrow
      have HC18 := Lib.hid hr18
      have HC19 := Lib.hid hr19
      clear hrow hge hr18 hr19
      have hat : ∀ (w' : World), (Instr.arrayAt 35 (.slice (some ⟨w2.heap.size, 0, none⟩) 20 C)).run Tryz.prog w' = .ok (.pointer (some ⟨w2.heap.size, 0, none⟩)) w' := fun w' => by
        simp [Instr.arrayAt, run_underlying Tryz.underlying35]
      have hat2 : ∀ (w' : World), (Instr.arrayAt 67 (.slice (some ⟨w2.heap.size, 18, none⟩) 2 (C - 18))).run Tryz.prog w' = .ok (.pointer (some ⟨w2.heap.size, 18, none⟩)) w' := fun w' => by
        simp [Instr.arrayAt, run_underlying Tryz.underlying67]
      go_upto_region 5 with fail
      have hblk : (w2.alloc (.cells R 5 (R.size, R.size + 1))).heap[w2.heap.size]? = some (.cells R 5 (R.size, R.size + 1)) := heap_alloc_new _ _
      have hbr := (hB2'.alloc hB2'.size (.cells R 5 (R.size, R.size + 1)))
      refine wp_region_held_drew (S := fun w' => w'.cell? ⟨w2.heap.size, 18, none⟩ = some (.int .u8 (s[18].toNat : Nat)) ∧ w'.cell? ⟨w2.heap.size, 19, none⟩ = some (.int .u8 (s[19].toNat : Nat)) ∧ (w'.heap[w2.heap.size]? = some (.cells R 5 (R.size, R.size + 1)) ∧ Below w.heap.size w w' ∧ w'.heap[w.heap.size]? = some (.cells #[.int .u8 0, .int .u8 0, .int .u8 0, .int .u8 0, .int .u8 0, .int .u8 0, .int .u8 0, .int .u8 0, .int .u8 0, .int .u8 0, .int .u8 0, .int .u8 0, .int .u8 0, .int .u8 0, .int .u8 0, .int .u8 0, .int .u8 0, .int .u8 0, .int .u8 0, .int .u8 0] 35 (0, 0)))) (by kernel_rfl) ⟨by
        show (w2.alloc (.cells R 5 (R.size, R.size + 1))).cell? _ = _
        rw [cell_of_row _ _ _ _ _ _ hblk]; exact HC18.out, by
        show (w2.alloc (.cells R 5 (R.size, R.size + 1))).cell? _ = _
        rw [cell_of_row _ _ _ _ _ _ hblk]; exact HC19.out, hblk, hbr.drew.drew, (heap_alloc_old w2 _ hlt2).trans hb2⟩ (fun hHeld => ?_)
      (refine rg_yes 0 ?v7 (by simp only [List.getElem?_toArray, List.getElem?_cons_succ, List.getElem?_cons_zero]; rfl) (by kernel_rfl) (by kernel_rfl) (by kernel_rfl) (by exact fun _ _ _ h => h) (by kernel_rfl) (by assumption) ?y7 ?z7; case y7 => (intro w hSw; (try dsimp only at hSw); go_simp; (try (rw [if_neg (by omega)])); (try with_reducible rfl)))
      (try simp only [Act.put, List.setIfInBounds_toArray, List.set_cons_zero, List.set_cons_succ])
      (refine rg_yes 1 ?v8 (by simp only [List.getElem?_toArray, List.getElem?_cons_succ, List.getElem?_cons_zero]; rfl) (by kernel_rfl) (by kernel_rfl) (by kernel_rfl) (by exact fun _ _ _ h => h) (by kernel_rfl) (by assumption) ?y8 ?z8; case y8 => (intro w hSw; (try dsimp only at hSw); go_simp; (try (rw [if_neg (by omega)])); (try with_reducible rfl)))
      (try simp only [Act.put, List.setIfInBounds_toArray, List.set_cons_zero, List.set_cons_succ])
      (refine rg_yes 2 ?v9 (by simp only [List.getElem?_toArray, List.getElem?_cons_succ, List.getElem?_cons_zero]; rfl) (by kernel_rfl) (by kernel_rfl) (by kernel_rfl) (by exact fun _ _ _ h => h) (by kernel_rfl) (by assumption) ?y9 ?z9; case y9 => (intro w hSw; (try dsimp only at hSw); go_simp; (try (rw [if_neg (by omega)])); (try with_reducible rfl)))
      (try simp only [Act.put, List.setIfInBounds_toArray, List.set_cons_zero, List.set_cons_succ])
      (refine rg_yes 3 ?v10 (by simp only [List.getElem?_toArray, List.getElem?_cons_succ, List.getElem?_cons_zero]; rfl) (by kernel_rfl) (by kernel_rfl) (by kernel_rfl) (by exact fun _ _ _ h => h) (by kernel_rfl) (by assumption) ?y10 ?z10; case y10 => (intro w hSw; (try dsimp only at hSw); go_simp; (try (rw [if_neg (by omega)])); (try with_reducible rfl)))
      (try simp only [Act.put, List.setIfInBounds_toArray, List.set_cons_zero, List.set_cons_succ])
      (refine rg_yes 4 ?v11 (by simp only [List.getElem?_toArray, List.getElem?_cons_succ, List.getElem?_cons_zero]; rfl) (by kernel_rfl) (by kernel_rfl) (by kernel_rfl) (by exact fun _ _ _ h => h) (by kernel_rfl) (by assumption) ?y11 ?z11; case y11 => (intro w hSw; (try dsimp only at hSw); go_simp; (try (rw [if_neg (by omega)])); (try with_reducible rfl)))
      (try simp only [Act.put, List.setIfInBounds_toArray, List.set_cons_zero, List.set_cons_succ])
      (refine rg_yes 5 ?v12 (by simp only [List.getElem?_toArray, List.getElem?_cons_succ, List.getElem?_cons_zero]; rfl) (by kernel_rfl) (by kernel_rfl) (by kernel_rfl) (by exact fun _ _ _ h => h) (by kernel_rfl) (by assumption) ?y12 ?z12; case y12 => (intro w hSw; (try dsimp only at hSw); go_simp; (try (rw [if_neg (by omega)])); (try with_reducible rfl)))
      (try simp only [Act.put, List.setIfInBounds_toArray, List.set_cons_zero, List.set_cons_succ])
      refine rg_call 6 _ _ (by simp only [List.getElem?_toArray, List.getElem?_cons_succ, List.getElem?_cons_zero]; rfl) (by kernel_rfl) (by kernel_rfl) (fun w => by go_simp; exact ⟨rfl, rfl⟩) ?_
      refine (HD.out _).mono ?_
      rintro e w5 ⟨rfl, hb5⟩
      refine ⟨_, rfl, ?_, fun hHeld => ?_⟩
      · have hrow5 := rowAt_below hHeld.2.2.1 hb5
        exact ⟨by rw [cell_of_row _ _ _ _ _ _ hrow5]; exact HC18.out, by rw [cell_of_row _ _ _ _ _ _ hrow5]; exact HC19.out, hrow5, hHeld.2.2.2.1.trans (hb5.mono hHeld.2.2.2.1.size), rowAt_below hHeld.2.2.2.2 hb5⟩
      refine rg_yes 7 _ (by simp only [List.getElem?_toArray, List.getElem?_cons_succ, List.getElem?_cons_zero]; rfl) (by kernel_rfl) (by kernel_rfl) (by kernel_rfl) (by exact fun _ _ _ h => h) (by kernel_rfl) (by assumption) (by exact fun w' hS => (exec_neq_val rfl rfl rfl HGP.out (eqPair _ _ _ _) HEQ.out)) ?_
      (try simp only [Act.put, List.setIfInBounds_toArray, List.set_cons_zero, List.set_cons_succ])
      refine wpAnyH_done (by kernel_rfl) ?_ _
      obtain ⟨_, _, hrow5, hbw5, hres5⟩ := hHeld

      go_wp2_with (refine wpList_store_row rfl 35 _ _ rfl w.heap.size _ rfl rfl 35 _ hres5 (by kernel_rfl) rfl (by simp [Value.oneCell']) ?_)
      exact bodyPost_ret (v := .tuple #[.agg _, .iface 51 (.int .i64 7)]) (results_cell_row_tmp (fn := Tryz.f12) (p := 2) (u := 3) rfl _ _ w.heap.size 35 _ (0, 0) _ rfl (setRow_heap _ _ _ _ _ _ hres5) Tryz.underlying35 rfl (by kernel_rfl)) rfl (RetArr.mk' (by rfl) (errP_errno (by omega) (by omega)) (below_setRow hbw5 (Nat.le_refl _) _))
  · have e : leiR s.data.toList = hasR s.data.toList formLei := by unfold leiR; rw [if_neg h1]
    rw [e, if_neg h1]
    clear e
    go_enter Tryz.func12, Tryz.ntmps12
    go_wp2_with fail
    refine (repeat18 _).mono ?_
    rintro e w1 ⟨rfl, hB1⟩
    have hb1 := blk_below hB1 HB0.out (by simp)
    have hB1' : Below w.heap.size w w1 := ((Below.refl _ _).alloc (Nat.le_refl _) _).trans (hB1.mono (by simp))
    go_wp2_with fail
    refine (has_form s formLei _ hs (by decide) (by decide) (Ok.below HOK.out hB1')).mono ?_
    rintro e w2 ⟨v, rfl, hE, hB2⟩
    have hb2 := blk_below hB2 hb1 (lt_of_block hb1)
    have hB2' := hB1'.trans (hB2.mono hB1'.size)
    have hlt2 := lt_of_block hb2
    clear hB1 hB1' hb1 hB2
    obtain ⟨t, x, rfl⟩ := hE.held h1
    go_wp2_with (refine wpList_store_row rfl 35 _ _ rfl w.heap.size _ rfl rfl 35 _ hb2 (by kernel_rfl) rfl (by simp [Value.oneCell']) ?_)
    exact bodyPost_ret (v := .tuple #[.agg _, .iface t x]) (results_cell_row_tmp (fn := Tryz.f12) (p := 2) (u := 3) rfl _ _ w.heap.size 35 _ (0, 0) _ rfl (setRow_heap _ _ _ _ _ _ hb2) Tryz.underlying35 rfl (by kernel_rfl)) rfl (RetArr.mk' (by rfl) hE (below_setRow hB2' (Nat.le_refl _) _))
end Go.Proofs.YtenpakddifebbaaGreatDoor
