/- texts of this claim, laid together: PriceGrows. -/
import Derived.Test.YtmepjcnpbjdlkaaGreatDoorQcGrow
import Derived.Test.YtmepjcnpbjdlkaaGreatDoorQcRev
/- the law PriceGrows by contract. -/
namespace Go.Proofs.YtmepjcnpbjdlkaaGreatDoor
set_option linter.unusedVariables false
set_option linter.unusedSimpArgs false
open Go.RowKit
attribute [local irreducible] Go.wpStill

theorem ReadsE.cellAtG {w : World} {ao : Option Addr} {n cap : Nat} {xs : List Int} (h : ReadsE intE w (.slice ao n cap) xs) {i : Nat} {x : Int} (hx : xs[i]? = some x) : ∃ g o, ao = some ⟨g, o, none⟩ ∧ w.cell? ⟨g, o + i, none⟩ = some (.int .i64 x) ∧ g < w.heap.size := by
  obtain ⟨g, o, rfl, hr⟩ := h.at hx
  refine ⟨g, o, rfl, ?_, rangeE_lt hr⟩
  have := hr 0 (.int .i64 x) rfl
  simpa using this
theorem pickG_any (k n : Int) (w : World) (hk0 : -9223372036854775808 ≤ k) (hk1 : k ≤ 9223372036854775807) (hn : 1 ≤ n) (hn1 : n ≤ 1000) :
    Calls Tryz.prog 26 #[.int .i64 k, .int .i64 n] w fun e w' => (∃ i : Int, 0 ≤ i ∧ i < n ∧ e = .returned (.int .i64 i)) ∧ w' = w := by
  have h1 := Int.tmod_lt_of_pos k (by omega : 0 < n)
  have h2 : -n < k.tmod n := by
    have := Int.tmod_lt_of_pos (-k) (by omega : 0 < n)
    rw [Int.neg_tmod] at this
    omega
  by_cases h : k.tmod n < 0
  · go_enter Tryz.func26, Tryz.ntmps26
    go_wp2
    go_ret
    exact ⟨⟨k.tmod n + n, by omega, by omega, rfl⟩, rfl⟩
  · go_enter Tryz.func26, Tryz.ntmps26
    go_wp2
    go_ret
    exact ⟨⟨k.tmod n, by omega, by omega, rfl⟩, rfl⟩
theorem neg_mul_bd {a c : Int} (a0 : 0 ≤ a) (a1 : a ≤ 200000) (c0 : 1 ≤ c) (c1 : c ≤ 12) : -1000000000 ≤ -a * c ∧ -a * c ≤ 0 := by
  have h1 : 0 ≤ a * c := Int.mul_nonneg a0 (by omega)
  have h2 : a * c ≤ 200000 * 12 := Int.mul_le_mul a1 c1 (by omega) (by decide)
  rw [Int.neg_mul]
  omega
theorem acc_bad {s : SecV} {q day mode z e : Int} (h : coupN s ≠ 0 ∨ q < 0 ∨ mode < 0 ∨ 3 < mode) (hk : s.kind = 2) (ha : AccIs s q day mode z e) : e ≠ 0 := by
  have hc : checkN s = 0 → coupN s = 0 := fun h => by unfold coupN; rw [if_pos h, if_pos hk]
  rcases ha with ⟨h1, h2, h3⟩ | ⟨h1, h2, h3, h4⟩ | ⟨h1, h2, h3, h4, h5⟩ | ⟨h1, h2, h3, h4, h5, h6⟩ | ⟨h1, h2, h3, h4, f, A, B, h5, h6, h7⟩
  · omega
  · omega
  · exact absurd hk h3
  · omega
  · have := hc h1
    omega
theorem coup_kind {s : SecV} (h : coupN s = 0) : s.kind = 2 ∧ checkN s = 0 := by
  unfold coupN at h
  split at h
  · next h1 =>
    split at h
    · next h2 => exact ⟨h2, h1⟩
    · omega
  · next h1 => exact absurd h h1
theorem coup_none {s : SecV} {l : List Int} (h : coupN s ≠ 0) (hl : CoupIs s l) : l = [] := by
  rcases hl with ⟨_, hl⟩ | ⟨h0, _⟩
  · exact hl
  · exact absurd h0 h
theorem num_errP {v : Value} {n : Int} (w : World) (h : ErrP v n none) : Calls Tryz.prog 24 #[v] w fun e w' => e = .returned (.int .i64 n) ∧ Below w.heap.size w w' := by
  cases h with
  | nil => exact (num_nil w).mono (fun e w' ⟨h, hw⟩ => ⟨h, hw ▸ Below.refl _ _⟩)
  | plain h h2 => exact num_any _ n w h
theorem coup_bounds {s : SecV} (h : coupN s = 0) : 1 ≤ s.start ∧ s.start < s.finish ∧ s.finish ≤ 3652059 ∧ dayB s.finish = true ∧ (1 ≤ s.per ∧ s.per ≤ 12 ∧ 1 ≤ 12 / s.per ∧ 12 / s.per ≤ 12 ∧ Int.tdiv 12 s.per = 12 / s.per) := by
  obtain ⟨hk, hc⟩ := coup_kind h
  obtain ⟨hper, hd1, hd2, hsf⟩ := bond_facts hc hk
  have hs1 : 1 ≤ s.start := by simp [dayB] at hd1; omega
  have hfin : 1 ≤ s.finish ∧ s.finish ≤ 3652059 := by simpa [dayB] using hd2
  obtain ⟨p1, p2, p3, p4, p5⟩ := per_facts hper
  exact ⟨hs1, hsf, hfin.2, hd2, p1, p2, p3, p4, Int.tdiv_eq_ediv_of_nonneg (by decide)⟩
set_option maxRecDepth 100000 in
set_option maxHeartbeats 32000000 in
theorem priceGrows_good (s : SecV) (q day days mode : Int) (w : World) (hcs : s.cur.size ≤ 140737488351232) (hok : Ok w) (hq : q < 9223372036854775808) (hf : s.face < 9223372036854775808) (hd0 : -9223372036854775808 ≤ days) (hd1 : days ≤ 9223372036854775807) (hgood : coupN s = 0 ∧ ¬ (q < 0 ∨ mode < 0 ∨ 3 < mode)) : Calls Tryz.prog 5 #[.agg (secC s), .int .i64 q, .int .i64 day, .int .i64 days, .int .i64 mode] w (FlatP true w) := by
  have HWK := Lib.hid (fun w hok => worksP_any w hok)
  have hcp := fun w hok => coupons_any s w hcs hok
  unfold CoupP at hcp
  have ha := fun (x : Int) (w : World) hok => accrued_any s q x mode w hcs hok hq hf
  unfold AccP at ha
  have HP := Lib.hid (fun w => pickG_any days 70 w hd0 hd1 (by decide) (by decide))
  have HNUM := Lib.hid (fun v n w (h : ErrP v n none) => num_errP w h)
  have HBAD := Lib.hid (fun (h : coupN s ≠ 0 ∨ q < 0 ∨ mode < 0 ∨ 3 < mode) (hk : s.kind = 2) x z n (ha : AccIs s q x mode z n) => acc_bad h hk ha)
  have HGR := Lib.hid (fun h (hg : ¬ (q < 0 ∨ mode < 0 ∨ 3 < mode)) l (hl : CoupIs s l) => grow_ok (q := q) (mode := mode) h hg hl)
  have HCN := Lib.hid (fun l h (hl : CoupIs s l) => coup_none h hl)
  have HCK := Lib.hid (fun h => (coup_kind (s := s) h).1)
  have HCB := Lib.hid (fun h => coup_bounds (s := s) h)
  have HSZ := Lib.hid (show (Tryz.prog.info? 25).map (·.size) = some (secC s).size by kernel_rfl)
  have HG := Lib.hid (heap_alloc_new w (.cells (secC s) 25))
  have HZ0 := Lib.hid ((Below.refl w.heap.size w).alloc (Nat.le_refl _) (.cells (secC s) 25))
  have hcell : ∀ w1, Below (w.alloc (.cells (secC s) 25)).heap.size (w.alloc (.cells (secC s) 25)) w1 → w1.heap[w.heap.size]? = some (.cells (secC s) 25 (0, 0)) ∧ w1.cell? ⟨w.heap.size, 12, none⟩ = some (.int .i64 s.kind) ∧ w1.cell? ⟨w.heap.size, 15, none⟩ = some (.int .i64 s.per) ∧ w1.cell? ⟨w.heap.size, 17, none⟩ = some (.int .i64 s.start) ∧ w1.cell? ⟨w.heap.size, 18, none⟩ = some (.int .i64 s.finish) ∧ Ok w1 ∧ Below w.heap.size w w1 := fun w1 h => by
    have e := rowAt_below (heap_alloc_new w (.cells (secC s) 25)) h
    have hb := HZ0.out.trans (h.mono (by simp))
    exact ⟨e, by rw [cell_of_row _ _ _ _ _ _ e]; rfl, by rw [cell_of_row _ _ _ _ _ _ e]; rfl, by rw [cell_of_row _ _ _ _ _ _ e]; rfl, by rw [cell_of_row _ _ _ _ _ _ e]; rfl, hok.below hb, hb⟩
  have HW0 := Lib.hid hcell
  have HCP := Lib.hid hcp
  have HA := Lib.hid ha
  have HOK := Lib.hid hok
  clear hcp ha hok hcs hq hf hd0 hd1 hcell
  generalize secC s = SV at *
  generalize hCN : coupN s = cN at *
  go_enter Tryz.func5, Tryz.ntmps5
  go_wp2_with (refine wpList_val (.agg SV) (by kernel_rfl) (exec_load_row HG.out rfl rfl Tryz.underlying25 rfl HSZ.out) ?_)
  refine (HCP.out _ (HOK.out.below HZ0.out)).mono ?_
  rintro e w1 ⟨v1, v2, l, rfl, hE, hRow, hCI, hlen, hb1⟩
  have HW := Lib.hid (fun wr (h : Below w1.heap.size w1 wr) => HW0.out wr (hb1.trans (h.mono hb1.size)))
  have hrd := hRow.reads (by omega)
  have HCI := Lib.hid hCI
  have HE2 := Lib.hid hE
  have HR0 := Lib.hid (Below.refl w1.heap.size w1)
  clear hb1 HG HW0 HOK HCP hRow hCI
  obtain ⟨ao, cap, rfl⟩ := hrd.slice
  obtain ⟨hc0, hg⟩ := hgood
  obtain ⟨g1, g2, g3, g4, g5, g6, g7, g8, g9⟩ := HGR.out hc0 hg l HCI.out
  obtain ⟨hs1, hsf, hfin, hdb, p1, p2, p3, p4, p5⟩ := HCB.out hc0
  obtain rfl := (hE.zero hc0).1
  have q0 : decide (q < 0) = false := decide_eq_false (by omega)
  have q1 : decide (mode < 0) = false := decide_eq_false (by omega)
  have q2 : decide (mode > 3) = false := decide_eq_false (by omega)
  obtain ⟨x0, hx0, hx01, hx02, hx03, hx04⟩ := g2 0 g1
  obtain ⟨g, o, rfl, _, hgl⟩ := hrd.cellAtG hx0
  have hcl : ∀ wr, Below w1.heap.size w1 wr → ∀ (i : Nat) (x : Int), l[i]? = some x → wr.cell? ⟨g, o + i, none⟩ = some (.int .i64 x) := fun wr h i x hx => by
    obtain ⟨g', o', he, hc, hl'⟩ := (hrd.below h).cellAtG hx
    injection he with he
    injection he with he1 he2
    subst he1 he2
    exact hc
  have HL := Lib.hid hcl
  clear hcl
  have hn1 : 0 < l.length := g1
  obtain ⟨m, hm⟩ : ∃ m, l.length = m + 1 := ⟨l.length - 1, by omega⟩
  have HM := Lib.hid hm
  have hmb : m < 200000 := by omega
  have HX0 := Lib.hid hx0
  have HX0B := Lib.hid hx04
  have HENT := Lib.hid g2
  have HLST := Lib.hid g3
  have HRISE := Lib.hid g4
  have HMON := Lib.hid g5
  have HZERO := Lib.hid g6
  have HFST := Lib.hid g7
  have HHD := Lib.hid (g8 x0 hx0)
  have HNXT := Lib.hid g9
  have HDB := Lib.hid hdb
  have HP5 := Lib.hid p5
  have HX01 := Lib.hid hx01
  clear hg hE hrd g1 g2 g3 g4 g5 g6 g7 g8 g9 hm hx0 hx04 hdb p5 HGR HBAD HCN HCK HCB HE2 HCI HNUM hx01 hx02 hx03
  go_wp2_with fail
  rename_i HK
  refine wp_region_held_drew (S := fun w' => Below w1.heap.size w1 w') (by kernel_rfl) HR0.out.drew (fun hHeld => ?_)
  (refine rg_yes 0 ?v1 (by simp only [List.getElem?_toArray, List.getElem?_cons_succ, List.getElem?_cons_zero]; rfl) (by kernel_rfl) (by kernel_rfl) (by kernel_rfl) (by exact fun _ _ _ h => h) (by kernel_rfl) (by assumption) ?y1 ?z1; case y1 => (intro w hSw; (try dsimp only at hSw); go_simp; (try (rw [if_neg (by omega)])); (try with_reducible rfl)))
  (try simp only [Act.put, List.setIfInBounds_toArray, List.set_cons_zero, List.set_cons_succ])
  (refine rg_yes 1 ?v2 (by simp only [List.getElem?_toArray, List.getElem?_cons_succ, List.getElem?_cons_zero]; rfl) (by kernel_rfl) (by kernel_rfl) (by kernel_rfl) (by exact fun _ _ _ h => h) (by kernel_rfl) (by assumption) ?y2 ?z2; case y2 => (intro w hSw; (try dsimp only at hSw); go_simp; (try (rw [if_neg (by omega)])); (try with_reducible rfl)))
  (try simp only [Act.put, List.setIfInBounds_toArray, List.set_cons_zero, List.set_cons_succ])
  refine rg_yes 2 _ (by simp only [List.getElem?_toArray, List.getElem?_cons_succ, List.getElem?_cons_zero]; rfl) (by kernel_rfl) (by kernel_rfl) (by kernel_rfl) (by exact fun _ _ _ h => h) (by kernel_rfl) (by assumption) (by exact fun w' hS => (exec_eq_int (b := false) rfl rfl rfl (by rw [beq_eq_false_iff_ne]; omega))) ?_
  (try simp only [Act.put, List.setIfInBounds_toArray, List.set_cons_zero, List.set_cons_succ])
  (refine rg_yes 3 ?v3 (by simp only [List.getElem?_toArray, List.getElem?_cons_succ, List.getElem?_cons_zero]; rfl) (by kernel_rfl) (by kernel_rfl) (by kernel_rfl) (by exact fun _ _ _ h => h) (by kernel_rfl) (by assumption) ?y3 ?z3; case y3 => (intro w hSw; (try dsimp only at hSw); go_simp; (try (rw [if_neg (by omega)])); (try with_reducible rfl)))
  (try simp only [Act.put, List.setIfInBounds_toArray, List.set_cons_zero, List.set_cons_succ])
  (refine rg_yes 4 ?v4 (by simp only [List.getElem?_toArray, List.getElem?_cons_succ, List.getElem?_cons_zero]; rfl) (by kernel_rfl) (by kernel_rfl) (by kernel_rfl) (by exact fun _ _ _ h => h) (by kernel_rfl) (by assumption) ?y4 ?z4; case y4 => (intro w hSw; (try dsimp only at hSw); go_simp; (try (rw [if_neg (by omega)])); (try with_reducible rfl)))
  (try simp only [Act.put, List.setIfInBounds_toArray, List.set_cons_zero, List.set_cons_succ])
  refine rg_yes 5 _ (by simp only [List.getElem?_toArray, List.getElem?_cons_succ, List.getElem?_cons_zero]; rfl) (by kernel_rfl) (by kernel_rfl) (by kernel_rfl) (by exact fun _ _ _ h => h) (by kernel_rfl) (by assumption) (by exact fun w' hS => (exec_index64 (i := 0) rfl rfl rfl hn1)) ?_
  (try simp only [Act.put, List.setIfInBounds_toArray, List.set_cons_zero, List.set_cons_succ])
  refine rg_yes 6 _ (by simp only [List.getElem?_toArray, List.getElem?_cons_succ, List.getElem?_cons_zero]; rfl) (by kernel_rfl) (by kernel_rfl) (by kernel_rfl) (by exact fun _ _ _ h => h) (by kernel_rfl) (by assumption) (by exact fun w' hS => (exec_load_at (HL.out _ hS 0 x0 HX0.out) rfl rfl (fun w => by kernel_rfl))) ?_
  (try simp only [Act.put, List.setIfInBounds_toArray, List.set_cons_zero, List.set_cons_succ])
  (refine rg_yes 7 ?v5 (by simp only [List.getElem?_toArray, List.getElem?_cons_succ, List.getElem?_cons_zero]; rfl) (by kernel_rfl) (by kernel_rfl) (by kernel_rfl) (by exact fun _ _ _ h => h) (by kernel_rfl) (by assumption) ?y5 ?z5; case y5 => (intro w hSw; (try dsimp only at hSw); go_simp; (try (rw [if_neg (by omega)])); (try with_reducible rfl)))
  (try simp only [Act.put, List.setIfInBounds_toArray, List.set_cons_zero, List.set_cons_succ])
  refine rg_yes 8 _ (by simp only [List.getElem?_toArray, List.getElem?_cons_succ, List.getElem?_cons_zero]; rfl) (by kernel_rfl) (by kernel_rfl) (by kernel_rfl) (by exact fun _ _ _ h => h) (by kernel_rfl) (by assumption) (by exact fun w' hS => (exec_load_at (HW.out _ hS).2.2.2.1 rfl rfl (fun w => by kernel_rfl))) ?_
  (try simp only [Act.put, List.setIfInBounds_toArray, List.set_cons_zero, List.set_cons_succ])
  refine rg_yes 9 _ (by simp only [List.getElem?_toArray, List.getElem?_cons_succ, List.getElem?_cons_zero]; rfl) (by kernel_rfl) (by kernel_rfl) (by kernel_rfl) (by exact fun _ _ _ h => h) (by kernel_rfl) (by assumption) (by exact fun w' hS => (exec_leq_int (b := false) rfl rfl rfl (decide_eq_false (by have := HX01.out; omega)))) ?_
  (try simp only [Act.put, List.setIfInBounds_toArray, List.set_cons_zero, List.set_cons_succ])
  (refine rg_yes 10 ?v6 (by simp only [List.getElem?_toArray, List.getElem?_cons_succ, List.getElem?_cons_zero]; rfl) (by kernel_rfl) (by kernel_rfl) (by kernel_rfl) (by exact fun _ _ _ h => h) (by kernel_rfl) (by assumption) ?y6 ?z6; case y6 => (intro w hSw; (try dsimp only at hSw); go_simp; (try (rw [if_neg (by omega)])); (try with_reducible rfl)))
  (try simp only [Act.put, List.setIfInBounds_toArray, List.set_cons_zero, List.set_cons_succ])
  (refine rg_yes 11 ?v7 (by simp only [List.getElem?_toArray, List.getElem?_cons_succ, List.getElem?_cons_zero]; rfl) (by kernel_rfl) (by kernel_rfl) (by kernel_rfl) (by exact fun _ _ _ h => h) (by kernel_rfl) (by assumption) ?y7 ?z7; case y7 => (intro w hSw; (try dsimp only at hSw); go_simp; (try (rw [if_neg (by omega)])); (try with_reducible rfl)))
  (try simp only [Act.put, List.setIfInBounds_toArray, List.set_cons_zero, List.set_cons_succ])
  (refine rg_yes 12 ?v8 (by simp only [List.getElem?_toArray, List.getElem?_cons_succ, List.getElem?_cons_zero]; rfl) (by kernel_rfl) (by kernel_rfl) (by kernel_rfl) (by exact fun _ _ _ h => h) (by kernel_rfl) (by assumption) ?y8 ?z8; case y8 => (intro w hSw; (try dsimp only at hSw); go_simp; (try (rw [if_neg (by omega)])); (try with_reducible rfl)))
  (try simp only [Act.put, List.setIfInBounds_toArray, List.set_cons_zero, List.set_cons_succ])
  (refine rg_yes 13 ?v9 (by simp only [List.getElem?_toArray, List.getElem?_cons_succ, List.getElem?_cons_zero]; rfl) (by kernel_rfl) (by kernel_rfl) (by kernel_rfl) (by exact fun _ _ _ h => h) (by kernel_rfl) (by assumption) ?y9 ?z9; case y9 => (intro w hSw; (try dsimp only at hSw); go_simp; (try (rw [if_neg (by omega)])); (try with_reducible rfl)))
  (try simp only [Act.put, List.setIfInBounds_toArray, List.set_cons_zero, List.set_cons_succ])
  (refine rg_yes 14 ?v10 (by simp only [List.getElem?_toArray, List.getElem?_cons_succ, List.getElem?_cons_zero]; rfl) (by kernel_rfl) (by kernel_rfl) (by kernel_rfl) (by exact fun _ _ _ h => h) (by kernel_rfl) (by assumption) ?y10 ?z10; case y10 => (intro w hSw; (try dsimp only at hSw); go_simp; (try (rw [if_neg (by omega)])); (try with_reducible rfl)))
  (try simp only [Act.put, List.setIfInBounds_toArray, List.set_cons_zero, List.set_cons_succ])
  refine rg_yes 15 _ (by simp only [List.getElem?_toArray, List.getElem?_cons_succ, List.getElem?_cons_zero]; rfl) (by kernel_rfl) (by kernel_rfl) (by kernel_rfl) (by exact fun _ _ _ h => h) (by kernel_rfl) (by assumption) (by exact fun w' hS => (exec_sub64 (r := (m : Int)) rfl rfl rfl (by have := HM.out; omega) (by omega) (by omega))) ?_
  (try simp only [Act.put, List.setIfInBounds_toArray, List.set_cons_zero, List.set_cons_succ])
  refine rg_yes 16 _ (by simp only [List.getElem?_toArray, List.getElem?_cons_succ, List.getElem?_cons_zero]; rfl) (by kernel_rfl) (by kernel_rfl) (by kernel_rfl) (by exact fun _ _ _ h => h) (by kernel_rfl) (by assumption) (by exact fun w' hS => (exec_index64 (i := m) rfl rfl rfl (by have := HM.out; omega))) ?_
  (try simp only [Act.put, List.setIfInBounds_toArray, List.set_cons_zero, List.set_cons_succ])
  refine rg_yes 17 _ (by simp only [List.getElem?_toArray, List.getElem?_cons_succ, List.getElem?_cons_zero]; rfl) (by kernel_rfl) (by kernel_rfl) (by kernel_rfl) (by exact fun _ _ _ h => h) (by kernel_rfl) (by assumption) (by exact fun w' hS => (exec_load_at (HL.out _ hS m s.finish (by have := HLST.out; rwa [HM.out, Nat.add_sub_cancel] at this)) rfl rfl (fun w => by kernel_rfl))) ?_
  (try simp only [Act.put, List.setIfInBounds_toArray, List.set_cons_zero, List.set_cons_succ])
  (refine rg_yes 18 ?v11 (by simp only [List.getElem?_toArray, List.getElem?_cons_succ, List.getElem?_cons_zero]; rfl) (by kernel_rfl) (by kernel_rfl) (by kernel_rfl) (by exact fun _ _ _ h => h) (by kernel_rfl) (by assumption) ?y11 ?z11; case y11 => (intro w hSw; (try dsimp only at hSw); go_simp; (try (rw [if_neg (by omega)])); (try with_reducible rfl)))
  (try simp only [Act.put, List.setIfInBounds_toArray, List.set_cons_zero, List.set_cons_succ])
  refine rg_yes 19 _ (by simp only [List.getElem?_toArray, List.getElem?_cons_succ, List.getElem?_cons_zero]; rfl) (by kernel_rfl) (by kernel_rfl) (by kernel_rfl) (by exact fun _ _ _ h => h) (by kernel_rfl) (by assumption) (by exact fun w' hS => (exec_load_at (HW.out _ hS).2.2.2.2.1 rfl rfl (fun w => by kernel_rfl))) ?_
  (try simp only [Act.put, List.setIfInBounds_toArray, List.set_cons_zero, List.set_cons_succ])
  refine rg_yes 20 _ (by simp only [List.getElem?_toArray, List.getElem?_cons_succ, List.getElem?_cons_zero]; rfl) (by kernel_rfl) (by kernel_rfl) (by kernel_rfl) (by exact fun _ _ _ h => h) (by kernel_rfl) (by assumption) (by exact fun w' hS => (exec_ne_int (b := false) rfl rfl rfl (by simp))) ?_
  (try simp only [Act.put, List.setIfInBounds_toArray, List.set_cons_zero, List.set_cons_succ])
  (refine rg_yes 21 ?v12 (by simp only [List.getElem?_toArray, List.getElem?_cons_succ, List.getElem?_cons_zero]; rfl) (by kernel_rfl) (by kernel_rfl) (by kernel_rfl) (by exact fun _ _ _ h => h) (by kernel_rfl) (by assumption) ?y12 ?z12; case y12 => (intro w hSw; (try dsimp only at hSw); go_simp; (try (rw [if_neg (by omega)])); (try with_reducible rfl)))
  (try simp only [Act.put, List.setIfInBounds_toArray, List.set_cons_zero, List.set_cons_succ])
  (refine rg_yes 22 ?v13 (by simp only [List.getElem?_toArray, List.getElem?_cons_succ, List.getElem?_cons_zero]; rfl) (by kernel_rfl) (by kernel_rfl) (by kernel_rfl) (by exact fun _ _ _ h => h) (by kernel_rfl) (by assumption) ?y13 ?z13; case y13 => (intro w hSw; (try dsimp only at hSw); go_simp; (try (rw [if_neg (by omega)])); (try with_reducible rfl)))
  (try simp only [Act.put, List.setIfInBounds_toArray, List.set_cons_zero, List.set_cons_succ])
  refine rg_call 23 _ _ (by simp only [List.getElem?_toArray, List.getElem?_cons_succ, List.getElem?_cons_zero]; rfl) (by kernel_rfl) (by kernel_rfl) (fun w => by go_simp; exact ⟨rfl, rfl⟩) ?_
  refine (HWK.out _ (HW.out _ hHeld).2.2.2.2.2.1).mono ?_
  rintro e w2 ⟨rfl, hb2⟩
  have hH2 := hHeld.trans (hb2.mono hHeld.size)
  refine ⟨_, rfl, hH2, fun hHeld2 => ?_⟩
  clear hb2 hHeld hH2
  (try simp only [Act.put, List.setIfInBounds_toArray, List.set_cons_zero, List.set_cons_succ])
  (refine rg_yes 24 ?v14 (by simp only [List.getElem?_toArray, List.getElem?_cons_succ, List.getElem?_cons_zero]; rfl) (by kernel_rfl) (by kernel_rfl) (by kernel_rfl) (by exact fun _ _ _ h => h) (by kernel_rfl) (by assumption) ?y14 ?z14; case y14 => (intro w hSw; (try dsimp only at hSw); go_simp; (try (rw [if_neg (by omega)])); (try with_reducible rfl)))
  (try simp only [Act.put, List.setIfInBounds_toArray, List.set_cons_zero, List.set_cons_succ])
  (refine rg_yes 25 ?v15 (by simp only [List.getElem?_toArray, List.getElem?_cons_succ, List.getElem?_cons_zero]; rfl) (by kernel_rfl) (by kernel_rfl) (by kernel_rfl) (by exact fun _ _ _ h => h) (by kernel_rfl) (by assumption) ?y15 ?z15; case y15 => (intro w hSw; (try dsimp only at hSw); go_simp; (try (rw [if_neg (by omega)])); (try with_reducible rfl)))
  (try simp only [Act.put, List.setIfInBounds_toArray, List.set_cons_zero, List.set_cons_succ])
  refine wpAnyH_done (by kernel_rfl) ?_ _
  apply HK
  have HB2 := Lib.hid hHeld2
  clear hHeld2 HK HWK HR0
  go_upto_block 0 with fail
  go_cut [15] (fun kv wc => Below w1.heap.size w1 wc)
  case first =>
    go_wp2_with fail
    go_loopw [15, 16, 17, 18, 19] (fun kv a b c d wr => ∃ i : Nat, kv = .int .i64 i ∧ i ≤ l.length ∧ i ≤ 40 ∧ Below w1.heap.size w1 wr) (fun kv _ _ _ _ _ => 40 - (intOf kv).toNat)
    case atStart => exact ⟨0, rfl, by omega, by omega, HB2.out⟩
    case round => as_aux_lemma =>
      obtain ⟨i, rfl, hil, hi40, hb⟩ := hrel
      have HB := Lib.hid hb
      clear hb HB2
      by_cases h1 : i < l.length
      · have d1 : decide ((i : Int) < l.length) = true := decide_eq_true (by omega)
        by_cases h2 : i < 40
        · have d2 : decide ((i : Int) < 40) = true := decide_eq_true (by omega)
          obtain ⟨x, hx, hx1, hx2, hx3, hx4⟩ := HENT.out i h1
          have HX := Lib.hid hx
          have him : i ≤ m := by have := HM.out; omega
          clear hx hx1 hx2
          go_wp2_with fail
          rename_i HK
          refine wp_region_held_drew (S := fun w' => Below w1.heap.size w1 w') (by kernel_rfl) HB.out.drew (fun hHeld => ?_)
          (refine rg_yes 0 ?v16 (by simp only [List.getElem?_toArray, List.getElem?_cons_succ, List.getElem?_cons_zero]; rfl) (by kernel_rfl) (by kernel_rfl) (by kernel_rfl) (by exact fun _ _ _ h => h) (by kernel_rfl) (by assumption) ?y16 ?z16; case y16 => (intro w hSw; (try dsimp only at hSw); go_simp; (try (rw [if_neg (by omega)])); (try with_reducible rfl)))
          (try simp only [Act.put, List.setIfInBounds_toArray, List.set_cons_zero, List.set_cons_succ])
          refine rg_yes 1 _ (by simp only [List.getElem?_toArray, List.getElem?_cons_succ, List.getElem?_cons_zero]; rfl) (by kernel_rfl) (by kernel_rfl) (by kernel_rfl) (by exact fun _ _ _ h => h) (by kernel_rfl) (by assumption) (by exact fun w' hS => (exec_load_at (HW.out _ hS).2.2.2.2.1 rfl rfl (fun w => by kernel_rfl))) ?_
          (try simp only [Act.put, List.setIfInBounds_toArray, List.set_cons_zero, List.set_cons_succ])
          (refine rg_yes 2 ?v17 (by simp only [List.getElem?_toArray, List.getElem?_cons_succ, List.getElem?_cons_zero]; rfl) (by kernel_rfl) (by kernel_rfl) (by kernel_rfl) (by exact fun _ _ _ h => h) (by kernel_rfl) (by assumption) ?y17 ?z17; case y17 => (intro w hSw; (try dsimp only at hSw); go_simp; (try (rw [if_neg (by omega)])); (try with_reducible rfl)))
          (try simp only [Act.put, List.setIfInBounds_toArray, List.set_cons_zero, List.set_cons_succ])
          (refine rg_yes 3 ?v18 (by simp only [List.getElem?_toArray, List.getElem?_cons_succ, List.getElem?_cons_zero]; rfl) (by kernel_rfl) (by kernel_rfl) (by kernel_rfl) (by exact fun _ _ _ h => h) (by kernel_rfl) (by assumption) ?y18 ?z18; case y18 => (intro w hSw; (try dsimp only at hSw); go_simp; (try (rw [if_neg (by omega)])); (try with_reducible rfl)))
          (try simp only [Act.put, List.setIfInBounds_toArray, List.set_cons_zero, List.set_cons_succ])
          refine rg_yes 4 _ (by simp only [List.getElem?_toArray, List.getElem?_cons_succ, List.getElem?_cons_zero]; rfl) (by kernel_rfl) (by kernel_rfl) (by kernel_rfl) (by exact fun _ _ _ h => h) (by kernel_rfl) (by assumption) (by exact fun w' hS => (exec_sub64 (r := (m : Int)) rfl rfl rfl (by have := HM.out; omega) (by omega) (by omega))) ?_
          (try simp only [Act.put, List.setIfInBounds_toArray, List.set_cons_zero, List.set_cons_succ])
          (refine rg_yes 5 ?v19 (by simp only [List.getElem?_toArray, List.getElem?_cons_succ, List.getElem?_cons_zero]; rfl) (by kernel_rfl) (by kernel_rfl) (by kernel_rfl) (by exact fun _ _ _ h => h) (by kernel_rfl) (by assumption) ?y19 ?z19; case y19 => (intro w hSw; (try dsimp only at hSw); go_simp; (try (rw [if_neg (by omega)])); (try with_reducible rfl)))
          (try simp only [Act.put, List.setIfInBounds_toArray, List.set_cons_zero, List.set_cons_succ])
          refine rg_yes 6 _ (by simp only [List.getElem?_toArray, List.getElem?_cons_succ, List.getElem?_cons_zero]; rfl) (by kernel_rfl) (by kernel_rfl) (by kernel_rfl) (by exact fun _ _ _ h => h) (by kernel_rfl) (by assumption) (by exact fun w' hS => (exec_sub64 (r := (m : Int) - i) rfl rfl rfl rfl (by omega) (by omega))) ?_
          (try simp only [Act.put, List.setIfInBounds_toArray, List.set_cons_zero, List.set_cons_succ])
          refine rg_yes 7 _ (by simp only [List.getElem?_toArray, List.getElem?_cons_succ, List.getElem?_cons_zero]; rfl) (by kernel_rfl) (by kernel_rfl) (by kernel_rfl) (by exact fun _ _ _ h => h) (by kernel_rfl) (by assumption) (by exact fun w' hS => (exec_neg64 (r := -((m : Int) - i)) rfl rfl rfl (by omega) (by omega))) ?_
          (try simp only [Act.put, List.setIfInBounds_toArray, List.set_cons_zero, List.set_cons_succ])
          (refine rg_yes 8 ?v20 (by simp only [List.getElem?_toArray, List.getElem?_cons_succ, List.getElem?_cons_zero]; rfl) (by kernel_rfl) (by kernel_rfl) (by kernel_rfl) (by exact fun _ _ _ h => h) (by kernel_rfl) (by assumption) ?y20 ?z20; case y20 => (intro w hSw; (try dsimp only at hSw); go_simp; (try (rw [if_neg (by omega)])); (try with_reducible rfl)))
          (try simp only [Act.put, List.setIfInBounds_toArray, List.set_cons_zero, List.set_cons_succ])
          refine rg_yes 9 _ (by simp only [List.getElem?_toArray, List.getElem?_cons_succ, List.getElem?_cons_zero]; rfl) (by kernel_rfl) (by kernel_rfl) (by kernel_rfl) (by exact fun _ _ _ h => h) (by kernel_rfl) (by assumption) (by exact fun w' hS => (exec_load_at (HW.out _ hS).2.2.1 rfl rfl (fun w => by kernel_rfl))) ?_
          (try simp only [Act.put, List.setIfInBounds_toArray, List.set_cons_zero, List.set_cons_succ])
          refine rg_yes 10 _ (by simp only [List.getElem?_toArray, List.getElem?_cons_succ, List.getElem?_cons_zero]; rfl) (by kernel_rfl) (by kernel_rfl) (by kernel_rfl) (by exact fun _ _ _ h => h) (by kernel_rfl) (by assumption) (by exact fun w' hS => (exec_quo64 (r := 12 / s.per) rfl rfl rfl (by omega) HP5.out (by omega) (by omega))) ?_
          (try simp only [Act.put, List.setIfInBounds_toArray, List.set_cons_zero, List.set_cons_succ])
          have hmul := neg_mul_bd (a := (m : Int) - i) (c := 12 / s.per) (by have := HM.out; omega) (by have := HM.out; omega) p3 p4
          refine rg_yes 11 _ (by simp only [List.getElem?_toArray, List.getElem?_cons_succ, List.getElem?_cons_zero]; rfl) (by kernel_rfl) (by kernel_rfl) (by kernel_rfl) (by exact fun _ _ _ h => h) (by kernel_rfl) (by assumption) (by exact fun w' hS => (exec_mul64 (r := -((m : Int) - i) * (12 / s.per)) rfl rfl rfl rfl (by omega) (by omega))) ?_
          (try simp only [Act.put, List.setIfInBounds_toArray, List.set_cons_zero, List.set_cons_succ])
          refine rg_call 12 _ _ (by simp only [List.getElem?_toArray, List.getElem?_cons_succ, List.getElem?_cons_zero]; rfl) (by kernel_rfl) (by kernel_rfl) (fun w => by go_simp; exact ⟨rfl, rfl⟩) ?_
          refine (months_any s.finish _ _ HDB.out hmul.2 (by omega)).mono ?_
          intro e w2 hM
          obtain ⟨rfl, hb2⟩ := HMON.out i _ x _ _ _ h1 (by rw [show (((l.length : Nat) : Int) - 1 - i) = (m : Int) - i by have := HM.out; omega]) HX.out hM
          have hH2 := hHeld.trans (hb2.mono hHeld.size)
          refine ⟨_, rfl, hH2, fun hHeld2 => ?_⟩
          clear hb2 hHeld hH2 hmul hM
          (try simp only [Act.put, List.setIfInBounds_toArray, List.set_cons_zero, List.set_cons_succ])
          (refine rg_yes 13 ?v21 (by simp only [List.getElem?_toArray, List.getElem?_cons_succ, List.getElem?_cons_zero]; rfl) (by kernel_rfl) (by kernel_rfl) (by kernel_rfl) (by exact fun _ _ _ h => h) (by kernel_rfl) (by assumption) ?y21 ?z21; case y21 => (intro w hSw; (try dsimp only at hSw); go_simp; (try (rw [if_neg (by omega)])); (try with_reducible rfl)))
          (try simp only [Act.put, List.setIfInBounds_toArray, List.set_cons_zero, List.set_cons_succ])
          (refine rg_yes 14 ?v22 (by simp only [List.getElem?_toArray, List.getElem?_cons_succ, List.getElem?_cons_zero]; rfl) (by kernel_rfl) (by kernel_rfl) (by kernel_rfl) (by exact fun _ _ _ h => h) (by kernel_rfl) (by assumption) ?y22 ?z22; case y22 => (intro w hSw; (try dsimp only at hSw); go_simp; (try (rw [if_neg (by omega)])); (try with_reducible rfl)))
          (try simp only [Act.put, List.setIfInBounds_toArray, List.set_cons_zero, List.set_cons_succ])
          (refine rg_yes 15 ?v23 (by simp only [List.getElem?_toArray, List.getElem?_cons_succ, List.getElem?_cons_zero]; rfl) (by kernel_rfl) (by kernel_rfl) (by kernel_rfl) (by exact fun _ _ _ h => h) (by kernel_rfl) (by assumption) ?y23 ?z23; case y23 => (intro w hSw; (try dsimp only at hSw); go_simp; (try (rw [if_neg (by omega)])); (try with_reducible rfl)))
          (try simp only [Act.put, List.setIfInBounds_toArray, List.set_cons_zero, List.set_cons_succ])
          (refine rg_yes 16 ?v24 (by simp only [List.getElem?_toArray, List.getElem?_cons_succ, List.getElem?_cons_zero]; rfl) (by kernel_rfl) (by kernel_rfl) (by kernel_rfl) (by exact fun _ _ _ h => h) (by kernel_rfl) (by assumption) ?y24 ?z24; case y24 => (intro w hSw; (try dsimp only at hSw); go_simp; (try (rw [if_neg (by omega)])); (try with_reducible rfl)))
          (try simp only [Act.put, List.setIfInBounds_toArray, List.set_cons_zero, List.set_cons_succ])
          (refine rg_yes 17 ?v25 (by simp only [List.getElem?_toArray, List.getElem?_cons_succ, List.getElem?_cons_zero]; rfl) (by kernel_rfl) (by kernel_rfl) (by kernel_rfl) (by exact fun _ _ _ h => h) (by kernel_rfl) (by assumption) ?y25 ?z25; case y25 => (intro w hSw; (try dsimp only at hSw); go_simp; (try (rw [if_neg (by omega)])); (try with_reducible rfl)))
          (try simp only [Act.put, List.setIfInBounds_toArray, List.set_cons_zero, List.set_cons_succ])
          refine wpAnyH_done (by kernel_rfl) ?_ _
          apply HK
          have HB3 := Lib.hid hHeld2
          clear hHeld2 HK
          go_wp2_with fail
          rename_i HK
          refine wp_region_held_drew (S := fun w' => Below w1.heap.size w1 w') (by kernel_rfl) HB3.out.drew (fun hHeld => ?_)
          refine rg_yes 0 _ (by simp only [List.getElem?_toArray, List.getElem?_cons_succ, List.getElem?_cons_zero]; rfl) (by kernel_rfl) (by kernel_rfl) (by kernel_rfl) (by exact fun _ _ _ h => h) (by kernel_rfl) (by assumption) (by exact fun w' hS => (exec_load_row (HW.out _ hS).1 rfl rfl Tryz.underlying25 rfl HSZ.out)) ?_
          (try simp only [Act.put, List.setIfInBounds_toArray, List.set_cons_zero, List.set_cons_succ])
          (refine rg_yes 1 ?v26 (by simp only [List.getElem?_toArray, List.getElem?_cons_succ, List.getElem?_cons_zero]; rfl) (by kernel_rfl) (by kernel_rfl) (by kernel_rfl) (by exact fun _ _ _ h => h) (by kernel_rfl) (by assumption) ?y26 ?z26; case y26 => (intro w hSw; (try dsimp only at hSw); go_simp; (try (rw [if_neg (by omega)])); (try with_reducible rfl)))
          (try simp only [Act.put, List.setIfInBounds_toArray, List.set_cons_zero, List.set_cons_succ])
          (refine rg_yes 2 ?v27 (by simp only [List.getElem?_toArray, List.getElem?_cons_succ, List.getElem?_cons_zero]; rfl) (by kernel_rfl) (by kernel_rfl) (by kernel_rfl) (by exact fun _ _ _ h => h) (by kernel_rfl) (by assumption) ?y27 ?z27; case y27 => (intro w hSw; (try dsimp only at hSw); go_simp; (try (rw [if_neg (by omega)])); (try with_reducible rfl)))
          (try simp only [Act.put, List.setIfInBounds_toArray, List.set_cons_zero, List.set_cons_succ])
          (refine rg_yes 3 ?v28 (by simp only [List.getElem?_toArray, List.getElem?_cons_succ, List.getElem?_cons_zero]; rfl) (by kernel_rfl) (by kernel_rfl) (by kernel_rfl) (by exact fun _ _ _ h => h) (by kernel_rfl) (by assumption) ?y28 ?z28; case y28 => (intro w hSw; (try dsimp only at hSw); go_simp; (try (rw [if_neg (by omega)])); (try with_reducible rfl)))
          (try simp only [Act.put, List.setIfInBounds_toArray, List.set_cons_zero, List.set_cons_succ])
          refine rg_yes 4 _ (by simp only [List.getElem?_toArray, List.getElem?_cons_succ, List.getElem?_cons_zero]; rfl) (by kernel_rfl) (by kernel_rfl) (by kernel_rfl) (by exact fun _ _ _ h => h) (by kernel_rfl) (by assumption) (by exact fun w' hS => (exec_index64 (i := i) rfl rfl rfl h1)) ?_
          (try simp only [Act.put, List.setIfInBounds_toArray, List.set_cons_zero, List.set_cons_succ])
          refine rg_yes 5 _ (by simp only [List.getElem?_toArray, List.getElem?_cons_succ, List.getElem?_cons_zero]; rfl) (by kernel_rfl) (by kernel_rfl) (by kernel_rfl) (by exact fun _ _ _ h => h) (by kernel_rfl) (by assumption) (by exact fun w' hS => (exec_load_at (HL.out _ hS i x HX.out) rfl rfl (fun w => by kernel_rfl))) ?_
          (try simp only [Act.put, List.setIfInBounds_toArray, List.set_cons_zero, List.set_cons_succ])
          (refine rg_yes 6 ?v29 (by simp only [List.getElem?_toArray, List.getElem?_cons_succ, List.getElem?_cons_zero]; rfl) (by kernel_rfl) (by kernel_rfl) (by kernel_rfl) (by exact fun _ _ _ h => h) (by kernel_rfl) (by assumption) ?y29 ?z29; case y29 => (intro w hSw; (try dsimp only at hSw); go_simp; (try (rw [if_neg (by omega)])); (try with_reducible rfl)))
          (try simp only [Act.put, List.setIfInBounds_toArray, List.set_cons_zero, List.set_cons_succ])
          refine rg_call 7 _ _ (by simp only [List.getElem?_toArray, List.getElem?_cons_succ, List.getElem?_cons_zero]; rfl) (by kernel_rfl) (by kernel_rfl) (fun w => by go_simp; exact ⟨rfl, rfl⟩) ?_
          refine (HA.out x _ (HW.out _ hHeld).2.2.2.2.2.1).mono ?_
          rintro e w4 ⟨z4, v4, n4, rfl, hE4, hA4, hb4⟩
          obtain ⟨rfl, rfl⟩ := HZERO.out i x _ _ HX.out hA4
          obtain rfl := (hE4.zero rfl).1
          have hH2 := hHeld.trans (hb4.mono hHeld.size)
          refine ⟨_, rfl, hH2, fun hHeld2 => ?_⟩
          clear hb4 hHeld hH2 hE4 hA4
          (try simp only [Act.put, List.setIfInBounds_toArray, List.set_cons_zero, List.set_cons_succ])
          (refine rg_yes 8 ?v30 (by simp only [List.getElem?_toArray, List.getElem?_cons_succ, List.getElem?_cons_zero]; rfl) (by kernel_rfl) (by kernel_rfl) (by kernel_rfl) (by exact fun _ _ _ h => h) (by kernel_rfl) (by assumption) ?y30 ?z30; case y30 => (intro w hSw; (try dsimp only at hSw); go_simp; (try (rw [if_neg (by omega)])); (try with_reducible rfl)))
          (try simp only [Act.put, List.setIfInBounds_toArray, List.set_cons_zero, List.set_cons_succ])
          (refine rg_yes 9 ?v31 (by simp only [List.getElem?_toArray, List.getElem?_cons_succ, List.getElem?_cons_zero]; rfl) (by kernel_rfl) (by kernel_rfl) (by kernel_rfl) (by exact fun _ _ _ h => h) (by kernel_rfl) (by assumption) ?y31 ?z31; case y31 => (intro w hSw; (try dsimp only at hSw); go_simp; (try (rw [if_neg (by omega)])); (try with_reducible rfl)))
          (try simp only [Act.put, List.setIfInBounds_toArray, List.set_cons_zero, List.set_cons_succ])
          (refine rg_yes 10 ?v32 (by simp only [List.getElem?_toArray, List.getElem?_cons_succ, List.getElem?_cons_zero]; rfl) (by kernel_rfl) (by kernel_rfl) (by kernel_rfl) (by exact fun _ _ _ h => h) (by kernel_rfl) (by assumption) ?y32 ?z32; case y32 => (intro w hSw; (try dsimp only at hSw); go_simp; (try (rw [if_neg (by omega)])); (try with_reducible rfl)))
          (try simp only [Act.put, List.setIfInBounds_toArray, List.set_cons_zero, List.set_cons_succ])
          (refine rg_yes 11 ?v33 (by simp only [List.getElem?_toArray, List.getElem?_cons_succ, List.getElem?_cons_zero]; rfl) (by kernel_rfl) (by kernel_rfl) (by kernel_rfl) (by exact fun _ _ _ h => h) (by kernel_rfl) (by assumption) ?y33 ?z33; case y33 => (intro w hSw; (try dsimp only at hSw); go_simp; (try (rw [if_neg (by omega)])); (try with_reducible rfl)))
          (try simp only [Act.put, List.setIfInBounds_toArray, List.set_cons_zero, List.set_cons_succ])
          (refine rg_yes 12 ?v34 (by simp only [List.getElem?_toArray, List.getElem?_cons_succ, List.getElem?_cons_zero]; rfl) (by kernel_rfl) (by kernel_rfl) (by kernel_rfl) (by exact fun _ _ _ h => h) (by kernel_rfl) (by assumption) ?y34 ?z34; case y34 => (intro w hSw; (try dsimp only at hSw); go_simp; (try (rw [if_neg (by omega)])); (try with_reducible rfl)))
          (try simp only [Act.put, List.setIfInBounds_toArray, List.set_cons_zero, List.set_cons_succ])
          refine wpAnyH_done (by kernel_rfl) ?_ _
          apply HK
          have HB4 := Lib.hid hHeld2
          clear hHeld2 HK HB3
          go_wp2_with fail
          rename_i HK
          refine wp_region_held_drew (S := fun w' => Below w1.heap.size w1 w') (by kernel_rfl) HB4.out.drew (fun hHeld => ?_)
          (refine rg_yes 0 ?v35 (by simp only [List.getElem?_toArray, List.getElem?_cons_succ, List.getElem?_cons_zero]; rfl) (by kernel_rfl) (by kernel_rfl) (by kernel_rfl) (by exact fun _ _ _ h => h) (by kernel_rfl) (by assumption) ?y35 ?z35; case y35 => (intro w hSw; (try dsimp only at hSw); go_simp; (try (rw [if_neg (by omega)])); (try with_reducible rfl)))
          (try simp only [Act.put, List.setIfInBounds_toArray, List.set_cons_zero, List.set_cons_succ])
          (refine rg_yes 1 ?v36 (by simp only [List.getElem?_toArray, List.getElem?_cons_succ, List.getElem?_cons_zero]; rfl) (by kernel_rfl) (by kernel_rfl) (by kernel_rfl) (by exact fun _ _ _ h => h) (by kernel_rfl) (by assumption) ?y36 ?z36; case y36 => (intro w hSw; (try dsimp only at hSw); go_simp; (try (rw [if_neg (by omega)])); (try with_reducible rfl)))
          (try simp only [Act.put, List.setIfInBounds_toArray, List.set_cons_zero, List.set_cons_succ])
          (refine rg_yes 2 ?v37 (by simp only [List.getElem?_toArray, List.getElem?_cons_succ, List.getElem?_cons_zero]; rfl) (by kernel_rfl) (by kernel_rfl) (by kernel_rfl) (by exact fun _ _ _ h => h) (by kernel_rfl) (by assumption) ?y37 ?z37; case y37 => (intro w hSw; (try dsimp only at hSw); go_simp; (try (rw [if_neg (by omega)])); (try with_reducible rfl)))
          (try simp only [Act.put, List.setIfInBounds_toArray, List.set_cons_zero, List.set_cons_succ])
          (refine rg_yes 3 ?v38 (by simp only [List.getElem?_toArray, List.getElem?_cons_succ, List.getElem?_cons_zero]; rfl) (by kernel_rfl) (by kernel_rfl) (by kernel_rfl) (by exact fun _ _ _ h => h) (by kernel_rfl) (by assumption) ?y38 ?z38; case y38 => (intro w hSw; (try dsimp only at hSw); go_simp; (try (rw [if_neg (by omega)])); (try with_reducible rfl)))
          (try simp only [Act.put, List.setIfInBounds_toArray, List.set_cons_zero, List.set_cons_succ])
          (refine rg_yes 4 ?v39 (by simp only [List.getElem?_toArray, List.getElem?_cons_succ, List.getElem?_cons_zero]; rfl) (by kernel_rfl) (by kernel_rfl) (by kernel_rfl) (by exact fun _ _ _ h => h) (by kernel_rfl) (by assumption) ?y39 ?z39; case y39 => (intro w hSw; (try dsimp only at hSw); go_simp; (try (rw [if_neg (by omega)])); (try with_reducible rfl)))
          (try simp only [Act.put, List.setIfInBounds_toArray, List.set_cons_zero, List.set_cons_succ])
          (refine rg_yes 5 ?v40 (by simp only [List.getElem?_toArray, List.getElem?_cons_succ, List.getElem?_cons_zero]; rfl) (by kernel_rfl) (by kernel_rfl) (by kernel_rfl) (by exact fun _ _ _ h => h) (by kernel_rfl) (by assumption) ?y40 ?z40; case y40 => (intro w hSw; (try dsimp only at hSw); go_simp; (try (rw [if_neg (by omega)])); (try with_reducible rfl)))
          (try simp only [Act.put, List.setIfInBounds_toArray, List.set_cons_zero, List.set_cons_succ])
          refine rg_yes 6 _ (by simp only [List.getElem?_toArray, List.getElem?_cons_succ, List.getElem?_cons_zero]; rfl) (by kernel_rfl) (by kernel_rfl) (by kernel_rfl) (by exact fun _ _ _ h => h) (by kernel_rfl) (by assumption) (by exact fun w' hS => (exec_index64 (i := i) rfl rfl rfl h1)) ?_
          (try simp only [Act.put, List.setIfInBounds_toArray, List.set_cons_zero, List.set_cons_succ])
          refine rg_yes 7 _ (by simp only [List.getElem?_toArray, List.getElem?_cons_succ, List.getElem?_cons_zero]; rfl) (by kernel_rfl) (by kernel_rfl) (by kernel_rfl) (by exact fun _ _ _ h => h) (by kernel_rfl) (by assumption) (by exact fun w' hS => (exec_load_at (HL.out _ hS i x HX.out) rfl rfl (fun w => by kernel_rfl))) ?_
          (try simp only [Act.put, List.setIfInBounds_toArray, List.set_cons_zero, List.set_cons_succ])
          refine rg_yes 8 _ (by simp only [List.getElem?_toArray, List.getElem?_cons_succ, List.getElem?_cons_zero]; rfl) (by kernel_rfl) (by kernel_rfl) (by kernel_rfl) (by exact fun _ _ _ h => h) (by kernel_rfl) (by assumption) (by exact fun w' hS => (exec_ne_int (b := false) rfl rfl rfl (by simp))) ?_
          (try simp only [Act.put, List.setIfInBounds_toArray, List.set_cons_zero, List.set_cons_succ])
          (refine rg_yes 9 ?v41 (by simp only [List.getElem?_toArray, List.getElem?_cons_succ, List.getElem?_cons_zero]; rfl) (by kernel_rfl) (by kernel_rfl) (by kernel_rfl) (by exact fun _ _ _ h => h) (by kernel_rfl) (by assumption) ?y41 ?z41; case y41 => (intro w hSw; (try dsimp only at hSw); go_simp; (try (rw [if_neg (by omega)])); (try with_reducible rfl)))
          (try simp only [Act.put, List.setIfInBounds_toArray, List.set_cons_zero, List.set_cons_succ])
          (refine rg_yes 10 ?v42 (by simp only [List.getElem?_toArray, List.getElem?_cons_succ, List.getElem?_cons_zero]; rfl) (by kernel_rfl) (by kernel_rfl) (by kernel_rfl) (by exact fun _ _ _ h => h) (by kernel_rfl) (by assumption) ?y42 ?z42; case y42 => (intro w hSw; (try dsimp only at hSw); go_simp; (try (rw [if_neg (by omega)])); (try with_reducible rfl)))
          (try simp only [Act.put, List.setIfInBounds_toArray, List.set_cons_zero, List.set_cons_succ])
          (refine rg_yes 11 ?v43 (by simp only [List.getElem?_toArray, List.getElem?_cons_succ, List.getElem?_cons_zero]; rfl) (by kernel_rfl) (by kernel_rfl) (by kernel_rfl) (by exact fun _ _ _ h => h) (by kernel_rfl) (by assumption) ?y43 ?z43; case y43 => (intro w hSw; (try dsimp only at hSw); go_simp; (try (rw [if_neg (by omega)])); (try with_reducible rfl)))
          (try simp only [Act.put, List.setIfInBounds_toArray, List.set_cons_zero, List.set_cons_succ])
          (refine rg_yes 12 ?v44 (by simp only [List.getElem?_toArray, List.getElem?_cons_succ, List.getElem?_cons_zero]; rfl) (by kernel_rfl) (by kernel_rfl) (by kernel_rfl) (by exact fun _ _ _ h => h) (by kernel_rfl) (by assumption) ?y44 ?z44; case y44 => (intro w hSw; (try dsimp only at hSw); go_simp; (try (rw [if_neg (by omega)])); (try with_reducible rfl)))
          (try simp only [Act.put, List.setIfInBounds_toArray, List.set_cons_zero, List.set_cons_succ])
          (refine rg_yes 13 ?v45 (by simp only [List.getElem?_toArray, List.getElem?_cons_succ, List.getElem?_cons_zero]; rfl) (by kernel_rfl) (by kernel_rfl) (by kernel_rfl) (by exact fun _ _ _ h => h) (by kernel_rfl) (by assumption) ?y45 ?z45; case y45 => (intro w hSw; (try dsimp only at hSw); go_simp; (try (rw [if_neg (by omega)])); (try with_reducible rfl)))
          (try simp only [Act.put, List.setIfInBounds_toArray, List.set_cons_zero, List.set_cons_succ])
          (refine rg_yes 14 ?v46 (by simp only [List.getElem?_toArray, List.getElem?_cons_succ, List.getElem?_cons_zero]; rfl) (by kernel_rfl) (by kernel_rfl) (by kernel_rfl) (by exact fun _ _ _ h => h) (by kernel_rfl) (by assumption) ?y46 ?z46; case y46 => (intro w hSw; (try dsimp only at hSw); go_simp; (try (rw [if_neg (by omega)])); (try with_reducible rfl)))
          (try simp only [Act.put, List.setIfInBounds_toArray, List.set_cons_zero, List.set_cons_succ])
          (refine rg_yes 15 ?v47 (by simp only [List.getElem?_toArray, List.getElem?_cons_succ, List.getElem?_cons_zero]; rfl) (by kernel_rfl) (by kernel_rfl) (by kernel_rfl) (by exact fun _ _ _ h => h) (by kernel_rfl) (by assumption) ?y47 ?z47; case y47 => (intro w hSw; (try dsimp only at hSw); go_simp; (try (rw [if_neg (by omega)])); (try with_reducible rfl)))
          (try simp only [Act.put, List.setIfInBounds_toArray, List.set_cons_zero, List.set_cons_succ])
          refine rg_yes 16 _ (by simp only [List.getElem?_toArray, List.getElem?_cons_succ, List.getElem?_cons_zero]; rfl) (by kernel_rfl) (by kernel_rfl) (by kernel_rfl) (by exact fun _ _ _ h => h) (by kernel_rfl) (by assumption) (by exact fun w' hS => (exec_ne_int (b := false) rfl rfl rfl (by simp))) ?_
          (try simp only [Act.put, List.setIfInBounds_toArray, List.set_cons_zero, List.set_cons_succ])
          (refine rg_yes 17 ?v48 (by simp only [List.getElem?_toArray, List.getElem?_cons_succ, List.getElem?_cons_zero]; rfl) (by kernel_rfl) (by kernel_rfl) (by kernel_rfl) (by exact fun _ _ _ h => h) (by kernel_rfl) (by assumption) ?y48 ?z48; case y48 => (intro w hSw; (try dsimp only at hSw); go_simp; (try (rw [if_neg (by omega)])); (try with_reducible rfl)))
          (try simp only [Act.put, List.setIfInBounds_toArray, List.set_cons_zero, List.set_cons_succ])
          (refine rg_yes 18 ?v49 (by simp only [List.getElem?_toArray, List.getElem?_cons_succ, List.getElem?_cons_zero]; rfl) (by kernel_rfl) (by kernel_rfl) (by kernel_rfl) (by exact fun _ _ _ h => h) (by kernel_rfl) (by assumption) ?y49 ?z49; case y49 => (intro w hSw; (try dsimp only at hSw); go_simp; (try (rw [if_neg (by omega)])); (try with_reducible rfl)))
          (try simp only [Act.put, List.setIfInBounds_toArray, List.set_cons_zero, List.set_cons_succ])
          (refine rg_yes 19 ?v50 (by simp only [List.getElem?_toArray, List.getElem?_cons_succ, List.getElem?_cons_zero]; rfl) (by kernel_rfl) (by kernel_rfl) (by kernel_rfl) (by exact fun _ _ _ h => h) (by kernel_rfl) (by assumption) ?y50 ?z50; case y50 => (intro w hSw; (try dsimp only at hSw); go_simp; (try (rw [if_neg (by omega)])); (try with_reducible rfl)))
          (try simp only [Act.put, List.setIfInBounds_toArray, List.set_cons_zero, List.set_cons_succ])
          by_cases hi0 : 0 < i
          · skip
            refine rg_yes 20 _ (by simp only [List.getElem?_toArray, List.getElem?_cons_succ, List.getElem?_cons_zero]; rfl) (by kernel_rfl) (by kernel_rfl) (by kernel_rfl) (by exact fun _ _ _ h => h) (by kernel_rfl) (by assumption) (by exact fun w' hS => (exec_gtr_int (b := true) rfl rfl rfl (decide_eq_true (by omega)))) ?_
            (try simp only [Act.put, List.setIfInBounds_toArray, List.set_cons_zero, List.set_cons_succ])
            obtain ⟨y, hy, _⟩ := HENT.out (i - 1) (by omega)
            have hyx := HRISE.out (i - 1) y x hy (by rw [Nat.sub_add_cancel hi0]; exact HX.out)
            (refine rg_yes 21 ?v51 (by simp only [List.getElem?_toArray, List.getElem?_cons_succ, List.getElem?_cons_zero]; rfl) (by kernel_rfl) (by kernel_rfl) (by kernel_rfl) (by exact fun _ _ _ h => h) (by kernel_rfl) (by assumption) ?y51 ?z51; case y51 => (intro w hSw; (try dsimp only at hSw); go_simp; (try (rw [if_neg (by omega)])); (try with_reducible rfl)))
            (try simp only [Act.put, List.setIfInBounds_toArray, List.set_cons_zero, List.set_cons_succ])
            (refine rg_yes 22 ?v52 (by simp only [List.getElem?_toArray, List.getElem?_cons_succ, List.getElem?_cons_zero]; rfl) (by kernel_rfl) (by kernel_rfl) (by kernel_rfl) (by exact fun _ _ _ h => h) (by kernel_rfl) (by assumption) ?y52 ?z52; case y52 => (intro w hSw; (try dsimp only at hSw); go_simp; (try (rw [if_neg (by omega)])); (try with_reducible rfl)))
            (try simp only [Act.put, List.setIfInBounds_toArray, List.set_cons_zero, List.set_cons_succ])
            (refine rg_yes 23 ?v53 (by simp only [List.getElem?_toArray, List.getElem?_cons_succ, List.getElem?_cons_zero]; rfl) (by kernel_rfl) (by kernel_rfl) (by kernel_rfl) (by exact fun _ _ _ h => h) (by kernel_rfl) (by assumption) ?y53 ?z53; case y53 => (intro w hSw; (try dsimp only at hSw); go_simp; (try (rw [if_neg (by omega)])); (try with_reducible rfl)))
            (try simp only [Act.put, List.setIfInBounds_toArray, List.set_cons_zero, List.set_cons_succ])
            refine rg_yes 24 _ (by simp only [List.getElem?_toArray, List.getElem?_cons_succ, List.getElem?_cons_zero]; rfl) (by kernel_rfl) (by kernel_rfl) (by kernel_rfl) (by exact fun _ _ _ h => h) (by kernel_rfl) (by assumption) (by exact fun w' hS => (exec_index64 (i := i) rfl rfl rfl h1)) ?_
            (try simp only [Act.put, List.setIfInBounds_toArray, List.set_cons_zero, List.set_cons_succ])
            refine rg_yes 25 _ (by simp only [List.getElem?_toArray, List.getElem?_cons_succ, List.getElem?_cons_zero]; rfl) (by kernel_rfl) (by kernel_rfl) (by kernel_rfl) (by exact fun _ _ _ h => h) (by kernel_rfl) (by assumption) (by exact fun w' hS => (exec_load_at (HL.out _ hS i x HX.out) rfl rfl (fun w => by kernel_rfl))) ?_
            (try simp only [Act.put, List.setIfInBounds_toArray, List.set_cons_zero, List.set_cons_succ])
            (refine rg_yes 26 ?v54 (by simp only [List.getElem?_toArray, List.getElem?_cons_succ, List.getElem?_cons_zero]; rfl) (by kernel_rfl) (by kernel_rfl) (by kernel_rfl) (by exact fun _ _ _ h => h) (by kernel_rfl) (by assumption) ?y54 ?z54; case y54 => (intro w hSw; (try dsimp only at hSw); go_simp; (try (rw [if_neg (by omega)])); (try with_reducible rfl)))
            (try simp only [Act.put, List.setIfInBounds_toArray, List.set_cons_zero, List.set_cons_succ])
            (refine rg_yes 27 ?v55 (by simp only [List.getElem?_toArray, List.getElem?_cons_succ, List.getElem?_cons_zero]; rfl) (by kernel_rfl) (by kernel_rfl) (by kernel_rfl) (by exact fun _ _ _ h => h) (by kernel_rfl) (by assumption) ?y55 ?z55; case y55 => (intro w hSw; (try dsimp only at hSw); go_simp; (try (rw [if_neg (by omega)])); (try with_reducible rfl)))
            (try simp only [Act.put, List.setIfInBounds_toArray, List.set_cons_zero, List.set_cons_succ])
            refine rg_yes 28 _ (by simp only [List.getElem?_toArray, List.getElem?_cons_succ, List.getElem?_cons_zero]; rfl) (by kernel_rfl) (by kernel_rfl) (by kernel_rfl) (by exact fun _ _ _ h => h) (by kernel_rfl) (by assumption) (by exact fun w' hS => (exec_sub64 (r := ((i - 1 : Nat) : Int)) rfl rfl rfl (by omega) (by omega) (by omega))) ?_
            (try simp only [Act.put, List.setIfInBounds_toArray, List.set_cons_zero, List.set_cons_succ])
            refine rg_yes 29 _ (by simp only [List.getElem?_toArray, List.getElem?_cons_succ, List.getElem?_cons_zero]; rfl) (by kernel_rfl) (by kernel_rfl) (by kernel_rfl) (by exact fun _ _ _ h => h) (by kernel_rfl) (by assumption) (by exact fun w' hS => (exec_index64 (i := i - 1) rfl rfl rfl (by omega))) ?_
            (try simp only [Act.put, List.setIfInBounds_toArray, List.set_cons_zero, List.set_cons_succ])
            refine rg_yes 30 _ (by simp only [List.getElem?_toArray, List.getElem?_cons_succ, List.getElem?_cons_zero]; rfl) (by kernel_rfl) (by kernel_rfl) (by kernel_rfl) (by exact fun _ _ _ h => h) (by kernel_rfl) (by assumption) (by exact fun w' hS => (exec_load_at (HL.out _ hS (i - 1) y hy) rfl rfl (fun w => by kernel_rfl))) ?_
            (try simp only [Act.put, List.setIfInBounds_toArray, List.set_cons_zero, List.set_cons_succ])
            refine rg_yes 31 _ (by simp only [List.getElem?_toArray, List.getElem?_cons_succ, List.getElem?_cons_zero]; rfl) (by kernel_rfl) (by kernel_rfl) (by kernel_rfl) (by exact fun _ _ _ h => h) (by kernel_rfl) (by assumption) (by exact fun w' hS => (exec_leq_int (b := false) rfl rfl rfl (decide_eq_false (by omega)))) ?_
            (try simp only [Act.put, List.setIfInBounds_toArray, List.set_cons_zero, List.set_cons_succ])
            (refine rg_yes 32 ?v56 (by simp only [List.getElem?_toArray, List.getElem?_cons_succ, List.getElem?_cons_zero]; rfl) (by kernel_rfl) (by kernel_rfl) (by kernel_rfl) (by exact fun _ _ _ h => h) (by kernel_rfl) (by assumption) ?y56 ?z56; case y56 => (intro w hSw; (try dsimp only at hSw); go_simp; (try (rw [if_neg (by omega)])); (try with_reducible rfl)))
            (try simp only [Act.put, List.setIfInBounds_toArray, List.set_cons_zero, List.set_cons_succ])
            (refine rg_yes 33 ?v57 (by simp only [List.getElem?_toArray, List.getElem?_cons_succ, List.getElem?_cons_zero]; rfl) (by kernel_rfl) (by kernel_rfl) (by kernel_rfl) (by exact fun _ _ _ h => h) (by kernel_rfl) (by assumption) ?y57 ?z57; case y57 => (intro w hSw; (try dsimp only at hSw); go_simp; (try (rw [if_neg (by omega)])); (try with_reducible rfl)))
            (try simp only [Act.put, List.setIfInBounds_toArray, List.set_cons_zero, List.set_cons_succ])
            refine wpAnyH_done (by kernel_rfl) ?_ _
            apply HK
            clear HK hy hyx
            have HB5 := Lib.hid hHeld
            clear hHeld HB4
            go_wp2_with fail
            exact ⟨⟨i + 1, by go_num, by omega, by omega, HB5.out⟩, by simp [intOf]; omega⟩
          · skip
            refine rg_yes 20 _ (by simp only [List.getElem?_toArray, List.getElem?_cons_succ, List.getElem?_cons_zero]; rfl) (by kernel_rfl) (by kernel_rfl) (by kernel_rfl) (by exact fun _ _ _ h => h) (by kernel_rfl) (by assumption) (by exact fun w' hS => (exec_gtr_int (b := false) rfl rfl rfl (decide_eq_false (by omega)))) ?_
            (try simp only [Act.put, List.setIfInBounds_toArray, List.set_cons_zero, List.set_cons_succ])
            (refine rg_yes 21 ?v58 (by simp only [List.getElem?_toArray, List.getElem?_cons_succ, List.getElem?_cons_zero]; rfl) (by kernel_rfl) (by kernel_rfl) (by kernel_rfl) (by exact fun _ _ _ h => h) (by kernel_rfl) (by assumption) ?y58 ?z58; case y58 => (intro w hSw; (try dsimp only at hSw); go_simp; (try (rw [if_neg (by omega)])); (try with_reducible rfl)))
            (try simp only [Act.put, List.setIfInBounds_toArray, List.set_cons_zero, List.set_cons_succ])
            (refine rg_no 22 (by simp only [List.getElem?_toArray, List.getElem?_cons_succ, List.getElem?_cons_zero]; rfl) (by kernel_rfl) (by kernel_rfl) (by kernel_rfl) (by exact fun _ _ _ h => h) (by kernel_rfl) (by assumption) ?_)
            (try simp only [Act.put, List.setIfInBounds_toArray, List.set_cons_zero, List.set_cons_succ])
            (refine rg_no 23 (by simp only [List.getElem?_toArray, List.getElem?_cons_succ, List.getElem?_cons_zero]; rfl) (by kernel_rfl) (by kernel_rfl) (by kernel_rfl) (by exact fun _ _ _ h => h) (by kernel_rfl) (by assumption) ?_)
            (try simp only [Act.put, List.setIfInBounds_toArray, List.set_cons_zero, List.set_cons_succ])
            (refine rg_no 24 (by simp only [List.getElem?_toArray, List.getElem?_cons_succ, List.getElem?_cons_zero]; rfl) (by kernel_rfl) (by kernel_rfl) (by kernel_rfl) (by exact fun _ _ _ h => h) (by kernel_rfl) (by assumption) ?_)
            (try simp only [Act.put, List.setIfInBounds_toArray, List.set_cons_zero, List.set_cons_succ])
            (refine rg_no 25 (by simp only [List.getElem?_toArray, List.getElem?_cons_succ, List.getElem?_cons_zero]; rfl) (by kernel_rfl) (by kernel_rfl) (by kernel_rfl) (by exact fun _ _ _ h => h) (by kernel_rfl) (by assumption) ?_)
            (try simp only [Act.put, List.setIfInBounds_toArray, List.set_cons_zero, List.set_cons_succ])
            (refine rg_no 26 (by simp only [List.getElem?_toArray, List.getElem?_cons_succ, List.getElem?_cons_zero]; rfl) (by kernel_rfl) (by kernel_rfl) (by kernel_rfl) (by exact fun _ _ _ h => h) (by kernel_rfl) (by assumption) ?_)
            (try simp only [Act.put, List.setIfInBounds_toArray, List.set_cons_zero, List.set_cons_succ])
            (refine rg_no 27 (by simp only [List.getElem?_toArray, List.getElem?_cons_succ, List.getElem?_cons_zero]; rfl) (by kernel_rfl) (by kernel_rfl) (by kernel_rfl) (by exact fun _ _ _ h => h) (by kernel_rfl) (by assumption) ?_)
            (try simp only [Act.put, List.setIfInBounds_toArray, List.set_cons_zero, List.set_cons_succ])
            (refine rg_no 28 (by simp only [List.getElem?_toArray, List.getElem?_cons_succ, List.getElem?_cons_zero]; rfl) (by kernel_rfl) (by kernel_rfl) (by kernel_rfl) (by exact fun _ _ _ h => h) (by kernel_rfl) (by assumption) ?_)
            (try simp only [Act.put, List.setIfInBounds_toArray, List.set_cons_zero, List.set_cons_succ])
            (refine rg_no 29 (by simp only [List.getElem?_toArray, List.getElem?_cons_succ, List.getElem?_cons_zero]; rfl) (by kernel_rfl) (by kernel_rfl) (by kernel_rfl) (by exact fun _ _ _ h => h) (by kernel_rfl) (by assumption) ?_)
            (try simp only [Act.put, List.setIfInBounds_toArray, List.set_cons_zero, List.set_cons_succ])
            (refine rg_no 30 (by simp only [List.getElem?_toArray, List.getElem?_cons_succ, List.getElem?_cons_zero]; rfl) (by kernel_rfl) (by kernel_rfl) (by kernel_rfl) (by exact fun _ _ _ h => h) (by kernel_rfl) (by assumption) ?_)
            (try simp only [Act.put, List.setIfInBounds_toArray, List.set_cons_zero, List.set_cons_succ])
            (refine rg_no 31 (by simp only [List.getElem?_toArray, List.getElem?_cons_succ, List.getElem?_cons_zero]; rfl) (by kernel_rfl) (by kernel_rfl) (by kernel_rfl) (by exact fun _ _ _ h => h) (by kernel_rfl) (by assumption) ?_)
            (try simp only [Act.put, List.setIfInBounds_toArray, List.set_cons_zero, List.set_cons_succ])
            (refine rg_yes 32 ?v69 (by simp only [List.getElem?_toArray, List.getElem?_cons_succ, List.getElem?_cons_zero]; rfl) (by kernel_rfl) (by kernel_rfl) (by kernel_rfl) (by exact fun _ _ _ h => h) (by kernel_rfl) (by assumption) ?y69 ?z69; case y69 => (intro w hSw; (try dsimp only at hSw); go_simp; (try (rw [if_neg (by omega)])); (try with_reducible rfl)))
            (try simp only [Act.put, List.setIfInBounds_toArray, List.set_cons_zero, List.set_cons_succ])
            (refine rg_yes 33 ?v70 (by simp only [List.getElem?_toArray, List.getElem?_cons_succ, List.getElem?_cons_zero]; rfl) (by kernel_rfl) (by kernel_rfl) (by kernel_rfl) (by exact fun _ _ _ h => h) (by kernel_rfl) (by assumption) ?y70 ?z70; case y70 => (intro w hSw; (try dsimp only at hSw); go_simp; (try (rw [if_neg (by omega)])); (try with_reducible rfl)))
            (try simp only [Act.put, List.setIfInBounds_toArray, List.set_cons_zero, List.set_cons_succ])
            refine wpAnyH_done (by kernel_rfl) ?_ _
            apply HK
            clear HK
            have HB5 := Lib.hid hHeld
            clear hHeld HB4
            go_wp2_with fail
            exact ⟨⟨i + 1, by go_num, by omega, by omega, HB5.out⟩, by simp [intOf]; omega⟩
        · have d2 : decide ((i : Int) < 40) = false := decide_eq_false (by omega)

          go_wp2_with fail
          go_meet
          case rel => exact HB.out
      · have d1 : decide ((i : Int) < l.length) = false := decide_eq_false (by omega)

        go_wp2_with fail
        go_meet
        case rel => exact HB.out
  case rest => as_aux_lemma =>
    have HB := Lib.hid hcut
    clear hcut HB2
    obtain ⟨w7, rfl⟩ : ∃ w7, w7 = wc := ⟨_, rfl⟩
    have HK := Lib.hid (HW.out _ HB.out)
    have j17 := HK.out.2.2.2.1
    go_wp2_with (refine wpList_val (.agg SV) (by kernel_rfl) (exec_load_row HK.out.1 rfl rfl Tryz.underlying25 rfl HSZ.out) ?_)
    refine (HA.out s.start w7 HK.out.2.2.2.2.2.1).mono ?_
    rintro e w8 ⟨z, v8, n8, rfl, hE, hA8, hb8⟩
    obtain ⟨rfl, rfl⟩ := HFST.out _ _ hA8
    obtain rfl := (hE.zero rfl).1
    have HB8 := Lib.hid (HB.out.trans (hb8.mono HB.out.size))
    have HK8 := Lib.hid (HW.out _ HB8.out)
    have j17' := HK8.out.2.2.2.1
    have jl0 := HL.out _ HB8.out 0 x0 HX0.out
    rw [Nat.add_zero] at jl0
    clear hE hA8 hb8 HK
    go_upto_block 2 with fail
    go_cut [22, 23] (fun fv tv wc => ∃ f t : Int, fv = .int .i64 f ∧ tv = .int .i64 t ∧ 1 ≤ f ∧ t ≤ 3652059 ∧ Btw s q mode f t ∧ Below w1.heap.size w1 wc)
    case first =>
      go_wp2_with fail
      go_loopw [22, 23, 24] (fun fv tv kv wr => ∃ f t : Int, ∃ i : Nat, fv = .int .i64 f ∧ tv = .int .i64 t ∧ kv = .int .i64 i ∧ i < l.length ∧ 1 ≤ f ∧ t ≤ 3652059 ∧ Btw s q mode f t ∧ Below w1.heap.size w1 wr) (fun _ _ kv _ => l.length - (intOf kv).toNat)
      case atStart => exact ⟨s.start, x0, 0, rfl, rfl, rfl, hn1, hs1, HX0B.out, HHD.out, HB8.out⟩
      case round => as_aux_lemma =>
        obtain ⟨f, t, i, rfl, rfl, rfl, hi, hf1, ht1, hbt, hb⟩ := hrel
        have HBT := Lib.hid hbt
        have HB2 := Lib.hid hb
        clear hbt hb jl0 j17 j17' HB8 HK8 HB
        by_cases hin : i + 1 < l.length
        · have e1 : decide ((i : Int) + 1 < l.length) = true := decide_eq_true (by omega)
          obtain ⟨x, hx, hx1, hx2, hx3, hx4⟩ := HENT.out i hi
          obtain ⟨y, hy, hy1, hy2, hy3, hy4⟩ := HENT.out (i + 1) hin
          have jx := HL.out _ HB2.out i x hx
          have jy := HL.out _ HB2.out (i + 1) y hy
          have HNX := Lib.hid (HNXT.out i x y hx hy)
          clear hx hy
          by_cases hxd : x ≤ day
          · have e2 : decide (x ≤ day) = true := decide_eq_true hxd
            go_wp2_with fail
            exact ⟨⟨x, y, i + 1, rfl, rfl, by go_num, hin, hx3, hy4, HNX.out, HB2.out⟩, by simp [intOf]; omega⟩
          · have e2 : decide (x ≤ day) = false := decide_eq_false hxd
            clear jy hxd
            go_wp2_with fail
            go_meet
            case rel => exact ⟨f, t, rfl, rfl, hf1, ht1, HBT.out, HB2.out⟩
        · have e1 : decide ((i : Int) + 1 < l.length) = false := decide_eq_false (by omega)
          go_wp2_with fail
          go_meet
          case rel => exact ⟨f, t, rfl, rfl, hf1, ht1, HBT.out, HB2.out⟩
    case rest => as_aux_lemma =>
      obtain ⟨f, t, rfl, rfl, hf1, ht1, hbt, hb⟩ := hcut
      have HBT := Lib.hid hbt
      have HB2 := Lib.hid hb
      clear hbt hb jl0 j17 j17' HB8 HK8 HB
      obtain ⟨w2, rfl⟩ : ∃ w2, w2 = wc := ⟨_, rfl⟩
      by_cases hday : day < f ∨ t ≤ day
      · by_cases g0 : day < f
        · have d0 : decide (day < f) = true := decide_eq_true g0
          clear hday g0
          go_wp2_with fail
          go_ret
          exact ⟨rfl, (HW.out _ HB2.out).2.2.2.2.2.2⟩
        · have d0 : decide (day < f) = false := decide_eq_false g0
          have d1 : decide (day ≥ t) = true := decide_eq_true (by omega)
          clear hday g0
          go_wp2_with fail
          go_ret
          exact ⟨rfl, (HW.out _ HB2.out).2.2.2.2.2.2⟩
      · have d0 : decide (day < f) = false := decide_eq_false (by omega)
        have d1 : decide (day ≥ t) = false := decide_eq_false (by omega)
        have hd0 : f ≤ day := by omega
        have hd1 : day < t := by omega
        have HK := Lib.hid (HW.out _ HB2.out)
        clear hday
        go_wp2_with (refine wpList_val (.agg SV) (by kernel_rfl) (exec_load_row HK.out.1 rfl rfl Tryz.underlying25 rfl HSZ.out) ?_)
        refine (HA.out day w2 HK.out.2.2.2.2.2.1).mono ?_
        rintro e w3 ⟨z0, u0, n0, rfl, hE0, hA0, hb3⟩
        have HE0 := Lib.hid hE0
        have HA0 := Lib.hid hA0
        have HB3 := Lib.hid (HB2.out.trans (hb3.mono HB2.out.size))
        clear hE0 hA0 hb3 d0 d1
        go_wp2_with fail
        go_loopw [21, 25, 26, 27, 28] (fun fv wv nv xv gv wr => ∃ dn z : Int, ∃ n : Int, ErrP fv n none ∧ wv = .int .i64 z ∧ nv = .int .i64 (dn + 1) ∧ day ≤ dn ∧ dn < t ∧ AccIs s q dn mode z n ∧ Below w1.heap.size w1 wr) (fun _ _ nv _ _ _ => (t - intOf nv).toNat)
        case atStart => exact ⟨day, z0, n0, HE0.out, rfl, rfl, Int.le_refl _, hd1, HA0.out, HB3.out⟩
        case round => as_aux_lemma =>
          obtain ⟨dn, z, n, hE, rfl, rfl, hdn, hdt, hAz, hb⟩ := hrel
          have HB4 := Lib.hid hb
          have HE := Lib.hid hE
          have HAz := Lib.hid hAz
          have HK4 := Lib.hid (HW.out _ hb)
          clear hb hE hAz HE0 HA0 HB3 HK
          by_cases hnt : dn + 1 < t
          · have d2 : decide (dn + 1 < t) = true := decide_eq_true hnt
            go_wp2_with fail
            refine (HP.out wr).mono ?_
            rintro e w5 ⟨⟨p, hp0, hp1, rfl⟩, rfl⟩
            by_cases hpd : dn + 1 ≤ day + p
            · have d3 : decide (dn + 1 ≤ day + p) = true := decide_eq_true hpd
              go_wp2_with (refine wpList_val (.agg SV) (by kernel_rfl) (exec_load_row HK4.out.1 rfl rfl Tryz.underlying25 rfl HSZ.out) ?_)
              refine (HA.out (dn + 1) w5 HK4.out.2.2.2.2.2.1).mono ?_
              rintro e w6 ⟨z6, u6, n6, rfl, hE6, hA6, hb6⟩
              have HB6 := Lib.hid (HB4.out.trans (hb6.mono HB4.out.size))
              have hmono := HBT.out dn (dn + 1) z n z6 n6 (by omega) (by omega) hnt HAz.out hA6
              have hfin : ∃ dn' z' n' : Int, ErrP u6 n' none ∧ Value.int .i64 z6 = .int .i64 z' ∧ Value.int .i64 (dn + 1 + 1) = .int .i64 (dn' + 1) ∧ day ≤ dn' ∧ dn' < t ∧ AccIs s q dn' mode z' n' ∧ Below w1.heap.size w1 w6 := ⟨dn + 1, z6, n6, hE6, rfl, rfl, by omega, hnt, hA6, HB6.out⟩
              have HF := Lib.hid hfin
              have hE := HE.out
              by_cases h6 : n6 = 0
              · obtain ⟨hn0, hz⟩ := hmono h6
                obtain rfl := (hE6.zero h6).1
                obtain rfl := (hE.zero hn0).1
                have d4 : decide (z6 < z) = false := decide_eq_false (by omega)
                clear hE6 hA6 hb6 hmono hfin hE h6 hn0 hz
                go_wp2_with fail
                exact ⟨HF.out, by simp [intOf]; omega⟩
              · obtain ⟨t6, x6, rfl⟩ := hE6.held h6
                by_cases hn0 : n = 0
                · obtain rfl := (hE.zero hn0).1
                  clear hE6 hA6 hb6 hmono hfin hE h6 hn0
                  go_wp2_with fail
                  exact ⟨HF.out, by simp [intOf]; omega⟩
                · obtain ⟨t5, x5, rfl⟩ := hE.held hn0
                  clear hE6 hA6 hb6 hmono hfin hE h6 hn0
                  go_wp2_with fail
                  exact ⟨HF.out, by simp [intOf]; omega⟩
            · have d3 : decide (dn + 1 ≤ day + p) = false := decide_eq_false hpd
              go_wp2_with fail
              go_ret
              exact ⟨rfl, HK4.out.2.2.2.2.2.2⟩
          · have d2 : decide (dn + 1 < t) = false := decide_eq_false hnt
            go_wp2_with fail
            go_ret
            exact ⟨rfl, HK4.out.2.2.2.2.2.2⟩
set_option maxRecDepth 100000 in
set_option maxHeartbeats 32000000 in
theorem priceGrows_bad (s : SecV) (q day days mode : Int) (w : World) (hcs : s.cur.size ≤ 140737488351232) (hok : Ok w) (hq : q < 9223372036854775808) (hf : s.face < 9223372036854775808) (hd0 : -9223372036854775808 ≤ days) (hd1 : days ≤ 9223372036854775807) (hgood : ¬ (coupN s = 0 ∧ ¬ (q < 0 ∨ mode < 0 ∨ 3 < mode))) : Calls Tryz.prog 5 #[.agg (secC s), .int .i64 q, .int .i64 day, .int .i64 days, .int .i64 mode] w (FlatP true w) := by
  have HWK := Lib.hid (fun w hok => worksP_any w hok)
  have hcp := fun w hok => coupons_any s w hcs hok
  unfold CoupP at hcp
  have ha := fun (x : Int) (w : World) hok => accrued_any s q x mode w hcs hok hq hf
  unfold AccP at ha
  have HP := Lib.hid (fun w => pickG_any days 70 w hd0 hd1 (by decide) (by decide))
  have HNUM := Lib.hid (fun v n w (h : ErrP v n none) => num_errP w h)
  have HBAD := Lib.hid (fun (h : coupN s ≠ 0 ∨ q < 0 ∨ mode < 0 ∨ 3 < mode) (hk : s.kind = 2) x z n (ha : AccIs s q x mode z n) => acc_bad h hk ha)
  have HGR := Lib.hid (fun h (hg : ¬ (q < 0 ∨ mode < 0 ∨ 3 < mode)) l (hl : CoupIs s l) => grow_ok (q := q) (mode := mode) h hg hl)
  have HCN := Lib.hid (fun l h (hl : CoupIs s l) => coup_none h hl)
  have HCK := Lib.hid (fun h => (coup_kind (s := s) h).1)
  have HCB := Lib.hid (fun h => coup_bounds (s := s) h)
  have HSZ := Lib.hid (show (Tryz.prog.info? 25).map (·.size) = some (secC s).size by kernel_rfl)
  have HG := Lib.hid (heap_alloc_new w (.cells (secC s) 25))
  have HZ0 := Lib.hid ((Below.refl w.heap.size w).alloc (Nat.le_refl _) (.cells (secC s) 25))
  have hcell : ∀ w1, Below (w.alloc (.cells (secC s) 25)).heap.size (w.alloc (.cells (secC s) 25)) w1 → w1.heap[w.heap.size]? = some (.cells (secC s) 25 (0, 0)) ∧ w1.cell? ⟨w.heap.size, 12, none⟩ = some (.int .i64 s.kind) ∧ w1.cell? ⟨w.heap.size, 15, none⟩ = some (.int .i64 s.per) ∧ w1.cell? ⟨w.heap.size, 17, none⟩ = some (.int .i64 s.start) ∧ w1.cell? ⟨w.heap.size, 18, none⟩ = some (.int .i64 s.finish) ∧ Ok w1 ∧ Below w.heap.size w w1 := fun w1 h => by
    have e := rowAt_below (heap_alloc_new w (.cells (secC s) 25)) h
    have hb := HZ0.out.trans (h.mono (by simp))
    exact ⟨e, by rw [cell_of_row _ _ _ _ _ _ e]; rfl, by rw [cell_of_row _ _ _ _ _ _ e]; rfl, by rw [cell_of_row _ _ _ _ _ _ e]; rfl, by rw [cell_of_row _ _ _ _ _ _ e]; rfl, hok.below hb, hb⟩
  have HW0 := Lib.hid hcell
  have HCP := Lib.hid hcp
  have HA := Lib.hid ha
  have HOK := Lib.hid hok
  clear hcp ha hok hcs hq hf hd0 hd1 hcell
  generalize secC s = SV at *
  generalize hCN : coupN s = cN at *
  go_enter Tryz.func5, Tryz.ntmps5
  go_wp2_with (refine wpList_val (.agg SV) (by kernel_rfl) (exec_load_row HG.out rfl rfl Tryz.underlying25 rfl HSZ.out) ?_)
  refine (HCP.out _ (HOK.out.below HZ0.out)).mono ?_
  rintro e w1 ⟨v1, v2, l, rfl, hE, hRow, hCI, hlen, hb1⟩
  have HW := Lib.hid (fun wr (h : Below w1.heap.size w1 wr) => HW0.out wr (hb1.trans (h.mono hb1.size)))
  have hrd := hRow.reads (by omega)
  have HCI := Lib.hid hCI
  have HE2 := Lib.hid hE
  have HR0 := Lib.hid (Below.refl w1.heap.size w1)
  clear hb1 HG HW0 HOK HCP hRow hCI
  obtain ⟨ao, cap, rfl⟩ := hrd.slice
  have HBD := Lib.hid (fun (hk : s.kind = 2) => HBAD.out (by omega) hk)
  have HJ := Lib.hid ((HW.out _ HR0.out))
  by_cases hc0 : cN = 0
  · obtain rfl := (hE.zero hc0).1
    have hkk := HCK.out hc0
    by_cases b0 : q < 0
    · have q0 : decide (q < 0) = true := decide_eq_true b0
      clear hgood b0 hE
      go_wp2_with (refine wpList_val (.agg SV) (by kernel_rfl) (exec_load_row HJ.out.1 rfl rfl Tryz.underlying25 rfl HSZ.out) ?_)
      refine (HA.out day w1 HJ.out.2.2.2.2.2.1).mono ?_
      rintro e w3 ⟨z, v3, n3, rfl, hE3, hA3, hb3⟩
      have HB3 := Lib.hid hb3
      have HJ3 := Lib.hid (HW.out _ hb3)
      have HBN := Lib.hid (fun hk => HBD.out hk _ _ _ hA3)
      have HE3 := Lib.hid hE3
      clear hE3 hA3 hb3
      go_wp2_with fail
      refine (HWK.out _ HJ3.out.2.2.2.2.2.1).mono ?_
      rintro e w4 ⟨rfl, hb4⟩
      have HB4 := Lib.hid (HB3.out.trans (hb4.mono HB3.out.size))
      have HJ4 := Lib.hid (HW.out _ HB4.out)
      clear hb4
      go_wp2_with fail
      refine (HNUM.out _ _ w4 HE2.out).mono ?_
      rintro e w5 ⟨rfl, hb5⟩
      have HB5 := Lib.hid (HB4.out.trans (hb5.mono HB4.out.size))
      have HJ5 := Lib.hid (HW.out _ HB5.out)
      have j12 := HJ5.out.2.1
      clear hb5
      have hke : (s.kind != 2) = false := by simp [hkk]
      obtain ⟨t3, x3, rfl⟩ := HE3.out.held (HBN.out hkk)
      have hzz : ((l.length : Int) * cN) = 0 := by rw [hc0]; simp
      clear hkk
      go_wp2_with fail
      go_ret
      exact ⟨rfl, HJ5.out.2.2.2.2.2.2⟩
    · have q0 : decide (q < 0) = false := decide_eq_false b0
      by_cases b1 : mode < 0
      · have q1 : decide (mode < 0) = true := decide_eq_true b1
        clear hgood b0 b1 hE
        go_wp2_with (refine wpList_val (.agg SV) (by kernel_rfl) (exec_load_row HJ.out.1 rfl rfl Tryz.underlying25 rfl HSZ.out) ?_)
        refine (HA.out day w1 HJ.out.2.2.2.2.2.1).mono ?_
        rintro e w3 ⟨z, v3, n3, rfl, hE3, hA3, hb3⟩
        have HB3 := Lib.hid hb3
        have HJ3 := Lib.hid (HW.out _ hb3)
        have HBN := Lib.hid (fun hk => HBD.out hk _ _ _ hA3)
        have HE3 := Lib.hid hE3
        clear hE3 hA3 hb3
        go_wp2_with fail
        refine (HWK.out _ HJ3.out.2.2.2.2.2.1).mono ?_
        rintro e w4 ⟨rfl, hb4⟩
        have HB4 := Lib.hid (HB3.out.trans (hb4.mono HB3.out.size))
        have HJ4 := Lib.hid (HW.out _ HB4.out)
        clear hb4
        go_wp2_with fail
        refine (HNUM.out _ _ w4 HE2.out).mono ?_
        rintro e w5 ⟨rfl, hb5⟩
        have HB5 := Lib.hid (HB4.out.trans (hb5.mono HB4.out.size))
        have HJ5 := Lib.hid (HW.out _ HB5.out)
        have j12 := HJ5.out.2.1
        clear hb5
        have hke : (s.kind != 2) = false := by simp [hkk]
        obtain ⟨t3, x3, rfl⟩ := HE3.out.held (HBN.out hkk)
        have hzz : ((l.length : Int) * cN) = 0 := by rw [hc0]; simp
        clear hkk
        go_wp2_with fail
        go_ret
        exact ⟨rfl, HJ5.out.2.2.2.2.2.2⟩
      · have q1 : decide (mode < 0) = false := decide_eq_false b1
        have q2 : decide (mode > 3) = true := decide_eq_true (by omega)
        clear hgood b0 b1 hE
        go_wp2_with (refine wpList_val (.agg SV) (by kernel_rfl) (exec_load_row HJ.out.1 rfl rfl Tryz.underlying25 rfl HSZ.out) ?_)
        refine (HA.out day w1 HJ.out.2.2.2.2.2.1).mono ?_
        rintro e w3 ⟨z, v3, n3, rfl, hE3, hA3, hb3⟩
        have HB3 := Lib.hid hb3
        have HJ3 := Lib.hid (HW.out _ hb3)
        have HBN := Lib.hid (fun hk => HBD.out hk _ _ _ hA3)
        have HE3 := Lib.hid hE3
        clear hE3 hA3 hb3
        go_wp2_with fail
        refine (HWK.out _ HJ3.out.2.2.2.2.2.1).mono ?_
        rintro e w4 ⟨rfl, hb4⟩
        have HB4 := Lib.hid (HB3.out.trans (hb4.mono HB3.out.size))
        have HJ4 := Lib.hid (HW.out _ HB4.out)
        clear hb4
        go_wp2_with fail
        refine (HNUM.out _ _ w4 HE2.out).mono ?_
        rintro e w5 ⟨rfl, hb5⟩
        have HB5 := Lib.hid (HB4.out.trans (hb5.mono HB4.out.size))
        have HJ5 := Lib.hid (HW.out _ HB5.out)
        have j12 := HJ5.out.2.1
        clear hb5
        have hke : (s.kind != 2) = false := by simp [hkk]
        obtain ⟨t3, x3, rfl⟩ := HE3.out.held (HBN.out hkk)
        have hzz : ((l.length : Int) * cN) = 0 := by rw [hc0]; simp
        clear hkk
        go_wp2_with fail
        go_ret
        exact ⟨rfl, HJ5.out.2.2.2.2.2.2⟩
  · obtain ⟨t, x, rfl⟩ := hE.held hc0
    obtain rfl := HCN.out l hc0 HCI.out
    clear hgood hE
    go_wp2_with (refine wpList_val (.agg SV) (by kernel_rfl) (exec_load_row HJ.out.1 rfl rfl Tryz.underlying25 rfl HSZ.out) ?_)
    refine (HA.out day w1 HJ.out.2.2.2.2.2.1).mono ?_
    rintro e w3 ⟨z, v3, n3, rfl, hE3, hA3, hb3⟩
    have HB3 := Lib.hid hb3
    have HJ3 := Lib.hid (HW.out _ hb3)
    have HBN := Lib.hid (fun hk => HBD.out hk _ _ _ hA3)
    have HE3 := Lib.hid hE3
    clear hE3 hA3 hb3
    go_wp2_with fail
    refine (HWK.out _ HJ3.out.2.2.2.2.2.1).mono ?_
    rintro e w4 ⟨rfl, hb4⟩
    have HB4 := Lib.hid (HB3.out.trans (hb4.mono HB3.out.size))
    have HJ4 := Lib.hid (HW.out _ HB4.out)
    clear hb4
    go_wp2_with fail
    refine (HNUM.out _ _ w4 HE2.out).mono ?_
    rintro e w5 ⟨rfl, hb5⟩
    have HB5 := Lib.hid (HB4.out.trans (hb5.mono HB4.out.size))
    have HJ5 := Lib.hid (HW.out _ HB5.out)
    have j12 := HJ5.out.2.1
    clear hb5
    by_cases hkk : s.kind = 2
    · have hke : (s.kind != 2) = false := by simp [hkk]
      obtain ⟨t3, x3, rfl⟩ := HE3.out.held (HBN.out hkk)
      clear hkk
      go_wp2_with fail
      go_ret
      exact ⟨rfl, HJ5.out.2.2.2.2.2.2⟩
    · have hke : (s.kind != 2) = true := by simp [hkk]
      clear hkk
      go_wp2_with fail
      go_ret
      exact ⟨rfl, HJ5.out.2.2.2.2.2.2⟩
theorem priceGrows_any (s : SecV) (q day days mode : Int) (w : World) (hcs : s.cur.size ≤ 140737488351232) (hok : Ok w) (hq : q < 9223372036854775808) (hf : s.face < 9223372036854775808) (hd0 : -9223372036854775808 ≤ days) (hd1 : days ≤ 9223372036854775807) : Calls Tryz.prog 5 #[.agg (secC s), .int .i64 q, .int .i64 day, .int .i64 days, .int .i64 mode] w (FlatP true w) := by
  by_cases h : coupN s = 0 ∧ ¬ (q < 0 ∨ mode < 0 ∨ 3 < mode)
  · exact priceGrows_good s q day days mode w hcs hok hq hf hd0 hd1 h
  · exact priceGrows_bad s q day days mode w hcs hok hq hf hd0 hd1 h
end Go.Proofs.YtmepjcnpbjdlkaaGreatDoor
