/- texts of this claim, laid together: BigF. -/
import Derived.Test.YtmepjcnpbjdlkaaGreatDoorQeBigA
/- big: Mul by contract, of numbers from 0 on. -/
namespace Go.Proofs.YtmepjcnpbjdlkaaGreatDoor
set_option linter.unusedVariables false
set_option linter.unusedSimpArgs false
open Go.RowKit
attribute [local irreducible] Go.wpStill

theorem bigMul_step {xs ys L : List Nat} {i j c : Nat} (h : DG.Tms xs ys L i j c) (hx : DG.Ok xs) (hy : DG.Ok ys) (hi : i < xs.length) (hj : j < ys.length) : ∃ s P : Nat, xs.getD i 0 * ys.getD j 0 = P ∧ P ≤ 18446744065119617025 ∧ s = c + (L.getD (i + j) 0 + P) ∧ s < 18446744073709551616 ∧ DG.Tms xs ys (L.set (i + j) (s % 4294967296)) i (j + 1) (s / 4294967296) := by
  obtain ⟨h1, h2⟩ := h.step hx hy hi hj
  have e : xs.getD i 0 * ys.getD j 0 + L.getD (i + j) 0 + c = c + (L.getD (i + j) 0 + xs.getD i 0 * ys.getD j 0) := by omega
  rw [e] at h1 h2
  exact ⟨_, _, rfl, DG.mul_lt _ _ (hx.get i) (hy.get j), rfl, h1, h2⟩
theorem exec_make {P : Program} {w w' : World} {a : Act} {o : Oper} {x y : Operand} {t : TypeId} {n : Int} {v : Value} (ho : o.op = .makeSlice t x y) (hx : a.eval x = .int .i64 n) (hy : a.eval y = .int .i64 n) (h : (Instr.makeSlice t (.int .i64 n) (.int .i64 n)).run P w = .ok v w') : (execOp a.eval o).run P w = .ok (.value v) w' := by
  unfold execOp
  simp only [ho, hx, hy, Sem.run_bind, h, Result.andThen_ok, Sem.run_pure]
set_option maxHeartbeats 8000000 in
theorem mul_any (p q r : Nat) (x y : Value) (m n : Nat) (w : World) (hp : w.heap[p]? = some (.cells #[x, y] 171 (0, 0))) (hq : BigAt w q false m) (hr : BigAt w r false n) (hml : (DG.dig m).length ≤ 40000) (hnl : (DG.dig n).length ≤ 40000) : Calls Tryz.prog 215 #[.pointer (some ⟨p, 0, none⟩), .pointer (some ⟨q, 0, none⟩), .pointer (some ⟨r, 0, none⟩)] w fun e w' => e = .returned (.pointer (some ⟨p, 0, none⟩)) ∧ BigAt w' p false (m * n) ∧ w.grownBy w' (some p) := by
  obtain ⟨v, hq1, hv⟩ := hq
  obtain ⟨v2, hr1, hv2⟩ := hr
  have hox := hv.ok
  have hoy := hv2.ok
  have HWA := Lib.hid hv
  have HWB := Lib.hid hv2
  obtain ⟨ao, ca, rfl⟩ := hv.slice
  obtain ⟨bo, cb, rfl⟩ := hv2.slice
  have hql := lt_of_block hq1
  have hrl := lt_of_block hr1
  have hpl := lt_of_block hp
  have hvx : DG.val (DG.dig m) = m := DG.val_dig m
  have hvy : DG.val (DG.dig n) = n := DG.val_dig n
  generalize DG.dig m = xs at *
  generalize DG.dig n = ys at *
  have hq0 : w.cell? ⟨q, 0, none⟩ = some (.bool false) := by rw [cell_of_row _ _ _ _ _ _ hq1]; rfl
  have hq2 : w.cell? ⟨q, 1, none⟩ = some (.slice ao xs.length ca) := by rw [cell_of_row _ _ _ _ _ _ hq1]; rfl
  have hr0 : w.cell? ⟨r, 0, none⟩ = some (.bool false) := by rw [cell_of_row _ _ _ _ _ _ hr1]; rfl
  have hr2 : w.cell? ⟨r, 1, none⟩ = some (.slice bo ys.length cb) := by rw [cell_of_row _ _ _ _ _ _ hr1]; rfl
  have hmk := make_words (xs.length + ys.length) (by omega)
  have hM1 : ((xs.length + ys.length : Nat) : Int) = (xs.length : Int) + ys.length := by omega
  rw [hM1] at hmk
  have hgx := fun i => hox.get i
  have hgy := fun i => hoy.get i
  rw [DG.b_eq] at hgx hgy
  have hstep := fun L i j c h hi hj => bigMul_step (L := L) (i := i) (j := j) (c := c) h hox hoy hi hj
  have hrow := fun L i c h hi => DG.Tms.row (xs := xs) (ys := ys) (L := L) (i := i) (c := c) h hi
  have hstart := DG.Tms.start xs ys
  have hdone : ∀ L i, DG.Tms xs ys L i 0 0 → xs.length ≤ i → DG.val L = m * n := fun L i h hi => by rw [h.done hi, hvx, hvy]
  have HST := Lib.hid hstep
  have HRW := Lib.hid hrow
  have HDN := Lib.hid hdone
  have HS0 := Lib.hid hstart
  have HGX := Lib.hid hgx
  have HGY := Lib.hid hgy
  have HP := Lib.hid hp
  have HQ0 := Lib.hid hq0
  have HQ2 := Lib.hid hq2
  have HR0 := Lib.hid hr0
  have HR2 := Lib.hid hr2
  clear hv hv2 hox hoy hstep hrow hstart hdone hgx hgy hp hq1 hr1 hq0 hq2 hr0 hr2 hvx hvy hM1
  go_enter Tryz.func215, Tryz.ntmps215
  go_wp2_with fail
  rename_i HK
  refine wp_region_held_drew (S := fun w' => Below w.heap.size w w') (by kernel_rfl) (Below.refl _ _).drew (fun hHeld => ?_)
  (refine rg_yes 0 ?v1 (by simp only [List.getElem?_toArray, List.getElem?_cons_succ, List.getElem?_cons_zero]; rfl) (by kernel_rfl) (by kernel_rfl) (by kernel_rfl) (by exact fun _ _ _ h => h) (by kernel_rfl) (by assumption) ?y1 ?z1; case y1 => (intro w hSw; (try dsimp only at hSw); go_simp; (try (rw [if_neg (by omega)])); (try with_reducible rfl)))
  (try simp only [Act.put, List.setIfInBounds_toArray, List.set_cons_zero, List.set_cons_succ])
  (refine rg_yes 1 ?v2 (by simp only [List.getElem?_toArray, List.getElem?_cons_succ, List.getElem?_cons_zero]; rfl) (by kernel_rfl) (by kernel_rfl) (by kernel_rfl) (by exact fun _ _ _ h => h) (by kernel_rfl) (by assumption) ?y2 ?z2; case y2 => (intro w hSw; (try dsimp only at hSw); go_simp; (try (rw [if_neg (by omega)])); (try with_reducible rfl)))
  (try simp only [Act.put, List.setIfInBounds_toArray, List.set_cons_zero, List.set_cons_succ])
  (refine rg_yes 2 ?v3 (by simp only [List.getElem?_toArray, List.getElem?_cons_succ, List.getElem?_cons_zero]; rfl) (by kernel_rfl) (by kernel_rfl) (by kernel_rfl) (by exact fun _ _ _ h => h) (by kernel_rfl) (by assumption) ?y3 ?z3; case y3 => (intro w hSw; (try dsimp only at hSw); go_simp; (try (rw [if_neg (by omega)])); (try with_reducible rfl)))
  (try simp only [Act.put, List.setIfInBounds_toArray, List.set_cons_zero, List.set_cons_succ])
  refine rg_yes 3 _ (by simp only [List.getElem?_toArray, List.getElem?_cons_succ, List.getElem?_cons_zero]; rfl) (by kernel_rfl) (by kernel_rfl) (by kernel_rfl) (by exact fun _ _ _ h => h) (by kernel_rfl) (by assumption) (by exact fun w' hS => (exec_load_at ((cell_kept (hS.block q hql)).trans HQ2.out) rfl rfl (fun w => by kernel_rfl))) ?_
  (try simp only [Act.put, List.setIfInBounds_toArray, List.set_cons_zero, List.set_cons_succ])
  (refine rg_yes 4 ?v4 (by simp only [List.getElem?_toArray, List.getElem?_cons_succ, List.getElem?_cons_zero]; rfl) (by kernel_rfl) (by kernel_rfl) (by kernel_rfl) (by exact fun _ _ _ h => h) (by kernel_rfl) (by assumption) ?y4 ?z4; case y4 => (intro w hSw; (try dsimp only at hSw); go_simp; (try (rw [if_neg (by omega)])); (try with_reducible rfl)))
  (try simp only [Act.put, List.setIfInBounds_toArray, List.set_cons_zero, List.set_cons_succ])
  (refine rg_yes 5 ?v5 (by simp only [List.getElem?_toArray, List.getElem?_cons_succ, List.getElem?_cons_zero]; rfl) (by kernel_rfl) (by kernel_rfl) (by kernel_rfl) (by exact fun _ _ _ h => h) (by kernel_rfl) (by assumption) ?y5 ?z5; case y5 => (intro w hSw; (try dsimp only at hSw); go_simp; (try (rw [if_neg (by omega)])); (try with_reducible rfl)))
  (try simp only [Act.put, List.setIfInBounds_toArray, List.set_cons_zero, List.set_cons_succ])
  (refine rg_yes 6 ?v6 (by simp only [List.getElem?_toArray, List.getElem?_cons_succ, List.getElem?_cons_zero]; rfl) (by kernel_rfl) (by kernel_rfl) (by kernel_rfl) (by exact fun _ _ _ h => h) (by kernel_rfl) (by assumption) ?y6 ?z6; case y6 => (intro w hSw; (try dsimp only at hSw); go_simp; (try (rw [if_neg (by omega)])); (try with_reducible rfl)))
  (try simp only [Act.put, List.setIfInBounds_toArray, List.set_cons_zero, List.set_cons_succ])
  (refine rg_yes 7 ?v7 (by simp only [List.getElem?_toArray, List.getElem?_cons_succ, List.getElem?_cons_zero]; rfl) (by kernel_rfl) (by kernel_rfl) (by kernel_rfl) (by exact fun _ _ _ h => h) (by kernel_rfl) (by assumption) ?y7 ?z7; case y7 => (intro w hSw; (try dsimp only at hSw); go_simp; (try (rw [if_neg (by omega)])); (try with_reducible rfl)))
  (try simp only [Act.put, List.setIfInBounds_toArray, List.set_cons_zero, List.set_cons_succ])
  refine rg_yes 8 _ (by simp only [List.getElem?_toArray, List.getElem?_cons_succ, List.getElem?_cons_zero]; rfl) (by kernel_rfl) (by kernel_rfl) (by kernel_rfl) (by exact fun _ _ _ h => h) (by kernel_rfl) (by assumption) (by exact fun w' hS => (exec_load_at ((cell_kept (hS.block r hrl)).trans HR2.out) rfl rfl (fun w => by kernel_rfl))) ?_
  (try simp only [Act.put, List.setIfInBounds_toArray, List.set_cons_zero, List.set_cons_succ])
  (refine rg_yes 9 ?v8 (by simp only [List.getElem?_toArray, List.getElem?_cons_succ, List.getElem?_cons_zero]; rfl) (by kernel_rfl) (by kernel_rfl) (by kernel_rfl) (by exact fun _ _ _ h => h) (by kernel_rfl) (by assumption) ?y8 ?z8; case y8 => (intro w hSw; (try dsimp only at hSw); go_simp; (try (rw [if_neg (by omega)])); (try with_reducible rfl)))
  (try simp only [Act.put, List.setIfInBounds_toArray, List.set_cons_zero, List.set_cons_succ])
  (refine rg_yes 10 ?v9 (by simp only [List.getElem?_toArray, List.getElem?_cons_succ, List.getElem?_cons_zero]; rfl) (by kernel_rfl) (by kernel_rfl) (by kernel_rfl) (by exact fun _ _ _ h => h) (by kernel_rfl) (by assumption) ?y9 ?z9; case y9 => (intro w hSw; (try dsimp only at hSw); go_simp; (try (rw [if_neg (by omega)])); (try with_reducible rfl)))
  (try simp only [Act.put, List.setIfInBounds_toArray, List.set_cons_zero, List.set_cons_succ])
  rw [IntWalk.i64_in ((xs.length : Int) + ys.length) (by omega)]
  refine rg_one 11 _ _ (by simp only [List.getElem?_toArray, List.getElem?_cons_succ, List.getElem?_cons_zero]; rfl) (by kernel_rfl) (by kernel_rfl) (exec_make rfl rfl rfl (hmk _)) (hHeld.alloc hHeld.size _) (fun hHeld2 => ?_)
  (try simp only [Act.put, List.setIfInBounds_toArray, List.set_cons_zero, List.set_cons_succ])
  (refine rg_yes 12 ?v10 (by simp only [List.getElem?_toArray, List.getElem?_cons_succ, List.getElem?_cons_zero]; rfl) (by kernel_rfl) (by kernel_rfl) (by kernel_rfl) (by exact fun _ _ _ h => h) (by kernel_rfl) (by assumption) ?y10 ?z10; case y10 => (intro w hSw; (try dsimp only at hSw); go_simp; (try (rw [if_neg (by omega)])); (try with_reducible rfl)))
  (try simp only [Act.put, List.setIfInBounds_toArray, List.set_cons_zero, List.set_cons_succ])
  refine wpAnyH_done (by kernel_rfl) ?_ _
  apply HK
  have hown : OwnW (w.drew.alloc (.cells ((List.replicate (xs.length + ys.length) 0).map wd).toArray 215)) w.heap.size (List.replicate (xs.length + ys.length) 0) := heap_alloc_new w.drew _
  have hgs : w.drew.heap.size = w.heap.size := rfl
  rw [hgs]
  generalize w.drew.alloc (.cells ((List.replicate (xs.length + ys.length) 0).map wd).toArray 215) = w0 at *
  have hc1 : w0.cell? ⟨q, 1, none⟩ = some (.slice ao xs.length ca) := (cell_kept (hHeld2.block q hql)).trans HQ2.out
  clear hmk hHeld hgs
  go_wp2_with fail
  go_loopw [30] (fun k wr => ∃ (i : Nat) (L : List Nat), k = .int .i64 i ∧ i ≤ xs.length ∧ DG.Tms xs ys L i 0 0 ∧ OwnW wr w.heap.size L ∧ Below w.heap.size w wr) (fun k _ => xs.length - (intOf k).toNat)
  case atStart => exact ⟨0, _, rfl, Nat.zero_le _, HS0.out, hown, hHeld2⟩
  case round =>
    obtain ⟨i, L, rfl, hi, hT, hO, hW⟩ := hrel
    have hc2 : wr.cell? ⟨r, 1, none⟩ = some (.slice bo ys.length cb) := (cell_kept (hW.block r hrl)).trans HR2.out
    by_cases hlt : i < xs.length
    · have hdl : decide (i < xs.length) = true := decide_eq_true hlt
      obtain ⟨g, rfl, hcx, _⟩ := (HWA.out.below hW).cell hlt
      have hgx := HGX.out i
      have hst := fun L j c h hj => HST.out L i j c h hlt hj
      have hrw := fun L c h => HRW.out L i c h hlt
      unfold wd at hcx
      generalize hxi : xs.getD i 0 = a at *
      have HT := Lib.hid hT
      have HO := Lib.hid hO
      have HW := Lib.hid hW
      have HST1 := Lib.hid hst
      have HRW1 := Lib.hid hrw
      have HOWN := Lib.hid hown
      clear hT hO hst hrw hxi hc1 hown
      go_wp2_with fail
      obtain ⟨wa, hwa⟩ : ∃ wa, wa = wr := ⟨_, rfl⟩
      subst hwa
      go_loopw [10, 40] (fun c k wr => ∃ (j cc : Nat) (L : List Nat), c = .int .u64 cc ∧ k = .int .i64 j ∧ j ≤ ys.length ∧ DG.Tms xs ys L i j cc ∧ OwnW wr w.heap.size L ∧ Below w.heap.size w wr) (fun _ k _ => ys.length - (intOf k).toNat)
      case atStart => exact ⟨0, 0, L, rfl, rfl, Nat.zero_le _, HT.out, HO.out, HW.out⟩
      case round =>
        obtain ⟨j, cc, L, rfl, rfl, hj, hT, hO, hW⟩ := hrel
        obtain ⟨_, hLl, _, hccb, _⟩ := id hT
        rw [DG.b_eq] at hccb
        by_cases hlt2 : j < ys.length
        · have hdl2 : decide (j < ys.length) = true := decide_eq_true hlt2
          obtain ⟨s, P, hP, hPl, hs, hs2, hT1⟩ := HST1.out L j cc hT hlt2
          obtain ⟨g2, rfl, hcy, _⟩ := (HWB.out.below hW).cell hlt2
          obtain ⟨hz1, hz2⟩ := hO.cell (i := i + j) (by omega)
          have hgl := (id hT).1.get (i + j)
          rw [DG.b_eq] at hgl
          have hgy := HGY.out j
          have hO1 := hO.set (i + j) (s % 4294967296)
          have hW1 : Below w.heap.size w (wr.setCell ⟨w.heap.size, i + j, none⟩ (wd (s % 4294967296))) := hW.setCell (Nat.le_refl _) _
          unfold wd at hcy hz1 hO1 hW1
          generalize ys.getD j 0 = b2 at *
          generalize L.getD (i + j) 0 = l at *
          have hPi : (a : Int) * (b2 : Int) = (P : Int) := by rw [← hP, Int.natCast_mul]
          have e0 : ((cc : Int) + ((l : Int) + (P : Int))) % 4294967296 = ((s % 4294967296 : Nat) : Int) := by omega
          have e1 : ((cc : Int) + ((l : Int) + (P : Int))) / 4294967296 = ((s / 4294967296 : Nat) : Int) := by omega
          have hsd : s / 4294967296 < 4294967296 := by omega
          generalize s % 4294967296 = d at *
          generalize s / 4294967296 = c' at *
          have HT1 := Lib.hid hT1
          have HO1 := Lib.hid hO1
          have HW1 := Lib.hid hW1
          clear hT hO hT1 hO1 hP hW1 hs
          go_wp2_with fail
          exact ⟨⟨j + 1, c', _, rfl, by go_num, by omega, HT1.out, HO1.out, HW1.out⟩, by simp [intOf]; omega⟩
        · have hdl2 : decide (j < ys.length) = false := decide_eq_false hlt2
          have hjl : j = ys.length := by omega
          subst hjl
          have hT1 := HRW1.out L cc hT
          have hc3 : wr.cell? ⟨r, 1, none⟩ = some (.slice bo ys.length cb) := (cell_kept (hW.block r hrl)).trans HR2.out
          obtain ⟨hz1, hz2⟩ := hO.cell (i := i + ys.length) (by omega)
          have hO1 := hO.set (i + ys.length) cc
          have hW1 : Below w.heap.size w (wr.setCell ⟨w.heap.size, i + ys.length, none⟩ (wd cc)) := hW.setCell (Nat.le_refl _) _
          unfold wd at hz1 hO1 hW1
          generalize ((L.getD (i + ys.length) 0 : Nat) : Int) = z0 at hz1
          have hccm : (cc : Int) % 4294967296 = (cc : Int) := by omega
          have HT1 := Lib.hid hT1
          have HO1 := Lib.hid hO1
          have HW1 := Lib.hid hW1
          clear hT hO hT1 hO1 hW1
          go_wp2_with fail
          exact ⟨⟨i + 1, _, by go_num, by omega, HT1.out, HO1.out, HW1.out⟩, by simp [intOf]; omega⟩
    · have hdl : decide (i < xs.length) = false := decide_eq_false hlt
      have hval := HDN.out L i hT (by omega)
      obtain ⟨hok, hLl, _⟩ := hT
      have hws := hO.ws hok (by omega)
      rw [hLl] at hws
      have hp2 := (hW.block p hpl).trans HP.out
      have ht := fun w1 (h : Below wr.heap.size wr w1) => to_any (v := .slice (some ⟨w.heap.size, 0, none⟩) (xs.length + ys.length) (xs.length + ys.length)) (ds := L) false w1 ((h.block p (Nat.lt_of_lt_of_le hpl hW.size)).trans hp2) (hws.below h)
      rw [hval, Bool.false_and] at ht
      have hq3 : wr.cell? ⟨q, 0, none⟩ = some (.bool false) := (cell_kept (hW.block q hql)).trans HQ0.out
      have hr3 : wr.cell? ⟨r, 0, none⟩ = some (.bool false) := (cell_kept (hW.block r hrl)).trans HR0.out
      have hqw : q < wr.heap.size := Nat.lt_of_lt_of_le hql hW.size
      have hrw : r < wr.heap.size := Nat.lt_of_lt_of_le hrl hW.size
      have HT := Lib.hid ht
      have HWW := Lib.hid hW
      have HQ3 := Lib.hid hq3
      have HR3 := Lib.hid hr3
      clear hws hok hO ht hp2 hW hq3 hr3 hval hc1 hc2 hown hHeld2
      go_wp2_with fail
      rename_i HK2
      refine wp_region_held_drew (S := fun w' => w'.cell? ⟨q, 0, none⟩ = some (.bool false) ∧ w'.cell? ⟨r, 0, none⟩ = some (.bool false)) (by kernel_rfl) ⟨HQ3.out, HR3.out⟩ (fun hHeld => ?_)
      (refine rg_yes 0 ?v11 (by simp only [List.getElem?_toArray, List.getElem?_cons_succ, List.getElem?_cons_zero]; rfl) (by kernel_rfl) (by kernel_rfl) (by kernel_rfl) (by exact fun _ _ _ h => h) (by kernel_rfl) (by assumption) ?y11 ?z11; case y11 => (intro w hSw; (try dsimp only at hSw); go_simp; (try (rw [if_neg (by omega)])); (try with_reducible rfl)))
      (try simp only [Act.put, List.setIfInBounds_toArray, List.set_cons_zero, List.set_cons_succ])
      (refine rg_yes 1 ?v12 (by simp only [List.getElem?_toArray, List.getElem?_cons_succ, List.getElem?_cons_zero]; rfl) (by kernel_rfl) (by kernel_rfl) (by kernel_rfl) (by exact fun _ _ _ h => h) (by kernel_rfl) (by assumption) ?y12 ?z12; case y12 => (intro w hSw; (try dsimp only at hSw); go_simp; (try (rw [if_neg (by omega)])); (try with_reducible rfl)))
      (try simp only [Act.put, List.setIfInBounds_toArray, List.set_cons_zero, List.set_cons_succ])
      (refine rg_yes 2 ?v13 (by simp only [List.getElem?_toArray, List.getElem?_cons_succ, List.getElem?_cons_zero]; rfl) (by kernel_rfl) (by kernel_rfl) (by kernel_rfl) (by exact fun _ _ _ h => h) (by kernel_rfl) (by assumption) ?y13 ?z13; case y13 => (intro w hSw; (try dsimp only at hSw); go_simp; (try (rw [if_neg (by omega)])); (try with_reducible rfl)))
      (try simp only [Act.put, List.setIfInBounds_toArray, List.set_cons_zero, List.set_cons_succ])
      (refine rg_yes 3 ?v14 (by simp only [List.getElem?_toArray, List.getElem?_cons_succ, List.getElem?_cons_zero]; rfl) (by kernel_rfl) (by kernel_rfl) (by kernel_rfl) (by exact fun _ _ _ h => h) (by kernel_rfl) (by assumption) ?y14 ?z14; case y14 => (intro w hSw; (try dsimp only at hSw); go_simp; (try (rw [if_neg (by omega)])); (try with_reducible rfl)))
      (try simp only [Act.put, List.setIfInBounds_toArray, List.set_cons_zero, List.set_cons_succ])
      refine rg_yes 4 _ (by simp only [List.getElem?_toArray, List.getElem?_cons_succ, List.getElem?_cons_zero]; rfl) (by kernel_rfl) (by kernel_rfl) (by kernel_rfl) (by exact fun _ _ _ h => h) (by kernel_rfl) (by assumption) (by exact fun w' hS => (exec_load_at hS.1 rfl rfl (fun w => by kernel_rfl))) ?_
      (try simp only [Act.put, List.setIfInBounds_toArray, List.set_cons_zero, List.set_cons_succ])
      (refine rg_yes 5 ?v15 (by simp only [List.getElem?_toArray, List.getElem?_cons_succ, List.getElem?_cons_zero]; rfl) (by kernel_rfl) (by kernel_rfl) (by kernel_rfl) (by exact fun _ _ _ h => h) (by kernel_rfl) (by assumption) ?y15 ?z15; case y15 => (intro w hSw; (try dsimp only at hSw); go_simp; (try (rw [if_neg (by omega)])); (try with_reducible rfl)))
      (try simp only [Act.put, List.setIfInBounds_toArray, List.set_cons_zero, List.set_cons_succ])
      (refine rg_yes 6 ?v16 (by simp only [List.getElem?_toArray, List.getElem?_cons_succ, List.getElem?_cons_zero]; rfl) (by kernel_rfl) (by kernel_rfl) (by kernel_rfl) (by exact fun _ _ _ h => h) (by kernel_rfl) (by assumption) ?y16 ?z16; case y16 => (intro w hSw; (try dsimp only at hSw); go_simp; (try (rw [if_neg (by omega)])); (try with_reducible rfl)))
      (try simp only [Act.put, List.setIfInBounds_toArray, List.set_cons_zero, List.set_cons_succ])
      (refine rg_yes 7 ?v17 (by simp only [List.getElem?_toArray, List.getElem?_cons_succ, List.getElem?_cons_zero]; rfl) (by kernel_rfl) (by kernel_rfl) (by kernel_rfl) (by exact fun _ _ _ h => h) (by kernel_rfl) (by assumption) ?y17 ?z17; case y17 => (intro w hSw; (try dsimp only at hSw); go_simp; (try (rw [if_neg (by omega)])); (try with_reducible rfl)))
      (try simp only [Act.put, List.setIfInBounds_toArray, List.set_cons_zero, List.set_cons_succ])
      refine rg_yes 8 _ (by simp only [List.getElem?_toArray, List.getElem?_cons_succ, List.getElem?_cons_zero]; rfl) (by kernel_rfl) (by kernel_rfl) (by kernel_rfl) (by exact fun _ _ _ h => h) (by kernel_rfl) (by assumption) (by exact fun w' hS => (exec_load_at hS.2 rfl rfl (fun w => by kernel_rfl))) ?_
      (try simp only [Act.put, List.setIfInBounds_toArray, List.set_cons_zero, List.set_cons_succ])
      (refine rg_yes 9 ?v18 (by simp only [List.getElem?_toArray, List.getElem?_cons_succ, List.getElem?_cons_zero]; rfl) (by kernel_rfl) (by kernel_rfl) (by kernel_rfl) (by exact fun _ _ _ h => h) (by kernel_rfl) (by assumption) ?y18 ?z18; case y18 => (intro w hSw; (try dsimp only at hSw); go_simp; (try (rw [if_neg (by omega)])); (try with_reducible rfl)))
      (try simp only [Act.put, List.setIfInBounds_toArray, List.set_cons_zero, List.set_cons_succ])
      (refine rg_yes 10 ?v19 (by simp only [List.getElem?_toArray, List.getElem?_cons_succ, List.getElem?_cons_zero]; rfl) (by kernel_rfl) (by kernel_rfl) (by kernel_rfl) (by exact fun _ _ _ h => h) (by kernel_rfl) (by assumption) ?y19 ?z19; case y19 => (intro w hSw; (try dsimp only at hSw); go_simp; (try (rw [if_neg (by omega)])); (try with_reducible rfl)))
      (try simp only [Act.put, List.setIfInBounds_toArray, List.set_cons_zero, List.set_cons_succ])
      refine rg_call 11 _ _ (by simp only [List.getElem?_toArray, List.getElem?_cons_succ, List.getElem?_cons_zero]; rfl) (by kernel_rfl) (by kernel_rfl) (fun w => by go_simp; exact ⟨rfl, rfl⟩) ?_
      refine (HT.out _ (Below.refl _ _).drew).mono ?_
      rintro e w' ⟨rfl, h1, h2⟩
      have hkeep : ∀ k, (k = q ∨ k = r) → w'.cell? ⟨k, 0, none⟩ = some (.bool false) := fun k hk => by
        by_cases hkp : k = p
        · subst hkp
          obtain ⟨v, hv1, _⟩ := h1
          rw [cell_of_row _ _ _ _ _ _ hv1]; rfl
        · have hkl : k < wr.heap.size := by rcases hk with rfl | rfl <;> assumption
          have e1 : w'.cell? ⟨k, 0, none⟩ = wr.cell? ⟨k, 0, none⟩ := cell_kept (h2.block k hkl (fun e => hkp (by injection e)))
          rw [e1]
          rcases hk with rfl | rfl
          · exact HQ3.out
          · exact HR3.out
      refine ⟨_, rfl, ⟨hkeep q (.inl rfl), hkeep r (.inr rfl)⟩, fun hHeld2 => ?_⟩
      have hg2 : wr.grownBy w' (some p) := ⟨h2.os, h2.tape, h2.output, h2.size, h2.block⟩
      have H1 := Lib.hid h1
      have H2 := Lib.hid (below_grown HWW.out hg2)
      clear h1 h2 hkeep hg2 hHeld
      (try simp only [Act.put, List.setIfInBounds_toArray, List.set_cons_zero, List.set_cons_succ])
      (refine rg_yes 12 ?v20 (by simp only [List.getElem?_toArray, List.getElem?_cons_succ, List.getElem?_cons_zero]; rfl) (by kernel_rfl) (by kernel_rfl) (by kernel_rfl) (by exact fun _ _ _ h => h) (by kernel_rfl) (by assumption) ?y20 ?z20; case y20 => (intro w hSw; (try dsimp only at hSw); go_simp; (try (rw [if_neg (by omega)])); (try with_reducible rfl)))
      (try simp only [Act.put, List.setIfInBounds_toArray, List.set_cons_zero, List.set_cons_succ])
      refine wpAnyH_done (by kernel_rfl) ?_ _
      apply HK2
      go_wp2_with fail
      go_ret
      exact ⟨rfl, H1.out, H2.out⟩
end Go.Proofs.YtmepjcnpbjdlkaaGreatDoor
