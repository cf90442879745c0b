/- texts of this claim, laid together: RefA, RefB, RefC, RefAcc. -/
import Derived.Test.YtmepjcnpbjdlkaaGreatDoorQdDgR
import Derived.Test.YtmepjcnpbjdlkaaGreatDoorQdBigF
import Derived.Test.YtmepjcnpbjdlkaaGreatDoorQdBigJ
import Derived.Test.YtmepjcnpbjdlkaaGreatDoorQdFrac
/- the document's lists of digits in memory; its Times by contract. -/
namespace Go.Proofs.YtmepjcnpbjdlkaaGreatDoor
set_option linter.unusedVariables false
set_option linter.unusedSimpArgs false
open Go.RowKit Go.Proofs.YtmepjcnpbjdlkaaGreatDoorW.PrintWords Go.Proofs.YtmepjcnpbjdlkaaGreatDoorW.PrintLast Go.Proofs.YtmepjcnpbjdlkaaGreatDoorW.PrintMore
attribute [local irreducible] Go.wpStill

/-- a digit of the document's -/
def ue (d : Nat) : Value := .int .u64 (d : Int)
/-- a slice that reads as digits -/
def Ur (w : World) (v : Value) (L : List Nat) : Prop := ∃ A c, v = .slice A L.length c ∧ L.length ≤ c ∧ Kd.C (Kd.int .u64) w A L.length (DG.I L)
theorem Ur.below {w w' : World} {v : Value} {L : List Nat} (h : Ur w v L) (hb : Below w.heap.size w w') : Ur w' v L := by
  obtain ⟨A, c, h1, h2, h3⟩ := h
  exact ⟨A, c, h1, h2, Kd.C_below h3 hb⟩
theorem Ur.cell {w : World} {A : Option Addr} {n c : Nat} {L : List Nat} (h : Ur w (.slice A n c) L) {i : Nat} (hi : i < L.length) : ∃ ad, A = some ad ∧ w.cell? (ad.add i) = some (ue (L.getD i 0)) := by
  obtain ⟨A', c', h1, h2, h3⟩ := h
  injection h1 with h1
  subst h1
  obtain ⟨ad, h4, h5⟩ := Kd.at_int h3 (i : Int) (by omega) (by omega)
  rw [DG.rd_I, Int.toNat_natCast] at h5
  exact ⟨ad, h4, h5⟩
/-- a row of digits of one's own -/
def UR (w : World) (B : Nat) (v : Value) (L : List Nat) : Prop := w.ownsRow B 38 1 v L.length (L.map ue)
theorem UR.nil (w : World) (B : Nat) : UR w B (.slice none 0 0) [] := ⟨by simp, .inl ⟨rfl, rfl⟩⟩
theorem UR.slice {w : World} {B : Nat} {v : Value} {L : List Nat} (h : UR w B v L) : ∃ A c, v = .slice A L.length c := by
  rcases h.2 with ⟨h1, h2⟩ | ⟨g, cap, cur, h1, _⟩
  · exact ⟨none, 0, by rw [h1, h2]⟩
  · exact ⟨_, _, h1⟩
theorem UR.own {w : World} {B : Nat} {v : Value} {L : List Nat} (h : UR w B v L) (hl : 0 < L.length) : ∃ g c, v = .slice (some ⟨g, 0, none⟩) L.length c ∧ B ≤ g := by
  rcases h.2 with ⟨h1, h2⟩ | ⟨g, cap, cur, h1, h2, _⟩
  · omega
  · exact ⟨g, cap, h1, h2⟩
theorem UR.congr {w w' : World} {B : Nat} {v : Value} {L : List Nat} (h : UR w B v L) (hk : ∀ k, v.ownBlock = some k → w'.heap[k]? = w.heap[k]?) : UR w' B v L := by
  refine ⟨h.1, ?_⟩
  rcases h.2 with h2 | ⟨g, cap, cur, h1, h2, h3, h4⟩
  · exact .inl h2
  · exact .inr ⟨g, cap, cur, h1, h2, (hk g (by rw [h1]; rfl)).trans h3, h4⟩
theorem UR.below {w w' : World} {B : Nat} {v : Value} {L : List Nat} (h : UR w B v L) (hb : Below w.heap.size w w') : UR w' B v L := by
  refine h.congr fun k hk => ?_
  rcases h.2 with ⟨h1, _⟩ | ⟨g, cap, cur, h1, h2, h3, h4⟩
  · rw [h1] at hk; cases hk
  · rw [h1] at hk
    injection hk with hk
    exact hb.block k (by rw [← hk]; exact lt_of_block h3)
theorem UR.cell {w : World} {B g n c : Nat} {L : List Nat} (h : UR w B (.slice (some ⟨g, 0, none⟩) n c) L) {i : Nat} (hi : i < L.length) : w.cell? ⟨g, i, none⟩ = some (ue (L.getD i 0)) ∧ w.frozen? ⟨g, i, none⟩ = false := by
  rcases h.2 with ⟨h1, _⟩ | ⟨g', cap, cur, h1, h2, h3, h4, h5, h6, h7⟩
  · cases h1
  · injection h1 with h1 _ _
    injection h1 with h1
    injection h1 with h1 _ _
    subst h1
    refine ⟨?_, by simp [World.frozen?, h3]⟩
    rw [cell_of_row _ _ _ _ _ _ h3]
    have : (L.map ue)[i]? = some (ue (L.getD i 0)) := by simp [hi]
    rw [← h7, List.getElem?_take_of_lt (by omega)] at this
    simpa using this
theorem UR.set {w : World} {B g n c : Nat} {L : List Nat} (h : UR w B (.slice (some ⟨g, 0, none⟩) n c) L) {i : Nat} (hi : i < L.length) (y : Nat) : UR (w.setCell ⟨g, i, none⟩ (ue y)) B (.slice (some ⟨g, 0, none⟩) n c) (L.set i y) := by
  rcases h.2 with ⟨h1, _⟩ | ⟨g', cap, cur, h1, h2, h3, h4, h5, h6, h7⟩
  · cases h1
  · injection h1 with h1 hn hc
    injection h1 with h1
    injection h1 with h1 _ _
    subst h1
    subst hn
    subst hc
    refine ⟨by simp, .inr ⟨g, c, _, by simp, h2, heap_setCell_same w g i _ _ _ h3, by simpa using h4, h5, by simpa using h6, ?_⟩⟩
    simp only [List.length_set, Nat.mul_one] at h7 ⊢
    rw [Array.toList_setIfInBounds, List.take_set, h7, List.map_set]
theorem UR.push {w : World} {B : Nat} {v : Value} {L : List Nat} (h : UR w B v L) (hB : B ≤ w.heap.size) (y b cc : Nat) {fr : Nat × Nat} (hx : w.heap[b]? = some (.cells #[ue y] 38 fr)) (hl : L.length + 1 ≤ 1000000) :
    ∃ v' w', (Builtin.append_ #[92, 92] 92 #[v, .slice (some ⟨b, 0, none⟩) 1 cc]).run Tryz.prog w = .ok v' w' ∧ UR w' B v' (L ++ [y]) ∧ w.grownBy w' v.ownBlock := by
  obtain ⟨v', w', h1, h2, h3, _⟩ := run_append_own (P := Tryz.prog) w B 92 92 38 Tryz.t38 (.int .u64 0) 1 8 Tryz.underlying92 (by kernel_rfl) (by kernel_rfl) (by kernel_rfl) (by kernel_rfl) rfl (by decide) v L.length (L.map ue) h ⟨b, 0, none⟩ 1 cc [ue y] rfl (fun j u hu => by
      have hj : j = 0 := by have := (List.getElem?_eq_some_iff.1 hu).1; simpa using this
      subst hj
      simp at hu
      subst hu
      show w.cell? ⟨b, 0, none⟩ = _
      rw [cell_of_row _ _ _ _ _ _ hx]; rfl) (fun u hu => by simp at hu; subst hu; rfl) (by unfold maxLen; omega) (by omega) hB
  refine ⟨v', w', h1, ?_, h3⟩
  unfold UR
  rw [List.length_append, List.map_append]
  exact h2
theorem UR.kd {w : World} {B : Nat} {v : Value} {L : List Nat} (h : UR w B v L) : Kd.R (Kd.int .u64) 38 w B (fun _ => True) v (DG.I L) := by
  refine ⟨fun _ _ => trivial, L.map ue, ?_, ?_⟩
  · rw [DG.I_len]; exact h
  · have e : L.map ue = encs (Value.int .u64) (DG.I L) := by
      unfold DG.I encs
      rw [List.map_map]
      rfl
    rw [e]
    exact Kd.reps_scalar _
theorem ur_of_kd {w : World} {B : Nat} {ok : Nat → Prop} {v : Value} {L : List Nat} (h : Kd.R (Kd.int .u64) 38 w B ok v (DG.I L)) : Ur w v L := by
  obtain ⟨A, c, h1, h2, h3⟩ := Kd.R_reads h
  rw [DG.I_len] at h1 h2 h3
  exact ⟨A, c, h1, h2, h3⟩
theorem exec_load_addr {P : Program} {w : World} {a : Act} {o : Oper} {x : Operand} {ad : Addr} {v : Value} {T : TypeId} (hc : w.cell? ad = some v) (ho : o.op = .load T x) (hx : a.eval x = .pointer (some ad)) (hT : ∀ w, (isAgg T).run P w = .ok false w) : (execOp a.eval o).run P w = .ok (.value v) w := by
  unfold execOp
  simp only [ho, hx]
  simp [go_sem, hc, hT]
end Go.Proofs.YtmepjcnpbjdlkaaGreatDoor
/- the document's Times by contract. -/
namespace Go.Proofs.YtmepjcnpbjdlkaaGreatDoor
set_option linter.unusedVariables false
set_option linter.unusedSimpArgs false
open Go.RowKit Go.Proofs.YtmepjcnpbjdlkaaGreatDoorW.PrintWords Go.Proofs.YtmepjcnpbjdlkaaGreatDoorW.PrintLast Go.Proofs.YtmepjcnpbjdlkaaGreatDoorW.PrintMore
open PPriceClean (custodyref04_Trim.calls custodyref04_List.calls custodyref04_Rounded.calls)
attribute [local irreducible] Go.wpStill

theorem refMul_step {xs ys L : List Nat} {i j c : Nat} (h : DG.Tms xs ys L i j c) (hx : DG.Ok xs) (hy : DG.Ok ys) (hi : i < xs.length) (hj : j < ys.length) : ∃ s P : Nat, xs.getD i 0 * ys.getD j 0 = P ∧ P ≤ 18446744065119617025 ∧ P + L.getD (i + j) 0 + c = s ∧ s < 18446744073709551616 ∧ DG.Tms xs ys (L.set (i + j) (s % 4294967296)) i (j + 1) (s / 4294967296) := by
  obtain ⟨h1, h2⟩ := h.step hx hy hi hj
  exact ⟨_, _, rfl, DG.mul_lt _ _ (hx.get i) (hy.get j), rfl, h1, h2⟩
set_option maxRecDepth 100000 in
set_option maxHeartbeats 8000000 in
theorem refTimes_any {va vb : Value} {m n : Nat} (w : World) (ha : Ur w va (DG.dig m)) (hb : Ur w vb (DG.dig n)) (hml : (DG.dig m).length ≤ 40000) (hnl : (DG.dig n).length ≤ 40000) : Calls Tryz.prog 102 #[va, vb] w fun e w' => ∃ v, e = .returned v ∧ Ur w' v (DG.dig (m * n)) ∧ Below w.heap.size w w' := by
  have hox := DG.dig_ok m
  have hoy := DG.dig_ok n
  have hvx : DG.val (DG.dig m) = m := DG.val_dig m
  have hvy : DG.val (DG.dig n) = n := DG.val_dig n
  generalize DG.dig m = xs at *
  generalize DG.dig n = ys at *
  have HWA := Lib.hid ha
  have HWB := Lib.hid hb
  obtain ⟨ao, ca, rfl, hca, _⟩ := ha
  obtain ⟨bo, cb, rfl, hcb, _⟩ := hb
  have hgx := fun i => hox.get i
  have hgy := fun i => hoy.get i
  rw [DG.b_eq] at hgx hgy
  have hstep := fun L i j c h hi hj => refMul_step (L := L) (i := i) (j := j) (c := c) h hox hoy hi hj
  have hrow := fun L i c h hi => DG.Tms.row (xs := xs) (ys := ys) (L := L) (i := i) (c := c) h hi
  have hstart := DG.Tms.start xs ys
  have hdone : ∀ L i, DG.Tms xs ys L i 0 0 → xs.length ≤ i → DG.val L = m * n := fun L i h hi => by rw [h.done hi, hvx, hvy]
  have hrep : ∀ k : Nat, List.replicate k 0 ++ [0] = List.replicate (k + 1) 0 := fun k => List.replicate_succ'.symm
  have HST := Lib.hid hstep
  have HRW := Lib.hid hrow
  have HDN := Lib.hid hdone
  have HS0 := Lib.hid hstart
  have HGX := Lib.hid hgx
  have HGY := Lib.hid hgy
  have HREP := Lib.hid hrep
  clear hox hoy hstep hrow hstart hdone hgx hgy hvx hvy hca hcb hrep
  go_enter Tryz.func102, Tryz.ntmps102
  go_wp2_with fail
  go_loopw [5, 6] (fun t k wr => ∃ i : Nat, k = .int .i64 i ∧ i ≤ xs.length + ys.length ∧ UR wr w.heap.size t (List.replicate i 0) ∧ Below w.heap.size w wr) (fun _ k _ => xs.length + ys.length - (intOf k).toNat)
  case atStart => exact ⟨0, rfl, Nat.zero_le _, UR.nil _ _, Below.refl _ _⟩
  case round =>
    obtain ⟨i, rfl, hi, hU, hW⟩ := hrel
    by_cases hlt : i < xs.length + ys.length
    · have hdl : decide ((i : Int) < (xs.length : Int) + ys.length) = true := decide_eq_true (by omega)
      have hdl2 : decide (i < xs.length + ys.length) = true := decide_eq_true hlt
      have hO2 := hU.below ((Below.refl wr.heap.size wr).alloc (Nat.le_refl _) (.cells #[ue 0] 38))
      obtain ⟨v', w', hrun, hR, hg⟩ := hO2.push (by have := hW.size; simp; omega) 0 wr.heap.size 1 (heap_alloc_new wr _) (by simp; omega)
      have hWa := hW.alloc hW.size (.cells #[ue 0] 38)
      have hW2 := hWa.grown hg hWa.size (fun k hk => by
        rcases hU.2 with ⟨h1, _⟩ | ⟨g, cap, cur, h1, h2, _⟩
        · rw [h1] at hk; cases hk
        · rw [h1] at hk
          have e : g = k := Option.some.inj hk
          omega)
      rw [HREP.out] at hR
      have HR := Lib.hid hR
      have HW2 := Lib.hid hW2
      have HRUN := Lib.hid hrun
      clear hU hO2 hrun hR hg hWa hW2
      go_wp2_with (refine wpList_val (w' := w') v' (by kernel_rfl) (exec_append2 rfl rfl rfl rfl ?_) ?_; focus (exact HRUN.out))
      exact ⟨⟨i + 1, by go_num, by omega, HR.out, HW2.out⟩, by simp [intOf]; omega⟩
    · have hdl : decide ((i : Int) < (xs.length : Int) + ys.length) = false := decide_eq_false (by omega)
      have hdl2 : decide (i < xs.length + ys.length) = false := decide_eq_false hlt
      have hil : i = xs.length + ys.length := by omega
      subst hil
      obtain ⟨A5, c5, rfl⟩ := hU.slice
      rw [List.length_replicate] at hU ⊢
      have HU := Lib.hid hU
      have HW := Lib.hid hW
      clear hU hW
      go_wp2_with fail
      obtain ⟨wb, hwb⟩ : ∃ wb, wb = wr := ⟨_, rfl⟩
      subst hwb
      go_loopw [7] (fun k wr => ∃ (i : Nat) (L : List Nat), k = .int .i64 i ∧ i ≤ xs.length ∧ DG.Tms xs ys L i 0 0 ∧ UR wr w.heap.size (.slice A5 (xs.length + ys.length) c5) L ∧ Below w.heap.size w wr) (fun k _ => xs.length - (intOf k).toNat)
      case atStart => exact ⟨0, _, rfl, Nat.zero_le _, HS0.out, HU.out, HW.out⟩
      case round =>
        clear HU HW hdl hdl2 hlt hi
        obtain ⟨i, L, rfl, hi, hT, hO, hW⟩ := hrel
        by_cases hlt : i < xs.length
        · have hdl : decide (i < xs.length) = true := decide_eq_true hlt
          have hLl : L.length = xs.length + ys.length := hT.2.1
          obtain ⟨g, cg, hge, hgb⟩ := hO.own (by omega)
          injection hge with hge1 hge2 hge3
          subst hge1
          subst hge3
          have hgx := HGX.out i
          have hst := fun L j c h hj => HST.out L i j c h hlt hj
          have hrw := fun L c h => HRW.out L i c h hlt
          have hcx := fun w1 (h : Below w.heap.size w w1) => (HWA.out.below h).cell hlt
          obtain ⟨ada, rfl, _⟩ := hcx wr hW
          unfold ue at hcx
          generalize hxi : xs.getD i 0 = a at *
          have HT := Lib.hid hT
          have HO := Lib.hid hO
          have HW := Lib.hid hW
          have HST1 := Lib.hid hst
          have HRW1 := Lib.hid hrw
          have HCX := Lib.hid hcx
          clear hT hO hst hrw hxi hW hcx hge2 hLl
          go_wp2_with fail
          obtain ⟨wa, hwa⟩ : ∃ wa, wa = wr := ⟨_, rfl⟩
          subst hwa
          go_loopw [8, 9] (fun c k wr => ∃ (j cc : Nat) (L : List Nat), c = .int .u64 cc ∧ k = .int .i64 j ∧ j ≤ ys.length ∧ DG.Tms xs ys L i j cc ∧ UR wr w.heap.size (.slice (some ⟨g, 0, none⟩) (xs.length + ys.length) c5) L ∧ Below w.heap.size w wr) (fun _ k _ => ys.length - (intOf k).toNat)
          case atStart => exact ⟨0, 0, L, rfl, rfl, Nat.zero_le _, HT.out, HO.out, HW.out⟩
          case round =>
            obtain ⟨j, cc, L, rfl, rfl, hj, hT, hO, hW⟩ := hrel
            obtain ⟨_, hLl, _, hccb, _⟩ := id hT
            rw [DG.b_eq] at hccb
            by_cases hlt2 : j < ys.length
            · have hdl2 : decide (j < ys.length) = true := decide_eq_true hlt2
              obtain ⟨s, P, hP, hPl, hs, hs2, hT1⟩ := HST1.out L j cc hT hlt2
              obtain ⟨ada', hae, hcx⟩ := HCX.out wr hW
              injection hae with hae
              subst hae
              obtain ⟨adb, rfl, hcy⟩ := (HWB.out.below hW).cell hlt2
              obtain ⟨hz1, hz2⟩ := hO.cell (i := i + j) (by omega)
              have hgl := (id hT).1.get (i + j)
              rw [DG.b_eq] at hgl
              have hgy := HGY.out j
              have hO1 := (hO.below (Below.refl wr.heap.size wr).drew).set (i := i + j) (by omega) (s % 4294967296)
              have hW1 : Below w.heap.size w (wr.drew.setCell ⟨g, i + j, none⟩ (ue (s % 4294967296))) := hW.drew.setCell hgb _
              unfold ue at hcy hz1 hO1 hW1
              generalize ys.getD j 0 = b2 at *
              generalize L.getD (i + j) 0 = l at *
              have hPi : (a : Int) * (b2 : Int) = (P : Int) := by rw [← hP, Int.natCast_mul]
              have hsi : (P : Int) + (l : Int) + (cc : Int) = (s : Int) := by omega
              have hand : Go.bits .and .u64 (s : Int) 4294967295 = ((s % 4294967296 : Nat) : Int) := DG.and32 hs2
              have e1 : (s : Int) / 4294967296 = ((s / 4294967296 : Nat) : Int) := by omega
              have hsd : s / 4294967296 < 4294967296 := by omega
              have hdd : s % 4294967296 < 4294967296 := by omega
              generalize s % 4294967296 = d at *
              generalize s / 4294967296 = c' at *
              generalize hq : i + j = q at *
              have hqi : (i : Int) + (j : Int) = (q : Int) := by omega
              have hwq : IntKind.i64.wrap (q : Int) = (q : Int) := IntWalk.i64_in _ (by omega)
              have hql : q < xs.length + ys.length := by omega
              have hqlI : (q : Int) < (xs.length : Int) + (ys.length : Int) := by omega
              have HT1 := Lib.hid hT1
              have HO1 := Lib.hid hO1
              have HW1 := Lib.hid hW1
              have HCX1 := Lib.hid hcx
              have HCY1 := Lib.hid hcy
              have HZ1 := Lib.hid hz1
              have HZ2 := Lib.hid hz2
              clear hT hO hT1 hO1 hP hW1 hs hcx hcy hz1 hz2 hq
              go_wp2_with fail
              rename_i HK
              refine wp_region_held_drew (S := fun w' => w'.cell? (ada.add i) = some (.int .u64 (a : Int)) ∧ w'.cell? (adb.add j) = some (.int .u64 (b2 : Int)) ∧ w'.cell? ⟨g, q, none⟩ = some (.int .u64 (l : Int))) (by kernel_rfl) ⟨HCX1.out, HCY1.out, HZ1.out⟩ (fun hHeld => ?_)
              (refine rg_yes 0 ?v1 (by simp only [List.getElem?_toArray, List.getElem?_cons_succ, List.getElem?_cons_zero]; rfl) (by kernel_rfl) (by kernel_rfl) (by kernel_rfl) (by exact fun _ _ _ h => h) (by kernel_rfl) (by assumption) ?y1 ?z1; case y1 => (intro w hSw; (try dsimp only at hSw); go_simp; (try (rw [if_neg (by omega)])); (try with_reducible rfl)))
              (try simp only [Act.put, List.setIfInBounds_toArray, List.set_cons_zero, List.set_cons_succ])
              (refine rg_yes 1 ?v2 (by simp only [List.getElem?_toArray, List.getElem?_cons_succ, List.getElem?_cons_zero]; rfl) (by kernel_rfl) (by kernel_rfl) (by kernel_rfl) (by exact fun _ _ _ h => h) (by kernel_rfl) (by assumption) ?y2 ?z2; case y2 => (intro w hSw; (try dsimp only at hSw); go_simp; (try (rw [if_neg (by omega)])); (try with_reducible rfl)))
              (try simp only [Act.put, List.setIfInBounds_toArray, List.set_cons_zero, List.set_cons_succ])
              (refine rg_yes 2 ?v3 (by simp only [List.getElem?_toArray, List.getElem?_cons_succ, List.getElem?_cons_zero]; rfl) (by kernel_rfl) (by kernel_rfl) (by kernel_rfl) (by exact fun _ _ _ h => h) (by kernel_rfl) (by assumption) ?y3 ?z3; case y3 => (intro w hSw; (try dsimp only at hSw); go_simp; (try (rw [if_neg (by omega)])); (try with_reducible rfl)))
              (try simp only [Act.put, List.setIfInBounds_toArray, List.set_cons_zero, List.set_cons_succ])
              refine rg_yes 3 _ (by simp only [List.getElem?_toArray, List.getElem?_cons_succ, List.getElem?_cons_zero]; rfl) (by kernel_rfl) (by kernel_rfl) (by kernel_rfl) (by exact fun _ _ _ h => h) (by kernel_rfl) (by assumption) (by exact fun w' hS => (exec_load_addr hS.1 rfl rfl (fun w => by kernel_rfl))) ?_
              (try simp only [Act.put, List.setIfInBounds_toArray, List.set_cons_zero, List.set_cons_succ])
              (refine rg_yes 4 ?v4 (by simp only [List.getElem?_toArray, List.getElem?_cons_succ, List.getElem?_cons_zero]; rfl) (by kernel_rfl) (by kernel_rfl) (by kernel_rfl) (by exact fun _ _ _ h => h) (by kernel_rfl) (by assumption) ?y4 ?z4; case y4 => (intro w hSw; (try dsimp only at hSw); go_simp; (try (rw [if_neg (by omega)])); (try with_reducible rfl)))
              (try simp only [Act.put, List.setIfInBounds_toArray, List.set_cons_zero, List.set_cons_succ])
              (refine rg_yes 5 ?v5 (by simp only [List.getElem?_toArray, List.getElem?_cons_succ, List.getElem?_cons_zero]; rfl) (by kernel_rfl) (by kernel_rfl) (by kernel_rfl) (by exact fun _ _ _ h => h) (by kernel_rfl) (by assumption) ?y5 ?z5; case y5 => (intro w hSw; (try dsimp only at hSw); go_simp; (try (rw [if_neg (by omega)])); (try with_reducible rfl)))
              (try simp only [Act.put, List.setIfInBounds_toArray, List.set_cons_zero, List.set_cons_succ])
              (refine rg_yes 6 ?v6 (by simp only [List.getElem?_toArray, List.getElem?_cons_succ, List.getElem?_cons_zero]; rfl) (by kernel_rfl) (by kernel_rfl) (by kernel_rfl) (by exact fun _ _ _ h => h) (by kernel_rfl) (by assumption) ?y6 ?z6; case y6 => (intro w hSw; (try dsimp only at hSw); go_simp; (try (rw [if_neg (by omega)])); (try with_reducible rfl)))
              (try simp only [Act.put, List.setIfInBounds_toArray, List.set_cons_zero, List.set_cons_succ])
              refine rg_yes 7 _ (by simp only [List.getElem?_toArray, List.getElem?_cons_succ, List.getElem?_cons_zero]; rfl) (by kernel_rfl) (by kernel_rfl) (by kernel_rfl) (by exact fun _ _ _ h => h) (by kernel_rfl) (by assumption) (by exact fun w' hS => (exec_load_addr hS.2.1 rfl rfl (fun w => by kernel_rfl))) ?_
              (try simp only [Act.put, List.setIfInBounds_toArray, List.set_cons_zero, List.set_cons_succ])
              (refine rg_yes 8 ?v7 (by simp only [List.getElem?_toArray, List.getElem?_cons_succ, List.getElem?_cons_zero]; rfl) (by kernel_rfl) (by kernel_rfl) (by kernel_rfl) (by exact fun _ _ _ h => h) (by kernel_rfl) (by assumption) ?y7 ?z7; case y7 => (intro w hSw; (try dsimp only at hSw); go_simp; (try (rw [if_neg (by omega)])); (try with_reducible rfl)))
              (try simp only [Act.put, List.setIfInBounds_toArray, List.set_cons_zero, List.set_cons_succ])
              (refine rg_yes 9 ?v8 (by simp only [List.getElem?_toArray, List.getElem?_cons_succ, List.getElem?_cons_zero]; rfl) (by kernel_rfl) (by kernel_rfl) (by kernel_rfl) (by exact fun _ _ _ h => h) (by kernel_rfl) (by assumption) ?y8 ?z8; case y8 => (intro w hSw; (try dsimp only at hSw); go_simp; (try (rw [if_neg (by omega)])); (try with_reducible rfl)))
              (try simp only [Act.put, List.setIfInBounds_toArray, List.set_cons_zero, List.set_cons_succ])
              (refine rg_yes 10 ?v9 (by simp only [List.getElem?_toArray, List.getElem?_cons_succ, List.getElem?_cons_zero]; rfl) (by kernel_rfl) (by kernel_rfl) (by kernel_rfl) (by exact fun _ _ _ h => h) (by kernel_rfl) (by assumption) ?y9 ?z9; case y9 => (intro w hSw; (try dsimp only at hSw); go_simp; (try (rw [if_neg (by omega)])); (try with_reducible rfl)))
              (try simp only [Act.put, List.setIfInBounds_toArray, List.set_cons_zero, List.set_cons_succ])
              (refine rg_yes 11 ?v10 (by simp only [List.getElem?_toArray, List.getElem?_cons_succ, List.getElem?_cons_zero]; rfl) (by kernel_rfl) (by kernel_rfl) (by kernel_rfl) (by exact fun _ _ _ h => h) (by kernel_rfl) (by assumption) ?y10 ?z10; case y10 => (intro w hSw; (try dsimp only at hSw); go_simp; (try (rw [if_neg (by omega)])); (try with_reducible rfl)))
              (try simp only [Act.put, List.setIfInBounds_toArray, List.set_cons_zero, List.set_cons_succ])
              (refine rg_yes 12 ?v11 (by simp only [List.getElem?_toArray, List.getElem?_cons_succ, List.getElem?_cons_zero]; rfl) (by kernel_rfl) (by kernel_rfl) (by kernel_rfl) (by exact fun _ _ _ h => h) (by kernel_rfl) (by assumption) ?y11 ?z11; case y11 => (intro w hSw; (try dsimp only at hSw); go_simp; (try (rw [if_neg (by omega)])); (try with_reducible rfl)))
              (try simp only [Act.put, List.setIfInBounds_toArray, List.set_cons_zero, List.set_cons_succ])
              (refine rg_yes 13 ?v12 (by simp only [List.getElem?_toArray, List.getElem?_cons_succ, List.getElem?_cons_zero]; rfl) (by kernel_rfl) (by kernel_rfl) (by kernel_rfl) (by exact fun _ _ _ h => h) (by kernel_rfl) (by assumption) ?y12 ?z12; case y12 => (intro w hSw; (try dsimp only at hSw); go_simp; (try (rw [if_neg (by omega)])); (try with_reducible rfl)))
              (try simp only [Act.put, List.setIfInBounds_toArray, List.set_cons_zero, List.set_cons_succ])
              refine rg_yes 14 _ (by simp only [List.getElem?_toArray, List.getElem?_cons_succ, List.getElem?_cons_zero]; rfl) (by kernel_rfl) (by kernel_rfl) (by kernel_rfl) (by exact fun _ _ _ h => h) (by kernel_rfl) (by assumption) (by exact fun w' hS => (exec_load_at hS.2.2 rfl rfl (fun w => by kernel_rfl))) ?_
              (try simp only [Act.put, List.setIfInBounds_toArray, List.set_cons_zero, List.set_cons_succ])
              (refine rg_yes 15 ?v13 (by simp only [List.getElem?_toArray, List.getElem?_cons_succ, List.getElem?_cons_zero]; rfl) (by kernel_rfl) (by kernel_rfl) (by kernel_rfl) (by exact fun _ _ _ h => h) (by kernel_rfl) (by assumption) ?y13 ?z13; case y13 => (intro w hSw; (try dsimp only at hSw); go_simp; (try (rw [if_neg (by omega)])); (try with_reducible rfl)))
              (try simp only [Act.put, List.setIfInBounds_toArray, List.set_cons_zero, List.set_cons_succ])
              (refine rg_yes 16 ?v14 (by simp only [List.getElem?_toArray, List.getElem?_cons_succ, List.getElem?_cons_zero]; rfl) (by kernel_rfl) (by kernel_rfl) (by kernel_rfl) (by exact fun _ _ _ h => h) (by kernel_rfl) (by assumption) ?y14 ?z14; case y14 => (intro w hSw; (try dsimp only at hSw); go_simp; (try (rw [if_neg (by omega)])); (try with_reducible rfl)))
              (try simp only [Act.put, List.setIfInBounds_toArray, List.set_cons_zero, List.set_cons_succ])
              (refine rg_yes 17 ?v15 (by simp only [List.getElem?_toArray, List.getElem?_cons_succ, List.getElem?_cons_zero]; rfl) (by kernel_rfl) (by kernel_rfl) (by kernel_rfl) (by exact fun _ _ _ h => h) (by kernel_rfl) (by assumption) ?y15 ?z15; case y15 => (intro w hSw; (try dsimp only at hSw); go_simp; (try (rw [if_neg (by omega)])); (try with_reducible rfl)))
              (try simp only [Act.put, List.setIfInBounds_toArray, List.set_cons_zero, List.set_cons_succ])
              (refine rg_yes 18 ?v16 (by simp only [List.getElem?_toArray, List.getElem?_cons_succ, List.getElem?_cons_zero]; rfl) (by kernel_rfl) (by kernel_rfl) (by kernel_rfl) (by exact fun _ _ _ h => h) (by kernel_rfl) (by assumption) ?y16 ?z16; case y16 => (intro w hSw; (try dsimp only at hSw); go_simp; (try (rw [if_neg (by omega)])); (try with_reducible rfl)))
              (try simp only [Act.put, List.setIfInBounds_toArray, List.set_cons_zero, List.set_cons_succ])
              refine wpAnyH_done (by kernel_rfl) ?_ _
              apply HK
              rw [DG.wu (n := P) (by omega), DG.wu_ (n := (P : Int) + l) (by omega) (by omega), hsi, DG.wu hs2]
              have hz1 : wr.drew.cell? ⟨g, q, none⟩ = some (.int .u64 (l : Int)) := HZ1.out
              have hz2 : wr.drew.frozen? ⟨g, q, none⟩ = false := HZ2.out
              clear hHeld
              go_wp2_with fail
              exact ⟨⟨j + 1, c', _, rfl, by go_num, by omega, HT1.out, HO1.out, HW1.out⟩, by simp [intOf]; omega⟩
            · have hdl2 : decide (j < ys.length) = false := decide_eq_false hlt2
              have hjl : j = ys.length := by omega
              subst hjl
              have hT1 := HRW1.out L cc hT
              obtain ⟨hz1, hz2⟩ := hO.cell (i := i + ys.length) (by omega)
              have hO1 := hO.set (i := i + ys.length) (by omega) cc
              have hW1 : Below w.heap.size w (wr.setCell ⟨g, i + ys.length, none⟩ (ue cc)) := hW.setCell hgb _
              unfold ue at hz1 hO1 hW1
              generalize ((L.getD (i + ys.length) 0 : Nat) : Int) = z0 at hz1
              generalize hq : i + ys.length = q at *
              have hqi : (i : Int) + (ys.length : Int) = (q : Int) := by omega
              have hqlI : (q : Int) < (xs.length : Int) + (ys.length : Int) := by omega
              have HT1 := Lib.hid hT1
              have HO1 := Lib.hid hO1
              have HW1 := Lib.hid hW1
              clear hT hO hT1 hO1 hW1 hq
              go_wp2_with fail
              exact ⟨⟨i + 1, _, by go_num, by omega, HT1.out, HO1.out, HW1.out⟩, by simp [intOf]; omega⟩
        · have hdl : decide (i < xs.length) = false := decide_eq_false hlt
          have hval := HDN.out L i hT (by omega)
          obtain ⟨hok, hLl, _⟩ := hT
          have htr := custodyref04_Trim.calls (L.length + 1) (fun _ => True) (.slice A5 (xs.length + ys.length) c5) (DG.I L) _ w wr hW hO.kd (DG.trim_f hok (by omega) (Nat.lt_succ_self _))
          rw [hval] at htr
          have HTR := Lib.hid htr
          clear hok hO hW htr hval
          go_wp2_with fail
          refine HTR.out.mono ?_
          rintro e w' ⟨v, rfl, h1, h2, _⟩
          have H1 := Lib.hid (ur_of_kd h1)
          have H2 := Lib.hid h2
          clear h1 h2
          go_wp2_with fail
          go_ret
          exact ⟨v, rfl, H1.out, H2.out⟩
end Go.Proofs.YtmepjcnpbjdlkaaGreatDoor
/- the document's product, Rounded by contract. -/
namespace Go.Proofs.YtmepjcnpbjdlkaaGreatDoor
set_option linter.unusedVariables false
set_option linter.unusedSimpArgs false
open Go.RowKit Go.Proofs.YtmepjcnpbjdlkaaGreatDoorW.PrintWords Go.Proofs.YtmepjcnpbjdlkaaGreatDoorW.PrintLast Go.Proofs.YtmepjcnpbjdlkaaGreatDoorW.PrintMore
open PPriceClean (custodyref04_Trim.calls custodyref04_List.calls custodyref04_Rounded.calls)
attribute [local irreducible] Go.wpStill

theorem refList_any (x : Nat) (w : World) (hx : x < 18446744073709551616) : Calls Tryz.prog 55 #[.int .u64 (x : Int)] w fun e w' => ∃ v, e = .returned v ∧ Ur w' v (DG.dig x) ∧ Below w.heap.size w w' := by
  obtain ⟨K, hK⟩ := DG.list_ev hx
  refine (custodyref04_List.calls K x _ w (hK K (Nat.le_refl _))).mono ?_
  rintro e w' ⟨v, h1, h2, h3⟩
  exact ⟨v, h1, ur_of_kd h2, h3⟩
theorem refRounded_any {va vb : Value} (m n : Nat) (mode : Int) (w : World) (ha : Ur w va (DG.dig m)) (hb : Ur w vb (DG.dig n)) (hn : 0 < n) (hml : (DG.dig m).length ≤ 9000) (hnl : (DG.dig n).length ≤ 9000) : Calls Tryz.prog 56 #[va, vb, .int .i64 mode] w fun e w' => e = .returned (.tuple #[.int .i64 (DG.rounded m n mode).1, .int .i64 (DG.rounded m n mode).2]) ∧ Below w.heap.size w w' := by
  obtain ⟨K, hK⟩ := DG.rounded_ev hn hml hnl mode
  obtain ⟨A, c, rfl, h1, h2⟩ := ha
  obtain ⟨A', c', rfl, h3, h4⟩ := hb
  have hk := hK K (Nat.le_refl _)
  rw [← DG.I_len] at h1 h2 h3 h4 ⊢
  rw [← DG.I_len (DG.dig n)]
  exact custodyref04_Rounded.calls K A c (DG.I (DG.dig m)) A' c' (DG.I (DG.dig n)) mode _ _ w h2 h1 h4 h3 hk
end Go.Proofs.YtmepjcnpbjdlkaaGreatDoor
/- the document's Accrued by contract. -/
namespace Go.Proofs.YtmepjcnpbjdlkaaGreatDoor
set_option linter.unusedVariables false
set_option linter.unusedSimpArgs false
open Go.RowKit
attribute [local irreducible] Go.wpStill

end Go.Proofs.YtmepjcnpbjdlkaaGreatDoor
