/- prio: up by contract. -/
import Derived.Test.YtffioombjejchaaPrioC
import Derived.BigQuiet
import Derived.BigRegion
import Derived.Deep.DeepCutAuto
namespace Go.Proofs.Ytffioombjejchaa
set_option linter.unusedVariables false
set_option linter.unusedSimpArgs false
open Go.RowKit

section
variable {ops : Array Oper} {Q : Exit → Act → World → Prop}
theorem wpList_store_ent {o : Oper} {rest : List Oper} {a : Act} {w : World} (hgd : o.guard = none) (x y : Operand) (ho : o.op = .store 68 x y)
    {h c g cap n : Nat} {fall : Bool} {es : List (Pair × Int)} {came : Int} (hl : Live w h c fall es came (.slice (some ⟨g, 0, none⟩) n cap)) (i : Nat) (hi : i < es.length) (e : Pair × Int)
    (hx : a.eval x = .pointer (some ⟨g, i * 3, none⟩)) (hy : a.eval y = .agg #[.int .i64 e.1.1, .int .i64 e.1.2, .int .i64 e.2])
    (hK : ∀ w', Live w' h c fall (es.set i e) came (.slice (some ⟨g, 0, none⟩) n cap) → Tch w w' h (some g) (some g) → w'.heap.size = w.heap.size → wpList Try.prog ops Q rest (a.put o.dst undef) w') : wpList Try.prog ops Q (o :: rest) a w := by
  obtain ⟨w', h1, h2, h3, h4⟩ := hl.store i hi e
  refine wpList_plain hgd fun K hK2 => ?_
  unfold Oper.wp execOp
  simp only [ho, hx, hy, Instr.storeAt, Instr.sureAddr, Sem.run_bind, Sem.run_pure, Result.andThen_ok, h1]
  exact hK2 _ _ (hK w' h2 h3 h4)
theorem still_yes {P : Program} {o : Oper} {rest : List Oper} {a : Act} {w : World} {Q : Act → Prop} (v : Value) (hw : Region.wanted o (yielded ops a.tmps) = true) (hy : (execOp a.eval o).run P w = .ok (.value v) w)
    (h : wpStill P ops w Q rest (a.put o.dst v)) : wpStill P ops w Q (o :: rest) a := by
  refine wpStill_step (fun K hK => ?_)
  rw [if_pos hw]
  unfold Oper.still
  rw [hy]
  exact ⟨rfl, hK _ h⟩
theorem still_no {P : Program} {o : Oper} {rest : List Oper} {a : Act} {w : World} {Q : Act → Prop} (hw : Region.wanted o (yielded ops a.tmps) = false)
    (h : wpStill P ops w Q rest (a.put o.dst undef)) : wpStill P ops w Q (o :: rest) a := by
  refine wpStill_step (fun K hK => ?_)
  rw [if_neg (by rw [hw]; exact Bool.false_ne_true)]
  exact hK _ h
end
theorem exec_lss_int {P : Program} {w : World} {a : Act} {o : Oper} {x y : Operand} {k : IntKind} {i j : Int} {b : Bool} {T T2 : TypeId} (ho : o.op = .binOp .lss T x y T2) (hx : a.eval x = .int k i) (hy : a.eval y = .int k j) (h : decide (i < j) = b) : (execOp a.eval o).run P w = .ok (.value (.bool b)) w := by
  subst h
  unfold execOp
  simp only [ho, hx, hy]
  simp [go_sem]
theorem below_undrew {w w' : World} (h : Below w.drew.heap.size w.drew w') : Below w.heap.size w w' := ⟨h.os, h.tape, h.output, h.size, h.block⟩
def UpPost (w : World) (h c : Nat) (fall : Bool) (es : List (Pair × Int)) (came : Int) (sl : Value) (i : Nat) (e : Ending) (w' : World) : Prop :=
  ∃ es', e = .returned (.tuple #[]) ∧ Live w' h c fall es' came sl ∧ es'.Perm es ∧ Tch w w' h sl.ownBlock sl.ownBlock ∧ ((es' = es ∧ (i = 0 ∨ HP.Edge (aheadP fall) es i)) ∨ HP.HO (aheadP fall) es')
/-- what the loop of up keeps -/
def UpInv (fall : Bool) (es0 : List (Pair × Int)) (i0 : Nat) (es : List (Pair × Int)) (i : Nat) : Prop :=
  i < es.length ∧ es.Perm es0 ∧ HP.Loose (aheadP fall) es i ∧ ((es = es0 ∧ i = i0) ∨ HP.Rising (aheadP fall) es i)
theorem UpInv.step {fall : Bool} {es0 es : List (Pair × Int)} {i0 i : Nat} (a : UpInv fall es0 i0 es i) (hi : 0 < i) (hlt : aheadP fall (HP.at' es i) (HP.at' es ((i - 1) / 2)) = true) : UpInv fall es0 i0 (HP.swap es i ((i - 1) / 2)) ((i - 1) / 2) := by
  have hr := HP.up_step (aheadP_ord fall) hi a.1 a.2.2.1 hlt
  exact ⟨by rw [HP.swap_length]; have := a.1; omega, (HP.swap_perm a.1 (by have := a.1; omega)).trans a.2.1, hr.loose, .inr hr⟩
theorem UpInv.stop {fall : Bool} {es0 es : List (Pair × Int)} {i0 i : Nat} (a : UpInv fall es0 i0 es i) (hi : i = 0 ∨ aheadP fall (HP.at' es i) (HP.at' es ((i - 1) / 2)) = false) : (es = es0 ∧ (i0 = 0 ∨ HP.Edge (aheadP fall) es0 i0)) ∨ HP.HO (aheadP fall) es := by
  rcases a.2.2.2 with ⟨rfl, rfl⟩ | h1
  · exact .inl ⟨rfl, hi⟩
  · exact .inr (HP.rising_ho h1 hi)

set_option maxRecDepth 100000 in
set_option maxHeartbeats 1000000 in
theorem up_any (h c g cap n : Nat) (fall : Bool) (es : List (Pair × Int)) (came : Int) (i : Nat) (w : World) (hL : Live w h c fall es came (.slice (some ⟨g, 0, none⟩) n cap)) (hi : i < es.length) (hn : n = es.length) (hb : es.length ≤ 140737488351232) (hQ : HP.Loose (aheadP fall) es i) :
    Calls Try.prog 44 #[.pointer (some ⟨h, 0, none⟩), .int .i64 i] w (UpPost w h c fall es came (.slice (some ⟨g, 0, none⟩) n cap) i) := by
  have hbn : (n : Int) ≤ 140737488351232 := by omega
  have HN := Lib.hid hn
  clear hn
  have hI : UpInv fall es i es i := ⟨hi, .refl _, hQ, .inl ⟨rfl, rfl⟩⟩
  have HQ := Lib.hid hQ
  clear hQ
  go_enter Try.func44, Try.ntmps44
  go_wp2_with fail
  go_loopw [1, 4] (fun iv _ wr => ∃ (es1 : List (Pair × Int)) (k : Nat), iv = .int .i64 k ∧ UpInv fall es i es1 k ∧ Live wr h c fall es1 came (.slice (some ⟨g, 0, none⟩) n cap) ∧ Tch w wr h (some g) (some g)) (fun iv _ _ => (intOf iv).toNat)
  case atStart => exact ⟨es, i, rfl, hI, hL, Tch.refl _ _ _⟩
  case round =>
    obtain ⟨es1, k, rfl, hU, hLv, hT⟩ := hrel
    have hlen : es1.length = es.length := hU.2.1.length_eq
    have hk : k < n := by rw [HN.out, ← hlen]; exact hU.1
    have HLEN := Lib.hid hlen
    clear hlen hL hI
    by_cases h0 : 0 < k
    · have c0 : wr.cell? ⟨h, 0, none⟩ = some (.func (.func 40) #[] #[.pointer (some ⟨c, 0, none⟩)]) := by rw [cell_of_row _ _ _ _ _ _ hLv.2.1]; rfl
      have c1 : wr.cell? ⟨h, 1, none⟩ = some (.slice (some ⟨g, 0, none⟩) n cap) := by rw [cell_of_row _ _ _ _ _ _ hLv.2.1]; rfl
      obtain ⟨p, hp⟩ : ∃ p : Nat, (k - 1) / 2 = p := ⟨_, rfl⟩
      have hpk : p < k := by omega
      have hpn : p < n := by omega
      have e0 := hLv.ent k hU.1 0 (by omega)
      have e1 := hLv.ent k hU.1 1 (by omega)
      have e2 := hLv.ent k hU.1 2 (by omega)
      have f0 := hLv.ent p (by have := hU.1; omega) 0 (by omega)
      have f1 := hLv.ent p (by have := hU.1; omega) 1 (by omega)
      have f2 := hLv.ent p (by have := hU.1; omega) 2 (by omega)
      have hq : ((k : Int) - 1) / 2 = (p : Int) := by omega
      simp only [encP, List.getElem?_cons_zero, List.getElem?_cons_succ, Nat.add_zero] at e0 e1 e2 f0 f1 f2
      cases ha : aheadP fall (HP.at' es1 k) (HP.at' es1 p)
      · have HA := Lib.hid ha
        have HP' := Lib.hid hp
        clear ha hp
        go_wp2_with fail
        simp only [hq]
        refine wp_region_still_tail 18 (by kernel_rfl) (by kernel_rfl) ?_
        simp only [List.take_succ_cons, List.take_zero, List.drop_succ_cons, List.drop_zero]
        refine (fun (Hst : wpStill _ _ (World.drew _) (fun a' => wpList _ _ _ _ a' (World.drew _)) _ _) => Hst) ?_
        (refine still_yes ?v1 (by kernel_rfl) ?y1 ?z1; case y1 => (go_simp; (try (rw [if_neg (by omega)])); (try (rw [if_pos (by omega)])); (try with_reducible rfl)))
        (try simp only [Act.put, List.setIfInBounds_toArray, List.set_cons_zero, List.set_cons_succ])
        (refine still_yes ?v2 (by kernel_rfl) ?y2 ?z2; case y2 => (go_simp; (try (rw [if_neg (by omega)])); (try (rw [if_pos (by omega)])); (try with_reducible rfl)))
        (try simp only [Act.put, List.setIfInBounds_toArray, List.set_cons_zero, List.set_cons_succ])
        (refine still_yes ?v3 (by kernel_rfl) ?y3 ?z3; case y3 => (go_simp; (try (rw [if_neg (by omega)])); (try (rw [if_pos (by omega)])); (try with_reducible rfl)))
        (try simp only [Act.put, List.setIfInBounds_toArray, List.set_cons_zero, List.set_cons_succ])
        (refine still_yes ?v4 (by kernel_rfl) ?y4 ?z4; case y4 => (go_simp; (try (rw [if_neg (by omega)])); (try (rw [if_pos (by omega)])); (try with_reducible rfl)))
        (try simp only [Act.put, List.setIfInBounds_toArray, List.set_cons_zero, List.set_cons_succ])
        (refine still_yes ?v5 (by kernel_rfl) ?y5 ?z5; case y5 => (go_simp; (try (rw [if_neg (by omega)])); (try (rw [if_pos (by omega)])); (try with_reducible rfl)))
        (try simp only [Act.put, List.setIfInBounds_toArray, List.set_cons_zero, List.set_cons_succ])
        (refine still_yes ?v6 (by kernel_rfl) ?y6 ?z6; case y6 => (go_simp; (try (rw [if_neg (by omega)])); (try (rw [if_pos (by omega)])); (try with_reducible rfl)))
        (try simp only [Act.put, List.setIfInBounds_toArray, List.set_cons_zero, List.set_cons_succ])
        (refine still_yes ?v7 (by kernel_rfl) ?y7 ?z7; case y7 => (go_simp; (try (rw [if_neg (by omega)])); (try (rw [if_pos (by omega)])); (try with_reducible rfl)))
        (try simp only [Act.put, List.setIfInBounds_toArray, List.set_cons_zero, List.set_cons_succ])
        (refine still_yes ?v8 (by kernel_rfl) ?y8 ?z8; case y8 => (go_simp; (try (rw [if_neg (by omega)])); (try (rw [if_pos (by omega)])); (try with_reducible rfl)))
        (try simp only [Act.put, List.setIfInBounds_toArray, List.set_cons_zero, List.set_cons_succ])
        (refine still_yes ?v9 (by kernel_rfl) ?y9 ?z9; case y9 => (go_simp; (try (rw [if_neg (by omega)])); (try (rw [if_pos (by omega)])); (try with_reducible rfl)))
        (try simp only [Act.put, List.setIfInBounds_toArray, List.set_cons_zero, List.set_cons_succ])
        (refine still_yes ?v10 (by kernel_rfl) ?y10 ?z10; case y10 => (go_simp; (try (rw [if_neg (by omega)])); (try (rw [if_pos (by omega)])); (try with_reducible rfl)))
        (try simp only [Act.put, List.setIfInBounds_toArray, List.set_cons_zero, List.set_cons_succ])
        (refine still_yes ?v11 (by kernel_rfl) ?y11 ?z11; case y11 => (go_simp; (try (rw [if_neg (by omega)])); (try (rw [if_pos (by omega)])); (try with_reducible rfl)))
        (try simp only [Act.put, List.setIfInBounds_toArray, List.set_cons_zero, List.set_cons_succ])
        (refine still_yes ?v12 (by kernel_rfl) ?y12 ?z12; case y12 => (go_simp; (try (rw [if_neg (by omega)])); (try (rw [if_pos (by omega)])); (try with_reducible rfl)))
        (try simp only [Act.put, List.setIfInBounds_toArray, List.set_cons_zero, List.set_cons_succ])
        (refine still_yes ?v13 (by kernel_rfl) ?y13 ?z13; case y13 => (go_simp; (try (rw [if_neg (by omega)])); (try (rw [if_pos (by omega)])); (try with_reducible rfl)))
        (try simp only [Act.put, List.setIfInBounds_toArray, List.set_cons_zero, List.set_cons_succ])
        (refine still_yes ?v14 (by kernel_rfl) ?y14 ?z14; case y14 => (go_simp; (try (rw [if_neg (by omega)])); (try (rw [if_pos (by omega)])); (try with_reducible rfl)))
        (try simp only [Act.put, List.setIfInBounds_toArray, List.set_cons_zero, List.set_cons_succ])
        (refine still_yes ?v15 (by kernel_rfl) ?y15 ?z15; case y15 => (go_simp; (try (rw [if_neg (by omega)])); (try (rw [if_pos (by omega)])); (try with_reducible rfl)))
        (try simp only [Act.put, List.setIfInBounds_toArray, List.set_cons_zero, List.set_cons_succ])
        (refine still_yes ?v16 (by kernel_rfl) ?y16 ?z16; case y16 => (go_simp; (try (rw [if_neg (by omega)])); (try (rw [if_pos (by omega)])); (try with_reducible rfl)))
        (try simp only [Act.put, List.setIfInBounds_toArray, List.set_cons_zero, List.set_cons_succ])
        (refine still_yes ?v17 (by kernel_rfl) ?y17 ?z17; case y17 => (go_simp; (try (rw [if_neg (by omega)])); (try (rw [if_pos (by omega)])); (try with_reducible rfl)))
        (try simp only [Act.put, List.setIfInBounds_toArray, List.set_cons_zero, List.set_cons_succ])
        (refine still_yes ?v18 (by kernel_rfl) ?y18 ?z18; case y18 => (go_simp; (try (rw [if_neg (by omega)])); (try (rw [if_pos (by omega)])); (try with_reducible rfl)))
        (try simp only [Act.put, List.setIfInBounds_toArray, List.set_cons_zero, List.set_cons_succ])
        refine wpStill_nil ?_
        go_wp2_with fail
        refine (ahead_any fall (HP.at' es1 k) (HP.at' es1 p) h c wr.drew hLv.1).mono ?_
        rintro e w1 ⟨rfl, hb1⟩
        replace hb1 := below_undrew hb1
        rw [HA.out]
        go_wp2_with fail
        go_end0
        refine ⟨es1, rfl, hLv.below hb1, hU.2.1, hT.trans (Tch.of_below hb1 _ _), hU.stop (.inr (by rw [HP'.out]; exact HA.out))⟩
      · have HA := Lib.hid ha
        have HP' := Lib.hid hp
        clear ha hp
        go_wp2_with fail
        simp only [hq]
        refine wp_region_still_tail 18 (by kernel_rfl) (by kernel_rfl) ?_
        simp only [List.take_succ_cons, List.take_zero, List.drop_succ_cons, List.drop_zero]
        refine (fun (Hst : wpStill _ _ (World.drew _) (fun a' => wpList _ _ _ _ a' (World.drew _)) _ _) => Hst) ?_
        (refine still_yes ?v19 (by kernel_rfl) ?y19 ?z19; case y19 => (go_simp; (try (rw [if_neg (by omega)])); (try (rw [if_pos (by omega)])); (try with_reducible rfl)))
        (try simp only [Act.put, List.setIfInBounds_toArray, List.set_cons_zero, List.set_cons_succ])
        (refine still_yes ?v20 (by kernel_rfl) ?y20 ?z20; case y20 => (go_simp; (try (rw [if_neg (by omega)])); (try (rw [if_pos (by omega)])); (try with_reducible rfl)))
        (try simp only [Act.put, List.setIfInBounds_toArray, List.set_cons_zero, List.set_cons_succ])
        (refine still_yes ?v21 (by kernel_rfl) ?y21 ?z21; case y21 => (go_simp; (try (rw [if_neg (by omega)])); (try (rw [if_pos (by omega)])); (try with_reducible rfl)))
        (try simp only [Act.put, List.setIfInBounds_toArray, List.set_cons_zero, List.set_cons_succ])
        (refine still_yes ?v22 (by kernel_rfl) ?y22 ?z22; case y22 => (go_simp; (try (rw [if_neg (by omega)])); (try (rw [if_pos (by omega)])); (try with_reducible rfl)))
        (try simp only [Act.put, List.setIfInBounds_toArray, List.set_cons_zero, List.set_cons_succ])
        (refine still_yes ?v23 (by kernel_rfl) ?y23 ?z23; case y23 => (go_simp; (try (rw [if_neg (by omega)])); (try (rw [if_pos (by omega)])); (try with_reducible rfl)))
        (try simp only [Act.put, List.setIfInBounds_toArray, List.set_cons_zero, List.set_cons_succ])
        (refine still_yes ?v24 (by kernel_rfl) ?y24 ?z24; case y24 => (go_simp; (try (rw [if_neg (by omega)])); (try (rw [if_pos (by omega)])); (try with_reducible rfl)))
        (try simp only [Act.put, List.setIfInBounds_toArray, List.set_cons_zero, List.set_cons_succ])
        (refine still_yes ?v25 (by kernel_rfl) ?y25 ?z25; case y25 => (go_simp; (try (rw [if_neg (by omega)])); (try (rw [if_pos (by omega)])); (try with_reducible rfl)))
        (try simp only [Act.put, List.setIfInBounds_toArray, List.set_cons_zero, List.set_cons_succ])
        (refine still_yes ?v26 (by kernel_rfl) ?y26 ?z26; case y26 => (go_simp; (try (rw [if_neg (by omega)])); (try (rw [if_pos (by omega)])); (try with_reducible rfl)))
        (try simp only [Act.put, List.setIfInBounds_toArray, List.set_cons_zero, List.set_cons_succ])
        (refine still_yes ?v27 (by kernel_rfl) ?y27 ?z27; case y27 => (go_simp; (try (rw [if_neg (by omega)])); (try (rw [if_pos (by omega)])); (try with_reducible rfl)))
        (try simp only [Act.put, List.setIfInBounds_toArray, List.set_cons_zero, List.set_cons_succ])
        (refine still_yes ?v28 (by kernel_rfl) ?y28 ?z28; case y28 => (go_simp; (try (rw [if_neg (by omega)])); (try (rw [if_pos (by omega)])); (try with_reducible rfl)))
        (try simp only [Act.put, List.setIfInBounds_toArray, List.set_cons_zero, List.set_cons_succ])
        (refine still_yes ?v29 (by kernel_rfl) ?y29 ?z29; case y29 => (go_simp; (try (rw [if_neg (by omega)])); (try (rw [if_pos (by omega)])); (try with_reducible rfl)))
        (try simp only [Act.put, List.setIfInBounds_toArray, List.set_cons_zero, List.set_cons_succ])
        (refine still_yes ?v30 (by kernel_rfl) ?y30 ?z30; case y30 => (go_simp; (try (rw [if_neg (by omega)])); (try (rw [if_pos (by omega)])); (try with_reducible rfl)))
        (try simp only [Act.put, List.setIfInBounds_toArray, List.set_cons_zero, List.set_cons_succ])
        (refine still_yes ?v31 (by kernel_rfl) ?y31 ?z31; case y31 => (go_simp; (try (rw [if_neg (by omega)])); (try (rw [if_pos (by omega)])); (try with_reducible rfl)))
        (try simp only [Act.put, List.setIfInBounds_toArray, List.set_cons_zero, List.set_cons_succ])
        (refine still_yes ?v32 (by kernel_rfl) ?y32 ?z32; case y32 => (go_simp; (try (rw [if_neg (by omega)])); (try (rw [if_pos (by omega)])); (try with_reducible rfl)))
        (try simp only [Act.put, List.setIfInBounds_toArray, List.set_cons_zero, List.set_cons_succ])
        (refine still_yes ?v33 (by kernel_rfl) ?y33 ?z33; case y33 => (go_simp; (try (rw [if_neg (by omega)])); (try (rw [if_pos (by omega)])); (try with_reducible rfl)))
        (try simp only [Act.put, List.setIfInBounds_toArray, List.set_cons_zero, List.set_cons_succ])
        (refine still_yes ?v34 (by kernel_rfl) ?y34 ?z34; case y34 => (go_simp; (try (rw [if_neg (by omega)])); (try (rw [if_pos (by omega)])); (try with_reducible rfl)))
        (try simp only [Act.put, List.setIfInBounds_toArray, List.set_cons_zero, List.set_cons_succ])
        (refine still_yes ?v35 (by kernel_rfl) ?y35 ?z35; case y35 => (go_simp; (try (rw [if_neg (by omega)])); (try (rw [if_pos (by omega)])); (try with_reducible rfl)))
        (try simp only [Act.put, List.setIfInBounds_toArray, List.set_cons_zero, List.set_cons_succ])
        (refine still_yes ?v36 (by kernel_rfl) ?y36 ?z36; case y36 => (go_simp; (try (rw [if_neg (by omega)])); (try (rw [if_pos (by omega)])); (try with_reducible rfl)))
        (try simp only [Act.put, List.setIfInBounds_toArray, List.set_cons_zero, List.set_cons_succ])
        refine wpStill_nil ?_
        go_wp2_with fail
        refine (ahead_any fall (HP.at' es1 k) (HP.at' es1 p) h c wr.drew hLv.1).mono ?_
        rintro e w1 ⟨rfl, hb1⟩
        replace hb1 := below_undrew hb1
        rw [HA.out]
        go_wp2_with fail
        have hT1 := hT.trans (Tch.of_below hb1 h (some g))
        have hL1 := hLv.below hb1
        clear hT hLv hb1 c0 c1 e0 e1 e2 f0 f1 f2
        have hkl := hU.1
        have hpl : p < es1.length := by omega
        have c1 : w1.cell? ⟨h, 1, none⟩ = some (.slice (some ⟨g, 0, none⟩) n cap) := by rw [cell_of_row _ _ _ _ _ _ hL1.2.1]; rfl
        have e0 := hL1.ent k hkl 0 (by omega)
        have e1 := hL1.ent k hkl 1 (by omega)
        have e2 := hL1.ent k hkl 2 (by omega)
        have f0 := hL1.ent p hpl 0 (by omega)
        have f1 := hL1.ent p hpl 1 (by omega)
        have f2 := hL1.ent p hpl 2 (by omega)
        simp only [encP, List.getElem?_cons_zero, List.getElem?_cons_succ, Nat.add_zero] at e0 e1 e2 f0 f1 f2
        have z0 := hL1.free
        have hne : ¬ (k = p) := by omega
        go_region
        obtain ⟨hL2, hT2⟩ := hL1.put k hkl (HP.at' es1 p)
        obtain ⟨hL3, hT3⟩ := hL2.put p (by rw [List.length_set]; exact hpl) (HP.at' es1 k)
        have hT3' := hT1.trans (hT2.trans hT3)
        clear hL2 hT2 hT3 e0 e1 e2 f0 f1 f2 c1 z0 hT1 hL1
        generalize ((((((w1.setCell ⟨g, k * 3, none⟩ (.int .i64 (HP.at' es1 p).1.1)).setCell ⟨g, k * 3 + 1, none⟩ (.int .i64 (HP.at' es1 p).1.2)).setCell ⟨g, k * 3 + 2, none⟩ (.int .i64 (HP.at' es1 p).2)).setCell ⟨g, p * 3, none⟩ (.int .i64 (HP.at' es1 k).1.1)).setCell ⟨g, p * 3 + 1, none⟩ (.int .i64 (HP.at' es1 k).1.2)).setCell ⟨g, p * 3 + 2, none⟩ (.int .i64 (HP.at' es1 k).2)) = wx at hL3 hT3' ⊢
        go_wp2_with fail
        have hst := hU.step h0 (by rw [HP'.out]; exact HA.out)
        rw [HP'.out] at hst
        exact ⟨⟨_, p, rfl, hst, hL3, hT3'.drew⟩, by simp [intOf]; omega⟩
    · go_wp2_with fail
      go_end0
      exact ⟨es1, rfl, hLv, hU.2.1, hT, hU.stop (.inl (by omega))⟩
end Go.Proofs.Ytffioombjejchaa
