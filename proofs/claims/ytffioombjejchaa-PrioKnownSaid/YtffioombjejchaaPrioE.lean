/- prio: down by contract. -/
import Derived.Test.YtffioombjejchaaPrioD
namespace Go.Proofs.Ytffioombjejchaa
set_option linter.unusedVariables false
set_option linter.unusedSimpArgs false
open Go.RowKit
attribute [local irreducible] Go.wpStill

def DownPost (w : World) (h c : Nat) (fall : Bool) (es : List (Pair × Int)) (came : Int) (sl : Value) (e : Ending) (w' : World) : Prop :=
  ∃ es', e = .returned (.tuple #[]) ∧ Live w' h c fall es' came sl ∧ es'.Perm es ∧ Tch w w' h sl.ownBlock sl.ownBlock ∧ HP.HO (aheadP fall) es'
/-- what the loop of down keeps -/
def DownInv (fall : Bool) (es0 es : List (Pair × Int)) (i : Nat) : Prop := i < es.length ∧ es.Perm es0 ∧ HP.Sinking (aheadP fall) es i
theorem DownInv.step {fall : Bool} {es0 es : List (Pair × Int)} {i c : Nat} (a : DownInv fall es0 es i) (hc : c = 2 * i + 1 ∨ c = 2 * i + 2) (hl : c < es.length) (hlt : aheadP fall (HP.at' es c) (HP.at' es i) = true)
    (hmin : ∀ j, (j - 1) / 2 = i → 0 < j → j < es.length → HP.le (aheadP fall) (HP.at' es c) (HP.at' es j)) : DownInv fall es0 (HP.swap es i c) c :=
  ⟨by rw [HP.swap_length]; exact hl, (HP.swap_perm a.1 hl).trans a.2.1, HP.down_step (aheadP_ord fall) hc hl a.2.2 hlt hmin⟩
/-- the child that stands ahead: c among the two -/
theorem least_left {fall : Bool} {es : List (Pair × Int)} {i : Nat} (h : 2 * i + 2 < es.length → aheadP fall (HP.at' es (2 * i + 2)) (HP.at' es (2 * i + 1)) = false) :
    ∀ j, (j - 1) / 2 = i → 0 < j → j < es.length → HP.le (aheadP fall) (HP.at' es (2 * i + 1)) (HP.at' es j) := fun j hj h0 hl => by
  have : j = 2 * i + 1 ∨ j = 2 * i + 2 := by omega
  rcases this with rfl | rfl
  · exact aheadP_refl _ _
  · exact h hl
theorem least_right {fall : Bool} {es : List (Pair × Int)} {i : Nat} (h : aheadP fall (HP.at' es (2 * i + 2)) (HP.at' es (2 * i + 1)) = true) :
    ∀ j, (j - 1) / 2 = i → 0 < j → j < es.length → HP.le (aheadP fall) (HP.at' es (2 * i + 2)) (HP.at' es j) := fun j hj h0 hl => by
  have : j = 2 * i + 1 ∨ j = 2 * i + 2 := by omega
  rcases this with rfl | rfl
  · exact (aheadP_ord fall).asym _ _ h
  · exact aheadP_refl _ _
theorem DownInv.stop {fall : Bool} {es0 es : List (Pair × Int)} {i c : Nat} (a : DownInv fall es0 es i) (hlt : aheadP fall (HP.at' es c) (HP.at' es i) = false)
    (hmin : ∀ j, (j - 1) / 2 = i → 0 < j → j < es.length → HP.le (aheadP fall) (HP.at' es c) (HP.at' es j)) : HP.HO (aheadP fall) es :=
  HP.sinking_ho a.2.2 fun j hj h0 hl => by
    unfold HP.Edge
    rw [hj]
    exact (aheadP_ord fall).trans _ _ _ hlt (hmin j hj h0 hl)
theorem DownInv.leaf {fall : Bool} {es0 es : List (Pair × Int)} {i : Nat} (a : DownInv fall es0 es i) (h : es.length ≤ 2 * i + 1) : HP.HO (aheadP fall) es :=
  HP.sinking_ho a.2.2 fun j hj h0 hl => by omega
/-- the exchange of places i and c, from what go_region leaves -/
theorem Live.swap {w : World} {h c g cap n : Nat} {fall : Bool} {es : List (Pair × Int)} {came : Int} (a : Live w h c fall es came (.slice (some ⟨g, 0, none⟩) n cap)) {i k : Nat} (hi : i < es.length) (hk : k < es.length) :
    Live ((((((w.setCell ⟨g, i * 3, none⟩ (.int .i64 (HP.at' es k).1.1)).setCell ⟨g, i * 3 + 1, none⟩ (.int .i64 (HP.at' es k).1.2)).setCell ⟨g, i * 3 + 2, none⟩ (.int .i64 (HP.at' es k).2)).setCell ⟨g, k * 3, none⟩ (.int .i64 (HP.at' es i).1.1)).setCell ⟨g, k * 3 + 1, none⟩ (.int .i64 (HP.at' es i).1.2)).setCell ⟨g, k * 3 + 2, none⟩ (.int .i64 (HP.at' es i).2)) h c fall (HP.swap es i k) came (.slice (some ⟨g, 0, none⟩) n cap) ∧
    Tch w ((((((w.setCell ⟨g, i * 3, none⟩ (.int .i64 (HP.at' es k).1.1)).setCell ⟨g, i * 3 + 1, none⟩ (.int .i64 (HP.at' es k).1.2)).setCell ⟨g, i * 3 + 2, none⟩ (.int .i64 (HP.at' es k).2)).setCell ⟨g, k * 3, none⟩ (.int .i64 (HP.at' es i).1.1)).setCell ⟨g, k * 3 + 1, none⟩ (.int .i64 (HP.at' es i).1.2)).setCell ⟨g, k * 3 + 2, none⟩ (.int .i64 (HP.at' es i).2)) h (some g) (some g) := by
  obtain ⟨hL2, hT2⟩ := a.put i hi (HP.at' es k)
  obtain ⟨hL3, hT3⟩ := hL2.put k (by rw [List.length_set]; exact hk) (HP.at' es i)
  exact ⟨hL3, hT2.trans hT3⟩
/-- what the test of the two children tells -/
def DownPick (fall : Bool) (es : List (Pair × Int)) (k l n : Nat) (b : Bool) : Prop :=
  match b with
  | true => l + 1 < n ∧ ∀ j, (j - 1) / 2 = k → 0 < j → j < es.length → HP.le (aheadP fall) (HP.at' es (l + 1)) (HP.at' es j)
  | false => ∀ j, (j - 1) / 2 = k → 0 < j → j < es.length → HP.le (aheadP fall) (HP.at' es l) (HP.at' es j)
set_option maxRecDepth 100000 in
set_option maxHeartbeats 4000000 in
theorem down_any (h c g cap n : Nat) (fall : Bool) (es : List (Pair × Int)) (came : Int) (i : Nat) (w : World) (hL : Live w h c fall es came (.slice (some ⟨g, 0, none⟩) n cap)) (hi : i < es.length) (hn : n = es.length) (hb : es.length ≤ 140737488351232) (hQ : HP.Sinking (aheadP fall) es i) :
    Calls Try.prog 51 #[.pointer (some ⟨h, 0, none⟩), .int .i64 i] w (DownPost w h c fall es came (.slice (some ⟨g, 0, none⟩) n cap)) := by
  have hbn : (n : Int) ≤ 140737488351232 := by omega
  have HN := Lib.hid hn
  clear hn
  have hI : DownInv fall es es i := ⟨hi, .refl _, hQ⟩
  have HQ := Lib.hid hQ
  clear hQ
  go_enter Try.func51, Try.ntmps51
  go_wp2_with fail
  go_loopw [1, 4] (fun iv _ wr => ∃ (es1 : List (Pair × Int)) (k : Nat), iv = .int .i64 k ∧ k < n ∧ DownInv fall es es1 k ∧ Live wr h c fall es1 came (.slice (some ⟨g, 0, none⟩) n cap) ∧ Tch w wr h (some g) (some g)) (fun iv _ _ => n - (intOf iv).toNat)
  case atStart => exact ⟨es, i, rfl, by rw [HN.out]; exact hi, hI, hL, Tch.refl _ _ _⟩
  case round =>
    obtain ⟨es1, k, rfl, hk, hU, hLv, hT⟩ := hrel
    have hlen : n = es1.length := by rw [hU.2.1.length_eq]; exact HN.out
    have HLEN := Lib.hid hlen
    clear hlen hL hI hi hb
    have hd1 : IntKind.i64.wrap (2 * (k : Int)) = 2 * (k : Int) := IntWalk.i64_in _ (by omega)
    have c0 : wr.cell? ⟨h, 0, none⟩ = some (.func (.func 40) #[] #[.pointer (some ⟨c, 0, none⟩)]) := by rw [cell_of_row _ _ _ _ _ _ hLv.2.1]; rfl
    have c1 : wr.cell? ⟨h, 1, none⟩ = some (.slice (some ⟨g, 0, none⟩) n cap) := by rw [cell_of_row _ _ _ _ _ _ hLv.2.1]; rfl
    obtain ⟨l, hl⟩ : ∃ l : Nat, 2 * k + 1 = l := ⟨_, rfl⟩
    have hlI : 2 * (k : Int) + 1 = (l : Int) := by omega
    by_cases h1 : l < n
    · have hkE := HLEN.out ▸ hk
      have hlE : l < es1.length := HLEN.out ▸ h1
      have e0 := hLv.ent k hkE 0 (by omega)
      have e1 := hLv.ent k hkE 1 (by omega)
      have e2 := hLv.ent k hkE 2 (by omega)
      have f0 := hLv.ent l hlE 0 (by omega)
      have f1 := hLv.ent l hlE 1 (by omega)
      have f2 := hLv.ent l hlE 2 (by omega)
      simp only [encP, List.getElem?_cons_zero, List.getElem?_cons_succ, Nat.add_zero] at e0 e1 e2 f0 f1 f2
      have HL := Lib.hid hl
      clear hl
      have hge : decide (n ≤ l) = false := by simp; omega
      go_upto_region 4 with fail
      go_cut [4, 44] (fun cv bv wx => cv = .int .i64 l ∧ ∃ b : Bool, bv = .bool b ∧ DownPick fall es1 k l n b ∧ Live wx h c fall es1 came (.slice (some ⟨g, 0, none⟩) n cap) ∧ Tch w wx h (some g) (some g))
      case first =>
        obtain ⟨r, hr⟩ : ∃ r : Nat, l + 1 = r := ⟨_, rfl⟩
        have hrI : (l : Int) + 1 = (r : Int) := by omega
        have hwr : IntKind.i64.wrap (r : Int) = (r : Int) := IntWalk.i64_in _ (by omega)
        by_cases h2 : r < n
        · have hrE : r < es1.length := HLEN.out ▸ h2
          have g0 := hLv.ent r hrE 0 (by omega)
          have g1 := hLv.ent r hrE 1 (by omega)
          have g2 := hLv.ent r hrE 2 (by omega)
          simp only [encP, List.getElem?_cons_zero, List.getElem?_cons_succ, Nat.add_zero] at g0 g1 g2
          have hdr : (r : Int) < (n : Int) := by omega
          have HR := Lib.hid hr
          clear hr
          cases ha : aheadP fall (HP.at' es1 r) (HP.at' es1 l)
          · have HA := Lib.hid ha
            clear ha
            go_wp2_with fail
            refine wp_region_still_tail 28 (by kernel_rfl) (by kernel_rfl) ?_
            simp only [List.take_succ_cons, List.take_zero, List.drop_succ_cons, List.drop_zero]
            refine (fun (Hst : wpStill _ _ (World.drew _) (fun a' => wpList _ _ _ _ a' (World.drew _)) _ _) => Hst) ?_
            (refine still_yes ?v1 (by kernel_rfl) ?y1 ?z1; case y1 => (go_simp; (try (rw [if_neg (by omega)])); (try (rw [if_pos (by omega)])); (try with_reducible rfl)))
            (try simp only [Act.put, List.setIfInBounds_toArray, List.set_cons_zero, List.set_cons_succ])
            (refine still_yes ?v2 (by kernel_rfl) ?y2 ?z2; case y2 => (go_simp; (try (rw [if_neg (by omega)])); (try (rw [if_pos (by omega)])); (try with_reducible rfl)))
            (try simp only [Act.put, List.setIfInBounds_toArray, List.set_cons_zero, List.set_cons_succ])
            (refine still_yes ?v3 (by kernel_rfl) ?y3 ?z3; case y3 => (go_simp; (try (rw [if_neg (by omega)])); (try (rw [if_pos (by omega)])); (try with_reducible rfl)))
            (try simp only [Act.put, List.setIfInBounds_toArray, List.set_cons_zero, List.set_cons_succ])
            (refine still_yes ?v4 (by kernel_rfl) ?y4 ?z4; case y4 => (go_simp; (try (rw [if_neg (by omega)])); (try (rw [if_pos (by omega)])); (try with_reducible rfl)))
            (try simp only [Act.put, List.setIfInBounds_toArray, List.set_cons_zero, List.set_cons_succ])
            (refine still_yes ?v5 (by kernel_rfl) ?y5 ?z5; case y5 => (go_simp; (try (rw [if_neg (by omega)])); (try (rw [if_pos (by omega)])); (try with_reducible rfl)))
            (try simp only [Act.put, List.setIfInBounds_toArray, List.set_cons_zero, List.set_cons_succ])
            (refine still_yes ?v6 (by kernel_rfl) ?y6 ?z6; case y6 => (go_simp; (try (rw [if_neg (by omega)])); (try (rw [if_pos (by omega)])); (try with_reducible rfl)))
            (try simp only [Act.put, List.setIfInBounds_toArray, List.set_cons_zero, List.set_cons_succ])
            (refine still_yes ?v7 (by kernel_rfl) ?y7 ?z7; case y7 => (go_simp; (try (rw [if_neg (by omega)])); (try (rw [if_pos (by omega)])); (try with_reducible rfl)))
            (try simp only [Act.put, List.setIfInBounds_toArray, List.set_cons_zero, List.set_cons_succ])
            (refine still_yes ?v8 (by kernel_rfl) ?y8 ?z8; case y8 => (go_simp; (try (rw [if_neg (by omega)])); (try (rw [if_pos (by omega)])); (try with_reducible rfl)))
            (try simp only [Act.put, List.setIfInBounds_toArray, List.set_cons_zero, List.set_cons_succ])
            (refine still_yes ?v9 (by kernel_rfl) ?y9 ?z9; case y9 => (go_simp; (try (rw [if_neg (by omega)])); (try (rw [if_pos (by omega)])); (try with_reducible rfl)))
            (try simp only [Act.put, List.setIfInBounds_toArray, List.set_cons_zero, List.set_cons_succ])
            (refine still_yes ?v10 (by kernel_rfl) ?y10 ?z10; case y10 => (go_simp; (try (rw [if_neg (by omega)])); (try (rw [if_pos (by omega)])); (try with_reducible rfl)))
            (try simp only [Act.put, List.setIfInBounds_toArray, List.set_cons_zero, List.set_cons_succ])
            (refine still_yes ?v11 (by kernel_rfl) ?y11 ?z11; case y11 => (go_simp; (try (rw [if_neg (by omega)])); (try (rw [if_pos (by omega)])); (try with_reducible rfl)))
            (try simp only [Act.put, List.setIfInBounds_toArray, List.set_cons_zero, List.set_cons_succ])
            (refine still_yes ?v12 (by kernel_rfl) ?y12 ?z12; case y12 => (go_simp; (try (rw [if_neg (by omega)])); (try (rw [if_pos (by omega)])); (try with_reducible rfl)))
            (try simp only [Act.put, List.setIfInBounds_toArray, List.set_cons_zero, List.set_cons_succ])
            (refine still_yes ?v13 (by kernel_rfl) ?y13 ?z13; case y13 => (go_simp; (try (rw [if_neg (by omega)])); (try (rw [if_pos (by omega)])); (try with_reducible rfl)))
            (try simp only [Act.put, List.setIfInBounds_toArray, List.set_cons_zero, List.set_cons_succ])
            (refine still_yes ?v14 (by kernel_rfl) ?y14 ?z14; case y14 => (go_simp; (try (rw [if_neg (by omega)])); (try (rw [if_pos (by omega)])); (try with_reducible rfl)))
            (try simp only [Act.put, List.setIfInBounds_toArray, List.set_cons_zero, List.set_cons_succ])
            (refine still_yes ?v15 (by kernel_rfl) ?y15 ?z15; case y15 => (go_simp; (try (rw [if_neg (by omega)])); (try (rw [if_pos (by omega)])); (try with_reducible rfl)))
            (try simp only [Act.put, List.setIfInBounds_toArray, List.set_cons_zero, List.set_cons_succ])
            (refine still_yes ?v16 (by kernel_rfl) ?y16 ?z16; case y16 => (go_simp; (try (rw [if_neg (by omega)])); (try (rw [if_pos (by omega)])); (try with_reducible rfl)))
            (try simp only [Act.put, List.setIfInBounds_toArray, List.set_cons_zero, List.set_cons_succ])
            (refine still_yes ?v17 (by kernel_rfl) ?y17 ?z17; case y17 => (go_simp; (try (rw [if_neg (by omega)])); (try (rw [if_pos (by omega)])); (try with_reducible rfl)))
            (try simp only [Act.put, List.setIfInBounds_toArray, List.set_cons_zero, List.set_cons_succ])
            (refine still_yes ?v18 (by kernel_rfl) ?y18 ?z18; case y18 => (go_simp; (try (rw [if_neg (by omega)])); (try (rw [if_pos (by omega)])); (try with_reducible rfl)))
            (try simp only [Act.put, List.setIfInBounds_toArray, List.set_cons_zero, List.set_cons_succ])
            (refine still_yes ?v19 (by kernel_rfl) ?y19 ?z19; case y19 => (go_simp; (try (rw [if_neg (by omega)])); (try (rw [if_pos (by omega)])); (try with_reducible rfl)))
            (try simp only [Act.put, List.setIfInBounds_toArray, List.set_cons_zero, List.set_cons_succ])
            (refine still_yes ?v20 (by kernel_rfl) ?y20 ?z20; case y20 => (go_simp; (try (rw [if_neg (by omega)])); (try (rw [if_pos (by omega)])); (try with_reducible rfl)))
            (try simp only [Act.put, List.setIfInBounds_toArray, List.set_cons_zero, List.set_cons_succ])
            (refine still_yes ?v21 (by kernel_rfl) ?y21 ?z21; case y21 => (go_simp; (try (rw [if_neg (by omega)])); (try (rw [if_pos (by omega)])); (try with_reducible rfl)))
            (try simp only [Act.put, List.setIfInBounds_toArray, List.set_cons_zero, List.set_cons_succ])
            (refine still_yes ?v22 (by kernel_rfl) ?y22 ?z22; case y22 => (go_simp; (try (rw [if_neg (by omega)])); (try (rw [if_pos (by omega)])); (try with_reducible rfl)))
            (try simp only [Act.put, List.setIfInBounds_toArray, List.set_cons_zero, List.set_cons_succ])
            (refine still_yes ?v23 (by kernel_rfl) ?y23 ?z23; case y23 => (go_simp; (try (rw [if_neg (by omega)])); (try (rw [if_pos (by omega)])); (try with_reducible rfl)))
            (try simp only [Act.put, List.setIfInBounds_toArray, List.set_cons_zero, List.set_cons_succ])
            (refine still_yes ?v24 (by kernel_rfl) ?y24 ?z24; case y24 => (go_simp; (try (rw [if_neg (by omega)])); (try (rw [if_pos (by omega)])); (try with_reducible rfl)))
            (try simp only [Act.put, List.setIfInBounds_toArray, List.set_cons_zero, List.set_cons_succ])
            (refine still_yes ?v25 (by kernel_rfl) ?y25 ?z25; case y25 => (go_simp; (try (rw [if_neg (by omega)])); (try (rw [if_pos (by omega)])); (try with_reducible rfl)))
            (try simp only [Act.put, List.setIfInBounds_toArray, List.set_cons_zero, List.set_cons_succ])
            (refine still_yes ?v26 (by kernel_rfl) ?y26 ?z26; case y26 => (go_simp; (try (rw [if_neg (by omega)])); (try (rw [if_pos (by omega)])); (try with_reducible rfl)))
            (try simp only [Act.put, List.setIfInBounds_toArray, List.set_cons_zero, List.set_cons_succ])
            (refine still_yes ?v27 (by kernel_rfl) ?y27 ?z27; case y27 => (go_simp; (try (rw [if_neg (by omega)])); (try (rw [if_pos (by omega)])); (try with_reducible rfl)))
            (try simp only [Act.put, List.setIfInBounds_toArray, List.set_cons_zero, List.set_cons_succ])
            (refine still_yes ?v28 (by kernel_rfl) ?y28 ?z28; case y28 => (go_simp; (try (rw [if_neg (by omega)])); (try (rw [if_pos (by omega)])); (try with_reducible rfl)))
            (try simp only [Act.put, List.setIfInBounds_toArray, List.set_cons_zero, List.set_cons_succ])
            refine wpStill_nil ?_
            go_wp2_with fail
            refine (ahead_any fall (HP.at' es1 r) (HP.at' es1 l) h c wr.drew hLv.1).mono ?_
            rintro e w1 ⟨rfl, hb1⟩
            replace hb1 := below_undrew hb1
            rw [HA.out]
            go_wp2_with fail
            go_meet
            exact ⟨rfl, false, rfl, HL.out ▸ least_left (fun _ => by rw [show 2 * k + 2 = r by have := HL.out; have := HR.out; omega, HL.out]; exact HA.out), hLv.below hb1, hT.trans (Tch.of_below hb1 _ _)⟩
          · have HA := Lib.hid ha
            clear ha
            go_wp2_with fail
            refine wp_region_still_tail 28 (by kernel_rfl) (by kernel_rfl) ?_
            simp only [List.take_succ_cons, List.take_zero, List.drop_succ_cons, List.drop_zero]
            refine (fun (Hst : wpStill _ _ (World.drew _) (fun a' => wpList _ _ _ _ a' (World.drew _)) _ _) => Hst) ?_
            (refine still_yes ?v29 (by kernel_rfl) ?y29 ?z29; case y29 => (go_simp; (try (rw [if_neg (by omega)])); (try (rw [if_pos (by omega)])); (try with_reducible rfl)))
            (try simp only [Act.put, List.setIfInBounds_toArray, List.set_cons_zero, List.set_cons_succ])
            (refine still_yes ?v30 (by kernel_rfl) ?y30 ?z30; case y30 => (go_simp; (try (rw [if_neg (by omega)])); (try (rw [if_pos (by omega)])); (try with_reducible rfl)))
            (try simp only [Act.put, List.setIfInBounds_toArray, List.set_cons_zero, List.set_cons_succ])
            (refine still_yes ?v31 (by kernel_rfl) ?y31 ?z31; case y31 => (go_simp; (try (rw [if_neg (by omega)])); (try (rw [if_pos (by omega)])); (try with_reducible rfl)))
            (try simp only [Act.put, List.setIfInBounds_toArray, List.set_cons_zero, List.set_cons_succ])
            (refine still_yes ?v32 (by kernel_rfl) ?y32 ?z32; case y32 => (go_simp; (try (rw [if_neg (by omega)])); (try (rw [if_pos (by omega)])); (try with_reducible rfl)))
            (try simp only [Act.put, List.setIfInBounds_toArray, List.set_cons_zero, List.set_cons_succ])
            (refine still_yes ?v33 (by kernel_rfl) ?y33 ?z33; case y33 => (go_simp; (try (rw [if_neg (by omega)])); (try (rw [if_pos (by omega)])); (try with_reducible rfl)))
            (try simp only [Act.put, List.setIfInBounds_toArray, List.set_cons_zero, List.set_cons_succ])
            (refine still_yes ?v34 (by kernel_rfl) ?y34 ?z34; case y34 => (go_simp; (try (rw [if_neg (by omega)])); (try (rw [if_pos (by omega)])); (try with_reducible rfl)))
            (try simp only [Act.put, List.setIfInBounds_toArray, List.set_cons_zero, List.set_cons_succ])
            (refine still_yes ?v35 (by kernel_rfl) ?y35 ?z35; case y35 => (go_simp; (try (rw [if_neg (by omega)])); (try (rw [if_pos (by omega)])); (try with_reducible rfl)))
            (try simp only [Act.put, List.setIfInBounds_toArray, List.set_cons_zero, List.set_cons_succ])
            (refine still_yes ?v36 (by kernel_rfl) ?y36 ?z36; case y36 => (go_simp; (try (rw [if_neg (by omega)])); (try (rw [if_pos (by omega)])); (try with_reducible rfl)))
            (try simp only [Act.put, List.setIfInBounds_toArray, List.set_cons_zero, List.set_cons_succ])
            (refine still_yes ?v37 (by kernel_rfl) ?y37 ?z37; case y37 => (go_simp; (try (rw [if_neg (by omega)])); (try (rw [if_pos (by omega)])); (try with_reducible rfl)))
            (try simp only [Act.put, List.setIfInBounds_toArray, List.set_cons_zero, List.set_cons_succ])
            (refine still_yes ?v38 (by kernel_rfl) ?y38 ?z38; case y38 => (go_simp; (try (rw [if_neg (by omega)])); (try (rw [if_pos (by omega)])); (try with_reducible rfl)))
            (try simp only [Act.put, List.setIfInBounds_toArray, List.set_cons_zero, List.set_cons_succ])
            (refine still_yes ?v39 (by kernel_rfl) ?y39 ?z39; case y39 => (go_simp; (try (rw [if_neg (by omega)])); (try (rw [if_pos (by omega)])); (try with_reducible rfl)))
            (try simp only [Act.put, List.setIfInBounds_toArray, List.set_cons_zero, List.set_cons_succ])
            (refine still_yes ?v40 (by kernel_rfl) ?y40 ?z40; case y40 => (go_simp; (try (rw [if_neg (by omega)])); (try (rw [if_pos (by omega)])); (try with_reducible rfl)))
            (try simp only [Act.put, List.setIfInBounds_toArray, List.set_cons_zero, List.set_cons_succ])
            (refine still_yes ?v41 (by kernel_rfl) ?y41 ?z41; case y41 => (go_simp; (try (rw [if_neg (by omega)])); (try (rw [if_pos (by omega)])); (try with_reducible rfl)))
            (try simp only [Act.put, List.setIfInBounds_toArray, List.set_cons_zero, List.set_cons_succ])
            (refine still_yes ?v42 (by kernel_rfl) ?y42 ?z42; case y42 => (go_simp; (try (rw [if_neg (by omega)])); (try (rw [if_pos (by omega)])); (try with_reducible rfl)))
            (try simp only [Act.put, List.setIfInBounds_toArray, List.set_cons_zero, List.set_cons_succ])
            (refine still_yes ?v43 (by kernel_rfl) ?y43 ?z43; case y43 => (go_simp; (try (rw [if_neg (by omega)])); (try (rw [if_pos (by omega)])); (try with_reducible rfl)))
            (try simp only [Act.put, List.setIfInBounds_toArray, List.set_cons_zero, List.set_cons_succ])
            (refine still_yes ?v44 (by kernel_rfl) ?y44 ?z44; case y44 => (go_simp; (try (rw [if_neg (by omega)])); (try (rw [if_pos (by omega)])); (try with_reducible rfl)))
            (try simp only [Act.put, List.setIfInBounds_toArray, List.set_cons_zero, List.set_cons_succ])
            (refine still_yes ?v45 (by kernel_rfl) ?y45 ?z45; case y45 => (go_simp; (try (rw [if_neg (by omega)])); (try (rw [if_pos (by omega)])); (try with_reducible rfl)))
            (try simp only [Act.put, List.setIfInBounds_toArray, List.set_cons_zero, List.set_cons_succ])
            (refine still_yes ?v46 (by kernel_rfl) ?y46 ?z46; case y46 => (go_simp; (try (rw [if_neg (by omega)])); (try (rw [if_pos (by omega)])); (try with_reducible rfl)))
            (try simp only [Act.put, List.setIfInBounds_toArray, List.set_cons_zero, List.set_cons_succ])
            (refine still_yes ?v47 (by kernel_rfl) ?y47 ?z47; case y47 => (go_simp; (try (rw [if_neg (by omega)])); (try (rw [if_pos (by omega)])); (try with_reducible rfl)))
            (try simp only [Act.put, List.setIfInBounds_toArray, List.set_cons_zero, List.set_cons_succ])
            (refine still_yes ?v48 (by kernel_rfl) ?y48 ?z48; case y48 => (go_simp; (try (rw [if_neg (by omega)])); (try (rw [if_pos (by omega)])); (try with_reducible rfl)))
            (try simp only [Act.put, List.setIfInBounds_toArray, List.set_cons_zero, List.set_cons_succ])
            (refine still_yes ?v49 (by kernel_rfl) ?y49 ?z49; case y49 => (go_simp; (try (rw [if_neg (by omega)])); (try (rw [if_pos (by omega)])); (try with_reducible rfl)))
            (try simp only [Act.put, List.setIfInBounds_toArray, List.set_cons_zero, List.set_cons_succ])
            (refine still_yes ?v50 (by kernel_rfl) ?y50 ?z50; case y50 => (go_simp; (try (rw [if_neg (by omega)])); (try (rw [if_pos (by omega)])); (try with_reducible rfl)))
            (try simp only [Act.put, List.setIfInBounds_toArray, List.set_cons_zero, List.set_cons_succ])
            (refine still_yes ?v51 (by kernel_rfl) ?y51 ?z51; case y51 => (go_simp; (try (rw [if_neg (by omega)])); (try (rw [if_pos (by omega)])); (try with_reducible rfl)))
            (try simp only [Act.put, List.setIfInBounds_toArray, List.set_cons_zero, List.set_cons_succ])
            (refine still_yes ?v52 (by kernel_rfl) ?y52 ?z52; case y52 => (go_simp; (try (rw [if_neg (by omega)])); (try (rw [if_pos (by omega)])); (try with_reducible rfl)))
            (try simp only [Act.put, List.setIfInBounds_toArray, List.set_cons_zero, List.set_cons_succ])
            (refine still_yes ?v53 (by kernel_rfl) ?y53 ?z53; case y53 => (go_simp; (try (rw [if_neg (by omega)])); (try (rw [if_pos (by omega)])); (try with_reducible rfl)))
            (try simp only [Act.put, List.setIfInBounds_toArray, List.set_cons_zero, List.set_cons_succ])
            (refine still_yes ?v54 (by kernel_rfl) ?y54 ?z54; case y54 => (go_simp; (try (rw [if_neg (by omega)])); (try (rw [if_pos (by omega)])); (try with_reducible rfl)))
            (try simp only [Act.put, List.setIfInBounds_toArray, List.set_cons_zero, List.set_cons_succ])
            (refine still_yes ?v55 (by kernel_rfl) ?y55 ?z55; case y55 => (go_simp; (try (rw [if_neg (by omega)])); (try (rw [if_pos (by omega)])); (try with_reducible rfl)))
            (try simp only [Act.put, List.setIfInBounds_toArray, List.set_cons_zero, List.set_cons_succ])
            (refine still_yes ?v56 (by kernel_rfl) ?y56 ?z56; case y56 => (go_simp; (try (rw [if_neg (by omega)])); (try (rw [if_pos (by omega)])); (try with_reducible rfl)))
            (try simp only [Act.put, List.setIfInBounds_toArray, List.set_cons_zero, List.set_cons_succ])
            refine wpStill_nil ?_
            go_wp2_with fail
            refine (ahead_any fall (HP.at' es1 r) (HP.at' es1 l) h c wr.drew hLv.1).mono ?_
            rintro e w1 ⟨rfl, hb1⟩
            replace hb1 := below_undrew hb1
            rw [HA.out]
            go_wp2_with fail
            go_meet
            have e22 : 2 * k + 2 = r := by have := HL.out; have := HR.out; omega
            exact ⟨rfl, true, rfl, ⟨by rw [HR.out]; exact h2, by rw [HR.out]; exact e22 ▸ least_right (by rw [e22, HL.out]; exact HA.out)⟩, hLv.below hb1, hT.trans (Tch.of_below hb1 _ _)⟩
        · have hdr : Hid (decide ((r : Int) < (n : Int)) = false) := Lib.hid (by simp; omega)
          have HR := Lib.hid hr
          clear hr
          go_wp2_with fail
          refine wp_region_still_tail 28 (by kernel_rfl) (by kernel_rfl) ?_
          simp only [List.take_succ_cons, List.take_zero, List.drop_succ_cons, List.drop_zero]
          refine (fun (Hst : wpStill _ _ (World.drew _) (fun a' => wpList _ _ _ _ a' (World.drew _)) _ _) => Hst) ?_
          (refine still_yes ?v57 (by kernel_rfl) ?y57 ?z57; case y57 => (go_simp; (try (rw [if_neg (by omega)])); (try (rw [if_pos (by omega)])); (try with_reducible rfl)))
          (try simp only [Act.put, List.setIfInBounds_toArray, List.set_cons_zero, List.set_cons_succ])
          (refine still_yes ?v58 (by kernel_rfl) ?y58 ?z58; case y58 => (go_simp; (try (rw [if_neg (by omega)])); (try (rw [if_pos (by omega)])); (try with_reducible rfl)))
          (try simp only [Act.put, List.setIfInBounds_toArray, List.set_cons_zero, List.set_cons_succ])
          (refine still_yes ?v59 (by kernel_rfl) ?y59 ?z59; case y59 => (go_simp; (try (rw [if_neg (by omega)])); (try (rw [if_pos (by omega)])); (try with_reducible rfl)))
          (try simp only [Act.put, List.setIfInBounds_toArray, List.set_cons_zero, List.set_cons_succ])
          (refine still_yes ?v60 (by kernel_rfl) ?y60 ?z60; case y60 => (go_simp; (try (rw [if_neg (by omega)])); (try (rw [if_pos (by omega)])); (try with_reducible rfl)))
          (try simp only [Act.put, List.setIfInBounds_toArray, List.set_cons_zero, List.set_cons_succ])
          (refine still_yes ?v61 (by kernel_rfl) ?y61 ?z61; case y61 => (go_simp; (try (rw [if_neg (by omega)])); (try (rw [if_pos (by omega)])); (try with_reducible rfl)))
          (try simp only [Act.put, List.setIfInBounds_toArray, List.set_cons_zero, List.set_cons_succ])
          (refine still_yes ?v62 (by kernel_rfl) ?y62 ?z62; case y62 => (go_simp; (try (rw [if_neg (by omega)])); (try (rw [if_pos (by omega)])); (try with_reducible rfl)))
          (try simp only [Act.put, List.setIfInBounds_toArray, List.set_cons_zero, List.set_cons_succ])
          (refine still_yes ?v63 (by kernel_rfl) ?y63 ?z63; case y63 => (go_simp; (try (rw [if_neg (by omega)])); (try (rw [if_pos (by omega)])); (try with_reducible rfl)))
          (try simp only [Act.put, List.setIfInBounds_toArray, List.set_cons_zero, List.set_cons_succ])
          refine still_yes _ (by kernel_rfl) (exec_lss_int rfl rfl rfl hdr.out) ?_
          (try simp only [Act.put, List.setIfInBounds_toArray, List.set_cons_zero, List.set_cons_succ])
          (refine still_yes ?v64 (by kernel_rfl) ?y64 ?z64; case y64 => (go_simp; (try (rw [if_neg (by omega)])); (try (rw [if_pos (by omega)])); (try with_reducible rfl)))
          (try simp only [Act.put, List.setIfInBounds_toArray, List.set_cons_zero, List.set_cons_succ])
          refine still_no (by kernel_rfl) ?_
          (try simp only [Act.put, List.setIfInBounds_toArray, List.set_cons_zero, List.set_cons_succ])
          refine still_no (by kernel_rfl) ?_
          (try simp only [Act.put, List.setIfInBounds_toArray, List.set_cons_zero, List.set_cons_succ])
          refine still_no (by kernel_rfl) ?_
          (try simp only [Act.put, List.setIfInBounds_toArray, List.set_cons_zero, List.set_cons_succ])
          refine still_no (by kernel_rfl) ?_
          (try simp only [Act.put, List.setIfInBounds_toArray, List.set_cons_zero, List.set_cons_succ])
          refine still_no (by kernel_rfl) ?_
          (try simp only [Act.put, List.setIfInBounds_toArray, List.set_cons_zero, List.set_cons_succ])
          refine still_no (by kernel_rfl) ?_
          (try simp only [Act.put, List.setIfInBounds_toArray, List.set_cons_zero, List.set_cons_succ])
          refine still_no (by kernel_rfl) ?_
          (try simp only [Act.put, List.setIfInBounds_toArray, List.set_cons_zero, List.set_cons_succ])
          refine still_no (by kernel_rfl) ?_
          (try simp only [Act.put, List.setIfInBounds_toArray, List.set_cons_zero, List.set_cons_succ])
          refine still_no (by kernel_rfl) ?_
          (try simp only [Act.put, List.setIfInBounds_toArray, List.set_cons_zero, List.set_cons_succ])
          refine still_no (by kernel_rfl) ?_
          (try simp only [Act.put, List.setIfInBounds_toArray, List.set_cons_zero, List.set_cons_succ])
          refine still_no (by kernel_rfl) ?_
          (try simp only [Act.put, List.setIfInBounds_toArray, List.set_cons_zero, List.set_cons_succ])
          refine still_no (by kernel_rfl) ?_
          (try simp only [Act.put, List.setIfInBounds_toArray, List.set_cons_zero, List.set_cons_succ])
          refine still_no (by kernel_rfl) ?_
          (try simp only [Act.put, List.setIfInBounds_toArray, List.set_cons_zero, List.set_cons_succ])
          refine still_no (by kernel_rfl) ?_
          (try simp only [Act.put, List.setIfInBounds_toArray, List.set_cons_zero, List.set_cons_succ])
          refine still_no (by kernel_rfl) ?_
          (try simp only [Act.put, List.setIfInBounds_toArray, List.set_cons_zero, List.set_cons_succ])
          refine still_no (by kernel_rfl) ?_
          (try simp only [Act.put, List.setIfInBounds_toArray, List.set_cons_zero, List.set_cons_succ])
          refine still_no (by kernel_rfl) ?_
          (try simp only [Act.put, List.setIfInBounds_toArray, List.set_cons_zero, List.set_cons_succ])
          refine still_no (by kernel_rfl) ?_
          (try simp only [Act.put, List.setIfInBounds_toArray, List.set_cons_zero, List.set_cons_succ])
          refine still_no (by kernel_rfl) ?_
          (try simp only [Act.put, List.setIfInBounds_toArray, List.set_cons_zero, List.set_cons_succ])
          refine wpStill_nil ?_
          go_wp2_with fail
          go_meet
          exact ⟨rfl, false, rfl, HL.out ▸ least_left (fun hh => by have := HL.out; have := HR.out; have := HLEN.out; omega), hLv, hT.drew⟩
      case rest =>
        clear e0 e1 e2 f0 f1 f2 c0 c1 hT hLv
        obtain ⟨rfl, b, rfl, hpick, hLv, hT⟩ := hcut
        have HPK := Lib.hid hpick
        clear hpick
        cases b
        · obtain ⟨cc, hcl⟩ : ∃ cc : Nat, cc = l := ⟨_, rfl⟩
          have hmin : ∀ j, (j - 1) / 2 = k → 0 < j → j < es1.length → HP.le (aheadP fall) (HP.at' es1 cc) (HP.at' es1 j) := hcl ▸ HPK.out
          have hcc : cc = 2 * k + 1 ∨ cc = 2 * k + 2 := .inl (by rw [hcl]; exact HL.out.symm)
          subst hcl
          have hccn := h1
          have hcE : cc < es1.length := HLEN.out ▸ hccn
          have c0 : wc.cell? ⟨h, 0, none⟩ = some (.func (.func 40) #[] #[.pointer (some ⟨c, 0, none⟩)]) := by rw [cell_of_row _ _ _ _ _ _ hLv.2.1]; rfl
          have c1 : wc.cell? ⟨h, 1, none⟩ = some (.slice (some ⟨g, 0, none⟩) n cap) := by rw [cell_of_row _ _ _ _ _ _ hLv.2.1]; rfl
          have e0 := hLv.ent k hkE 0 (by omega)
          have e1 := hLv.ent k hkE 1 (by omega)
          have e2 := hLv.ent k hkE 2 (by omega)
          have f0 := hLv.ent cc hcE 0 (by omega)
          have f1 := hLv.ent cc hcE 1 (by omega)
          have f2 := hLv.ent cc hcE 2 (by omega)
          simp only [encP, List.getElem?_cons_zero, List.getElem?_cons_succ, Nat.add_zero] at e0 e1 e2 f0 f1 f2
          have HMIN := Lib.hid hmin
          have HCC := Lib.hid hcc
          clear hmin hcc
          cases ha : aheadP fall (HP.at' es1 cc) (HP.at' es1 k)
          · have HA := Lib.hid ha
            clear ha
            go_wp2_with fail
            refine wp_region_still_tail 18 (by kernel_rfl) (by kernel_rfl) ?_
            simp only [List.take_succ_cons, List.take_zero, List.drop_succ_cons, List.drop_zero]
            refine (fun (Hst : wpStill _ _ (World.drew _) (fun a' => wpList _ _ _ _ a' (World.drew _)) _ _) => Hst) ?_
            (refine still_yes ?v65 (by kernel_rfl) ?y65 ?z65; case y65 => (go_simp; (try (rw [if_neg (by omega)])); (try (rw [if_pos (by omega)])); (try with_reducible rfl)))
            (try simp only [Act.put, List.setIfInBounds_toArray, List.set_cons_zero, List.set_cons_succ])
            (refine still_yes ?v66 (by kernel_rfl) ?y66 ?z66; case y66 => (go_simp; (try (rw [if_neg (by omega)])); (try (rw [if_pos (by omega)])); (try with_reducible rfl)))
            (try simp only [Act.put, List.setIfInBounds_toArray, List.set_cons_zero, List.set_cons_succ])
            (refine still_yes ?v67 (by kernel_rfl) ?y67 ?z67; case y67 => (go_simp; (try (rw [if_neg (by omega)])); (try (rw [if_pos (by omega)])); (try with_reducible rfl)))
            (try simp only [Act.put, List.setIfInBounds_toArray, List.set_cons_zero, List.set_cons_succ])
            (refine still_yes ?v68 (by kernel_rfl) ?y68 ?z68; case y68 => (go_simp; (try (rw [if_neg (by omega)])); (try (rw [if_pos (by omega)])); (try with_reducible rfl)))
            (try simp only [Act.put, List.setIfInBounds_toArray, List.set_cons_zero, List.set_cons_succ])
            (refine still_yes ?v69 (by kernel_rfl) ?y69 ?z69; case y69 => (go_simp; (try (rw [if_neg (by omega)])); (try (rw [if_pos (by omega)])); (try with_reducible rfl)))
            (try simp only [Act.put, List.setIfInBounds_toArray, List.set_cons_zero, List.set_cons_succ])
            (refine still_yes ?v70 (by kernel_rfl) ?y70 ?z70; case y70 => (go_simp; (try (rw [if_neg (by omega)])); (try (rw [if_pos (by omega)])); (try with_reducible rfl)))
            (try simp only [Act.put, List.setIfInBounds_toArray, List.set_cons_zero, List.set_cons_succ])
            (refine still_yes ?v71 (by kernel_rfl) ?y71 ?z71; case y71 => (go_simp; (try (rw [if_neg (by omega)])); (try (rw [if_pos (by omega)])); (try with_reducible rfl)))
            (try simp only [Act.put, List.setIfInBounds_toArray, List.set_cons_zero, List.set_cons_succ])
            (refine still_yes ?v72 (by kernel_rfl) ?y72 ?z72; case y72 => (go_simp; (try (rw [if_neg (by omega)])); (try (rw [if_pos (by omega)])); (try with_reducible rfl)))
            (try simp only [Act.put, List.setIfInBounds_toArray, List.set_cons_zero, List.set_cons_succ])
            (refine still_yes ?v73 (by kernel_rfl) ?y73 ?z73; case y73 => (go_simp; (try (rw [if_neg (by omega)])); (try (rw [if_pos (by omega)])); (try with_reducible rfl)))
            (try simp only [Act.put, List.setIfInBounds_toArray, List.set_cons_zero, List.set_cons_succ])
            (refine still_yes ?v74 (by kernel_rfl) ?y74 ?z74; case y74 => (go_simp; (try (rw [if_neg (by omega)])); (try (rw [if_pos (by omega)])); (try with_reducible rfl)))
            (try simp only [Act.put, List.setIfInBounds_toArray, List.set_cons_zero, List.set_cons_succ])
            (refine still_yes ?v75 (by kernel_rfl) ?y75 ?z75; case y75 => (go_simp; (try (rw [if_neg (by omega)])); (try (rw [if_pos (by omega)])); (try with_reducible rfl)))
            (try simp only [Act.put, List.setIfInBounds_toArray, List.set_cons_zero, List.set_cons_succ])
            (refine still_yes ?v76 (by kernel_rfl) ?y76 ?z76; case y76 => (go_simp; (try (rw [if_neg (by omega)])); (try (rw [if_pos (by omega)])); (try with_reducible rfl)))
            (try simp only [Act.put, List.setIfInBounds_toArray, List.set_cons_zero, List.set_cons_succ])
            (refine still_yes ?v77 (by kernel_rfl) ?y77 ?z77; case y77 => (go_simp; (try (rw [if_neg (by omega)])); (try (rw [if_pos (by omega)])); (try with_reducible rfl)))
            (try simp only [Act.put, List.setIfInBounds_toArray, List.set_cons_zero, List.set_cons_succ])
            (refine still_yes ?v78 (by kernel_rfl) ?y78 ?z78; case y78 => (go_simp; (try (rw [if_neg (by omega)])); (try (rw [if_pos (by omega)])); (try with_reducible rfl)))
            (try simp only [Act.put, List.setIfInBounds_toArray, List.set_cons_zero, List.set_cons_succ])
            (refine still_yes ?v79 (by kernel_rfl) ?y79 ?z79; case y79 => (go_simp; (try (rw [if_neg (by omega)])); (try (rw [if_pos (by omega)])); (try with_reducible rfl)))
            (try simp only [Act.put, List.setIfInBounds_toArray, List.set_cons_zero, List.set_cons_succ])
            (refine still_yes ?v80 (by kernel_rfl) ?y80 ?z80; case y80 => (go_simp; (try (rw [if_neg (by omega)])); (try (rw [if_pos (by omega)])); (try with_reducible rfl)))
            (try simp only [Act.put, List.setIfInBounds_toArray, List.set_cons_zero, List.set_cons_succ])
            (refine still_yes ?v81 (by kernel_rfl) ?y81 ?z81; case y81 => (go_simp; (try (rw [if_neg (by omega)])); (try (rw [if_pos (by omega)])); (try with_reducible rfl)))
            (try simp only [Act.put, List.setIfInBounds_toArray, List.set_cons_zero, List.set_cons_succ])
            (refine still_yes ?v82 (by kernel_rfl) ?y82 ?z82; case y82 => (go_simp; (try (rw [if_neg (by omega)])); (try (rw [if_pos (by omega)])); (try with_reducible rfl)))
            (try simp only [Act.put, List.setIfInBounds_toArray, List.set_cons_zero, List.set_cons_succ])
            refine wpStill_nil ?_
            go_wp2_with fail
            refine (ahead_any fall (HP.at' es1 cc) (HP.at' es1 k) h c wc.drew hLv.1).mono ?_
            rintro e w1 ⟨rfl, hb1⟩
            replace hb1 := below_undrew hb1
            rw [HA.out]
            go_wp2_with fail
            go_end0
            exact ⟨es1, rfl, hLv.below hb1, hU.2.1, hT.trans (Tch.of_below hb1 _ _), hU.stop HA.out HMIN.out⟩
          · have HA := Lib.hid ha
            clear ha
            go_wp2_with fail
            refine wp_region_still_tail 18 (by kernel_rfl) (by kernel_rfl) ?_
            simp only [List.take_succ_cons, List.take_zero, List.drop_succ_cons, List.drop_zero]
            refine (fun (Hst : wpStill _ _ (World.drew _) (fun a' => wpList _ _ _ _ a' (World.drew _)) _ _) => Hst) ?_
            (refine still_yes ?v83 (by kernel_rfl) ?y83 ?z83; case y83 => (go_simp; (try (rw [if_neg (by omega)])); (try (rw [if_pos (by omega)])); (try with_reducible rfl)))
            (try simp only [Act.put, List.setIfInBounds_toArray, List.set_cons_zero, List.set_cons_succ])
            (refine still_yes ?v84 (by kernel_rfl) ?y84 ?z84; case y84 => (go_simp; (try (rw [if_neg (by omega)])); (try (rw [if_pos (by omega)])); (try with_reducible rfl)))
            (try simp only [Act.put, List.setIfInBounds_toArray, List.set_cons_zero, List.set_cons_succ])
            (refine still_yes ?v85 (by kernel_rfl) ?y85 ?z85; case y85 => (go_simp; (try (rw [if_neg (by omega)])); (try (rw [if_pos (by omega)])); (try with_reducible rfl)))
            (try simp only [Act.put, List.setIfInBounds_toArray, List.set_cons_zero, List.set_cons_succ])
            (refine still_yes ?v86 (by kernel_rfl) ?y86 ?z86; case y86 => (go_simp; (try (rw [if_neg (by omega)])); (try (rw [if_pos (by omega)])); (try with_reducible rfl)))
            (try simp only [Act.put, List.setIfInBounds_toArray, List.set_cons_zero, List.set_cons_succ])
            (refine still_yes ?v87 (by kernel_rfl) ?y87 ?z87; case y87 => (go_simp; (try (rw [if_neg (by omega)])); (try (rw [if_pos (by omega)])); (try with_reducible rfl)))
            (try simp only [Act.put, List.setIfInBounds_toArray, List.set_cons_zero, List.set_cons_succ])
            (refine still_yes ?v88 (by kernel_rfl) ?y88 ?z88; case y88 => (go_simp; (try (rw [if_neg (by omega)])); (try (rw [if_pos (by omega)])); (try with_reducible rfl)))
            (try simp only [Act.put, List.setIfInBounds_toArray, List.set_cons_zero, List.set_cons_succ])
            (refine still_yes ?v89 (by kernel_rfl) ?y89 ?z89; case y89 => (go_simp; (try (rw [if_neg (by omega)])); (try (rw [if_pos (by omega)])); (try with_reducible rfl)))
            (try simp only [Act.put, List.setIfInBounds_toArray, List.set_cons_zero, List.set_cons_succ])
            (refine still_yes ?v90 (by kernel_rfl) ?y90 ?z90; case y90 => (go_simp; (try (rw [if_neg (by omega)])); (try (rw [if_pos (by omega)])); (try with_reducible rfl)))
            (try simp only [Act.put, List.setIfInBounds_toArray, List.set_cons_zero, List.set_cons_succ])
            (refine still_yes ?v91 (by kernel_rfl) ?y91 ?z91; case y91 => (go_simp; (try (rw [if_neg (by omega)])); (try (rw [if_pos (by omega)])); (try with_reducible rfl)))
            (try simp only [Act.put, List.setIfInBounds_toArray, List.set_cons_zero, List.set_cons_succ])
            (refine still_yes ?v92 (by kernel_rfl) ?y92 ?z92; case y92 => (go_simp; (try (rw [if_neg (by omega)])); (try (rw [if_pos (by omega)])); (try with_reducible rfl)))
            (try simp only [Act.put, List.setIfInBounds_toArray, List.set_cons_zero, List.set_cons_succ])
            (refine still_yes ?v93 (by kernel_rfl) ?y93 ?z93; case y93 => (go_simp; (try (rw [if_neg (by omega)])); (try (rw [if_pos (by omega)])); (try with_reducible rfl)))
            (try simp only [Act.put, List.setIfInBounds_toArray, List.set_cons_zero, List.set_cons_succ])
            (refine still_yes ?v94 (by kernel_rfl) ?y94 ?z94; case y94 => (go_simp; (try (rw [if_neg (by omega)])); (try (rw [if_pos (by omega)])); (try with_reducible rfl)))
            (try simp only [Act.put, List.setIfInBounds_toArray, List.set_cons_zero, List.set_cons_succ])
            (refine still_yes ?v95 (by kernel_rfl) ?y95 ?z95; case y95 => (go_simp; (try (rw [if_neg (by omega)])); (try (rw [if_pos (by omega)])); (try with_reducible rfl)))
            (try simp only [Act.put, List.setIfInBounds_toArray, List.set_cons_zero, List.set_cons_succ])
            (refine still_yes ?v96 (by kernel_rfl) ?y96 ?z96; case y96 => (go_simp; (try (rw [if_neg (by omega)])); (try (rw [if_pos (by omega)])); (try with_reducible rfl)))
            (try simp only [Act.put, List.setIfInBounds_toArray, List.set_cons_zero, List.set_cons_succ])
            (refine still_yes ?v97 (by kernel_rfl) ?y97 ?z97; case y97 => (go_simp; (try (rw [if_neg (by omega)])); (try (rw [if_pos (by omega)])); (try with_reducible rfl)))
            (try simp only [Act.put, List.setIfInBounds_toArray, List.set_cons_zero, List.set_cons_succ])
            (refine still_yes ?v98 (by kernel_rfl) ?y98 ?z98; case y98 => (go_simp; (try (rw [if_neg (by omega)])); (try (rw [if_pos (by omega)])); (try with_reducible rfl)))
            (try simp only [Act.put, List.setIfInBounds_toArray, List.set_cons_zero, List.set_cons_succ])
            (refine still_yes ?v99 (by kernel_rfl) ?y99 ?z99; case y99 => (go_simp; (try (rw [if_neg (by omega)])); (try (rw [if_pos (by omega)])); (try with_reducible rfl)))
            (try simp only [Act.put, List.setIfInBounds_toArray, List.set_cons_zero, List.set_cons_succ])
            (refine still_yes ?v100 (by kernel_rfl) ?y100 ?z100; case y100 => (go_simp; (try (rw [if_neg (by omega)])); (try (rw [if_pos (by omega)])); (try with_reducible rfl)))
            (try simp only [Act.put, List.setIfInBounds_toArray, List.set_cons_zero, List.set_cons_succ])
            refine wpStill_nil ?_
            go_wp2_with fail
            refine (ahead_any fall (HP.at' es1 cc) (HP.at' es1 k) h c wc.drew hLv.1).mono ?_
            rintro e w1 ⟨rfl, hb1⟩
            replace hb1 := below_undrew hb1
            rw [HA.out]
            go_wp2_with fail
            have hT1 := hT.trans (Tch.of_below hb1 h (some g))
            have hL1 := hLv.below hb1
            clear hT hLv hb1 c0 c1 e0 e1 e2 f0 f1 f2
            have c1 : w1.cell? ⟨h, 1, none⟩ = some (.slice (some ⟨g, 0, none⟩) n cap) := by rw [cell_of_row _ _ _ _ _ _ hL1.2.1]; rfl
            have e0 := hL1.ent k hkE 0 (by omega)
            have e1 := hL1.ent k hkE 1 (by omega)
            have e2 := hL1.ent k hkE 2 (by omega)
            have f0 := hL1.ent cc hcE 0 (by omega)
            have f1 := hL1.ent cc hcE 1 (by omega)
            have f2 := hL1.ent cc hcE 2 (by omega)
            simp only [encP, List.getElem?_cons_zero, List.getElem?_cons_succ, Nat.add_zero] at e0 e1 e2 f0 f1 f2
            have z0 := hL1.free
            have hck : k < cc := by have := HCC.out; omega
            have hne : ¬ (k = cc) := by omega
            go_region
            obtain ⟨hL3, hT3⟩ := hL1.swap hkE hcE
            have hT3' := hT1.trans hT3
            clear hT3 e0 e1 e2 f0 f1 f2 c1 z0 hT1 hL1
            generalize ((((((w1.setCell ⟨g, k * 3, none⟩ (.int .i64 (HP.at' es1 cc).1.1)).setCell ⟨g, k * 3 + 1, none⟩ (.int .i64 (HP.at' es1 cc).1.2)).setCell ⟨g, k * 3 + 2, none⟩ (.int .i64 (HP.at' es1 cc).2)).setCell ⟨g, cc * 3, none⟩ (.int .i64 (HP.at' es1 k).1.1)).setCell ⟨g, cc * 3 + 1, none⟩ (.int .i64 (HP.at' es1 k).1.2)).setCell ⟨g, cc * 3 + 2, none⟩ (.int .i64 (HP.at' es1 k).2)) = wx at hL3 hT3' ⊢
            go_wp2_with fail
            exact ⟨⟨_, cc, rfl, hccn, hU.step HCC.out hcE HA.out HMIN.out, hL3, hT3'.drew⟩, by simp [intOf]; omega⟩
        · obtain ⟨hm1, hm2⟩ := HPK.out
          obtain ⟨cc, hcl⟩ : ∃ cc : Nat, l + 1 = cc := ⟨_, rfl⟩
          rw [hcl] at hm1 hm2
          have hcc : cc = 2 * k + 1 ∨ cc = 2 * k + 2 := .inr (by have := HL.out; omega)
          have hclI : (l : Int) + 1 = (cc : Int) := by omega
          have hwc : IntKind.i64.wrap (cc : Int) = (cc : Int) := IntWalk.i64_in _ (by omega)
          have hmin := hm2
          have hccn := hm1
          clear hm1 hm2 hcl
          have hcE : cc < es1.length := HLEN.out ▸ hccn
          have c0 : wc.cell? ⟨h, 0, none⟩ = some (.func (.func 40) #[] #[.pointer (some ⟨c, 0, none⟩)]) := by rw [cell_of_row _ _ _ _ _ _ hLv.2.1]; rfl
          have c1 : wc.cell? ⟨h, 1, none⟩ = some (.slice (some ⟨g, 0, none⟩) n cap) := by rw [cell_of_row _ _ _ _ _ _ hLv.2.1]; rfl
          have e0 := hLv.ent k hkE 0 (by omega)
          have e1 := hLv.ent k hkE 1 (by omega)
          have e2 := hLv.ent k hkE 2 (by omega)
          have f0 := hLv.ent cc hcE 0 (by omega)
          have f1 := hLv.ent cc hcE 1 (by omega)
          have f2 := hLv.ent cc hcE 2 (by omega)
          simp only [encP, List.getElem?_cons_zero, List.getElem?_cons_succ, Nat.add_zero] at e0 e1 e2 f0 f1 f2
          have HMIN := Lib.hid hmin
          have HCC := Lib.hid hcc
          clear hmin hcc
          cases ha : aheadP fall (HP.at' es1 cc) (HP.at' es1 k)
          · have HA := Lib.hid ha
            clear ha
            go_wp2_with fail
            refine wp_region_still_tail 18 (by kernel_rfl) (by kernel_rfl) ?_
            simp only [List.take_succ_cons, List.take_zero, List.drop_succ_cons, List.drop_zero]
            refine (fun (Hst : wpStill _ _ (World.drew _) (fun a' => wpList _ _ _ _ a' (World.drew _)) _ _) => Hst) ?_
            (refine still_yes ?v101 (by kernel_rfl) ?y101 ?z101; case y101 => (go_simp; (try (rw [if_neg (by omega)])); (try (rw [if_pos (by omega)])); (try with_reducible rfl)))
            (try simp only [Act.put, List.setIfInBounds_toArray, List.set_cons_zero, List.set_cons_succ])
            (refine still_yes ?v102 (by kernel_rfl) ?y102 ?z102; case y102 => (go_simp; (try (rw [if_neg (by omega)])); (try (rw [if_pos (by omega)])); (try with_reducible rfl)))
            (try simp only [Act.put, List.setIfInBounds_toArray, List.set_cons_zero, List.set_cons_succ])
            (refine still_yes ?v103 (by kernel_rfl) ?y103 ?z103; case y103 => (go_simp; (try (rw [if_neg (by omega)])); (try (rw [if_pos (by omega)])); (try with_reducible rfl)))
            (try simp only [Act.put, List.setIfInBounds_toArray, List.set_cons_zero, List.set_cons_succ])
            (refine still_yes ?v104 (by kernel_rfl) ?y104 ?z104; case y104 => (go_simp; (try (rw [if_neg (by omega)])); (try (rw [if_pos (by omega)])); (try with_reducible rfl)))
            (try simp only [Act.put, List.setIfInBounds_toArray, List.set_cons_zero, List.set_cons_succ])
            (refine still_yes ?v105 (by kernel_rfl) ?y105 ?z105; case y105 => (go_simp; (try (rw [if_neg (by omega)])); (try (rw [if_pos (by omega)])); (try with_reducible rfl)))
            (try simp only [Act.put, List.setIfInBounds_toArray, List.set_cons_zero, List.set_cons_succ])
            (refine still_yes ?v106 (by kernel_rfl) ?y106 ?z106; case y106 => (go_simp; (try (rw [if_neg (by omega)])); (try (rw [if_pos (by omega)])); (try with_reducible rfl)))
            (try simp only [Act.put, List.setIfInBounds_toArray, List.set_cons_zero, List.set_cons_succ])
            (refine still_yes ?v107 (by kernel_rfl) ?y107 ?z107; case y107 => (go_simp; (try (rw [if_neg (by omega)])); (try (rw [if_pos (by omega)])); (try with_reducible rfl)))
            (try simp only [Act.put, List.setIfInBounds_toArray, List.set_cons_zero, List.set_cons_succ])
            (refine still_yes ?v108 (by kernel_rfl) ?y108 ?z108; case y108 => (go_simp; (try (rw [if_neg (by omega)])); (try (rw [if_pos (by omega)])); (try with_reducible rfl)))
            (try simp only [Act.put, List.setIfInBounds_toArray, List.set_cons_zero, List.set_cons_succ])
            (refine still_yes ?v109 (by kernel_rfl) ?y109 ?z109; case y109 => (go_simp; (try (rw [if_neg (by omega)])); (try (rw [if_pos (by omega)])); (try with_reducible rfl)))
            (try simp only [Act.put, List.setIfInBounds_toArray, List.set_cons_zero, List.set_cons_succ])
            (refine still_yes ?v110 (by kernel_rfl) ?y110 ?z110; case y110 => (go_simp; (try (rw [if_neg (by omega)])); (try (rw [if_pos (by omega)])); (try with_reducible rfl)))
            (try simp only [Act.put, List.setIfInBounds_toArray, List.set_cons_zero, List.set_cons_succ])
            (refine still_yes ?v111 (by kernel_rfl) ?y111 ?z111; case y111 => (go_simp; (try (rw [if_neg (by omega)])); (try (rw [if_pos (by omega)])); (try with_reducible rfl)))
            (try simp only [Act.put, List.setIfInBounds_toArray, List.set_cons_zero, List.set_cons_succ])
            (refine still_yes ?v112 (by kernel_rfl) ?y112 ?z112; case y112 => (go_simp; (try (rw [if_neg (by omega)])); (try (rw [if_pos (by omega)])); (try with_reducible rfl)))
            (try simp only [Act.put, List.setIfInBounds_toArray, List.set_cons_zero, List.set_cons_succ])
            (refine still_yes ?v113 (by kernel_rfl) ?y113 ?z113; case y113 => (go_simp; (try (rw [if_neg (by omega)])); (try (rw [if_pos (by omega)])); (try with_reducible rfl)))
            (try simp only [Act.put, List.setIfInBounds_toArray, List.set_cons_zero, List.set_cons_succ])
            (refine still_yes ?v114 (by kernel_rfl) ?y114 ?z114; case y114 => (go_simp; (try (rw [if_neg (by omega)])); (try (rw [if_pos (by omega)])); (try with_reducible rfl)))
            (try simp only [Act.put, List.setIfInBounds_toArray, List.set_cons_zero, List.set_cons_succ])
            (refine still_yes ?v115 (by kernel_rfl) ?y115 ?z115; case y115 => (go_simp; (try (rw [if_neg (by omega)])); (try (rw [if_pos (by omega)])); (try with_reducible rfl)))
            (try simp only [Act.put, List.setIfInBounds_toArray, List.set_cons_zero, List.set_cons_succ])
            (refine still_yes ?v116 (by kernel_rfl) ?y116 ?z116; case y116 => (go_simp; (try (rw [if_neg (by omega)])); (try (rw [if_pos (by omega)])); (try with_reducible rfl)))
            (try simp only [Act.put, List.setIfInBounds_toArray, List.set_cons_zero, List.set_cons_succ])
            (refine still_yes ?v117 (by kernel_rfl) ?y117 ?z117; case y117 => (go_simp; (try (rw [if_neg (by omega)])); (try (rw [if_pos (by omega)])); (try with_reducible rfl)))
            (try simp only [Act.put, List.setIfInBounds_toArray, List.set_cons_zero, List.set_cons_succ])
            (refine still_yes ?v118 (by kernel_rfl) ?y118 ?z118; case y118 => (go_simp; (try (rw [if_neg (by omega)])); (try (rw [if_pos (by omega)])); (try with_reducible rfl)))
            (try simp only [Act.put, List.setIfInBounds_toArray, List.set_cons_zero, List.set_cons_succ])
            refine wpStill_nil ?_
            go_wp2_with fail
            refine (ahead_any fall (HP.at' es1 cc) (HP.at' es1 k) h c wc.drew hLv.1).mono ?_
            rintro e w1 ⟨rfl, hb1⟩
            replace hb1 := below_undrew hb1
            rw [HA.out]
            go_wp2_with fail
            go_end0
            exact ⟨es1, rfl, hLv.below hb1, hU.2.1, hT.trans (Tch.of_below hb1 _ _), hU.stop HA.out HMIN.out⟩
          · have HA := Lib.hid ha
            clear ha
            go_wp2_with fail
            refine wp_region_still_tail 18 (by kernel_rfl) (by kernel_rfl) ?_
            simp only [List.take_succ_cons, List.take_zero, List.drop_succ_cons, List.drop_zero]
            refine (fun (Hst : wpStill _ _ (World.drew _) (fun a' => wpList _ _ _ _ a' (World.drew _)) _ _) => Hst) ?_
            (refine still_yes ?v119 (by kernel_rfl) ?y119 ?z119; case y119 => (go_simp; (try (rw [if_neg (by omega)])); (try (rw [if_pos (by omega)])); (try with_reducible rfl)))
            (try simp only [Act.put, List.setIfInBounds_toArray, List.set_cons_zero, List.set_cons_succ])
            (refine still_yes ?v120 (by kernel_rfl) ?y120 ?z120; case y120 => (go_simp; (try (rw [if_neg (by omega)])); (try (rw [if_pos (by omega)])); (try with_reducible rfl)))
            (try simp only [Act.put, List.setIfInBounds_toArray, List.set_cons_zero, List.set_cons_succ])
            (refine still_yes ?v121 (by kernel_rfl) ?y121 ?z121; case y121 => (go_simp; (try (rw [if_neg (by omega)])); (try (rw [if_pos (by omega)])); (try with_reducible rfl)))
            (try simp only [Act.put, List.setIfInBounds_toArray, List.set_cons_zero, List.set_cons_succ])
            (refine still_yes ?v122 (by kernel_rfl) ?y122 ?z122; case y122 => (go_simp; (try (rw [if_neg (by omega)])); (try (rw [if_pos (by omega)])); (try with_reducible rfl)))
            (try simp only [Act.put, List.setIfInBounds_toArray, List.set_cons_zero, List.set_cons_succ])
            (refine still_yes ?v123 (by kernel_rfl) ?y123 ?z123; case y123 => (go_simp; (try (rw [if_neg (by omega)])); (try (rw [if_pos (by omega)])); (try with_reducible rfl)))
            (try simp only [Act.put, List.setIfInBounds_toArray, List.set_cons_zero, List.set_cons_succ])
            (refine still_yes ?v124 (by kernel_rfl) ?y124 ?z124; case y124 => (go_simp; (try (rw [if_neg (by omega)])); (try (rw [if_pos (by omega)])); (try with_reducible rfl)))
            (try simp only [Act.put, List.setIfInBounds_toArray, List.set_cons_zero, List.set_cons_succ])
            (refine still_yes ?v125 (by kernel_rfl) ?y125 ?z125; case y125 => (go_simp; (try (rw [if_neg (by omega)])); (try (rw [if_pos (by omega)])); (try with_reducible rfl)))
            (try simp only [Act.put, List.setIfInBounds_toArray, List.set_cons_zero, List.set_cons_succ])
            (refine still_yes ?v126 (by kernel_rfl) ?y126 ?z126; case y126 => (go_simp; (try (rw [if_neg (by omega)])); (try (rw [if_pos (by omega)])); (try with_reducible rfl)))
            (try simp only [Act.put, List.setIfInBounds_toArray, List.set_cons_zero, List.set_cons_succ])
            (refine still_yes ?v127 (by kernel_rfl) ?y127 ?z127; case y127 => (go_simp; (try (rw [if_neg (by omega)])); (try (rw [if_pos (by omega)])); (try with_reducible rfl)))
            (try simp only [Act.put, List.setIfInBounds_toArray, List.set_cons_zero, List.set_cons_succ])
            (refine still_yes ?v128 (by kernel_rfl) ?y128 ?z128; case y128 => (go_simp; (try (rw [if_neg (by omega)])); (try (rw [if_pos (by omega)])); (try with_reducible rfl)))
            (try simp only [Act.put, List.setIfInBounds_toArray, List.set_cons_zero, List.set_cons_succ])
            (refine still_yes ?v129 (by kernel_rfl) ?y129 ?z129; case y129 => (go_simp; (try (rw [if_neg (by omega)])); (try (rw [if_pos (by omega)])); (try with_reducible rfl)))
            (try simp only [Act.put, List.setIfInBounds_toArray, List.set_cons_zero, List.set_cons_succ])
            (refine still_yes ?v130 (by kernel_rfl) ?y130 ?z130; case y130 => (go_simp; (try (rw [if_neg (by omega)])); (try (rw [if_pos (by omega)])); (try with_reducible rfl)))
            (try simp only [Act.put, List.setIfInBounds_toArray, List.set_cons_zero, List.set_cons_succ])
            (refine still_yes ?v131 (by kernel_rfl) ?y131 ?z131; case y131 => (go_simp; (try (rw [if_neg (by omega)])); (try (rw [if_pos (by omega)])); (try with_reducible rfl)))
            (try simp only [Act.put, List.setIfInBounds_toArray, List.set_cons_zero, List.set_cons_succ])
            (refine still_yes ?v132 (by kernel_rfl) ?y132 ?z132; case y132 => (go_simp; (try (rw [if_neg (by omega)])); (try (rw [if_pos (by omega)])); (try with_reducible rfl)))
            (try simp only [Act.put, List.setIfInBounds_toArray, List.set_cons_zero, List.set_cons_succ])
            (refine still_yes ?v133 (by kernel_rfl) ?y133 ?z133; case y133 => (go_simp; (try (rw [if_neg (by omega)])); (try (rw [if_pos (by omega)])); (try with_reducible rfl)))
            (try simp only [Act.put, List.setIfInBounds_toArray, List.set_cons_zero, List.set_cons_succ])
            (refine still_yes ?v134 (by kernel_rfl) ?y134 ?z134; case y134 => (go_simp; (try (rw [if_neg (by omega)])); (try (rw [if_pos (by omega)])); (try with_reducible rfl)))
            (try simp only [Act.put, List.setIfInBounds_toArray, List.set_cons_zero, List.set_cons_succ])
            (refine still_yes ?v135 (by kernel_rfl) ?y135 ?z135; case y135 => (go_simp; (try (rw [if_neg (by omega)])); (try (rw [if_pos (by omega)])); (try with_reducible rfl)))
            (try simp only [Act.put, List.setIfInBounds_toArray, List.set_cons_zero, List.set_cons_succ])
            (refine still_yes ?v136 (by kernel_rfl) ?y136 ?z136; case y136 => (go_simp; (try (rw [if_neg (by omega)])); (try (rw [if_pos (by omega)])); (try with_reducible rfl)))
            (try simp only [Act.put, List.setIfInBounds_toArray, List.set_cons_zero, List.set_cons_succ])
            refine wpStill_nil ?_
            go_wp2_with fail
            refine (ahead_any fall (HP.at' es1 cc) (HP.at' es1 k) h c wc.drew hLv.1).mono ?_
            rintro e w1 ⟨rfl, hb1⟩
            replace hb1 := below_undrew hb1
            rw [HA.out]
            go_wp2_with fail
            have hT1 := hT.trans (Tch.of_below hb1 h (some g))
            have hL1 := hLv.below hb1
            clear hT hLv hb1 c0 c1 e0 e1 e2 f0 f1 f2
            have c1 : w1.cell? ⟨h, 1, none⟩ = some (.slice (some ⟨g, 0, none⟩) n cap) := by rw [cell_of_row _ _ _ _ _ _ hL1.2.1]; rfl
            have e0 := hL1.ent k hkE 0 (by omega)
            have e1 := hL1.ent k hkE 1 (by omega)
            have e2 := hL1.ent k hkE 2 (by omega)
            have f0 := hL1.ent cc hcE 0 (by omega)
            have f1 := hL1.ent cc hcE 1 (by omega)
            have f2 := hL1.ent cc hcE 2 (by omega)
            simp only [encP, List.getElem?_cons_zero, List.getElem?_cons_succ, Nat.add_zero] at e0 e1 e2 f0 f1 f2
            have z0 := hL1.free
            have hck : k < cc := by have := HCC.out; omega
            have hne : ¬ (k = cc) := by omega
            go_region
            obtain ⟨hL3, hT3⟩ := hL1.swap hkE hcE
            have hT3' := hT1.trans hT3
            clear hT3 e0 e1 e2 f0 f1 f2 c1 z0 hT1 hL1
            generalize ((((((w1.setCell ⟨g, k * 3, none⟩ (.int .i64 (HP.at' es1 cc).1.1)).setCell ⟨g, k * 3 + 1, none⟩ (.int .i64 (HP.at' es1 cc).1.2)).setCell ⟨g, k * 3 + 2, none⟩ (.int .i64 (HP.at' es1 cc).2)).setCell ⟨g, cc * 3, none⟩ (.int .i64 (HP.at' es1 k).1.1)).setCell ⟨g, cc * 3 + 1, none⟩ (.int .i64 (HP.at' es1 k).1.2)).setCell ⟨g, cc * 3 + 2, none⟩ (.int .i64 (HP.at' es1 k).2)) = wx at hL3 hT3' ⊢
            go_wp2_with fail
            exact ⟨⟨_, cc, rfl, hccn, hU.step HCC.out hcE HA.out HMIN.out, hL3, hT3'.drew⟩, by simp [intOf]; omega⟩
    · have HL := Lib.hid hl
      clear hl
      go_wp2_with fail
      go_end0
      exact ⟨es1, rfl, hLv, hU.2.1, hT, hU.leaf (by rw [HL.out, ← HLEN.out]; omega)⟩
end Go.Proofs.Ytffioombjejchaa
