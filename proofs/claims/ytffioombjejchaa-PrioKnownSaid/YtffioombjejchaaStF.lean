/- prio: take by contract. -/
import Derived.Test.YtffioombjejchaaPrioF
import Derived.Test.YtffioombjejchaaStE
import Derived.Test.YtffioombjejchaaReg
namespace Go.Proofs.Ytffioombjejchaa.St
set_option linter.unusedVariables false
set_option linter.unusedSimpArgs false
open Go.RowKit
attribute [local irreducible] Go.wpStill

theorem flatP_take (es : List (Str × Int)) (m : Nat) : flatP (es.take m) = (flatP es).take (m * 2) := by
  induction es generalizing m with
  | nil => simp [flatP]
  | cons e es ih =>
    cases m with
    | zero => simp [flatP]
    | succ m =>
      have e1 : flatP (e :: es) = encP e ++ flatP es := by simp [flatP]
      have e2 : flatP (e :: es.take m) = encP e ++ flatP (es.take m) := by simp [flatP]
      have t1 : (encP e).take ((m + 1) * 2) = encP e := List.take_of_length_le (by show 2 ≤ _; omega)
      rw [List.take_succ_cons, e1, e2, ih, List.take_append, t1]
      rw [show (m + 1) * 2 - (encP e).length = m * 2 from by show _ - 2 = _; omega]
theorem setCell_row {w : World} {g : Nat} {cs : Array Value} {t : TypeId} {fr : Nat × Nat} (h : w.heap[g]? = some (.cells cs t fr)) (k : Nat) (v : Value) : (w.setCell ⟨g, k, none⟩ v).heap[g]? = some (.cells (cs.setIfInBounds k v) t fr) := by
  simp [World.setCell, Array.getElem?_modify, h]
theorem Tch.setCell_h {w : World} (h k : Nat) (v : Value) (r : Option Nat) : Tch w (w.setCell ⟨h, k, none⟩ v) h r r := ⟨rfl, rfl, rfl, by simp [World.setCell], fun j _ hj _ => Below.heap_setCell _ _ _ _ hj, .inl rfl⟩
/-- the row cut -/
theorem Live.shrink {w : World} {h c g cap n : Nat} {fall : Bool} {es : List (Str × Int)} {came : Int} (a : Live w h c fall es came (.slice (some ⟨g, 0, none⟩) n cap)) (m : Nat) (hm : m ≤ es.length) :
    Live (w.setCell ⟨h, 1, none⟩ (.slice (some ⟨g, 0, none⟩) m cap)) h c fall (es.take m) came (.slice (some ⟨g, 0, none⟩) m cap) := by
  have hml : (es.take m).length = m := by rw [List.length_take]; omega
  refine ⟨a.1.kept fun k hk v t _ hv => Below.heap_setCell _ _ _ _ (by show k ≠ h; omega), ?_, ?_⟩
  · rw [setCell_row a.2.1 1 _]; rfl
  · refine ⟨by rw [flatP_length], ?_⟩
    rcases a.2.2.2 with ⟨h1, _⟩ | ⟨g', cap', cur, h1, hg, hh, hn, hmx, hs, ht⟩
    · cases h1
    · injection h1 with h1 h2 h3
      injection h1 with h1
      injection h1 with h1
      subst h1
      subst h3
      refine .inr ⟨g, cap, cur, by rw [hml], hg, ?_, by omega, hmx, hs, ?_⟩
      · rw [Below.heap_setCell _ _ _ _ (by show g ≠ h; exact fun e => row_ne a.2.1 hh (by decide) e.symm)]; exact hh
      · rw [flatP_take, ← ht, List.take_take, hml, Nat.min_eq_left (by omega)]
theorem Tch.other {w w' : World} {h : Nat} {r r' : Option Nat} (a : Tch w w' h r r') {b : Nat} {cs : Array Value} {t : TypeId} {fr : Nat × Nat} (hb : w.heap[b]? = some (.cells cs t fr)) (h1 : b ≠ h) (h2 : some b ≠ r) : w'.heap[b]? = some (.cells cs t fr) :=
  (a.block b (lt_of_block hb) h1 h2).trans hb
theorem Live.hlt {w : World} {h c : Nat} {fall : Bool} {es : List (Str × Int)} {came : Int} {sl : Value} (a : Live w h c fall es came sl) : h < w.heap.size := lt_of_block a.2.1
theorem Live.glt {w : World} {h c g cap n : Nat} {fall : Bool} {es : List (Str × Int)} {came : Int} (a : Live w h c fall es came (.slice (some ⟨g, 0, none⟩) n cap)) : g < w.heap.size ∧ h ≠ g := by
  rcases a.2.2.2 with ⟨h1, _⟩ | ⟨g', cap', cur, h1, hg, hh, _⟩
  · cases h1
  · injection h1 with h1 h2 h3
    injection h1 with h1
    injection h1 with h1
    subst h1
    exact ⟨lt_of_block hh, row_ne a.2.1 hh (by decide)⟩
theorem Live.own {w : World} {h c g : Nat} {fall : Bool} {es : List (Str × Int)} {came : Int} {sl : Value} (a : Live w h c fall es came sl) (hg : sl.ownBlock = some g) : ∃ cur, w.heap[g]? = some (.cells cur 78 (0, 0)) := by
  rcases a.2.2.2 with ⟨rfl, _⟩ | ⟨g', cap', cur, rfl, _, hh, _⟩
  · cases hg
  · injection hg with hg
    exact ⟨cur, hg ▸ hh⟩

theorem Live.cap {w : World} {h c g cap n : Nat} {fall : Bool} {es : List (Str × Int)} {came : Int} (a : Live w h c fall es came (.slice (some ⟨g, 0, none⟩) n cap)) : es.length ≤ cap := by
  rcases a.2.2.2 with ⟨h1, _⟩ | ⟨g', cap', cur, h1, hg, hh, hn, hmx, hs, ht⟩
  · cases h1
  · injection h1 with h1 h2 h3
    subst h3
    exact hn
theorem Live.touch {w w' : World} {h c : Nat} {fall : Bool} {es : List (Str × Int)} {came : Int} {sl : Value} (a : Live w h c fall es came sl) {b : Nat} (hk : ∀ k, k ≠ b → w'.heap[k]? = w.heap[k]?) (h1 : h < b) (h2 : sl.ownBlock ≠ some b) : Live w' h c fall es came sl := by
  refine ⟨a.1.kept fun k hk' v t _ hv => hk k (by omega), (hk h (by omega)).trans a.2.1, a.2.2.1, ?_⟩
  rcases a.2.2.2 with h3 | ⟨g', cap', cur, h3, hg, hh, hr⟩
  · exact .inl h3
  · refine .inr ⟨g', cap', cur, h3, hg, (hk g' (fun e => h2 ?_)).trans hh, hr⟩
    rw [h3, e]; rfl
theorem Tch.undrew {w w' : World} {h : Nat} {r r' : Option Nat} (a : Tch w.drew w' h r r') : Tch w w' h r r' := ⟨a.os, a.tape, a.output, a.size, a.block, a.row⟩
theorem Tch.store_new {w w7 w8 : World} {h b : Nat} {r r' : Option Nat} (a : Tch w w7 h r r') (hb : w.heap.size ≤ b) (hs : w8.heap.size = w7.heap.size) (hbl : ∀ B W, Below B W w7 → B ≤ b → Below B W w8) (ho : ∀ k, k ≠ b → w8.heap[k]? = w7.heap[k]?) : Tch w w8 h r r' := by
  have h0 := hbl 0 w7 (Below.refl 0 w7) (Nat.zero_le _)
  exact ⟨h0.os.trans a.os, h0.tape.trans a.tape, h0.output.trans a.output, by rw [hs]; exact a.size, fun k hk hh hr => (ho k (by omega)).trans (a.block k hk hh hr), a.row⟩

def TakePost (w : World) (h c : Nat) (fall : Bool) (es : List (Str × Int)) (came : Int) (g cap i : Nat) (e : Ending) (w' : World) : Prop :=
  ∃ es', e = .returned (.string (HP.at' es i).1) ∧ Live w' h c fall es' came (.slice (some ⟨g, 0, none⟩) es'.length cap) ∧ es.Perm (HP.at' es i :: es') ∧ HP.HO (aheadP fall) es' ∧ Tch w w' h (some g) (some g)

set_option maxRecDepth 100000 in
set_option maxHeartbeats 2000000 in
theorem take_any (h c g cap n : Nat) (fall : Bool) (es : List (Str × Int)) (came : Int) (i : Nat) (w : World) (hL : Live w h c fall es came (.slice (some ⟨g, 0, none⟩) n cap)) (hi : i < es.length) (hn : n = es.length) (hb : es.length ≤ 140737488351232) (hH : HP.HO (aheadP fall) es) :
    Calls Try.prog 48 #[.pointer (some ⟨h, 0, none⟩), .int .i64 i] w (TakePost w h c fall es came g cap i) := by
  obtain ⟨m, hm⟩ : ∃ m, n = m + 1 := ⟨n - 1, by omega⟩
  subst hm
  have hbm : (m : Int) ≤ 140737488351232 := by omega
  have him : i < m + 1 := by omega
  have hml : m < es.length := by omega
  have HN := Lib.hid hn
  have HH := Lib.hid hH
  clear hn hH
  have c1 : w.cell? ⟨h, 1, none⟩ = some (.slice (some ⟨g, 0, none⟩) (m + 1) cap) := by rw [cell_of_row _ _ _ _ _ _ hL.2.1]; rfl
  have e0 := hL.ent i hi 0 (by omega)
  have e1 := hL.ent i hi 1 (by omega)
  simp only [encP, List.getElem?_cons_zero, List.getElem?_cons_succ, Nat.add_zero] at e0 e1
  obtain ⟨hg1, hg2⟩ := hL.glt
  have hhl := hL.hlt
  go_enter Try.func48, Try.ntmps48
  go_wp2_with fail
  clear c1 e0 e1
  have c1 : w.cell? ⟨h, 1, none⟩ = some (.slice (some ⟨g, 0, none⟩) (m + 1) cap) := by rw [cell_of_row _ _ _ _ _ _ hL.2.1]; rfl
  have f0 := hL.ent m hml 0 (by omega)
  have f1 := hL.ent m hml 1 (by omega)
  simp only [encP, List.getElem?_cons_zero, List.getElem?_cons_succ, Nat.add_zero] at f0 f1
  have hmm : m < m + 1 := by omega
  have hmmI : (m : Int) < (m : Int) + 1 := by omega
  refine wp_region_still_tail 12 (by kernel_rfl) (by kernel_rfl) ?_
  simp only [List.take_succ_cons, List.take_zero, List.drop_succ_cons, List.drop_zero]
  refine (fun (Hst : wpStill _ _ (World.drew _) (fun a' => wpList _ _ _ _ a' (World.drew _)) _ _) => Hst) ?_
  (refine still_yes ?v1 (by kernel_rfl) ?y1 ?z1; case y1 => (go_simp; (try (rw [if_neg (by omega)])); (try (rw [if_pos (by omega)])); (try with_reducible rfl)))
  (try simp only [Act.put, List.setIfInBounds_toArray, List.set_cons_zero, List.set_cons_succ])
  (refine still_yes ?v2 (by kernel_rfl) ?y2 ?z2; case y2 => (go_simp; (try (rw [if_neg (by omega)])); (try (rw [if_pos (by omega)])); (try with_reducible rfl)))
  (try simp only [Act.put, List.setIfInBounds_toArray, List.set_cons_zero, List.set_cons_succ])
  (refine still_yes ?v3 (by kernel_rfl) ?y3 ?z3; case y3 => (go_simp; (try (rw [if_neg (by omega)])); (try (rw [if_pos (by omega)])); (try with_reducible rfl)))
  (try simp only [Act.put, List.setIfInBounds_toArray, List.set_cons_zero, List.set_cons_succ])
  (refine still_yes ?v4 (by kernel_rfl) ?y4 ?z4; case y4 => (go_simp; (try (rw [if_neg (by omega)])); (try (rw [if_pos (by omega)])); (try with_reducible rfl)))
  (try simp only [Act.put, List.setIfInBounds_toArray, List.set_cons_zero, List.set_cons_succ])
  (refine still_yes ?v5 (by kernel_rfl) ?y5 ?z5; case y5 => (go_simp; (try (rw [if_neg (by omega)])); (try (rw [if_pos (by omega)])); (try with_reducible rfl)))
  (try simp only [Act.put, List.setIfInBounds_toArray, List.set_cons_zero, List.set_cons_succ])
  (refine still_yes ?v6 (by kernel_rfl) ?y6 ?z6; case y6 => (go_simp; (try (rw [if_neg (by omega)])); (try (rw [if_pos (by omega)])); (try with_reducible rfl)))
  (try simp only [Act.put, List.setIfInBounds_toArray, List.set_cons_zero, List.set_cons_succ])
  (refine still_yes ?v7 (by kernel_rfl) ?y7 ?z7; case y7 => (go_simp; (try (rw [if_neg (by omega)])); (try (rw [if_pos (by omega)])); (try with_reducible rfl)))
  (try simp only [Act.put, List.setIfInBounds_toArray, List.set_cons_zero, List.set_cons_succ])
  (refine still_yes ?v8 (by kernel_rfl) ?y8 ?z8; case y8 => (go_simp; (try (rw [if_neg (by omega)])); (try (rw [if_pos (by omega)])); (try with_reducible rfl)))
  (try simp only [Act.put, List.setIfInBounds_toArray, List.set_cons_zero, List.set_cons_succ])
  (refine still_yes ?v9 (by kernel_rfl) ?y9 ?z9; case y9 => (go_simp; (try (rw [if_neg (by omega)])); (try (rw [if_pos (by omega)])); (try with_reducible rfl)))
  (try simp only [Act.put, List.setIfInBounds_toArray, List.set_cons_zero, List.set_cons_succ])
  (refine still_yes ?v10 (by kernel_rfl) ?y10 ?z10; case y10 => (go_simp; (try (rw [if_neg (by omega)])); (try (rw [if_pos (by omega)])); (try with_reducible rfl)))
  (try simp only [Act.put, List.setIfInBounds_toArray, List.set_cons_zero, List.set_cons_succ])
  (refine still_yes ?v11 (by kernel_rfl) ?y11 ?z11; case y11 => (go_simp; (try (rw [if_neg (by omega)])); (try (rw [if_pos (by omega)])); (try with_reducible rfl)))
  (try simp only [Act.put, List.setIfInBounds_toArray, List.set_cons_zero, List.set_cons_succ])
  (refine still_yes ?v12 (by kernel_rfl) ?y12 ?z12; case y12 => (go_simp; (try (rw [if_neg (by omega)])); (try (rw [if_pos (by omega)])); (try with_reducible rfl)))
  (try simp only [Act.put, List.setIfInBounds_toArray, List.set_cons_zero, List.set_cons_succ])
  refine wpStill_nil ?_
  have hcap := hL.cap
  have hcap1 : m + 1 ≤ cap := by rw [HN.out]; exact hcap
  have hcap2 : m ≤ cap := by omega
  have HCUT : Hid (((es.set i (HP.at' es m)).set m (ByteArray.empty, 0)).take m = HP.cut es i) := Lib.hid (by unfold HP.cut; rw [show es.length - 1 = m by have := HN.out; omega, List.take_set_of_le (Nat.le_refl m)])
  clear hcap
  have hLd : Live w.drew h c fall es came (.slice (some ⟨g, 0, none⟩) (m + 1) cap) := hL
  clear f0 f1
  by_cases him2 : i < m
  · go_wp2_with (first
      | (refine wpList_store_ent rfl _ _ rfl hLd i hi (HP.at' es m) rfl rfl ?_; intro w3 hL3 hT3 hs3; have c3 : w3.cell? ⟨h, 1, none⟩ = some (.slice (some ⟨g, 0, none⟩) (m + 1) cap) := (by rw [cell_of_row _ _ _ _ _ _ hL3.2.1]; rfl))
      | (refine wpList_store_ent rfl _ _ rfl hL3 m (by rw [List.length_set]; exact hml) (ByteArray.empty, 0) rfl rfl ?_; intro w4 hL4 hT4 hs4; have c4 : w4.cell? ⟨h, 1, none⟩ = some (.slice (some ⟨g, 0, none⟩) (m + 1) cap) := (by rw [cell_of_row _ _ _ _ _ _ hL4.2.1]; rfl); have z4 : w4.frozen? ⟨h, 1, none⟩ = false := (by simp [World.frozen?, hL4.2.1])))
    have hT24 := hT3.undrew.trans hT4
    have hL5 := hL4.shrink m (by simp; omega)
    have hT5 := hT24.trans (Tch.setCell_h (w := w4) h 1 (.slice (some ⟨g, 0, none⟩) m cap) (some g))
    rw [HCUT.out] at hL5
    have hcl : (HP.cut es i).length = m := by rw [HP.cut_length, ← HN.out]; rfl
    have hQ : HP.Loose (aheadP fall) (HP.cut es i) i := HP.HO.cut (aheadP_ord fall) HH.out (by rw [← HN.out]; exact him2)
    have hb5' : (HP.cut es i).length ≤ 140737488351232 := by omega
    refine (up_any h c g cap m fall (HP.cut es i) came i _ hL5 (by omega) hcl.symm hb5' hQ).mono ?_
    rintro e w6 ⟨es1, rfl, hL6, hP6, hT6, hU6⟩
    have hl6 := hP6.length_eq
    have hS : HP.Sinking (aheadP fall) es1 i := by
      rcases hU6 with ⟨rfl, hU⟩ | hU
      · exact HP.loose_sinking hQ hU
      · exact hU.sinking (aheadP_ord fall) i (by omega)
    clear hU6
    go_wp2_with fail
    refine (down_any h c g cap m fall es1 came i _ hL6 (by omega) (by omega) (by omega) hS).mono ?_
    rintro e w7 ⟨es2, rfl, hL7, hP7', hT7', hH7⟩
    have hT7 := hT5.trans (hT6.trans hT7')
    have hP7 := hP7'.trans hP6
    clear hS hT7' hT6 hT5 hL5 hL6 hP6 hT24 hT3 hT4 hL3 hL4 hLd c3 c4 z4 c1
    go_wp2_with fail
    have hl7 := hP7.length_eq
    go_ret
    refine ⟨_, rfl, ?_, (HP.cut_perm hi).trans (.cons _ hP7.symm), hH7, hT7⟩
    rw [show (es2).length = m by rw [hl7]; exact hcl]
    exact hL7
  · go_wp2_with (first
      | (refine wpList_store_ent rfl _ _ rfl hLd i hi (HP.at' es m) rfl rfl ?_; intro w3 hL3 hT3 hs3; have c3 : w3.cell? ⟨h, 1, none⟩ = some (.slice (some ⟨g, 0, none⟩) (m + 1) cap) := (by rw [cell_of_row _ _ _ _ _ _ hL3.2.1]; rfl))
      | (refine wpList_store_ent rfl _ _ rfl hL3 m (by rw [List.length_set]; exact hml) (ByteArray.empty, 0) rfl rfl ?_; intro w4 hL4 hT4 hs4; have c4 : w4.cell? ⟨h, 1, none⟩ = some (.slice (some ⟨g, 0, none⟩) (m + 1) cap) := (by rw [cell_of_row _ _ _ _ _ _ hL4.2.1]; rfl); have z4 : w4.frozen? ⟨h, 1, none⟩ = false := (by simp [World.frozen?, hL4.2.1])))
    have hT24 := hT3.undrew.trans hT4
    have hL5 := hL4.shrink m (by simp; omega)
    have hT5 := hT24.trans (Tch.setCell_h (w := w4) h 1 (.slice (some ⟨g, 0, none⟩) m cap) (some g))
    rw [HCUT.out] at hL5
    have hcl : (HP.cut es i).length = m := by rw [HP.cut_length, ← HN.out]; rfl
    have hH7 : HP.HO (aheadP fall) (HP.cut es i) := by
      have := HH.out.cut_last (by omega)
      rwa [show es.length - 1 = i by have := HN.out; omega] at this
    have hP7 : (HP.cut es i).Perm (HP.cut es i) := .refl _
    have hT7 := hT5
    have hL7 := hL5
    have hl7 := hP7.length_eq
    go_ret
    refine ⟨_, rfl, ?_, (HP.cut_perm hi).trans (.cons _ hP7.symm), hH7, hT7⟩
    rw [show (HP.cut es i).length = m by rw [hl7]; exact hcl]
    exact hL7
end Go.Proofs.Ytffioombjejchaa.St
