/- prio: texts in order, in plain Lean; rows of texts; SameTexts and every by contract. -/
import Derived.Test.YtffioombjejchaaStN
import Derived.Test.YtffioombjejchaaHeapsA
namespace Go.Proofs.Ytffioombjejchaa.St
set_option linter.unusedVariables false
set_option linter.unusedSimpArgs false
open Go.RowKit
attribute [local irreducible] Go.wpStill

theorem first_lt {fall : Bool} {p : Str → Bool} {ps : List Str} : ∀ b, PP.first fall p ps = some b → b < ps.length := fun b h => (PP.best_lt h).1
theorem sort_step {fall : Bool} {ps : List Str} {b : Nat} (h : PP.first fall PP.all ps = some b) : PP.sorted fall ps = ps.getD b default :: PP.sorted fall (ps.eraseIdx b) := by
  have hb := first_lt b h
  unfold PP.sorted
  rw [List.length_eraseIdx_of_lt hb]
  obtain ⟨n, hn⟩ : ∃ n, ps.length = n + 1 := ⟨ps.length - 1, by omega⟩
  rw [hn, PP.sort, h, Nat.add_sub_cancel]
theorem first_some {fall : Bool} {ps : List Str} (h : 0 < ps.length) : ∃ b, PP.first fall PP.all ps = some b := by
  cases hb : PP.first fall PP.all ps with
  | none =>
    have := PP.best_none hb 0 h
    cases this
  | some b => exact ⟨b, rfl⟩
theorem getD_at {ps : List Str} {i : Nat} (h : i < ps.length) : ps.getD i default = ps[i] := by simp [List.getD_eq_getElem?_getD, h]
theorem sorted_perm (fall : Bool) (ps : List Str) : (PP.sorted fall ps).Perm ps := by
  generalize hn : ps.length = n
  induction n generalizing ps with
  | zero => rw [List.length_eq_zero_iff.1 hn]; exact .refl _
  | succ n ih =>
    obtain ⟨b, hb⟩ := first_some (fall := fall) (ps := ps) (by omega)
    have hbl := first_lt b hb
    rw [sort_step hb, getD_at hbl]
    exact ((ih _ (by rw [List.length_eraseIdx_of_lt hbl]; omega)).cons _).trans (PP.erase_perm ps b hbl)
theorem sorted_len (fall : Bool) (ps : List Str) : (PP.sorted fall ps).length = ps.length := (sorted_perm fall ps).length_eq
theorem first_min {fall : Bool} {ps : List Str} {b : Nat} (h : PP.first fall PP.all ps = some b) : (∀ x, x ∈ ps → (ps.getD b default).size ≤ x.size) ∧ ∀ j, j < b → (ps.getD b default).size < (ps.getD j default).size := by
  have hbl := first_lt b h
  have h1 := fun j (hj : j < ps.length) => PP.best_le h j hj rfl
  refine ⟨fun x hx => ?_, fun j hj => ?_⟩
  · obtain ⟨j, hj, rfl⟩ := List.mem_iff_getElem.1 hx
    have := (h1 j hj).1
    rw [getD_at hj] at this
    have h2 : ¬ (ps[j].size < (ps.getD b default).size) := of_decide_eq_false this
    omega
  · exact of_decide_eq_true ((h1 j (by omega)).2 hj)
theorem sorted_pair (fall : Bool) (ps : List Str) : (PP.sorted fall ps).Pairwise fun a b => a.size ≤ b.size := by
  generalize hn : ps.length = n
  induction n generalizing ps with
  | zero => rw [List.length_eq_zero_iff.1 hn]; exact .nil
  | succ n ih =>
    obtain ⟨b, hb⟩ := first_some (fall := fall) (ps := ps) (by omega)
    have hbl := first_lt b hb
    rw [sort_step hb]
    refine .cons (fun y hy => ?_) (ih _ (by rw [List.length_eraseIdx_of_lt hbl]; omega))
    exact (first_min hb).1 y (List.mem_of_mem_eraseIdx ((sorted_perm fall _).mem_iff.1 hy))
def ofLen (m : Nat) (s : Str) : Bool := decide (s.size = m)
theorem sorted_filter (fall : Bool) (m : Nat) (ps : List Str) : (PP.sorted fall ps).filter (ofLen m) = ps.filter (ofLen m) := by
  generalize hn : ps.length = n
  induction n generalizing ps with
  | zero => rw [List.length_eq_zero_iff.1 hn]; rfl
  | succ n ih =>
    obtain ⟨b, hb⟩ := first_some (fall := fall) (ps := ps) (by omega)
    have hbl := first_lt b hb
    have hmin := (first_min hb).2
    rw [sort_step hb, List.filter_cons, ih _ (by rw [List.length_eraseIdx_of_lt hbl]; omega), List.eraseIdx_eq_take_drop_succ, List.filter_append]
    have e1 : ps = ps.take b ++ (ps.getD b default :: ps.drop (b + 1)) := by rw [getD_at hbl, ← List.drop_eq_getElem_cons hbl, List.take_append_drop]
    have e2 : ps.filter (ofLen m) = (ps.take b).filter (ofLen m) ++ ((ps.getD b default) :: ps.drop (b + 1)).filter (ofLen m) := by
      conv => lhs; rw [e1]
      rw [List.filter_append]
    rw [e2, List.filter_cons]
    by_cases h : ofLen m (ps.getD b default) = true
    · rw [if_pos h, if_pos h]
      have h0 : (ps.take b).filter (ofLen m) = [] := by
        rw [List.filter_eq_nil_iff]
        intro x hx
        obtain ⟨j, hj, rfl⟩ := List.mem_iff_getElem.1 hx
        rw [List.length_take] at hj
        have hjb : j < b := by omega
        have h1 := hmin j hjb
        rw [getD_at (i := j) (by omega)] at h1
        have h2 : (ps.getD b default).size = m := of_decide_eq_true h
        rw [List.getElem_take]
        unfold ofLen
        simp
        omega
      rw [h0]; rfl
    · rw [if_neg h, if_neg h]

/-- a list of texts -/
def ReadsX (w : World) (v : Value) (ls : List Str) : Prop :=
  ls.length < 4611686018427387904 ∧ ∃ ao cap, v = .slice ao ls.length cap ∧ ∀ (i : Nat) (s : Str), ls[i]? = some s → ∃ g o, ao = some ⟨g, o, none⟩ ∧ w.cell? ⟨g, o + i, none⟩ = some (.string s)
theorem cell_lt {w : World} {g o : Nat} {v : Value} (h : w.cell? ⟨g, o, none⟩ = some v) : g < w.heap.size := World.block_lt_of_cell? w _ h
theorem ReadsX.kept {w w' : World} {v : Value} {ls : List Str} (h : ReadsX w v ls) (hk : ∀ k, k < w.heap.size → w'.heap[k]? = w.heap[k]?) : ReadsX w' v ls := by
  obtain ⟨hl, ao, cap, hv, hr⟩ := h
  refine ⟨hl, ao, cap, hv, fun i x hx => ?_⟩
  obtain ⟨g, o, hg, hc⟩ := hr i x hx
  exact ⟨g, o, hg, (cell_kept (hk g (cell_lt hc))).trans hc⟩
theorem ReadsX.below {w w' : World} {v : Value} {ls : List Str} (h : ReadsX w v ls) (hb : Below w.heap.size w w') : ReadsX w' v ls := h.kept hb.block
theorem flatT_get (ps : List Str) (i : Nat) : (flatT ps)[i]? = (ps[i]?).map .string := by
  induction ps generalizing i with
  | nil => simp [flatT]
  | cons p ps ih =>
    have e1 : flatT (p :: ps) = .string p :: flatT ps := rfl
    cases i with
    | zero => simp [e1]
    | succ i => rw [e1, List.getElem?_cons_succ, List.getElem?_cons_succ, ih]
theorem own_readsX {w : World} {B : Nat} {v : Value} {n : Nat} {ls : List Str} (h : w.ownsRow B 9 1 v n (flatT ls)) (hn : n = ls.length) (hl : ls.length < 4611686018427387904) : ReadsX w v ls := by
  subst hn
  refine ⟨hl, ?_⟩
  rcases h.2 with ⟨rfl, h0⟩ | ⟨g, cap, cur, rfl, hg, hh, hn, hm, hs, ht⟩
  · exact ⟨none, 0, by rw [h0], fun i p hp => by rw [List.length_eq_zero_iff.1 h0] at hp; simp at hp⟩
  · refine ⟨_, cap, rfl, fun i s hx => ⟨g, 0, rfl, ?_⟩⟩
    have hi := (List.getElem?_eq_some_iff.1 hx).1
    have h1 := flatT_get ls i
    rw [hx, ← ht, List.getElem?_take_of_lt (by omega)] at h1
    rw [cell_of_row _ _ _ _ _ _ hh, Nat.zero_add]
    simpa using h1
/-- one more text behind a row -/
theorem push_text {w : World} {B n : Nat} {v : Value} {ls : List Str} (a : w.ownsRow B 9 1 v n (flatT ls)) (hn : n = ls.length) (hB : B ≤ w.heap.size) (s : Str) (b cc : Nat) (hx : w.heap[b]? = some (.cells #[.string s] 9 (0, 0))) (hl : (ls.length + 1) * 16 ≤ 140737488355328) :
    ∃ v' w', (Builtin.append_ #[50, 50] 50 #[v, .slice (some ⟨b, 0, none⟩) 1 cc]).run Try.prog w = .ok v' w' ∧ w'.ownsRow B 9 1 v' (ls ++ [s]).length (flatT (ls ++ [s])) ∧ w.grownBy w' v.ownBlock ∧ (v'.ownBlock = v.ownBlock ∨ ∀ k, v'.ownBlock = some k → w.heap.size ≤ k) := by
  subst hn
  obtain ⟨i0, hi1, hi2, hi3, hi4⟩ := infoT
  obtain ⟨v', w', hr, ho, hg, hrow⟩ := append_own (P := Try.prog) w B 50 50 9 i0 _ 1 16 Try.underlying50 hi1 hi2 hi3 hi4 rfl (by omega) v ls.length (flatT ls) a ⟨b, 0, none⟩ 1 cc [.string s] rfl (fun j u hj => by
    have hadd : (⟨b, 0, none⟩ : Addr).add j = ⟨b, j, none⟩ := by unfold Addr.add; split <;> simp_all
    rw [hadd, cell_of_row _ _ _ _ _ _ hx]
    rcases j with _ | j <;> simp at hj ⊢
    exact hj) (fun u hu => by simp at hu; subst hu; rfl) (by unfold maxLen; omega) hl hB
  refine ⟨v', w', hr, ?_, hg, hrow⟩
  rw [flatT_snoc, List.length_append]
  exact ho
set_option maxRecDepth 100000 in
theorem every_any (s : Str) (w : World) : Calls Try.prog 36 #[.string s] w (RetB true w) := by
  go_enter Try.func36, Try.ntmps36
  go_wp2_with fail
  go_ret
  exact ⟨rfl, Below.refl _ _⟩
theorem asks_every (w : World) : Asks (.func (.func 36) #[] #[]) PP.all w :=
  ⟨_, _, rfl, fun args w => by go_simp, fun w' x _ => every_any x w'⟩
set_option maxRecDepth 100000 in
set_option maxHeartbeats 2000000 in
theorem sameTexts_any (va vb : Value) (a : List Str) (w : World) (ha : ReadsX w va a) (hb : ReadsX w vb a) : Calls Try.prog 32 #[va, vb] w (RetB true w) := by
  obtain ⟨hla, ao, ca, rfl, hra⟩ := id ha
  obtain ⟨hlb, bo, cb, rfl, hrb⟩ := id hb
  have HA := Lib.hid ha
  have HB := Lib.hid hb
  clear ha hb hra hrb
  go_enter Try.func32, Try.ntmps32
  go_wp2_with fail
  go_loopw [5] (fun iv wr => ∃ k : Nat, k ≤ a.length ∧ iv = .int .i64 k ∧ Below w.heap.size w wr) (fun iv _ => a.length - (intOf iv).toNat)
  case atStart => exact ⟨0, by omega, rfl, Below.refl _ _⟩
  case round =>
    obtain ⟨k, hk, rfl, hW⟩ := hrel
    by_cases hlt : k < a.length
    · obtain ⟨s, hs⟩ : ∃ s, a[k]? = some s := ⟨_, List.getElem?_eq_getElem hlt⟩
      obtain ⟨_, aa, ca', hva, hra⟩ := (HA.out.below hW)
      obtain ⟨_, ab, cb', hvb, hrb⟩ := (HB.out.below hW)
      injection hva with h1 h2 h3
      injection hvb with h4 h5 h6
      subst h1
      subst h4
      obtain ⟨ga, oa, rfl, hca⟩ := hra k s hs
      obtain ⟨gb, ob, rfl, hcb⟩ := hrb k s hs
      clear h2 h3 h5 h6 hra hrb hs
      go_wp2_with fail
      refine wp_region_still_tail 8 (by kernel_rfl) (by kernel_rfl) ?_
      simp only [List.take_succ_cons, List.take_zero, List.drop_succ_cons, List.drop_zero]
      refine (fun (Hst : wpStill _ _ (World.drew _) (fun a' => wpList _ _ _ _ a' (World.drew _)) _ _) => Hst) ?_
      (refine still_yes ?v1 (by kernel_rfl) ?y1 ?z1; case y1 => (go_simp; (try (rw [if_neg (by omega)])); (try (rw [if_pos (by omega)])); (try with_reducible rfl)))
      (try simp only [Act.put, List.setIfInBounds_toArray, List.set_cons_zero, List.set_cons_succ])
      (refine still_yes ?v2 (by kernel_rfl) ?y2 ?z2; case y2 => (go_simp; (try (rw [if_neg (by omega)])); (try (rw [if_pos (by omega)])); (try with_reducible rfl)))
      (try simp only [Act.put, List.setIfInBounds_toArray, List.set_cons_zero, List.set_cons_succ])
      (refine still_yes ?v3 (by kernel_rfl) ?y3 ?z3; case y3 => (go_simp; (try (rw [if_neg (by omega)])); (try (rw [if_pos (by omega)])); (try with_reducible rfl)))
      (try simp only [Act.put, List.setIfInBounds_toArray, List.set_cons_zero, List.set_cons_succ])
      (refine still_yes ?v4 (by kernel_rfl) ?y4 ?z4; case y4 => (go_simp; (try (rw [if_neg (by omega)])); (try (rw [if_pos (by omega)])); (try with_reducible rfl)))
      (try simp only [Act.put, List.setIfInBounds_toArray, List.set_cons_zero, List.set_cons_succ])
      (refine still_yes ?v5 (by kernel_rfl) ?y5 ?z5; case y5 => (go_simp; (try (rw [if_neg (by omega)])); (try (rw [if_pos (by omega)])); (try with_reducible rfl)))
      (try simp only [Act.put, List.setIfInBounds_toArray, List.set_cons_zero, List.set_cons_succ])
      (refine still_yes ?v6 (by kernel_rfl) ?y6 ?z6; case y6 => (go_simp; (try (rw [if_neg (by omega)])); (try (rw [if_pos (by omega)])); (try with_reducible rfl)))
      (try simp only [Act.put, List.setIfInBounds_toArray, List.set_cons_zero, List.set_cons_succ])
      (refine still_yes ?v7 (by kernel_rfl) ?y7 ?z7; case y7 => (go_simp; (try (rw [if_neg (by omega)])); (try (rw [if_pos (by omega)])); (try with_reducible rfl)))
      (try simp only [Act.put, List.setIfInBounds_toArray, List.set_cons_zero, List.set_cons_succ])
      (refine still_yes ?v8 (by kernel_rfl) ?y8 ?z8; case y8 => (go_simp; (try (rw [if_neg (by omega)])); (try (rw [if_pos (by omega)])); (try with_reducible rfl)))
      (try simp only [Act.put, List.setIfInBounds_toArray, List.set_cons_zero, List.set_cons_succ])
      refine wpStill_nil ?_
      go_wp2_with fail
      exact ⟨⟨k + 1, by omega, by go_num, hW.drew⟩, by simp [intOf]; omega⟩
    · have hke : k = a.length := by omega
      go_wp2_with fail
      go_ret
      exact ⟨rfl, hW⟩
/-- a heap stands behind what another heap does -/
theorem HeapP.apart {w w' : World} {h c n h2 c2 n2 : Nat} {fall f2 : Bool} {ps ps2 : List Str} {r r' r2 : Option Nat} (a : HeapP w h2 c2 f2 ps2 n2 r2) (A : HeapP w h c fall ps n r) (T : Tch w w' h r r') (hne : h2 ≠ h) (hr : ∀ q, r = some q → r2 = some q → False) : HeapP w' h2 c2 f2 ps2 n2 r2 := by
  obtain ⟨es, L, ⟨sl, hsl, hL, hH⟩, hrest⟩ := a
  obtain ⟨es', L', ⟨sl', hsl', hL', _⟩, _⟩ := id A
  have hent : ∀ q, r = some q → ∃ cs, w.heap[q]? = some (.cells cs 78 (0, 0)) := fun q hq => own_type hL'.2.2 (hsl'.trans hq)
  refine ⟨es, L, ⟨sl, hsl, ⟨hL.1.kept fun k hk v t ht hv => T.block k (lt_of_block hv) (fun e => ?_) (fun e => ?_), ?_, ?_⟩, hH⟩, hrest⟩
  · subst e
    rw [hL'.2.1] at hv
    injection hv with hv
    injection hv with hv
    have := congrArg Array.size hv
    simp at this
  · obtain ⟨cs, hc⟩ := hent k e.symm
    rw [hv] at hc
    injection hc with hc
    injection hc with _ hc
    exact ht hc
  · refine (T.block h2 (lt_of_block hL.2.1) hne (fun e => ?_)).trans hL.2.1
    obtain ⟨cs, hc⟩ := hent h2 e.symm
    exact row_ne hL.2.1 hc (by decide) rfl
  · refine World.ownsRow_congr hL.2.2 fun k hk => ?_
    obtain ⟨cs, hc⟩ := own_type hL.2.2 hk
    refine T.block k (lt_of_block hc) (fun e => ?_) (fun e => hr k e.symm (hsl.symm.trans hk))
    subst e
    exact row_ne hL'.2.1 hc (by decide) rfl
/-- a row of texts stands behind what a heap does -/
theorem own_beside {w w' : World} {B h c n k : Nat} {fall : Bool} {ps : List Str} {r r' : Option Nat} {v : Value} {xs : List Value} (ho : w.ownsRow B 9 1 v k xs) (hA : HeapP w h c fall ps n r) (hT : Tch w w' h r r') : w'.ownsRow B 9 1 v k xs := by
  obtain ⟨es, L, hE, _⟩ := hA
  exact own_tch ho hE hT
theorem HeapP.rlt {w : World} {h c n q : Nat} {fall : Bool} {ps : List Str} {r : Option Nat} (a : HeapP w h c fall ps n r) (hq : r = some q) : q < w.heap.size := by
  obtain ⟨es, L, ⟨sl, hsl, hL, _⟩, _⟩ := a
  obtain ⟨cs, hc⟩ := own_type hL.2.2 (hsl.trans hq)
  exact lt_of_block hc
end Go.Proofs.Ytffioombjejchaa.St
