/- prio: '==' of pairs; SameTwos by contract. -/
import Derived.Test.YtffioombjejchaaPrioK
namespace Go.Proofs.Ytffioombjejchaa
set_option linter.unusedVariables false
set_option linter.unusedSimpArgs false
open Go.RowKit
attribute [local irreducible] Go.wpStill

theorem eqPair (p q : Pair) (w : World) : (Op.equalIn 10000 25 (.agg #[.int .i64 p.1, .int .i64 p.2]) (.agg #[.int .i64 q.1, .int .i64 q.2])).run Try.prog w = .ok (decide (p = q)) w := by
  obtain ⟨i, hi⟩ : ∃ i, Try.prog.info? 3 = some i := Option.isSome_iff_exists.1 (by kernel_rfl)
  rw [run_equalIn_array w 9999 _ _ Try.underlying25 hi]
  have hc : Try.prog.cellsOf 3 = 1 := by kernel_rfl
  have he : Try.prog.plainKey 3 = true := by kernel_rfl
  have e0 := run_part_plain (P := Try.prog) w he (off := 0) (xs := #[.int .i64 p.1, .int .i64 p.2]) (v := .int .i64 p.1) rfl
  have e1 := run_part_plain (P := Try.prog) w he (off := 1) (xs := #[.int .i64 p.1, .int .i64 p.2]) (v := .int .i64 p.2) rfl
  have f0 := run_part_plain (P := Try.prog) w he (off := 0) (xs := #[.int .i64 q.1, .int .i64 q.2]) (v := .int .i64 q.1) rfl
  have f1 := run_part_plain (P := Try.prog) w he (off := 1) (xs := #[.int .i64 q.1, .int .i64 q.2]) (v := .int .i64 q.2) rfl
  have g : ∀ a b : Int, (Op.equalIn 9999 3 (.int .i64 a) (.int .i64 b)).run Try.prog w = .ok (a == b) w := fun a b => run_equalIn_int w 9998 _ _ _ _ _ Try.underlying3
  have hl : List.range 2 = [0, 1] := rfl
  rw [hl]
  simp only [Op.eqItems, hc, Nat.zero_mul, Nat.one_mul, Sem.run_bind, e0, e1, f0, f1, g, Result.andThen_ok]
  by_cases h1 : p.1 = q.1
  · by_cases h2 : p.2 = q.2
    · have : p = q := Prod.ext h1 h2
      simp [h1, h2, e1, f1, g, this, Sem.run_bind, Result.andThen_ok]
    · have : p ≠ q := fun h => h2 (by rw [h])
      rw [h1] at e1
      simp [h1, h2, e1, f1, g, this, Sem.run_bind, Result.andThen_ok]
  · have : p ≠ q := fun h => h1 (by rw [h])
    simp [h1, this]

/-- a slice that reads as a list of pairs -/
def ReadsT (w : World) (v : Value) (ps : List Pair) : Prop :=
  ps.length < 4611686018427387904 ∧ ∃ ao cap, v = .slice ao ps.length cap ∧ ∀ (i : Nat) (p : Pair), ps[i]? = some p → ∃ g, ao = some ⟨g, 0, none⟩ ∧ w.rangeAt g (i * 2) [.int .i64 p.1, .int .i64 p.2]
theorem flatT_at (ps : List Pair) (i : Nat) (p : Pair) (h : ps[i]? = some p) : (flatT ps)[i * 2]? = some (.int .i64 p.1) ∧ (flatT ps)[i * 2 + 1]? = some (.int .i64 p.2) := by
  induction ps generalizing i with
  | nil => simp at h
  | cons q ps ih =>
    rcases i with _ | i
    · simp at h; subst h; exact ⟨rfl, rfl⟩
    · have := ih i (by simpa using h)
      have e1 : flatT (q :: ps) = .int .i64 q.1 :: .int .i64 q.2 :: flatT ps := rfl
      rw [e1, show (i + 1) * 2 = i * 2 + 1 + 1 from by omega, show i * 2 + 1 + 1 + 1 = (i * 2 + 1) + 1 + 1 from rfl]
      simp only [List.getElem?_cons_succ]
      exact this
theorem ReadsT.kept {w w' : World} {v : Value} {ps : List Pair} (h : ReadsT w v ps) (hk : ∀ k, k < w.heap.size → w'.heap[k]? = w.heap[k]?) : ReadsT w' v ps := by
  obtain ⟨hl, ao, cap, hv, hr⟩ := h
  refine ⟨hl, ao, cap, hv, fun i p hp => ?_⟩
  obtain ⟨g, hg, hc⟩ := hr i p hp
  refine ⟨g, hg, fun j v hv => ?_⟩
  have := hc j v hv
  rw [← this]
  have hlt : g < w.heap.size := by
    rcases Nat.lt_or_ge g w.heap.size with h | h
    · exact h
    · simp [World.cell?, Array.getElem?_eq_none h] at this
  simp only [World.cell?, hk g hlt]
theorem ReadsT.below {w w' : World} {v : Value} {ps : List Pair} (h : ReadsT w v ps) (hb : Below w.heap.size w w') : ReadsT w' v ps := h.kept hb.block
theorem own_readsT {w : World} {B : Nat} {v : Value} {n : Nat} {ps : List Pair} (h : w.ownsRow B 25 2 v n (flatT ps)) (hn : n = ps.length) (hl : ps.length < 4611686018427387904) : ReadsT w v ps := by
  subst hn
  refine ⟨hl, ?_⟩
  rcases h.2 with ⟨rfl, h0⟩ | ⟨g, cap, cur, rfl, hg, hh, hn, hm, hs, ht⟩
  · exact ⟨none, 0, by rw [h0], fun i p hp => by rw [List.length_eq_zero_iff.1 h0] at hp; simp at hp⟩
  · refine ⟨_, cap, rfl, fun i p hp => ⟨g, rfl, fun j v hv => ?_⟩⟩
    have hi := (List.getElem?_eq_some_iff.1 hp).1
    obtain ⟨h1, h2⟩ := flatT_at ps i p hp
    rw [← ht] at h1 h2
    rw [List.getElem?_take_of_lt (by omega)] at h1 h2
    rw [cell_of_row _ _ _ _ _ _ hh]
    rcases j with _ | _ | j <;> simp at hv h1 h2 ⊢
    · rw [← hv]; exact h1
    · rw [← hv]; exact h2
def FixB (b : Bool) (w : World) (e : Ending) (w' : World) : Prop := e = .returned (.bool b) ∧ Below w.heap.size w w'
set_option maxRecDepth 100000 in
set_option maxHeartbeats 2000000 in
theorem sameTwos_any (va vb : Value) (a b : List Pair) (w : World) (ha : ReadsT w va a) (hb : ReadsT w vb b) : Calls Try.prog 23 #[va, vb] w (FixB (decide (a = b)) w) := by
  obtain ⟨hla, ao, ca, rfl, hra⟩ := id ha
  obtain ⟨hlb, bo, cb, rfl, hrb⟩ := id hb
  have HA := Lib.hid ha
  have HB := Lib.hid hb
  clear ha hb hra hrb
  go_enter Try.func23, Try.ntmps23
  by_cases hl : a.length = b.length
  · have HL := Lib.hid hl
    go_wp2_with fail
    go_loopw [5] (fun iv wr => ∃ k : Nat, k ≤ a.length ∧ iv = .int .i64 k ∧ a.take k = b.take k ∧ Below w.heap.size w wr) (fun iv _ => a.length - (intOf iv).toNat)
    case atStart => exact ⟨0, by omega, rfl, rfl, Below.refl _ _⟩
    case round =>
      obtain ⟨k, hk, rfl, hT, hW⟩ := hrel
      have HT := Lib.hid hT
      clear hT
      by_cases hlt : k < a.length
      · obtain ⟨pa, hpa⟩ : ∃ pa, a[k]? = some pa := ⟨_, List.getElem?_eq_getElem hlt⟩
        obtain ⟨pb, hpb⟩ : ∃ pb, b[k]? = some pb := ⟨_, List.getElem?_eq_getElem (by omega)⟩
        obtain ⟨_, aa, ca', hva, hra⟩ := (HA.out.below hW)
        obtain ⟨_, ab, cb', hvb, hrb⟩ := (HB.out.below hW)
        injection hva with h1 h2 h3
        injection hvb with h4 h5 h6
        subst h1
        subst h4
        obtain ⟨ga, rfl, hca⟩ := hra k pa hpa
        obtain ⟨gb, rfl, hcb⟩ := hrb k pb hpb
        have hlt2 : k < b.length := by omega
        clear h2 h3 h5 h6 hra hrb
        have ht1 : a.take (k + 1) = a.take k ++ [pa] := by rw [List.take_add_one, hpa]; rfl
        have ht2 : b.take (k + 1) = b.take k ++ [pb] := by rw [List.take_add_one, hpb]; rfl
        cases hq : decide (pa = pb)
        · have hab : decide (a = b) = false := by
            simp at hq ⊢
            intro h
            rw [h, hpb] at hpa
            injection hpa with hpa
            exact hq hpa.symm
          have HQ := Lib.hid hq
          have HT1 := Lib.hid ht1
          have HT2 := Lib.hid ht2
          have HAB := Lib.hid hab
          clear hab hq hpa hpb ht1 ht2
          go_wp2_with fail
          refine wp_region_still_tail 8 (by kernel_rfl) (by kernel_rfl) ?_
          simp only [List.take_succ_cons, List.take_zero, List.drop_succ_cons, List.drop_zero]
          refine (fun (Hst : wpStill _ _ (World.drew _) (fun a' => wpList _ _ _ _ a' (World.drew _)) _ _) => Hst) ?_
          (refine still_yes ?v1 (by kernel_rfl) ?y1 ?z1; case y1 => (go_simp; (try (rw [if_neg (by omega)])); (try (rw [if_pos (by omega)])); (try with_reducible rfl)))
          (try simp only [Act.put, List.setIfInBounds_toArray, List.set_cons_zero, List.set_cons_succ])
          (refine still_yes ?v2 (by kernel_rfl) ?y2 ?z2; case y2 => (go_simp; (try (rw [if_neg (by omega)])); (try (rw [if_pos (by omega)])); (try with_reducible rfl)))
          (try simp only [Act.put, List.setIfInBounds_toArray, List.set_cons_zero, List.set_cons_succ])
          (refine still_yes ?v3 (by kernel_rfl) ?y3 ?z3; case y3 => (go_simp; (try (rw [if_neg (by omega)])); (try (rw [if_pos (by omega)])); (try with_reducible rfl)))
          (try simp only [Act.put, List.setIfInBounds_toArray, List.set_cons_zero, List.set_cons_succ])
          refine still_yes _ (by kernel_rfl) (exec_load_mid hca rfl rfl Try.underlying25 rfl (by kernel_rfl)) ?_
          (try simp only [Act.put, List.setIfInBounds_toArray, List.set_cons_zero, List.set_cons_succ])
          (refine still_yes ?v4 (by kernel_rfl) ?y4 ?z4; case y4 => (go_simp; (try (rw [if_neg (by omega)])); (try (rw [if_pos (by omega)])); (try with_reducible rfl)))
          (try simp only [Act.put, List.setIfInBounds_toArray, List.set_cons_zero, List.set_cons_succ])
          (refine still_yes ?v5 (by kernel_rfl) ?y5 ?z5; case y5 => (go_simp; (try (rw [if_neg (by omega)])); (try (rw [if_pos (by omega)])); (try with_reducible rfl)))
          (try simp only [Act.put, List.setIfInBounds_toArray, List.set_cons_zero, List.set_cons_succ])
          (refine still_yes ?v6 (by kernel_rfl) ?y6 ?z6; case y6 => (go_simp; (try (rw [if_neg (by omega)])); (try (rw [if_pos (by omega)])); (try with_reducible rfl)))
          (try simp only [Act.put, List.setIfInBounds_toArray, List.set_cons_zero, List.set_cons_succ])
          refine still_yes _ (by kernel_rfl) (exec_load_mid hcb rfl rfl Try.underlying25 rfl (by kernel_rfl)) ?_
          (try simp only [Act.put, List.setIfInBounds_toArray, List.set_cons_zero, List.set_cons_succ])
          refine wpStill_nil ?_
          refine wpList_val (.bool true) (by kernel_rfl) (exec_neq_val (r := false) rfl rfl rfl (by kernel_rfl) (fun w => by rw [eqPair pa pb w, HQ.out]) rfl) ?_
          (try simp only [Act.put, List.setIfInBounds_toArray, List.set_cons_zero, List.set_cons_succ])
          go_wp2_with fail
          go_ret
          exact ⟨by rw [HAB.out]; rfl, hW.drew⟩
        · have heq : a.take (k + 1) = b.take (k + 1) := by
            have : pa = pb := by simpa using hq
            rw [ht1, ht2, HT.out, this]
          have HQ := Lib.hid hq
          have HE := Lib.hid heq
          clear heq hq hpa hpb ht1 ht2
          go_wp2_with fail
          refine wp_region_still_tail 8 (by kernel_rfl) (by kernel_rfl) ?_
          simp only [List.take_succ_cons, List.take_zero, List.drop_succ_cons, List.drop_zero]
          refine (fun (Hst : wpStill _ _ (World.drew _) (fun a' => wpList _ _ _ _ a' (World.drew _)) _ _) => Hst) ?_
          (refine still_yes ?v7 (by kernel_rfl) ?y7 ?z7; case y7 => (go_simp; (try (rw [if_neg (by omega)])); (try (rw [if_pos (by omega)])); (try with_reducible rfl)))
          (try simp only [Act.put, List.setIfInBounds_toArray, List.set_cons_zero, List.set_cons_succ])
          (refine still_yes ?v8 (by kernel_rfl) ?y8 ?z8; case y8 => (go_simp; (try (rw [if_neg (by omega)])); (try (rw [if_pos (by omega)])); (try with_reducible rfl)))
          (try simp only [Act.put, List.setIfInBounds_toArray, List.set_cons_zero, List.set_cons_succ])
          (refine still_yes ?v9 (by kernel_rfl) ?y9 ?z9; case y9 => (go_simp; (try (rw [if_neg (by omega)])); (try (rw [if_pos (by omega)])); (try with_reducible rfl)))
          (try simp only [Act.put, List.setIfInBounds_toArray, List.set_cons_zero, List.set_cons_succ])
          refine still_yes _ (by kernel_rfl) (exec_load_mid hca rfl rfl Try.underlying25 rfl (by kernel_rfl)) ?_
          (try simp only [Act.put, List.setIfInBounds_toArray, List.set_cons_zero, List.set_cons_succ])
          (refine still_yes ?v10 (by kernel_rfl) ?y10 ?z10; case y10 => (go_simp; (try (rw [if_neg (by omega)])); (try (rw [if_pos (by omega)])); (try with_reducible rfl)))
          (try simp only [Act.put, List.setIfInBounds_toArray, List.set_cons_zero, List.set_cons_succ])
          (refine still_yes ?v11 (by kernel_rfl) ?y11 ?z11; case y11 => (go_simp; (try (rw [if_neg (by omega)])); (try (rw [if_pos (by omega)])); (try with_reducible rfl)))
          (try simp only [Act.put, List.setIfInBounds_toArray, List.set_cons_zero, List.set_cons_succ])
          (refine still_yes ?v12 (by kernel_rfl) ?y12 ?z12; case y12 => (go_simp; (try (rw [if_neg (by omega)])); (try (rw [if_pos (by omega)])); (try with_reducible rfl)))
          (try simp only [Act.put, List.setIfInBounds_toArray, List.set_cons_zero, List.set_cons_succ])
          refine still_yes _ (by kernel_rfl) (exec_load_mid hcb rfl rfl Try.underlying25 rfl (by kernel_rfl)) ?_
          (try simp only [Act.put, List.setIfInBounds_toArray, List.set_cons_zero, List.set_cons_succ])
          refine wpStill_nil ?_
          refine wpList_val (.bool false) (by kernel_rfl) (exec_neq_val (r := true) rfl rfl rfl (by kernel_rfl) (fun w => by rw [eqPair pa pb w, HQ.out]) rfl) ?_
          (try simp only [Act.put, List.setIfInBounds_toArray, List.set_cons_zero, List.set_cons_succ])
          go_wp2_with fail
          exact ⟨⟨k + 1, by omega, by go_num, HE.out, hW.drew⟩, by simp [intOf]; omega⟩
      · have hke : k = a.length := by omega
        have hab : decide (a = b) = true := by
          have h1 := HT.out
          have h2 := HL.out
          rw [hke, List.take_length] at h1
          rw [h2, List.take_length] at h1
          simp [h1]
        have HAB := Lib.hid hab
        clear hab
        go_wp2_with fail
        go_ret
        exact ⟨by rw [HAB.out]; rfl, hW⟩
  · have hab : decide (a = b) = false := by simp; intro h; exact hl (by rw [h])
    have HAB := Lib.hid hab
    clear hab
    go_wp2_with fail
    go_ret
    exact ⟨by rw [HAB.out]; rfl, Below.refl _ _⟩
end Go.Proofs.Ytffioombjejchaa
