/- Differences: their cells; '==' of one and itself; SameBreaks: by contract. -/
import Derived.Test.YtkggmhcdoalhoaaKeptB
namespace Go.Proofs.Ytkggmhcdoalhoaa
set_option linter.unusedVariables false
set_option linter.unusedSimpArgs false
open Go.RowKit
attribute [local irreducible] Go.wpStill

abbrev breakT := Int × Int × Int × Int
abbrev breakE : Enc breakT := ⟨fun x => [.int .i64 x.1, .int .i64 x.2.1, .int .i64 x.2.2.1, .int .i64 x.2.2.2], 4, by decide, fun x => rfl, fun x => all_one rfl⟩
theorem breakTy : ElT Try.prog breakE 36 23 32 := by
  refine ⟨Try.underlying23, ?_⟩
  have : (Try.prog.info? 36).map (fun i => (i.zero.map (fun z => z.cells.size), i.size, i.bytes)) = some (some 4, 4, 32) := by kernel_rfl
  obtain ⟨i, h1, h2⟩ := Option.map_eq_some_iff.1 this
  simp at h2
  obtain ⟨⟨z, hz, hz2⟩, h3, h4⟩ := h2
  exact ⟨i, z, h1, hz, hz2, h3, h4⟩
theorem eqFields_cons {P : Program} {w : World} {d : Nat} {xs ys : Array Value} {f : Field} {fs : List Field} {x y : Value} (hn : (f.name == "_") = false) (p1 : (part f.type xs f.offset).run P w = Result.ok x w) (p2 : (part f.type ys f.offset).run P w = Result.ok y w)
    (e : (Op.equalIn d f.type x y).run P w = .ok true w) : (Op.eqFields d xs ys (f :: fs)).run P w = (Op.eqFields d xs ys fs).run P w := by
  have hn' : f.name ≠ "_" := by simpa using hn
  simp [Op.eqFields, hn', Sem.run_bind, p1, p2, e, Result.andThen_ok]
theorem eqKeyD (a b : Int) (w : World) : (Op.equalIn 9999 34 (.agg #[.int .i64 a, .int .i64 b]) (.agg #[.int .i64 a, .int .i64 b])).run Try.prog w = .ok true w := by
  rw [run_equalIn_struct w 9998 34 _ _ (by kernel_rfl) (by kernel_rfl)]
  have h := eqFields_ints (P := Try.prog) w 9997 #[.int .i64 a, .int .i64 b] #[.int .i64 a, .int .i64 b] (Try.prog.fieldsOf 34).toList [a, b] [a, b] 0 (by kernel_rfl) (by kernel_rfl) (by kernel_rfl) (fun i x h => by rcases i with _ | _ | i <;> simp_all) (fun i x h => by rcases i with _ | _ | i <;> simp_all)
  simpa using h
theorem eqBreak (a b c d : Int) (w : World) : (Op.equalIn 10000 36 (.agg #[.int .i64 a, .int .i64 b, .int .i64 c, .int .i64 d]) (.agg #[.int .i64 a, .int .i64 b, .int .i64 c, .int .i64 d])).run Try.prog w = .ok true w := by
  rw [run_equalIn_struct w 9999 36 _ _ (by kernel_rfl) (by kernel_rfl)]
  rw [show (Try.prog.fieldsOf 36).toList = [(Try.prog.fieldsOf 36)[0]!, (Try.prog.fieldsOf 36)[1]!, (Try.prog.fieldsOf 36)[2]!] by kernel_rfl]
  rw [eqFields_cons (x := .agg #[.int .i64 a, .int .i64 b]) (y := .agg #[.int .i64 a, .int .i64 b]) (by kernel_rfl) (by kernel_rfl) (by kernel_rfl) (by rw [show ((Try.prog.fieldsOf 36)[0]!).type = 34 by kernel_rfl]; exact eqKeyD a b w)]
  rw [eqFields_cons (x := .int .i64 c) (y := .int .i64 c) (by kernel_rfl) (by kernel_rfl) (by kernel_rfl) ((run_equalIn_int w 9998 _ .i64 .i64 _ _ (by kernel_rfl)).trans (by simp))]
  rw [eqFields_cons (x := .int .i64 d) (y := .int .i64 d) (by kernel_rfl) (by kernel_rfl) (by kernel_rfl) ((run_equalIn_int w 9998 _ .i64 .i64 _ _ (by kernel_rfl)).trans (by simp))]
  simp [Op.eqFields]
set_option maxHeartbeats 2000000 in
theorem sameBreaks_any (v u : Value) (xs : List breakT) (w : World) (hv : ReadsE breakE w v xs) (h : ReadsE breakE w u xs) :
    Calls Try.prog 7 #[v, u] w (FixB true w) := by
  obtain ⟨a1, c1, rfl⟩ := hv.slice
  obtain ⟨a2, c2, rfl⟩ := h.slice
  have hn : xs.length < 4611686018427387904 := h.1
  have HV := Lib.hid hv
  have HU := Lib.hid h
  clear hv h
  go_enter Try.func7, Try.ntmps7
  go_wp2_with fail
  go_loopw [5] (fun iv wr => ∃ i : Nat, i ≤ xs.length ∧ iv = .int .i64 i ∧ Below w.heap.size w wr) (fun iv _ => xs.length - (intOf iv).toNat)
  case atStart => exact ⟨0, by omega, rfl, Below.refl _ _⟩
  case round =>
    obtain ⟨i, hi, rfl, hW⟩ := hrel
    by_cases hlt : i < xs.length
    · obtain ⟨y, hy⟩ : ∃ y, xs[i]? = some y := ⟨_, List.getElem?_eq_getElem hlt⟩
      obtain ⟨g1, o1, rfl, hc1⟩ := (HV.out.below hW).at hy
      obtain ⟨g2, o2, rfl, hc2⟩ := (HU.out.below hW).at hy
      have hdl : decide ((i : Int) < xs.length) = true := decide_eq_true (by omega)
      clear hy
      obtain ⟨a, b, c, d⟩ := y
      have HE := Lib.hid (eqBreak a b c d)
      have HCA := Lib.hid hc1
      have HCB := Lib.hid hc2
      clear hc1 hc2
      go_wp2_with fail
      refine wp_region_still_tail 8 (by kernel_rfl) (by kernel_rfl) ?_
      simp only [List.take_succ_cons, List.take_zero, List.drop_succ_cons, List.drop_zero]
      refine (fun (Hst : wpStill _ _ (World.drew _) (fun a' => wpList _ _ _ _ a' (World.drew _)) _ _) => Hst) ?_
      (refine still_yes ?v1 (by kernel_rfl) ?y1 ?z1; case y1 => (go_simp; (try (rw [if_neg (by omega)])); (try (rw [if_pos (by omega)])); (try with_reducible rfl)))
      (try simp only [Act.put, List.setIfInBounds_toArray, List.set_cons_zero, List.set_cons_succ])
      (refine still_yes ?v2 (by kernel_rfl) ?y2 ?z2; case y2 => (go_simp; (try (rw [if_neg (by omega)])); (try (rw [if_pos (by omega)])); (try with_reducible rfl)))
      (try simp only [Act.put, List.setIfInBounds_toArray, List.set_cons_zero, List.set_cons_succ])
      (refine still_yes ?v3 (by kernel_rfl) ?y3 ?z3; case y3 => (go_simp; (try (rw [if_neg (by omega)])); (try (rw [if_pos (by omega)])); (try with_reducible rfl)))
      (try simp only [Act.put, List.setIfInBounds_toArray, List.set_cons_zero, List.set_cons_succ])
      refine still_yes _ (by kernel_rfl) (exec_load_mid HCA.out rfl rfl Try.underlying36 rfl (by kernel_rfl)) ?_
      (try simp only [Act.put, List.setIfInBounds_toArray, List.set_cons_zero, List.set_cons_succ])
      (refine still_yes ?v4 (by kernel_rfl) ?y4 ?z4; case y4 => (go_simp; (try (rw [if_neg (by omega)])); (try (rw [if_pos (by omega)])); (try with_reducible rfl)))
      (try simp only [Act.put, List.setIfInBounds_toArray, List.set_cons_zero, List.set_cons_succ])
      (refine still_yes ?v5 (by kernel_rfl) ?y5 ?z5; case y5 => (go_simp; (try (rw [if_neg (by omega)])); (try (rw [if_pos (by omega)])); (try with_reducible rfl)))
      (try simp only [Act.put, List.setIfInBounds_toArray, List.set_cons_zero, List.set_cons_succ])
      (refine still_yes ?v6 (by kernel_rfl) ?y6 ?z6; case y6 => (go_simp; (try (rw [if_neg (by omega)])); (try (rw [if_pos (by omega)])); (try with_reducible rfl)))
      (try simp only [Act.put, List.setIfInBounds_toArray, List.set_cons_zero, List.set_cons_succ])
      refine still_yes _ (by kernel_rfl) (exec_load_mid HCB.out rfl rfl Try.underlying36 rfl (by kernel_rfl)) ?_
      (try simp only [Act.put, List.setIfInBounds_toArray, List.set_cons_zero, List.set_cons_succ])
      refine wpStill_nil ?_
      refine wpList_val (.bool false) (by kernel_rfl) (exec_neq_val (r := true) rfl rfl rfl (by kernel_rfl) HE.out rfl) ?_
      (try simp only [Act.put, List.setIfInBounds_toArray, List.set_cons_zero, List.set_cons_succ])
      go_wp2_with fail
      exact ⟨⟨i + 1, by omega, by go_num, hW.drew⟩, by simp [intOf]; omega⟩
    · have hdl : decide ((i : Int) < xs.length) = false := decide_eq_false (by omega)
      go_wp2_with fail
      go_ret
      exact ⟨rfl, hW⟩
end Go.Proofs.Ytkggmhcdoalhoaa
