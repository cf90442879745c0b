/- The document's differences: Before, total: by contract. -/
import Derived.Test.YtkggmhcdoalhoaaBrk
import Derived.Test.YtkggmhcdoalhoaaSortK
namespace Go.Proofs.Ytkggmhcdoalhoaa
set_option linter.unusedVariables false
set_option linter.unusedSimpArgs false
open Go.RowKit
attribute [local irreducible] Go.wpStill

theorem before31_any (x y : keyT) (w : World) : Calls Try.prog 20 #[.agg (keyE.enc x).toArray, .agg (keyE.enc y).toArray] w (FixB (befK x y) w) := by
  obtain ⟨a, b⟩ := x
  obtain ⟨c, d⟩ := y
  have hb : Below w.heap.size w ((w.alloc (.cells #[.int .i64 a, .int .i64 b] 34)).alloc (.cells #[.int .i64 c, .int .i64 d] 34)) := ((Below.refl _ _).alloc (Nat.le_refl _) _).alloc (by simp) _
  have HB := Lib.hid hb
  clear hb
  by_cases h1 : a < c
  · have d1 : decide (a < c) = true := decide_eq_true h1
    rw [show befK (a, b) (c, d) = true by simp [befK, h1]]
    clear h1
    go_enter Try.func20, Try.ntmps20
    go_wp2_with fail
    go_ret
    exact ⟨rfl, HB.out⟩
  · have d1 : decide (a < c) = false := decide_eq_false h1
    by_cases h2 : a = c
    · subst h2
      have d2 : (a == a) = true := by simp
      rw [show befK (a, b) (a, d) = decide (b < d) by simp [befK]]
      generalize hbd : decide (b < d) = r
      clear h1
      go_enter Try.func20, Try.ntmps20
      go_wp2_with fail
      go_ret
      exact ⟨ret_bool (by first | rfl | simp [hbd]), HB.out⟩
    · have d2 : (a == c) = false := by simp [h2]
      rw [show befK (a, b) (c, d) = false by simp [befK, h1, h2]]
      clear h1 h2
      go_enter Try.func20, Try.ntmps20
      go_wp2_with fail
      go_ret
      exact ⟨rfl, HB.out⟩
theorem exec_eql_val {w : World} {a : Act} {o : Oper} {x y : Operand} {cs ds : Array Value} {T T2 : TypeId} {r : Bool} (ho : o.op = .binOp .eql T x y T2) (hx : a.eval x = .agg cs) (hy : a.eval y = .agg ds) (hg : Try.prog.eqGuardType Try.prog.depth T = false)
    (he : ∀ w, (Op.equalIn 10000 T (.agg cs) (.agg ds)).run Try.prog w = .ok r w) : (execOp a.eval o).run Try.prog w = .ok (.value (.bool r)) w := by
  unfold execOp
  simp [ho, hx, hy, Sem.run_bind, Sem.run_pure, Result.andThen_ok, run_eqGuard_agg, hg, run_eql_struct, he]
set_option maxRecDepth 100000 in
set_option maxHeartbeats 2000000 in
theorem total31_any (v : Value) (xs : List BalV) (k : keyT) (w : World) (h : BalsR w v xs) :
    Calls Try.prog 11 #[v, .agg (keyE.enc k).toArray] w fun e w' => e = .returned (.int .i64 (lastT xs k)) ∧ Below w.heap.size w w' := by
  obtain ⟨ka, kb⟩ := k
  obtain ⟨ao, cap, rfl⟩ := h.1.slice
  have hlen : xs.length < 4611686018427387904 := h.1.1
  have HR := Lib.hid h
  clear h
  go_enter Try.func11, Try.ntmps11
  go_upto_region 1 with fail
  generalize hW0 : World.alloc w _ = W0
  have hb0 : Below w.heap.size w W0 := by rw [← hW0]; exact (Below.refl _ _).alloc (Nat.le_refl _) _
  have hB : W0.heap[w.heap.size]? = some (.cells #[.int .i64 ka, .int .i64 kb] 34 (0, 0)) := by rw [← hW0]; exact heap_alloc_new w _
  have HB0 := Lib.hid hb0
  have HR0 := Lib.hid (HR.out.below hb0)
  have HBX := Lib.hid hB
  have HBL := Lib.hid (lt_of_block hB)
  clear hW0 hB hb0 HR
  go_wp2_with fail
  go_loopw [5, 6] (fun tv iv wr => ∃ i : Nat, i ≤ xs.length ∧ iv = .int .i64 i ∧ tv = .int .i64 (lastT (xs.take i) (ka, kb)) ∧ Below W0.heap.size W0 wr) (fun _ iv _ => xs.length - (intOf iv).toNat)
  case atStart => exact ⟨0, by omega, rfl, rfl, Below.refl _ _⟩
  case round =>
    obtain ⟨i, hi, rfl, rfl, hW⟩ := hrel
    have HWB := Lib.hid hW
    by_cases hlt : i < xs.length
    · obtain ⟨x, hx⟩ : ∃ x, xs[i]? = some x := ⟨_, List.getElem?_eq_getElem hlt⟩
      have hr' := HR0.out.below hW
      obtain ⟨g, o, rfl, hr⟩ := hr'.1.at hx
      have hox := hr'.2 x (List.mem_of_getElem? hx)
      have hdl : decide ((i : Int) < xs.length) = true := decide_eq_true (by omega)
      have HT := Lib.hid (show lastT (xs.take (i + 1)) (ka, kb) = if x.key = (ka, kb) then x.tot else lastT (xs.take i) (ka, kb) by rw [take_snoc' hx, lastT_snoc])
      have HOX := Lib.hid hox
      have KX := Lib.hid (fun (wz : World) (hz : Below wr.heap.size wr wz) => (show wz.rangeAt g (o + i * 4) (balE.enc x) from fun j v hv => (hz.cell (p := ⟨g, o + i * 4 + j, none⟩) (rangeE_lt hr)).trans (hr j v hv)))
      have KB := Lib.hid (fun (wz : World) (hz : Below wr.heap.size wr wz) => ((hz.block w.heap.size (Nat.lt_of_lt_of_le HBL.out hW.size)).trans ((hW.block w.heap.size HBL.out).trans HBX.out) : wz.heap[w.heap.size]? = some (.cells #[.int .i64 ka, .int .i64 kb] 34 (0, 0))))
      clear hx hr' hr hox hW
      obtain ⟨a, b, avail, xao, xcap, ms⟩ := x
      simp only [BalV.key] at HT
      generalize lastT (xs.take i) (ka, kb) = t at *
      have HEQ := Lib.hid (eqKeys (a, b) (ka, kb))
      by_cases hk : (a, b) = (ka, kb)
      · rw [show decide ((a, b) = (ka, kb)) = true from decide_eq_true hk] at HEQ
        have HT := Lib.hid (HT.out.trans (if_pos hk))
        clear hk
        go_wp2_with fail
        rename_i HK
        refine wp_region_held_drew (S := fun w' => Below wr.heap.size wr w') (by kernel_rfl) (Below.refl _ _).drew (fun hHeld => ?_)
        (refine rg_yes 0 ?v1 (by simp only [List.getElem?_toArray, List.getElem?_cons_succ, List.getElem?_cons_zero]; rfl) (by kernel_rfl) (by kernel_rfl) (by kernel_rfl) (by exact fun _ _ _ h => h) (by kernel_rfl) (by assumption) ?y1 ?z1; case y1 => (intro w hSw; (try dsimp only at hSw); go_simp; (try (rw [if_neg (by omega)])); (try with_reducible rfl)))
        (try simp only [Act.put, List.setIfInBounds_toArray, List.set_cons_zero, List.set_cons_succ])
        (refine rg_yes 1 ?v2 (by simp only [List.getElem?_toArray, List.getElem?_cons_succ, List.getElem?_cons_zero]; rfl) (by kernel_rfl) (by kernel_rfl) (by kernel_rfl) (by exact fun _ _ _ h => h) (by kernel_rfl) (by assumption) ?y2 ?z2; case y2 => (intro w hSw; (try dsimp only at hSw); go_simp; (try (rw [if_neg (by omega)])); (try with_reducible rfl)))
        (try simp only [Act.put, List.setIfInBounds_toArray, List.set_cons_zero, List.set_cons_succ])
        (refine rg_yes 2 ?v3 (by simp only [List.getElem?_toArray, List.getElem?_cons_succ, List.getElem?_cons_zero]; rfl) (by kernel_rfl) (by kernel_rfl) (by kernel_rfl) (by exact fun _ _ _ h => h) (by kernel_rfl) (by assumption) ?y3 ?z3; case y3 => (intro w hSw; (try dsimp only at hSw); go_simp; (try (rw [if_neg (by omega)])); (try with_reducible rfl)))
        (try simp only [Act.put, List.setIfInBounds_toArray, List.set_cons_zero, List.set_cons_succ])
        (refine rg_yes 3 ?v4 (by simp only [List.getElem?_toArray, List.getElem?_cons_succ, List.getElem?_cons_zero]; rfl) (by kernel_rfl) (by kernel_rfl) (by kernel_rfl) (by exact fun _ _ _ h => h) (by kernel_rfl) (by assumption) ?y4 ?z4; case y4 => (intro w hSw; (try dsimp only at hSw); go_simp; (try (rw [if_neg (by omega)])); (try with_reducible rfl)))
        (try simp only [Act.put, List.setIfInBounds_toArray, List.set_cons_zero, List.set_cons_succ])
        refine rg_yes 4 _ (by simp only [List.getElem?_toArray, List.getElem?_cons_succ, List.getElem?_cons_zero]; rfl) (by kernel_rfl) (by kernel_rfl) (by kernel_rfl) (by exact fun _ _ _ h => h) (by kernel_rfl) (by assumption) (by exact fun w' hS => (exec_load_mid (T := 34) (rangeAt_two (KX.out _ hS)) rfl rfl Try.underlying34 rfl (by kernel_rfl))) ?_
        (try simp only [Act.put, List.setIfInBounds_toArray, List.set_cons_zero, List.set_cons_succ])
        refine rg_yes 5 _ (by simp only [List.getElem?_toArray, List.getElem?_cons_succ, List.getElem?_cons_zero]; rfl) (by kernel_rfl) (by kernel_rfl) (by kernel_rfl) (by exact fun _ _ _ h => h) (by kernel_rfl) (by assumption) (by exact fun w' hS => (exec_load_row (KB.out _ hS) rfl rfl Try.underlying34 rfl (by kernel_rfl))) ?_
        (try simp only [Act.put, List.setIfInBounds_toArray, List.set_cons_zero, List.set_cons_succ])
        refine rg_yes 6 _ (by simp only [List.getElem?_toArray, List.getElem?_cons_succ, List.getElem?_cons_zero]; rfl) (by kernel_rfl) (by kernel_rfl) (by kernel_rfl) (by exact fun _ _ _ h => h) (by kernel_rfl) (by assumption) (by exact fun w' hS => (exec_eql_val rfl rfl rfl (by kernel_rfl) HEQ.out)) ?_
        (try simp only [Act.put, List.setIfInBounds_toArray, List.set_cons_zero, List.set_cons_succ])
        refine wpAnyH_done (by kernel_rfl) ?_ _
        apply HK
        have HH := Lib.hid hHeld
        clear hHeld HK
        go_wp2_with (refine wpList_val (.agg #[.int .i64 avail, .slice xao ms.length xcap]) (by kernel_rfl) (exec_load_mid (T := 40) (rangeAt_drop2 (KX.out _ HH.out)) rfl rfl Try.underlying40 rfl (by kernel_rfl)) ?_)
        refine (total14_any avail _ ms _ HOX.out.2.1 HOX.out.2.2.1 (HOX.out.1.below HH.out)).mono ?_
        rintro e w9 ⟨rfl, hb⟩
        have HW9 := Lib.hid (HWB.out.trans ((HH.out.trans (hb.mono HH.out.size)).mono HWB.out.size))
        clear hb
        go_wp2_with fail
        exact ⟨⟨i + 1, by omega, by go_num, by rw [HT.out]; rfl, HW9.out⟩, by simp [intOf]; omega⟩
      · rw [show decide ((a, b) = (ka, kb)) = false from decide_eq_false hk] at HEQ
        have HT := Lib.hid (HT.out.trans (if_neg hk))
        clear hk
        go_wp2_with fail
        rename_i HK
        refine wp_region_held_drew (S := fun w' => Below wr.heap.size wr w') (by kernel_rfl) (Below.refl _ _).drew (fun hHeld => ?_)
        (refine rg_yes 0 ?v5 (by simp only [List.getElem?_toArray, List.getElem?_cons_succ, List.getElem?_cons_zero]; rfl) (by kernel_rfl) (by kernel_rfl) (by kernel_rfl) (by exact fun _ _ _ h => h) (by kernel_rfl) (by assumption) ?y5 ?z5; case y5 => (intro w hSw; (try dsimp only at hSw); go_simp; (try (rw [if_neg (by omega)])); (try with_reducible rfl)))
        (try simp only [Act.put, List.setIfInBounds_toArray, List.set_cons_zero, List.set_cons_succ])
        (refine rg_yes 1 ?v6 (by simp only [List.getElem?_toArray, List.getElem?_cons_succ, List.getElem?_cons_zero]; rfl) (by kernel_rfl) (by kernel_rfl) (by kernel_rfl) (by exact fun _ _ _ h => h) (by kernel_rfl) (by assumption) ?y6 ?z6; case y6 => (intro w hSw; (try dsimp only at hSw); go_simp; (try (rw [if_neg (by omega)])); (try with_reducible rfl)))
        (try simp only [Act.put, List.setIfInBounds_toArray, List.set_cons_zero, List.set_cons_succ])
        (refine rg_yes 2 ?v7 (by simp only [List.getElem?_toArray, List.getElem?_cons_succ, List.getElem?_cons_zero]; rfl) (by kernel_rfl) (by kernel_rfl) (by kernel_rfl) (by exact fun _ _ _ h => h) (by kernel_rfl) (by assumption) ?y7 ?z7; case y7 => (intro w hSw; (try dsimp only at hSw); go_simp; (try (rw [if_neg (by omega)])); (try with_reducible rfl)))
        (try simp only [Act.put, List.setIfInBounds_toArray, List.set_cons_zero, List.set_cons_succ])
        (refine rg_yes 3 ?v8 (by simp only [List.getElem?_toArray, List.getElem?_cons_succ, List.getElem?_cons_zero]; rfl) (by kernel_rfl) (by kernel_rfl) (by kernel_rfl) (by exact fun _ _ _ h => h) (by kernel_rfl) (by assumption) ?y8 ?z8; case y8 => (intro w hSw; (try dsimp only at hSw); go_simp; (try (rw [if_neg (by omega)])); (try with_reducible rfl)))
        (try simp only [Act.put, List.setIfInBounds_toArray, List.set_cons_zero, List.set_cons_succ])
        refine rg_yes 4 _ (by simp only [List.getElem?_toArray, List.getElem?_cons_succ, List.getElem?_cons_zero]; rfl) (by kernel_rfl) (by kernel_rfl) (by kernel_rfl) (by exact fun _ _ _ h => h) (by kernel_rfl) (by assumption) (by exact fun w' hS => (exec_load_mid (T := 34) (rangeAt_two (KX.out _ hS)) rfl rfl Try.underlying34 rfl (by kernel_rfl))) ?_
        (try simp only [Act.put, List.setIfInBounds_toArray, List.set_cons_zero, List.set_cons_succ])
        refine rg_yes 5 _ (by simp only [List.getElem?_toArray, List.getElem?_cons_succ, List.getElem?_cons_zero]; rfl) (by kernel_rfl) (by kernel_rfl) (by kernel_rfl) (by exact fun _ _ _ h => h) (by kernel_rfl) (by assumption) (by exact fun w' hS => (exec_load_row (KB.out _ hS) rfl rfl Try.underlying34 rfl (by kernel_rfl))) ?_
        (try simp only [Act.put, List.setIfInBounds_toArray, List.set_cons_zero, List.set_cons_succ])
        refine rg_yes 6 _ (by simp only [List.getElem?_toArray, List.getElem?_cons_succ, List.getElem?_cons_zero]; rfl) (by kernel_rfl) (by kernel_rfl) (by kernel_rfl) (by exact fun _ _ _ h => h) (by kernel_rfl) (by assumption) (by exact fun w' hS => (exec_eql_val rfl rfl rfl (by kernel_rfl) HEQ.out)) ?_
        (try simp only [Act.put, List.setIfInBounds_toArray, List.set_cons_zero, List.set_cons_succ])
        refine wpAnyH_done (by kernel_rfl) ?_ _
        apply HK
        have HW9 := Lib.hid (HWB.out.trans (hHeld.mono HWB.out.size))
        clear hHeld HK
        go_wp2_with fail
        exact ⟨⟨i + 1, by omega, by go_num, by rw [HT.out], HW9.out⟩, by simp [intOf]; omega⟩
    · have hie : i = xs.length := by omega
      have hdl : decide ((i : Int) < xs.length) = false := decide_eq_false (by omega)
      rw [hie, List.take_length]
      generalize ht : lastT xs (ka, kb) = t
      have HT := Lib.hid ht
      clear hie ht
      go_wp2_with fail
      go_ret
      exact ⟨by rw [HT.out]; rfl, HB0.out.trans (HWB.out.mono HB0.out.size)⟩
end Go.Proofs.Ytkggmhcdoalhoaa
