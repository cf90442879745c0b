/- codes.Bic and the document's Bic: by contract. -/
import Derived.Test.YtenpakddifebbaaGreatDoorForms
import Derived.Deep.DeepCutAuto
import Derived.Deep.Heap
namespace Go.Proofs.YtenpakddifebbaaGreatDoor
set_option linter.unusedVariables false
set_option linter.unusedSimpArgs false
open Go.RowKit

theorem results_cell_row_tmp2 {P : Program} {fn : Func} {p u x : Tmp} {ty : TypeId} (h : fn.results = #[.cell p ty, .tmp u, .tmp x]) (tmps : Array Value) (w : World) (g : Nat) (t : TypeId) (cs : Array Value) (fr : Nat × Nat) (d : TypeDesc)
    (hp : tmps.getD p undef = .pointer (some ⟨g, 0, none⟩)) (hg : w.heap[g]? = some (.cells cs t fr))
    (hu : P.underlying ty = some d) (hd : (match d with | .struct _ | .array _ _ => true | _ => false) = true) (hi : (P.info? ty).map (·.size) = some cs.size) :
    (results fn tmps).run P w = .ok (.tuple #[.agg cs, tmps.getD u undef, tmps.getD x undef]) w := by
  have hp' : tmps[p]?.getD undef = .pointer (some ⟨g, 0, none⟩) := by simpa using hp
  simp [results, h, hp', asAddr, run_loadVar_row w g t ty cs fr d hg hu hd hi]
section
variable {P : Program} {md : Region.Mode} {ops : Array Oper} {Q : Exit → Act → World → Prop} {S : World → Prop}
/-- whatever operation, the one that may come up -/
theorem rg_wp {oi : Oper} (i : Nat) {fuel : Nat} {listed : Array Bool} {a : Act} {w : World} (hi : ops[i]? = some oi)
    (hr : Region.ready md ops listed = [i]) (hw : Region.wanted oi (yielded ops a.tmps) = true)
    (h : oi.wp P a w (fun a' w' => S w' ∧ (S w' → wpAnyH P md ops Q S fuel (listed.setIfInBounds i true) a' w')) Q) : wpAnyH P md ops Q S (fuel + 1) listed a w := by
  refine wpAnyH_all hr (by simp) (fun j hj => ?_)
  obtain rfl : j = i := by simpa using hj
  unfold Go.wpOp
  simp only [hi, hw, if_true]
  left
  refine Oper.wp_mono (fun a' w' ⟨h1, h2⟩ => ⟨h1, h2 h1⟩) h
end

def formBic (n : Nat) : List UInt8 := if n = 8 then [67, 67, 67, 67, 67, 67, 83, 83] else [67, 67, 67, 67, 67, 67, 83, 83, 83, 83, 83]
def bicTail (s : ByteArray) : ByteArray := if ((s.extract 8 s.size).toList == [88, 88, 88]) = true then ⟨#[]⟩ else s.extract 8 s.size
def bicR (s : ByteArray) : Int × Option (Int × Int) := hasR s.data.toList (formBic s.size)
def bicArr (s : ByteArray) : Array Value := if (bicR s).1 = 0 then #[.string (s.extract 0 4), .string (s.extract 4 6), .string (s.extract 6 8), .string (bicTail s)] else #[.string ⟨#[]⟩, .string ⟨#[]⟩, .string ⟨#[]⟩, .string ⟨#[]⟩]
theorem bicR_size {s : ByteArray} (h : (bicR s).1 = 0) : 8 ≤ s.size ∧ s.size ≤ 11 := by
  have := (hasR_fits h).1
  unfold formBic at this
  split at this <;> simp at this <;> omega

set_option maxRecDepth 100000 in
set_option maxHeartbeats 1000000 in
theorem bicRef_any (s : ByteArray) (w : World) (hs : s.size ≤ 140737488351232) :
    Calls Tryz.prog 32 #[.string s] w fun e w' => e = .returned (.tuple #[.agg (bicArr s), .int .i64 (bicR s).1, .int .i64 (atOf (bicR s).2)]) ∧ Below w.heap.size w w' := by
  have hF8 := fun w => hasRef_form s [67, 67, 67, 67, 67, 67, 83, 83] w (by omega) (by decide) (by decide)
  have hF11 := fun w => hasRef_form s [67, 67, 67, 67, 67, 67, 83, 83, 83, 83, 83] w (by omega) (by decide) (by decide)
  by_cases h1 : (bicR s).1 = 0
  · obtain ⟨hlo, hhi⟩ := bicR_size h1
    have hz := hasR_zero h1
    have hlo4 : 4 ≤ s.size := by omega
    have hlo6 : 6 ≤ s.size := by omega
    have hi4 : (4 : Int) ≤ (s.size : Int) := by omega
    have hi6 : (6 : Int) ≤ (s.size : Int) := by omega
    have hi8 : (8 : Int) ≤ (s.size : Int) := by omega
    have hA : bicArr s = #[.string (s.extract 0 4), .string (s.extract 4 6), .string (s.extract 6 8), .string (bicTail s)] := by unfold bicArr; rw [if_pos h1]
    have hR : bicR s = (0, none) := hz
    rw [hA, hR]
    clear hR hA h1 hhi
    by_cases h8 : s.size = 8
    · have e : formBic s.size = [67, 67, 67, 67, 67, 67, 83, 83] := by unfold formBic; rw [if_pos h8]
      have hF := hF8
      rw [e] at hz
      have k8 : ((s.size : Int) == 8) = true := by simp only [beq_iff_eq]; omega
      clear hF8 hF11 e h8
      have HZ := Lib.hid hz
      clear hz
      cases hx : ((s.extract 8 s.size).toList == [88, 88, 88])
      · have hT : bicTail s = s.extract 8 s.size := by unfold bicTail; rw [hx]; rfl
        rw [hT]
        clear hT
        go_enter Tryz.func32, Tryz.ntmps32
        go_wp2_with fail
        refine (hF _).mono ?_
        rintro e w1 ⟨rfl, hB⟩
        rw [HZ.out]
        have hres := blk_below hB (heap_alloc_new w (.cells #[.string ⟨#[]⟩, .string ⟨#[]⟩, .string ⟨#[]⟩, .string ⟨#[]⟩] 41)) (by simp)
        have hbw : Below w.heap.size w w1 := ((Below.refl _ _).alloc (Nat.le_refl _) _).trans (hB.mono (by simp))
        go_upto_region 10 with fail
        refine wp_region_held_drew (S := fun w' => Below w.heap.size w w') (by kernel_rfl) hbw.drew (fun hHeld => ?_)
        (refine rg_yes 0 ?v1 (by simp only [List.getElem?_toArray, List.getElem?_cons_succ, List.getElem?_cons_zero]; rfl) (by kernel_rfl) (by kernel_rfl) (by kernel_rfl) (by exact fun _ _ _ h => h) (by kernel_rfl) (by assumption) ?y1 ?z1; case y1 => (intro w hSw; (try dsimp only at hSw); go_simp; (try (rw [if_neg (by omega)])); (try with_reducible rfl)))
        (try simp only [Act.put, List.setIfInBounds_toArray, List.set_cons_zero, List.set_cons_succ])
        (refine rg_yes 1 ?v2 (by simp only [List.getElem?_toArray, List.getElem?_cons_succ, List.getElem?_cons_zero]; rfl) (by kernel_rfl) (by kernel_rfl) (by kernel_rfl) (by exact fun _ _ _ h => h) (by kernel_rfl) (by assumption) ?y2 ?z2; case y2 => (intro w hSw; (try dsimp only at hSw); go_simp; (try (rw [if_neg (by omega)])); (try with_reducible rfl)))
        (try simp only [Act.put, List.setIfInBounds_toArray, List.set_cons_zero, List.set_cons_succ])
        (refine rg_yes 2 ?v3 (by simp only [List.getElem?_toArray, List.getElem?_cons_succ, List.getElem?_cons_zero]; rfl) (by kernel_rfl) (by kernel_rfl) (by kernel_rfl) (by exact fun _ _ _ h => h) (by kernel_rfl) (by assumption) ?y3 ?z3; case y3 => (intro w hSw; (try dsimp only at hSw); go_simp; (try (rw [if_neg (by omega)])); (try with_reducible rfl)))
        (try simp only [Act.put, List.setIfInBounds_toArray, List.set_cons_zero, List.set_cons_succ])
        (refine rg_yes 3 ?v4 (by simp only [List.getElem?_toArray, List.getElem?_cons_succ, List.getElem?_cons_zero]; rfl) (by kernel_rfl) (by kernel_rfl) (by kernel_rfl) (by exact fun _ _ _ h => h) (by kernel_rfl) (by assumption) ?y4 ?z4; case y4 => (intro w hSw; (try dsimp only at hSw); go_simp; (try (rw [if_neg (by omega)])); (try with_reducible rfl)))
        (try simp only [Act.put, List.setIfInBounds_toArray, List.set_cons_zero, List.set_cons_succ])
        (refine rg_yes 4 ?v5 (by simp only [List.getElem?_toArray, List.getElem?_cons_succ, List.getElem?_cons_zero]; rfl) (by kernel_rfl) (by kernel_rfl) (by kernel_rfl) (by exact fun _ _ _ h => h) (by kernel_rfl) (by assumption) ?y5 ?z5; case y5 => (intro w hSw; (try dsimp only at hSw); go_simp; (try (rw [if_neg (by omega)])); (try with_reducible rfl)))
        (try simp only [Act.put, List.setIfInBounds_toArray, List.set_cons_zero, List.set_cons_succ])
        (refine rg_yes 5 ?v6 (by simp only [List.getElem?_toArray, List.getElem?_cons_succ, List.getElem?_cons_zero]; rfl) (by kernel_rfl) (by kernel_rfl) (by kernel_rfl) (by exact fun _ _ _ h => h) (by kernel_rfl) (by assumption) ?y6 ?z6; case y6 => (intro w hSw; (try dsimp only at hSw); go_simp; (try (rw [if_neg (by omega)])); (try with_reducible rfl)))
        (try simp only [Act.put, List.setIfInBounds_toArray, List.set_cons_zero, List.set_cons_succ])
        (refine rg_yes 6 ?v7 (by simp only [List.getElem?_toArray, List.getElem?_cons_succ, List.getElem?_cons_zero]; rfl) (by kernel_rfl) (by kernel_rfl) (by kernel_rfl) (by exact fun _ _ _ h => h) (by kernel_rfl) (by assumption) ?y7 ?z7; case y7 => (intro w hSw; (try dsimp only at hSw); go_simp; (try (rw [if_neg (by omega)])); (try with_reducible rfl)))
        (try simp only [Act.put, List.setIfInBounds_toArray, List.set_cons_zero, List.set_cons_succ])
        (refine rg_yes 7 ?v8 (by simp only [List.getElem?_toArray, List.getElem?_cons_succ, List.getElem?_cons_zero]; rfl) (by kernel_rfl) (by kernel_rfl) (by kernel_rfl) (by exact fun _ _ _ h => h) (by kernel_rfl) (by assumption) ?y8 ?z8; case y8 => (intro w hSw; (try dsimp only at hSw); go_simp; (try (rw [if_neg (by omega)])); (try with_reducible rfl)))
        (try simp only [Act.put, List.setIfInBounds_toArray, List.set_cons_zero, List.set_cons_succ])
        refine rg_wp 8 (by simp only [List.getElem?_toArray, List.getElem?_cons_succ, List.getElem?_cons_zero]; rfl) (by kernel_rfl) (by kernel_rfl) (wp_store_row 41 _ _ rfl w.heap.size _ rfl rfl 41 _ hres (by kernel_rfl) (by rfl) (by simp [Value.oneCell']) ⟨below_setRow hHeld (Nat.le_refl _) _, fun hHeld => ?_⟩)
        (try simp only [Act.put, List.setIfInBounds_toArray, List.set_cons_zero, List.set_cons_succ])
        (refine rg_yes 9 ?v9 (by simp only [List.getElem?_toArray, List.getElem?_cons_succ, List.getElem?_cons_zero]; rfl) (by kernel_rfl) (by kernel_rfl) (by kernel_rfl) (by exact fun _ _ _ h => h) (by kernel_rfl) (by assumption) ?y9 ?z9; case y9 => (intro w hSw; (try dsimp only at hSw); go_simp; (try (rw [if_neg (by omega)])); (try with_reducible rfl)))
        (try simp only [Act.put, List.setIfInBounds_toArray, List.set_cons_zero, List.set_cons_succ])
        (refine rg_yes 10 ?v10 (by simp only [List.getElem?_toArray, List.getElem?_cons_succ, List.getElem?_cons_zero]; rfl) (by kernel_rfl) (by kernel_rfl) (by kernel_rfl) (by exact fun _ _ _ h => h) (by kernel_rfl) (by assumption) ?y10 ?z10; case y10 => (intro w hSw; (try dsimp only at hSw); go_simp; (try (rw [if_neg (by omega)])); (try with_reducible rfl)))
        (try simp only [Act.put, List.setIfInBounds_toArray, List.set_cons_zero, List.set_cons_succ])
        refine wpAnyH_done (by kernel_rfl) ?_ _
        go_wp2_with fail
        exact bodyPost_ret (v := .tuple #[.agg _, .int .i64 0, .int .i64 0]) (results_cell_row_tmp2 (fn := Tryz.f32) (p := 2) (u := 3) (x := 4) rfl _ _ w.heap.size 41 _ (0, 0) _ rfl (setRow_heap _ _ _ _ _ _ hres) Tryz.underlying41 rfl (by kernel_rfl)) rfl ⟨rfl, hHeld⟩
      · have hT : bicTail s = ⟨#[]⟩ := by unfold bicTail; rw [hx]; rfl
        rw [hT]
        clear hT
        go_enter Tryz.func32, Tryz.ntmps32
        go_wp2_with fail
        refine (hF _).mono ?_
        rintro e w1 ⟨rfl, hB⟩
        rw [HZ.out]
        have hres := blk_below hB (heap_alloc_new w (.cells #[.string ⟨#[]⟩, .string ⟨#[]⟩, .string ⟨#[]⟩, .string ⟨#[]⟩] 41)) (by simp)
        have hbw : Below w.heap.size w w1 := ((Below.refl _ _).alloc (Nat.le_refl _) _).trans (hB.mono (by simp))
        go_upto_region 10 with fail
        refine wp_region_held_drew (S := fun w' => Below w.heap.size w w') (by kernel_rfl) hbw.drew (fun hHeld => ?_)
        (refine rg_yes 0 ?v11 (by simp only [List.getElem?_toArray, List.getElem?_cons_succ, List.getElem?_cons_zero]; rfl) (by kernel_rfl) (by kernel_rfl) (by kernel_rfl) (by exact fun _ _ _ h => h) (by kernel_rfl) (by assumption) ?y11 ?z11; case y11 => (intro w hSw; (try dsimp only at hSw); go_simp; (try (rw [if_neg (by omega)])); (try with_reducible rfl)))
        (try simp only [Act.put, List.setIfInBounds_toArray, List.set_cons_zero, List.set_cons_succ])
        (refine rg_yes 1 ?v12 (by simp only [List.getElem?_toArray, List.getElem?_cons_succ, List.getElem?_cons_zero]; rfl) (by kernel_rfl) (by kernel_rfl) (by kernel_rfl) (by exact fun _ _ _ h => h) (by kernel_rfl) (by assumption) ?y12 ?z12; case y12 => (intro w hSw; (try dsimp only at hSw); go_simp; (try (rw [if_neg (by omega)])); (try with_reducible rfl)))
        (try simp only [Act.put, List.setIfInBounds_toArray, List.set_cons_zero, List.set_cons_succ])
        (refine rg_yes 2 ?v13 (by simp only [List.getElem?_toArray, List.getElem?_cons_succ, List.getElem?_cons_zero]; rfl) (by kernel_rfl) (by kernel_rfl) (by kernel_rfl) (by exact fun _ _ _ h => h) (by kernel_rfl) (by assumption) ?y13 ?z13; case y13 => (intro w hSw; (try dsimp only at hSw); go_simp; (try (rw [if_neg (by omega)])); (try with_reducible rfl)))
        (try simp only [Act.put, List.setIfInBounds_toArray, List.set_cons_zero, List.set_cons_succ])
        (refine rg_yes 3 ?v14 (by simp only [List.getElem?_toArray, List.getElem?_cons_succ, List.getElem?_cons_zero]; rfl) (by kernel_rfl) (by kernel_rfl) (by kernel_rfl) (by exact fun _ _ _ h => h) (by kernel_rfl) (by assumption) ?y14 ?z14; case y14 => (intro w hSw; (try dsimp only at hSw); go_simp; (try (rw [if_neg (by omega)])); (try with_reducible rfl)))
        (try simp only [Act.put, List.setIfInBounds_toArray, List.set_cons_zero, List.set_cons_succ])
        (refine rg_yes 4 ?v15 (by simp only [List.getElem?_toArray, List.getElem?_cons_succ, List.getElem?_cons_zero]; rfl) (by kernel_rfl) (by kernel_rfl) (by kernel_rfl) (by exact fun _ _ _ h => h) (by kernel_rfl) (by assumption) ?y15 ?z15; case y15 => (intro w hSw; (try dsimp only at hSw); go_simp; (try (rw [if_neg (by omega)])); (try with_reducible rfl)))
        (try simp only [Act.put, List.setIfInBounds_toArray, List.set_cons_zero, List.set_cons_succ])
        (refine rg_yes 5 ?v16 (by simp only [List.getElem?_toArray, List.getElem?_cons_succ, List.getElem?_cons_zero]; rfl) (by kernel_rfl) (by kernel_rfl) (by kernel_rfl) (by exact fun _ _ _ h => h) (by kernel_rfl) (by assumption) ?y16 ?z16; case y16 => (intro w hSw; (try dsimp only at hSw); go_simp; (try (rw [if_neg (by omega)])); (try with_reducible rfl)))
        (try simp only [Act.put, List.setIfInBounds_toArray, List.set_cons_zero, List.set_cons_succ])
        (refine rg_yes 6 ?v17 (by simp only [List.getElem?_toArray, List.getElem?_cons_succ, List.getElem?_cons_zero]; rfl) (by kernel_rfl) (by kernel_rfl) (by kernel_rfl) (by exact fun _ _ _ h => h) (by kernel_rfl) (by assumption) ?y17 ?z17; case y17 => (intro w hSw; (try dsimp only at hSw); go_simp; (try (rw [if_neg (by omega)])); (try with_reducible rfl)))
        (try simp only [Act.put, List.setIfInBounds_toArray, List.set_cons_zero, List.set_cons_succ])
        (refine rg_yes 7 ?v18 (by simp only [List.getElem?_toArray, List.getElem?_cons_succ, List.getElem?_cons_zero]; rfl) (by kernel_rfl) (by kernel_rfl) (by kernel_rfl) (by exact fun _ _ _ h => h) (by kernel_rfl) (by assumption) ?y18 ?z18; case y18 => (intro w hSw; (try dsimp only at hSw); go_simp; (try (rw [if_neg (by omega)])); (try with_reducible rfl)))
        (try simp only [Act.put, List.setIfInBounds_toArray, List.set_cons_zero, List.set_cons_succ])
        refine rg_wp 8 (by simp only [List.getElem?_toArray, List.getElem?_cons_succ, List.getElem?_cons_zero]; rfl) (by kernel_rfl) (by kernel_rfl) (wp_store_row 41 _ _ rfl w.heap.size _ rfl rfl 41 _ hres (by kernel_rfl) (by rfl) (by simp [Value.oneCell']) ⟨below_setRow hHeld (Nat.le_refl _) _, fun hHeld => ?_⟩)
        (try simp only [Act.put, List.setIfInBounds_toArray, List.set_cons_zero, List.set_cons_succ])
        (refine rg_yes 9 ?v19 (by simp only [List.getElem?_toArray, List.getElem?_cons_succ, List.getElem?_cons_zero]; rfl) (by kernel_rfl) (by kernel_rfl) (by kernel_rfl) (by exact fun _ _ _ h => h) (by kernel_rfl) (by assumption) ?y19 ?z19; case y19 => (intro w hSw; (try dsimp only at hSw); go_simp; (try (rw [if_neg (by omega)])); (try with_reducible rfl)))
        (try simp only [Act.put, List.setIfInBounds_toArray, List.set_cons_zero, List.set_cons_succ])
        (refine rg_yes 10 ?v20 (by simp only [List.getElem?_toArray, List.getElem?_cons_succ, List.getElem?_cons_zero]; rfl) (by kernel_rfl) (by kernel_rfl) (by kernel_rfl) (by exact fun _ _ _ h => h) (by kernel_rfl) (by assumption) ?y20 ?z20; case y20 => (intro w hSw; (try dsimp only at hSw); go_simp; (try (rw [if_neg (by omega)])); (try with_reducible rfl)))
        (try simp only [Act.put, List.setIfInBounds_toArray, List.set_cons_zero, List.set_cons_succ])
        refine wpAnyH_done (by kernel_rfl) ?_ _
        go_wp2_with fail
        exact bodyPost_ret (v := .tuple #[.agg _, .int .i64 0, .int .i64 0]) (results_cell_row_tmp2 (fn := Tryz.f32) (p := 2) (u := 3) (x := 4) rfl _ _ w.heap.size 41 _ (0, 0) _ rfl (setRow_heap _ _ _ _ _ _ hres) Tryz.underlying41 rfl (by kernel_rfl)) rfl ⟨rfl, hHeld⟩
    · have e : formBic s.size = [67, 67, 67, 67, 67, 67, 83, 83, 83, 83, 83] := by unfold formBic; rw [if_neg h8]
      have hF := hF11
      rw [e] at hz
      have k8 : ((s.size : Int) == 8) = false := by simp only [beq_eq_false_iff_ne, ne_eq]; omega
      clear hF8 hF11 e h8
      have HZ := Lib.hid hz
      clear hz
      cases hx : ((s.extract 8 s.size).toList == [88, 88, 88])
      · have hT : bicTail s = s.extract 8 s.size := by unfold bicTail; rw [hx]; rfl
        rw [hT]
        clear hT
        go_enter Tryz.func32, Tryz.ntmps32
        go_wp2_with fail
        refine (hF _).mono ?_
        rintro e w1 ⟨rfl, hB⟩
        rw [HZ.out]
        have hres := blk_below hB (heap_alloc_new w (.cells #[.string ⟨#[]⟩, .string ⟨#[]⟩, .string ⟨#[]⟩, .string ⟨#[]⟩] 41)) (by simp)
        have hbw : Below w.heap.size w w1 := ((Below.refl _ _).alloc (Nat.le_refl _) _).trans (hB.mono (by simp))
        go_upto_region 10 with fail
        refine wp_region_held_drew (S := fun w' => Below w.heap.size w w') (by kernel_rfl) hbw.drew (fun hHeld => ?_)
        (refine rg_yes 0 ?v21 (by simp only [List.getElem?_toArray, List.getElem?_cons_succ, List.getElem?_cons_zero]; rfl) (by kernel_rfl) (by kernel_rfl) (by kernel_rfl) (by exact fun _ _ _ h => h) (by kernel_rfl) (by assumption) ?y21 ?z21; case y21 => (intro w hSw; (try dsimp only at hSw); go_simp; (try (rw [if_neg (by omega)])); (try with_reducible rfl)))
        (try simp only [Act.put, List.setIfInBounds_toArray, List.set_cons_zero, List.set_cons_succ])
        (refine rg_yes 1 ?v22 (by simp only [List.getElem?_toArray, List.getElem?_cons_succ, List.getElem?_cons_zero]; rfl) (by kernel_rfl) (by kernel_rfl) (by kernel_rfl) (by exact fun _ _ _ h => h) (by kernel_rfl) (by assumption) ?y22 ?z22; case y22 => (intro w hSw; (try dsimp only at hSw); go_simp; (try (rw [if_neg (by omega)])); (try with_reducible rfl)))
        (try simp only [Act.put, List.setIfInBounds_toArray, List.set_cons_zero, List.set_cons_succ])
        (refine rg_yes 2 ?v23 (by simp only [List.getElem?_toArray, List.getElem?_cons_succ, List.getElem?_cons_zero]; rfl) (by kernel_rfl) (by kernel_rfl) (by kernel_rfl) (by exact fun _ _ _ h => h) (by kernel_rfl) (by assumption) ?y23 ?z23; case y23 => (intro w hSw; (try dsimp only at hSw); go_simp; (try (rw [if_neg (by omega)])); (try with_reducible rfl)))
        (try simp only [Act.put, List.setIfInBounds_toArray, List.set_cons_zero, List.set_cons_succ])
        (refine rg_yes 3 ?v24 (by simp only [List.getElem?_toArray, List.getElem?_cons_succ, List.getElem?_cons_zero]; rfl) (by kernel_rfl) (by kernel_rfl) (by kernel_rfl) (by exact fun _ _ _ h => h) (by kernel_rfl) (by assumption) ?y24 ?z24; case y24 => (intro w hSw; (try dsimp only at hSw); go_simp; (try (rw [if_neg (by omega)])); (try with_reducible rfl)))
        (try simp only [Act.put, List.setIfInBounds_toArray, List.set_cons_zero, List.set_cons_succ])
        (refine rg_yes 4 ?v25 (by simp only [List.getElem?_toArray, List.getElem?_cons_succ, List.getElem?_cons_zero]; rfl) (by kernel_rfl) (by kernel_rfl) (by kernel_rfl) (by exact fun _ _ _ h => h) (by kernel_rfl) (by assumption) ?y25 ?z25; case y25 => (intro w hSw; (try dsimp only at hSw); go_simp; (try (rw [if_neg (by omega)])); (try with_reducible rfl)))
        (try simp only [Act.put, List.setIfInBounds_toArray, List.set_cons_zero, List.set_cons_succ])
        (refine rg_yes 5 ?v26 (by simp only [List.getElem?_toArray, List.getElem?_cons_succ, List.getElem?_cons_zero]; rfl) (by kernel_rfl) (by kernel_rfl) (by kernel_rfl) (by exact fun _ _ _ h => h) (by kernel_rfl) (by assumption) ?y26 ?z26; case y26 => (intro w hSw; (try dsimp only at hSw); go_simp; (try (rw [if_neg (by omega)])); (try with_reducible rfl)))
        (try simp only [Act.put, List.setIfInBounds_toArray, List.set_cons_zero, List.set_cons_succ])
        (refine rg_yes 6 ?v27 (by simp only [List.getElem?_toArray, List.getElem?_cons_succ, List.getElem?_cons_zero]; rfl) (by kernel_rfl) (by kernel_rfl) (by kernel_rfl) (by exact fun _ _ _ h => h) (by kernel_rfl) (by assumption) ?y27 ?z27; case y27 => (intro w hSw; (try dsimp only at hSw); go_simp; (try (rw [if_neg (by omega)])); (try with_reducible rfl)))
        (try simp only [Act.put, List.setIfInBounds_toArray, List.set_cons_zero, List.set_cons_succ])
        (refine rg_yes 7 ?v28 (by simp only [List.getElem?_toArray, List.getElem?_cons_succ, List.getElem?_cons_zero]; rfl) (by kernel_rfl) (by kernel_rfl) (by kernel_rfl) (by exact fun _ _ _ h => h) (by kernel_rfl) (by assumption) ?y28 ?z28; case y28 => (intro w hSw; (try dsimp only at hSw); go_simp; (try (rw [if_neg (by omega)])); (try with_reducible rfl)))
        (try simp only [Act.put, List.setIfInBounds_toArray, List.set_cons_zero, List.set_cons_succ])
        refine rg_wp 8 (by simp only [List.getElem?_toArray, List.getElem?_cons_succ, List.getElem?_cons_zero]; rfl) (by kernel_rfl) (by kernel_rfl) (wp_store_row 41 _ _ rfl w.heap.size _ rfl rfl 41 _ hres (by kernel_rfl) (by rfl) (by simp [Value.oneCell']) ⟨below_setRow hHeld (Nat.le_refl _) _, fun hHeld => ?_⟩)
        (try simp only [Act.put, List.setIfInBounds_toArray, List.set_cons_zero, List.set_cons_succ])
        (refine rg_yes 9 ?v29 (by simp only [List.getElem?_toArray, List.getElem?_cons_succ, List.getElem?_cons_zero]; rfl) (by kernel_rfl) (by kernel_rfl) (by kernel_rfl) (by exact fun _ _ _ h => h) (by kernel_rfl) (by assumption) ?y29 ?z29; case y29 => (intro w hSw; (try dsimp only at hSw); go_simp; (try (rw [if_neg (by omega)])); (try with_reducible rfl)))
        (try simp only [Act.put, List.setIfInBounds_toArray, List.set_cons_zero, List.set_cons_succ])
        (refine rg_yes 10 ?v30 (by simp only [List.getElem?_toArray, List.getElem?_cons_succ, List.getElem?_cons_zero]; rfl) (by kernel_rfl) (by kernel_rfl) (by kernel_rfl) (by exact fun _ _ _ h => h) (by kernel_rfl) (by assumption) ?y30 ?z30; case y30 => (intro w hSw; (try dsimp only at hSw); go_simp; (try (rw [if_neg (by omega)])); (try with_reducible rfl)))
        (try simp only [Act.put, List.setIfInBounds_toArray, List.set_cons_zero, List.set_cons_succ])
        refine wpAnyH_done (by kernel_rfl) ?_ _
        go_wp2_with fail
        exact bodyPost_ret (v := .tuple #[.agg _, .int .i64 0, .int .i64 0]) (results_cell_row_tmp2 (fn := Tryz.f32) (p := 2) (u := 3) (x := 4) rfl _ _ w.heap.size 41 _ (0, 0) _ rfl (setRow_heap _ _ _ _ _ _ hres) Tryz.underlying41 rfl (by kernel_rfl)) rfl ⟨rfl, hHeld⟩
      · have hT : bicTail s = ⟨#[]⟩ := by unfold bicTail; rw [hx]; rfl
        rw [hT]
        clear hT
        go_enter Tryz.func32, Tryz.ntmps32
        go_wp2_with fail
        refine (hF _).mono ?_
        rintro e w1 ⟨rfl, hB⟩
        rw [HZ.out]
        have hres := blk_below hB (heap_alloc_new w (.cells #[.string ⟨#[]⟩, .string ⟨#[]⟩, .string ⟨#[]⟩, .string ⟨#[]⟩] 41)) (by simp)
        have hbw : Below w.heap.size w w1 := ((Below.refl _ _).alloc (Nat.le_refl _) _).trans (hB.mono (by simp))
        go_upto_region 10 with fail
        refine wp_region_held_drew (S := fun w' => Below w.heap.size w w') (by kernel_rfl) hbw.drew (fun hHeld => ?_)
        (refine rg_yes 0 ?v31 (by simp only [List.getElem?_toArray, List.getElem?_cons_succ, List.getElem?_cons_zero]; rfl) (by kernel_rfl) (by kernel_rfl) (by kernel_rfl) (by exact fun _ _ _ h => h) (by kernel_rfl) (by assumption) ?y31 ?z31; case y31 => (intro w hSw; (try dsimp only at hSw); go_simp; (try (rw [if_neg (by omega)])); (try with_reducible rfl)))
        (try simp only [Act.put, List.setIfInBounds_toArray, List.set_cons_zero, List.set_cons_succ])
        (refine rg_yes 1 ?v32 (by simp only [List.getElem?_toArray, List.getElem?_cons_succ, List.getElem?_cons_zero]; rfl) (by kernel_rfl) (by kernel_rfl) (by kernel_rfl) (by exact fun _ _ _ h => h) (by kernel_rfl) (by assumption) ?y32 ?z32; case y32 => (intro w hSw; (try dsimp only at hSw); go_simp; (try (rw [if_neg (by omega)])); (try with_reducible rfl)))
        (try simp only [Act.put, List.setIfInBounds_toArray, List.set_cons_zero, List.set_cons_succ])
        (refine rg_yes 2 ?v33 (by simp only [List.getElem?_toArray, List.getElem?_cons_succ, List.getElem?_cons_zero]; rfl) (by kernel_rfl) (by kernel_rfl) (by kernel_rfl) (by exact fun _ _ _ h => h) (by kernel_rfl) (by assumption) ?y33 ?z33; case y33 => (intro w hSw; (try dsimp only at hSw); go_simp; (try (rw [if_neg (by omega)])); (try with_reducible rfl)))
        (try simp only [Act.put, List.setIfInBounds_toArray, List.set_cons_zero, List.set_cons_succ])
        (refine rg_yes 3 ?v34 (by simp only [List.getElem?_toArray, List.getElem?_cons_succ, List.getElem?_cons_zero]; rfl) (by kernel_rfl) (by kernel_rfl) (by kernel_rfl) (by exact fun _ _ _ h => h) (by kernel_rfl) (by assumption) ?y34 ?z34; case y34 => (intro w hSw; (try dsimp only at hSw); go_simp; (try (rw [if_neg (by omega)])); (try with_reducible rfl)))
        (try simp only [Act.put, List.setIfInBounds_toArray, List.set_cons_zero, List.set_cons_succ])
        (refine rg_yes 4 ?v35 (by simp only [List.getElem?_toArray, List.getElem?_cons_succ, List.getElem?_cons_zero]; rfl) (by kernel_rfl) (by kernel_rfl) (by kernel_rfl) (by exact fun _ _ _ h => h) (by kernel_rfl) (by assumption) ?y35 ?z35; case y35 => (intro w hSw; (try dsimp only at hSw); go_simp; (try (rw [if_neg (by omega)])); (try with_reducible rfl)))
        (try simp only [Act.put, List.setIfInBounds_toArray, List.set_cons_zero, List.set_cons_succ])
        (refine rg_yes 5 ?v36 (by simp only [List.getElem?_toArray, List.getElem?_cons_succ, List.getElem?_cons_zero]; rfl) (by kernel_rfl) (by kernel_rfl) (by kernel_rfl) (by exact fun _ _ _ h => h) (by kernel_rfl) (by assumption) ?y36 ?z36; case y36 => (intro w hSw; (try dsimp only at hSw); go_simp; (try (rw [if_neg (by omega)])); (try with_reducible rfl)))
        (try simp only [Act.put, List.setIfInBounds_toArray, List.set_cons_zero, List.set_cons_succ])
        (refine rg_yes 6 ?v37 (by simp only [List.getElem?_toArray, List.getElem?_cons_succ, List.getElem?_cons_zero]; rfl) (by kernel_rfl) (by kernel_rfl) (by kernel_rfl) (by exact fun _ _ _ h => h) (by kernel_rfl) (by assumption) ?y37 ?z37; case y37 => (intro w hSw; (try dsimp only at hSw); go_simp; (try (rw [if_neg (by omega)])); (try with_reducible rfl)))
        (try simp only [Act.put, List.setIfInBounds_toArray, List.set_cons_zero, List.set_cons_succ])
        (refine rg_yes 7 ?v38 (by simp only [List.getElem?_toArray, List.getElem?_cons_succ, List.getElem?_cons_zero]; rfl) (by kernel_rfl) (by kernel_rfl) (by kernel_rfl) (by exact fun _ _ _ h => h) (by kernel_rfl) (by assumption) ?y38 ?z38; case y38 => (intro w hSw; (try dsimp only at hSw); go_simp; (try (rw [if_neg (by omega)])); (try with_reducible rfl)))
        (try simp only [Act.put, List.setIfInBounds_toArray, List.set_cons_zero, List.set_cons_succ])
        refine rg_wp 8 (by simp only [List.getElem?_toArray, List.getElem?_cons_succ, List.getElem?_cons_zero]; rfl) (by kernel_rfl) (by kernel_rfl) (wp_store_row 41 _ _ rfl w.heap.size _ rfl rfl 41 _ hres (by kernel_rfl) (by rfl) (by simp [Value.oneCell']) ⟨below_setRow hHeld (Nat.le_refl _) _, fun hHeld => ?_⟩)
        (try simp only [Act.put, List.setIfInBounds_toArray, List.set_cons_zero, List.set_cons_succ])
        (refine rg_yes 9 ?v39 (by simp only [List.getElem?_toArray, List.getElem?_cons_succ, List.getElem?_cons_zero]; rfl) (by kernel_rfl) (by kernel_rfl) (by kernel_rfl) (by exact fun _ _ _ h => h) (by kernel_rfl) (by assumption) ?y39 ?z39; case y39 => (intro w hSw; (try dsimp only at hSw); go_simp; (try (rw [if_neg (by omega)])); (try with_reducible rfl)))
        (try simp only [Act.put, List.setIfInBounds_toArray, List.set_cons_zero, List.set_cons_succ])
        (refine rg_yes 10 ?v40 (by simp only [List.getElem?_toArray, List.getElem?_cons_succ, List.getElem?_cons_zero]; rfl) (by kernel_rfl) (by kernel_rfl) (by kernel_rfl) (by exact fun _ _ _ h => h) (by kernel_rfl) (by assumption) ?y40 ?z40; case y40 => (intro w hSw; (try dsimp only at hSw); go_simp; (try (rw [if_neg (by omega)])); (try with_reducible rfl)))
        (try simp only [Act.put, List.setIfInBounds_toArray, List.set_cons_zero, List.set_cons_succ])
        refine wpAnyH_done (by kernel_rfl) ?_ _
        go_wp2_with fail
        exact bodyPost_ret (v := .tuple #[.agg _, .int .i64 0, .int .i64 0]) (results_cell_row_tmp2 (fn := Tryz.f32) (p := 2) (u := 3) (x := 4) rfl _ _ w.heap.size 41 _ (0, 0) _ rfl (setRow_heap _ _ _ _ _ _ hres) Tryz.underlying41 rfl (by kernel_rfl)) rfl ⟨rfl, hHeld⟩
  · have hA : bicArr s = #[.string ⟨#[]⟩, .string ⟨#[]⟩, .string ⟨#[]⟩, .string ⟨#[]⟩] := by unfold bicArr; rw [if_neg h1]
    rw [hA]
    clear hA
    have hR : bicR s = hasR s.data.toList (formBic s.size) := rfl
    rw [hR] at h1 ⊢
    clear hR
    by_cases h8 : s.size = 8
    · have e : formBic s.size = [67, 67, 67, 67, 67, 67, 83, 83] := by unfold formBic; rw [if_pos h8]
      have hF := hF8
      rw [e] at h1 ⊢
      have k8 : ((s.size : Int) == 8) = true := by simp only [beq_iff_eq]; omega
      clear hF8 hF11 e h8
      generalize hasR s.data.toList [67, 67, 67, 67, 67, 67, 83, 83] = r at h1 hF ⊢
      have hn : r.1 ≠ 0 := h1
      have hne : (r.1 != 0) = true := by simpa using h1
      clear h1
      go_enter Tryz.func32, Tryz.ntmps32
      go_wp2_with fail
      refine (hF _).mono ?_
      rintro e w1 ⟨rfl, hB⟩
      have hres := blk_below hB (heap_alloc_new w (.cells #[.string ⟨#[]⟩, .string ⟨#[]⟩, .string ⟨#[]⟩, .string ⟨#[]⟩] 41)) (by simp)
      have hbw : Below w.heap.size w w1 := ((Below.refl _ _).alloc (Nat.le_refl _) _).trans (hB.mono (by simp))
      go_wp2_with (refine wpList_store_row rfl 41 _ _ rfl w.heap.size _ rfl rfl 41 _ hres (by kernel_rfl) (by rfl) (by simp [Value.oneCell']) ?_)
      exact bodyPost_ret (v := .tuple #[.agg _, .int .i64 r.1, .int .i64 (atOf r.2)]) (results_cell_row_tmp2 (fn := Tryz.f32) (p := 2) (u := 3) (x := 4) rfl _ _ w.heap.size 41 _ (0, 0) _ rfl (setRow_heap _ _ _ _ _ _ hres) Tryz.underlying41 rfl (by kernel_rfl)) rfl ⟨rfl, below_setRow hbw (Nat.le_refl _) _⟩
    · have e : formBic s.size = [67, 67, 67, 67, 67, 67, 83, 83, 83, 83, 83] := by unfold formBic; rw [if_neg h8]
      have hF := hF11
      rw [e] at h1 ⊢
      have k8 : ((s.size : Int) == 8) = false := by simp only [beq_eq_false_iff_ne, ne_eq]; omega
      clear hF8 hF11 e h8
      generalize hasR s.data.toList [67, 67, 67, 67, 67, 67, 83, 83, 83, 83, 83] = r at h1 hF ⊢
      have hn : r.1 ≠ 0 := h1
      have hne : (r.1 != 0) = true := by simpa using h1
      clear h1
      go_enter Tryz.func32, Tryz.ntmps32
      go_wp2_with fail
      refine (hF _).mono ?_
      rintro e w1 ⟨rfl, hB⟩
      have hres := blk_below hB (heap_alloc_new w (.cells #[.string ⟨#[]⟩, .string ⟨#[]⟩, .string ⟨#[]⟩, .string ⟨#[]⟩] 41)) (by simp)
      have hbw : Below w.heap.size w w1 := ((Below.refl _ _).alloc (Nat.le_refl _) _).trans (hB.mono (by simp))
      go_wp2_with (refine wpList_store_row rfl 41 _ _ rfl w.heap.size _ rfl rfl 41 _ hres (by kernel_rfl) (by rfl) (by simp [Value.oneCell']) ?_)
      exact bodyPost_ret (v := .tuple #[.agg _, .int .i64 r.1, .int .i64 (atOf r.2)]) (results_cell_row_tmp2 (fn := Tryz.f32) (p := 2) (u := 3) (x := 4) rfl _ _ w.heap.size 41 _ (0, 0) _ rfl (setRow_heap _ _ _ _ _ _ hres) Tryz.underlying41 rfl (by kernel_rfl)) rfl ⟨rfl, below_setRow hbw (Nat.le_refl _) _⟩

set_option maxRecDepth 100000 in
set_option maxHeartbeats 1000000 in
theorem bic_any (s : ByteArray) (w : World) (hs : s.size ≤ 140737488351232) (hok : Ok w) :
    Calls Tryz.prog 15 #[.string s] w fun e w' => ∃ v, e = .returned (.tuple #[.agg (bicArr s), v]) ∧ ErrP v (bicR s).1 (bicR s).2 ∧ Below w.heap.size w w' := by
  have HOK := Lib.hid hok
  clear hok
  have hform : (⟨#[67, 67, 67, 67, 67, 67, 83, 83]⟩ : ByteArray) ++ (⟨#[83, 83, 83]⟩ : ByteArray) = ⟨#[67, 67, 67, 67, 67, 67, 83, 83, 83, 83, 83]⟩ := by decide
  have e8 : (⟨#[67, 67, 67, 67, 67, 67, 83, 83]⟩ : ByteArray).size = 8 := rfl
  have e3 : (⟨#[83, 83, 83]⟩ : ByteArray).size = 3 := rfl
  have hF8 := fun w => has_form s [67, 67, 67, 67, 67, 67, 83, 83] w (by omega) (by decide) (by decide)
  have hF11 := fun w => has_form s [67, 67, 67, 67, 67, 67, 83, 83, 83, 83, 83] w (by omega) (by decide) (by decide)
  by_cases h1 : (bicR s).1 = 0
  · obtain ⟨hlo, hhi⟩ := bicR_size h1
    have hz := hasR_zero h1
    have hlo4 : 4 ≤ s.size := by omega
    have hlo6 : 6 ≤ s.size := by omega
    have hi4 : (4 : Int) ≤ (s.size : Int) := by omega
    have hi6 : (6 : Int) ≤ (s.size : Int) := by omega
    have hi8 : (8 : Int) ≤ (s.size : Int) := by omega
    have hA : bicArr s = #[.string (s.extract 0 4), .string (s.extract 4 6), .string (s.extract 6 8), .string (bicTail s)] := by unfold bicArr; rw [if_pos h1]
    have hR : bicR s = (0, none) := hz
    rw [hA, hR]
    clear hR hA h1 hhi
    by_cases h8 : s.size = 8
    · have e : formBic s.size = [67, 67, 67, 67, 67, 67, 83, 83] := by unfold formBic; rw [if_pos h8]
      have hF := hF8
      rw [e] at hz
      have k8 : ((s.size : Int) != 8) = false := by simp only [bne_eq_false_iff_eq]; omega
      clear hF8 hF11 e h8
      have HZ := Lib.hid hz
      clear hz
      cases hx : ((s.extract 8 s.size).toList == [88, 88, 88])
      · have hT : bicTail s = s.extract 8 s.size := by unfold bicTail; rw [hx]; rfl
        rw [hT]
        clear hT
        go_enter Tryz.func15, Tryz.ntmps15
        go_wp2_with fail
        refine (hF _ (Ok.below HOK.out ((Below.refl _ _).alloc (Nat.le_refl _) _))).mono ?_
        rintro e w1 ⟨v, rfl, hE, hB⟩
        have hres := blk_below hB (heap_alloc_new w (.cells #[.string ⟨#[]⟩, .string ⟨#[]⟩, .string ⟨#[]⟩, .string ⟨#[]⟩] 41)) (by simp)
        have hbw : Below w.heap.size w w1 := ((Below.refl _ _).alloc (Nat.le_refl _) _).trans (hB.mono (by simp))

        rw [HZ.out] at hE
        obtain ⟨rfl, _⟩ := hE.zero rfl
        have hlt1 := lt_of_block hres
        go_upto_region 7 with fail
        refine wp_region_held_drew (S := fun w' => Below w.heap.size w w') (by kernel_rfl) hbw.drew (fun hHeld => ?_)
        (refine rg_yes 0 ?v41 (by simp only [List.getElem?_toArray, List.getElem?_cons_succ, List.getElem?_cons_zero]; rfl) (by kernel_rfl) (by kernel_rfl) (by kernel_rfl) (by exact fun _ _ _ h => h) (by kernel_rfl) (by assumption) ?y41 ?z41; case y41 => (intro w hSw; (try dsimp only at hSw); go_simp; (try (rw [if_neg (by omega)])); (try with_reducible rfl)))
        (try simp only [Act.put, List.setIfInBounds_toArray, List.set_cons_zero, List.set_cons_succ])
        (refine rg_yes 1 ?v42 (by simp only [List.getElem?_toArray, List.getElem?_cons_succ, List.getElem?_cons_zero]; rfl) (by kernel_rfl) (by kernel_rfl) (by kernel_rfl) (by exact fun _ _ _ h => h) (by kernel_rfl) (by assumption) ?y42 ?z42; case y42 => (intro w hSw; (try dsimp only at hSw); go_simp; (try (rw [if_neg (by omega)])); (try with_reducible rfl)))
        (try simp only [Act.put, List.setIfInBounds_toArray, List.set_cons_zero, List.set_cons_succ])
        (refine rg_yes 2 ?v43 (by simp only [List.getElem?_toArray, List.getElem?_cons_succ, List.getElem?_cons_zero]; rfl) (by kernel_rfl) (by kernel_rfl) (by kernel_rfl) (by exact fun _ _ _ h => h) (by kernel_rfl) (by assumption) ?y43 ?z43; case y43 => (intro w hSw; (try dsimp only at hSw); go_simp; (try (rw [if_neg (by omega)])); (try with_reducible rfl)))
        (try simp only [Act.put, List.setIfInBounds_toArray, List.set_cons_zero, List.set_cons_succ])
        (refine rg_yes 3 ?v44 (by simp only [List.getElem?_toArray, List.getElem?_cons_succ, List.getElem?_cons_zero]; rfl) (by kernel_rfl) (by kernel_rfl) (by kernel_rfl) (by exact fun _ _ _ h => h) (by kernel_rfl) (by assumption) ?y44 ?z44; case y44 => (intro w hSw; (try dsimp only at hSw); go_simp; (try (rw [if_neg (by omega)])); (try with_reducible rfl)))
        (try simp only [Act.put, List.setIfInBounds_toArray, List.set_cons_zero, List.set_cons_succ])
        (refine rg_yes 4 ?v45 (by simp only [List.getElem?_toArray, List.getElem?_cons_succ, List.getElem?_cons_zero]; rfl) (by kernel_rfl) (by kernel_rfl) (by kernel_rfl) (by exact fun _ _ _ h => h) (by kernel_rfl) (by assumption) ?y45 ?z45; case y45 => (intro w hSw; (try dsimp only at hSw); go_simp; (try (rw [if_neg (by omega)])); (try with_reducible rfl)))
        (try simp only [Act.put, List.setIfInBounds_toArray, List.set_cons_zero, List.set_cons_succ])
        (refine rg_yes 5 ?v46 (by simp only [List.getElem?_toArray, List.getElem?_cons_succ, List.getElem?_cons_zero]; rfl) (by kernel_rfl) (by kernel_rfl) (by kernel_rfl) (by exact fun _ _ _ h => h) (by kernel_rfl) (by assumption) ?y46 ?z46; case y46 => (intro w hSw; (try dsimp only at hSw); go_simp; (try (rw [if_neg (by omega)])); (try with_reducible rfl)))
        (try simp only [Act.put, List.setIfInBounds_toArray, List.set_cons_zero, List.set_cons_succ])
        (refine rg_yes 6 ?v47 (by simp only [List.getElem?_toArray, List.getElem?_cons_succ, List.getElem?_cons_zero]; rfl) (by kernel_rfl) (by kernel_rfl) (by kernel_rfl) (by exact fun _ _ _ h => h) (by kernel_rfl) (by assumption) ?y47 ?z47; case y47 => (intro w hSw; (try dsimp only at hSw); go_simp; (try (rw [if_neg (by omega)])); (try with_reducible rfl)))
        (try simp only [Act.put, List.setIfInBounds_toArray, List.set_cons_zero, List.set_cons_succ])
        (refine rg_yes 7 ?v48 (by simp only [List.getElem?_toArray, List.getElem?_cons_succ, List.getElem?_cons_zero]; rfl) (by kernel_rfl) (by kernel_rfl) (by kernel_rfl) (by exact fun _ _ _ h => h) (by kernel_rfl) (by assumption) ?y48 ?z48; case y48 => (intro w hSw; (try dsimp only at hSw); go_simp; (try (rw [if_neg (by omega)])); (try with_reducible rfl)))
        (try simp only [Act.put, List.setIfInBounds_toArray, List.set_cons_zero, List.set_cons_succ])
        (refine rg_yes 8 ?v49 (by simp only [List.getElem?_toArray, List.getElem?_cons_succ, List.getElem?_cons_zero]; rfl) (by kernel_rfl) (by kernel_rfl) (by kernel_rfl) (by exact fun _ _ _ h => h) (by kernel_rfl) (by assumption) ?y49 ?z49; case y49 => (intro w hSw; (try dsimp only at hSw); go_simp; (try (rw [if_neg (by omega)])); (try with_reducible rfl)))
        (try simp only [Act.put, List.setIfInBounds_toArray, List.set_cons_zero, List.set_cons_succ])
        refine rg_one 9 _ _ (by simp only [List.getElem?_toArray, List.getElem?_cons_succ, List.getElem?_cons_zero]; rfl) (by kernel_rfl) (by kernel_rfl) (by go_simp; first | exact ⟨rfl, rfl⟩ | rfl) (hHeld.alloc hHeld.size _) (fun hHeld => ?_)
        (try simp only [Act.put, List.setIfInBounds_toArray, List.set_cons_zero, List.set_cons_succ])
        refine rg_wp 10 (by simp only [List.getElem?_toArray, List.getElem?_cons_succ, List.getElem?_cons_zero]; rfl) (by kernel_rfl) (by kernel_rfl) (wp_store_row 41 _ _ rfl w1.heap.size _ rfl rfl 41 _ (heap_alloc_new w1.drew _) (by kernel_rfl) (by rfl) (by simp [Value.oneCell']) ⟨below_setRow hHeld hbw.size _, fun hHeld => ?_⟩)
        (try simp only [Act.put, List.setIfInBounds_toArray, List.set_cons_zero, List.set_cons_succ])
        refine wpAnyH_done (by kernel_rfl) ?_ _
        have hrow := setRow_heap _ _ _ #[.string (s.extract 0 4), .string (s.extract 4 6), .string (s.extract 6 8), .string (s.extract 8 s.size)] _ _ (heap_alloc_new w1.drew (.cells #[.string ⟨#[]⟩, .string ⟨#[]⟩, .string ⟨#[]⟩, .string ⟨#[]⟩] 41))
        have hres2 : ((w1.drew.alloc (.cells #[.string ⟨#[]⟩, .string ⟨#[]⟩, .string ⟨#[]⟩, .string ⟨#[]⟩] 41)).setRow w1.heap.size #[.string (s.extract 0 4), .string (s.extract 4 6), .string (s.extract 6 8), .string (s.extract 8 s.size)]).heap[w.heap.size]? = some (.cells #[.string ⟨#[]⟩, .string ⟨#[]⟩, .string ⟨#[]⟩, .string ⟨#[]⟩] 41 (0, 0)) := by
          rw [setRow_other _ _ _ _ (Nat.ne_of_lt hlt1)]
          exact (heap_alloc_old w1.drew _ hlt1).trans hres
        have hs0 : w1.drew.heap.size = w1.heap.size := rfl
        rw [hs0] at hrow
        have hHeld2 : Below w.heap.size w ((w1.drew.alloc (.cells #[.string ⟨#[]⟩, .string ⟨#[]⟩, .string ⟨#[]⟩, .string ⟨#[]⟩] 41)).setRow w1.heap.size #[.string (s.extract 0 4), .string (s.extract 4 6), .string (s.extract 6 8), .string (s.extract 8 s.size)]) := below_setRow (hbw.drew.alloc hbw.size _) hbw.size _
        generalize (w1.drew.alloc (.cells #[.string ⟨#[]⟩, .string ⟨#[]⟩, .string ⟨#[]⟩, .string ⟨#[]⟩] 41)).setRow w1.heap.size #[.string (s.extract 0 4), .string (s.extract 4 6), .string (s.extract 6 8), .string (s.extract 8 s.size)] = w2 at hrow hres2 hHeld2 ⊢
        generalize w1.heap.size = g at *
        have hc3 : w2.cell? ⟨g, 3, none⟩ = some (.string (s.extract 8 s.size)) := by rw [cell_of_row _ _ _ _ _ _ hrow]; rfl
        have hfr := free_of_row hrow 3

        have HROW := Lib.hid hrow
        have HRES := Lib.hid hres2
        have hHeld3 := hHeld2
        clear hrow hres2 hres

        go_wp2_with (first | (refine wpList_load_row rfl 41 _ rfl g rfl 41 _ (0, 0) _ HROW.out Tryz.underlying41 rfl (by kernel_rfl) ?_) | (refine wpList_store_row rfl 41 _ _ rfl w.heap.size _ rfl rfl 41 _ HRES.out (by kernel_rfl) (by rfl) (by simp [Value.oneCell']) ?_))
        exact bodyPost_ret (v := .tuple #[.agg _, .nilIface]) (results_cell_row_tmp (fn := Tryz.f15) (p := 2) (u := 3) rfl _ _ w.heap.size 41 _ (0, 0) _ rfl (setRow_heap _ _ _ _ _ _ HRES.out) Tryz.underlying41 rfl (by kernel_rfl)) rfl ⟨_, rfl, .nil, below_setRow hHeld3 (Nat.le_refl _) _⟩
      · have hT : bicTail s = ⟨#[]⟩ := by unfold bicTail; rw [hx]; rfl
        rw [hT]
        clear hT
        go_enter Tryz.func15, Tryz.ntmps15
        go_wp2_with fail
        refine (hF _ (Ok.below HOK.out ((Below.refl _ _).alloc (Nat.le_refl _) _))).mono ?_
        rintro e w1 ⟨v, rfl, hE, hB⟩
        have hres := blk_below hB (heap_alloc_new w (.cells #[.string ⟨#[]⟩, .string ⟨#[]⟩, .string ⟨#[]⟩, .string ⟨#[]⟩] 41)) (by simp)
        have hbw : Below w.heap.size w w1 := ((Below.refl _ _).alloc (Nat.le_refl _) _).trans (hB.mono (by simp))

        rw [HZ.out] at hE
        obtain ⟨rfl, _⟩ := hE.zero rfl
        have hlt1 := lt_of_block hres
        go_upto_region 7 with fail
        refine wp_region_held_drew (S := fun w' => Below w.heap.size w w') (by kernel_rfl) hbw.drew (fun hHeld => ?_)
        (refine rg_yes 0 ?v50 (by simp only [List.getElem?_toArray, List.getElem?_cons_succ, List.getElem?_cons_zero]; rfl) (by kernel_rfl) (by kernel_rfl) (by kernel_rfl) (by exact fun _ _ _ h => h) (by kernel_rfl) (by assumption) ?y50 ?z50; case y50 => (intro w hSw; (try dsimp only at hSw); go_simp; (try (rw [if_neg (by omega)])); (try with_reducible rfl)))
        (try simp only [Act.put, List.setIfInBounds_toArray, List.set_cons_zero, List.set_cons_succ])
        (refine rg_yes 1 ?v51 (by simp only [List.getElem?_toArray, List.getElem?_cons_succ, List.getElem?_cons_zero]; rfl) (by kernel_rfl) (by kernel_rfl) (by kernel_rfl) (by exact fun _ _ _ h => h) (by kernel_rfl) (by assumption) ?y51 ?z51; case y51 => (intro w hSw; (try dsimp only at hSw); go_simp; (try (rw [if_neg (by omega)])); (try with_reducible rfl)))
        (try simp only [Act.put, List.setIfInBounds_toArray, List.set_cons_zero, List.set_cons_succ])
        (refine rg_yes 2 ?v52 (by simp only [List.getElem?_toArray, List.getElem?_cons_succ, List.getElem?_cons_zero]; rfl) (by kernel_rfl) (by kernel_rfl) (by kernel_rfl) (by exact fun _ _ _ h => h) (by kernel_rfl) (by assumption) ?y52 ?z52; case y52 => (intro w hSw; (try dsimp only at hSw); go_simp; (try (rw [if_neg (by omega)])); (try with_reducible rfl)))
        (try simp only [Act.put, List.setIfInBounds_toArray, List.set_cons_zero, List.set_cons_succ])
        (refine rg_yes 3 ?v53 (by simp only [List.getElem?_toArray, List.getElem?_cons_succ, List.getElem?_cons_zero]; rfl) (by kernel_rfl) (by kernel_rfl) (by kernel_rfl) (by exact fun _ _ _ h => h) (by kernel_rfl) (by assumption) ?y53 ?z53; case y53 => (intro w hSw; (try dsimp only at hSw); go_simp; (try (rw [if_neg (by omega)])); (try with_reducible rfl)))
        (try simp only [Act.put, List.setIfInBounds_toArray, List.set_cons_zero, List.set_cons_succ])
        (refine rg_yes 4 ?v54 (by simp only [List.getElem?_toArray, List.getElem?_cons_succ, List.getElem?_cons_zero]; rfl) (by kernel_rfl) (by kernel_rfl) (by kernel_rfl) (by exact fun _ _ _ h => h) (by kernel_rfl) (by assumption) ?y54 ?z54; case y54 => (intro w hSw; (try dsimp only at hSw); go_simp; (try (rw [if_neg (by omega)])); (try with_reducible rfl)))
        (try simp only [Act.put, List.setIfInBounds_toArray, List.set_cons_zero, List.set_cons_succ])
        (refine rg_yes 5 ?v55 (by simp only [List.getElem?_toArray, List.getElem?_cons_succ, List.getElem?_cons_zero]; rfl) (by kernel_rfl) (by kernel_rfl) (by kernel_rfl) (by exact fun _ _ _ h => h) (by kernel_rfl) (by assumption) ?y55 ?z55; case y55 => (intro w hSw; (try dsimp only at hSw); go_simp; (try (rw [if_neg (by omega)])); (try with_reducible rfl)))
        (try simp only [Act.put, List.setIfInBounds_toArray, List.set_cons_zero, List.set_cons_succ])
        (refine rg_yes 6 ?v56 (by simp only [List.getElem?_toArray, List.getElem?_cons_succ, List.getElem?_cons_zero]; rfl) (by kernel_rfl) (by kernel_rfl) (by kernel_rfl) (by exact fun _ _ _ h => h) (by kernel_rfl) (by assumption) ?y56 ?z56; case y56 => (intro w hSw; (try dsimp only at hSw); go_simp; (try (rw [if_neg (by omega)])); (try with_reducible rfl)))
        (try simp only [Act.put, List.setIfInBounds_toArray, List.set_cons_zero, List.set_cons_succ])
        (refine rg_yes 7 ?v57 (by simp only [List.getElem?_toArray, List.getElem?_cons_succ, List.getElem?_cons_zero]; rfl) (by kernel_rfl) (by kernel_rfl) (by kernel_rfl) (by exact fun _ _ _ h => h) (by kernel_rfl) (by assumption) ?y57 ?z57; case y57 => (intro w hSw; (try dsimp only at hSw); go_simp; (try (rw [if_neg (by omega)])); (try with_reducible rfl)))
        (try simp only [Act.put, List.setIfInBounds_toArray, List.set_cons_zero, List.set_cons_succ])
        (refine rg_yes 8 ?v58 (by simp only [List.getElem?_toArray, List.getElem?_cons_succ, List.getElem?_cons_zero]; rfl) (by kernel_rfl) (by kernel_rfl) (by kernel_rfl) (by exact fun _ _ _ h => h) (by kernel_rfl) (by assumption) ?y58 ?z58; case y58 => (intro w hSw; (try dsimp only at hSw); go_simp; (try (rw [if_neg (by omega)])); (try with_reducible rfl)))
        (try simp only [Act.put, List.setIfInBounds_toArray, List.set_cons_zero, List.set_cons_succ])
        refine rg_one 9 _ _ (by simp only [List.getElem?_toArray, List.getElem?_cons_succ, List.getElem?_cons_zero]; rfl) (by kernel_rfl) (by kernel_rfl) (by go_simp; first | exact ⟨rfl, rfl⟩ | rfl) (hHeld.alloc hHeld.size _) (fun hHeld => ?_)
        (try simp only [Act.put, List.setIfInBounds_toArray, List.set_cons_zero, List.set_cons_succ])
        refine rg_wp 10 (by simp only [List.getElem?_toArray, List.getElem?_cons_succ, List.getElem?_cons_zero]; rfl) (by kernel_rfl) (by kernel_rfl) (wp_store_row 41 _ _ rfl w1.heap.size _ rfl rfl 41 _ (heap_alloc_new w1.drew _) (by kernel_rfl) (by rfl) (by simp [Value.oneCell']) ⟨below_setRow hHeld hbw.size _, fun hHeld => ?_⟩)
        (try simp only [Act.put, List.setIfInBounds_toArray, List.set_cons_zero, List.set_cons_succ])
        refine wpAnyH_done (by kernel_rfl) ?_ _
        have hrow := setRow_heap _ _ _ #[.string (s.extract 0 4), .string (s.extract 4 6), .string (s.extract 6 8), .string (s.extract 8 s.size)] _ _ (heap_alloc_new w1.drew (.cells #[.string ⟨#[]⟩, .string ⟨#[]⟩, .string ⟨#[]⟩, .string ⟨#[]⟩] 41))
        have hres2 : ((w1.drew.alloc (.cells #[.string ⟨#[]⟩, .string ⟨#[]⟩, .string ⟨#[]⟩, .string ⟨#[]⟩] 41)).setRow w1.heap.size #[.string (s.extract 0 4), .string (s.extract 4 6), .string (s.extract 6 8), .string (s.extract 8 s.size)]).heap[w.heap.size]? = some (.cells #[.string ⟨#[]⟩, .string ⟨#[]⟩, .string ⟨#[]⟩, .string ⟨#[]⟩] 41 (0, 0)) := by
          rw [setRow_other _ _ _ _ (Nat.ne_of_lt hlt1)]
          exact (heap_alloc_old w1.drew _ hlt1).trans hres
        have hs0 : w1.drew.heap.size = w1.heap.size := rfl
        rw [hs0] at hrow
        have hHeld2 : Below w.heap.size w ((w1.drew.alloc (.cells #[.string ⟨#[]⟩, .string ⟨#[]⟩, .string ⟨#[]⟩, .string ⟨#[]⟩] 41)).setRow w1.heap.size #[.string (s.extract 0 4), .string (s.extract 4 6), .string (s.extract 6 8), .string (s.extract 8 s.size)]) := below_setRow (hbw.drew.alloc hbw.size _) hbw.size _
        generalize (w1.drew.alloc (.cells #[.string ⟨#[]⟩, .string ⟨#[]⟩, .string ⟨#[]⟩, .string ⟨#[]⟩] 41)).setRow w1.heap.size #[.string (s.extract 0 4), .string (s.extract 4 6), .string (s.extract 6 8), .string (s.extract 8 s.size)] = w2 at hrow hres2 hHeld2 ⊢
        generalize w1.heap.size = g at *
        have hc3 : w2.cell? ⟨g, 3, none⟩ = some (.string (s.extract 8 s.size)) := by rw [cell_of_row _ _ _ _ _ _ hrow]; rfl
        have hfr := free_of_row hrow 3

        have hrow3 : (w2.setCell ⟨g, 3, none⟩ (.string ⟨#[]⟩)).heap[g]? = some (.cells #[.string (s.extract 0 4), .string (s.extract 4 6), .string (s.extract 6 8), .string ⟨#[]⟩] 41 (0, 0)) := setCell_row hrow 3 (.string ⟨#[]⟩)
        have hres3 : (w2.setCell ⟨g, 3, none⟩ (.string ⟨#[]⟩)).heap[w.heap.size]? = some (.cells #[.string ⟨#[]⟩, .string ⟨#[]⟩, .string ⟨#[]⟩, .string ⟨#[]⟩] 41 (0, 0)) := (Go.Deep.blk_setCell_other _ _ _ _ (Nat.ne_of_lt hlt1)).trans hres2
        have hHeld3 : Below w.heap.size w (w2.setCell ⟨g, 3, none⟩ (.string ⟨#[]⟩)) := hHeld2.setCell (p := ⟨g, 3, none⟩) (Nat.le_of_lt hlt1) _
        have HROW := Lib.hid hrow3
        have HRES := Lib.hid hres3
        clear hrow hres2 hres hrow3 hres3

        go_wp2_with (first | (refine wpList_load_row rfl 41 _ rfl g rfl 41 _ (0, 0) _ HROW.out Tryz.underlying41 rfl (by kernel_rfl) ?_) | (refine wpList_store_row rfl 41 _ _ rfl w.heap.size _ rfl rfl 41 _ HRES.out (by kernel_rfl) (by rfl) (by simp [Value.oneCell']) ?_))
        exact bodyPost_ret (v := .tuple #[.agg _, .nilIface]) (results_cell_row_tmp (fn := Tryz.f15) (p := 2) (u := 3) rfl _ _ w.heap.size 41 _ (0, 0) _ rfl (setRow_heap _ _ _ _ _ _ HRES.out) Tryz.underlying41 rfl (by kernel_rfl)) rfl ⟨_, rfl, .nil, below_setRow hHeld3 (Nat.le_refl _) _⟩
    · have e : formBic s.size = [67, 67, 67, 67, 67, 67, 83, 83, 83, 83, 83] := by unfold formBic; rw [if_neg h8]
      have hF := hF11
      rw [e] at hz
      have k8 : ((s.size : Int) != 8) = true := by simp only [bne_iff_ne, ne_eq]; omega
      clear hF8 hF11 e h8
      have HZ := Lib.hid hz
      clear hz
      cases hx : ((s.extract 8 s.size).toList == [88, 88, 88])
      · have hT : bicTail s = s.extract 8 s.size := by unfold bicTail; rw [hx]; rfl
        rw [hT]
        clear hT
        go_enter Tryz.func15, Tryz.ntmps15
        go_wp2_with fail
        refine (hF _ (Ok.below HOK.out ((Below.refl _ _).alloc (Nat.le_refl _) _))).mono ?_
        rintro e w1 ⟨v, rfl, hE, hB⟩
        have hres := blk_below hB (heap_alloc_new w (.cells #[.string ⟨#[]⟩, .string ⟨#[]⟩, .string ⟨#[]⟩, .string ⟨#[]⟩] 41)) (by simp)
        have hbw : Below w.heap.size w w1 := ((Below.refl _ _).alloc (Nat.le_refl _) _).trans (hB.mono (by simp))

        rw [HZ.out] at hE
        obtain ⟨rfl, _⟩ := hE.zero rfl
        have hlt1 := lt_of_block hres
        go_upto_region 7 with fail
        refine wp_region_held_drew (S := fun w' => Below w.heap.size w w') (by kernel_rfl) hbw.drew (fun hHeld => ?_)
        (refine rg_yes 0 ?v59 (by simp only [List.getElem?_toArray, List.getElem?_cons_succ, List.getElem?_cons_zero]; rfl) (by kernel_rfl) (by kernel_rfl) (by kernel_rfl) (by exact fun _ _ _ h => h) (by kernel_rfl) (by assumption) ?y59 ?z59; case y59 => (intro w hSw; (try dsimp only at hSw); go_simp; (try (rw [if_neg (by omega)])); (try with_reducible rfl)))
        (try simp only [Act.put, List.setIfInBounds_toArray, List.set_cons_zero, List.set_cons_succ])
        (refine rg_yes 1 ?v60 (by simp only [List.getElem?_toArray, List.getElem?_cons_succ, List.getElem?_cons_zero]; rfl) (by kernel_rfl) (by kernel_rfl) (by kernel_rfl) (by exact fun _ _ _ h => h) (by kernel_rfl) (by assumption) ?y60 ?z60; case y60 => (intro w hSw; (try dsimp only at hSw); go_simp; (try (rw [if_neg (by omega)])); (try with_reducible rfl)))
        (try simp only [Act.put, List.setIfInBounds_toArray, List.set_cons_zero, List.set_cons_succ])
        (refine rg_yes 2 ?v61 (by simp only [List.getElem?_toArray, List.getElem?_cons_succ, List.getElem?_cons_zero]; rfl) (by kernel_rfl) (by kernel_rfl) (by kernel_rfl) (by exact fun _ _ _ h => h) (by kernel_rfl) (by assumption) ?y61 ?z61; case y61 => (intro w hSw; (try dsimp only at hSw); go_simp; (try (rw [if_neg (by omega)])); (try with_reducible rfl)))
        (try simp only [Act.put, List.setIfInBounds_toArray, List.set_cons_zero, List.set_cons_succ])
        (refine rg_yes 3 ?v62 (by simp only [List.getElem?_toArray, List.getElem?_cons_succ, List.getElem?_cons_zero]; rfl) (by kernel_rfl) (by kernel_rfl) (by kernel_rfl) (by exact fun _ _ _ h => h) (by kernel_rfl) (by assumption) ?y62 ?z62; case y62 => (intro w hSw; (try dsimp only at hSw); go_simp; (try (rw [if_neg (by omega)])); (try with_reducible rfl)))
        (try simp only [Act.put, List.setIfInBounds_toArray, List.set_cons_zero, List.set_cons_succ])
        (refine rg_yes 4 ?v63 (by simp only [List.getElem?_toArray, List.getElem?_cons_succ, List.getElem?_cons_zero]; rfl) (by kernel_rfl) (by kernel_rfl) (by kernel_rfl) (by exact fun _ _ _ h => h) (by kernel_rfl) (by assumption) ?y63 ?z63; case y63 => (intro w hSw; (try dsimp only at hSw); go_simp; (try (rw [if_neg (by omega)])); (try with_reducible rfl)))
        (try simp only [Act.put, List.setIfInBounds_toArray, List.set_cons_zero, List.set_cons_succ])
        (refine rg_yes 5 ?v64 (by simp only [List.getElem?_toArray, List.getElem?_cons_succ, List.getElem?_cons_zero]; rfl) (by kernel_rfl) (by kernel_rfl) (by kernel_rfl) (by exact fun _ _ _ h => h) (by kernel_rfl) (by assumption) ?y64 ?z64; case y64 => (intro w hSw; (try dsimp only at hSw); go_simp; (try (rw [if_neg (by omega)])); (try with_reducible rfl)))
        (try simp only [Act.put, List.setIfInBounds_toArray, List.set_cons_zero, List.set_cons_succ])
        (refine rg_yes 6 ?v65 (by simp only [List.getElem?_toArray, List.getElem?_cons_succ, List.getElem?_cons_zero]; rfl) (by kernel_rfl) (by kernel_rfl) (by kernel_rfl) (by exact fun _ _ _ h => h) (by kernel_rfl) (by assumption) ?y65 ?z65; case y65 => (intro w hSw; (try dsimp only at hSw); go_simp; (try (rw [if_neg (by omega)])); (try with_reducible rfl)))
        (try simp only [Act.put, List.setIfInBounds_toArray, List.set_cons_zero, List.set_cons_succ])
        (refine rg_yes 7 ?v66 (by simp only [List.getElem?_toArray, List.getElem?_cons_succ, List.getElem?_cons_zero]; rfl) (by kernel_rfl) (by kernel_rfl) (by kernel_rfl) (by exact fun _ _ _ h => h) (by kernel_rfl) (by assumption) ?y66 ?z66; case y66 => (intro w hSw; (try dsimp only at hSw); go_simp; (try (rw [if_neg (by omega)])); (try with_reducible rfl)))
        (try simp only [Act.put, List.setIfInBounds_toArray, List.set_cons_zero, List.set_cons_succ])
        (refine rg_yes 8 ?v67 (by simp only [List.getElem?_toArray, List.getElem?_cons_succ, List.getElem?_cons_zero]; rfl) (by kernel_rfl) (by kernel_rfl) (by kernel_rfl) (by exact fun _ _ _ h => h) (by kernel_rfl) (by assumption) ?y67 ?z67; case y67 => (intro w hSw; (try dsimp only at hSw); go_simp; (try (rw [if_neg (by omega)])); (try with_reducible rfl)))
        (try simp only [Act.put, List.setIfInBounds_toArray, List.set_cons_zero, List.set_cons_succ])
        refine rg_one 9 _ _ (by simp only [List.getElem?_toArray, List.getElem?_cons_succ, List.getElem?_cons_zero]; rfl) (by kernel_rfl) (by kernel_rfl) (by go_simp; first | exact ⟨rfl, rfl⟩ | rfl) (hHeld.alloc hHeld.size _) (fun hHeld => ?_)
        (try simp only [Act.put, List.setIfInBounds_toArray, List.set_cons_zero, List.set_cons_succ])
        refine rg_wp 10 (by simp only [List.getElem?_toArray, List.getElem?_cons_succ, List.getElem?_cons_zero]; rfl) (by kernel_rfl) (by kernel_rfl) (wp_store_row 41 _ _ rfl w1.heap.size _ rfl rfl 41 _ (heap_alloc_new w1.drew _) (by kernel_rfl) (by rfl) (by simp [Value.oneCell']) ⟨below_setRow hHeld hbw.size _, fun hHeld => ?_⟩)
        (try simp only [Act.put, List.setIfInBounds_toArray, List.set_cons_zero, List.set_cons_succ])
        refine wpAnyH_done (by kernel_rfl) ?_ _
        have hrow := setRow_heap _ _ _ #[.string (s.extract 0 4), .string (s.extract 4 6), .string (s.extract 6 8), .string (s.extract 8 s.size)] _ _ (heap_alloc_new w1.drew (.cells #[.string ⟨#[]⟩, .string ⟨#[]⟩, .string ⟨#[]⟩, .string ⟨#[]⟩] 41))
        have hres2 : ((w1.drew.alloc (.cells #[.string ⟨#[]⟩, .string ⟨#[]⟩, .string ⟨#[]⟩, .string ⟨#[]⟩] 41)).setRow w1.heap.size #[.string (s.extract 0 4), .string (s.extract 4 6), .string (s.extract 6 8), .string (s.extract 8 s.size)]).heap[w.heap.size]? = some (.cells #[.string ⟨#[]⟩, .string ⟨#[]⟩, .string ⟨#[]⟩, .string ⟨#[]⟩] 41 (0, 0)) := by
          rw [setRow_other _ _ _ _ (Nat.ne_of_lt hlt1)]
          exact (heap_alloc_old w1.drew _ hlt1).trans hres
        have hs0 : w1.drew.heap.size = w1.heap.size := rfl
        rw [hs0] at hrow
        have hHeld2 : Below w.heap.size w ((w1.drew.alloc (.cells #[.string ⟨#[]⟩, .string ⟨#[]⟩, .string ⟨#[]⟩, .string ⟨#[]⟩] 41)).setRow w1.heap.size #[.string (s.extract 0 4), .string (s.extract 4 6), .string (s.extract 6 8), .string (s.extract 8 s.size)]) := below_setRow (hbw.drew.alloc hbw.size _) hbw.size _
        generalize (w1.drew.alloc (.cells #[.string ⟨#[]⟩, .string ⟨#[]⟩, .string ⟨#[]⟩, .string ⟨#[]⟩] 41)).setRow w1.heap.size #[.string (s.extract 0 4), .string (s.extract 4 6), .string (s.extract 6 8), .string (s.extract 8 s.size)] = w2 at hrow hres2 hHeld2 ⊢
        generalize w1.heap.size = g at *
        have hc3 : w2.cell? ⟨g, 3, none⟩ = some (.string (s.extract 8 s.size)) := by rw [cell_of_row _ _ _ _ _ _ hrow]; rfl
        have hfr := free_of_row hrow 3

        have HROW := Lib.hid hrow
        have HRES := Lib.hid hres2
        have hHeld3 := hHeld2
        clear hrow hres2 hres

        go_wp2_with (first | (refine wpList_load_row rfl 41 _ rfl g rfl 41 _ (0, 0) _ HROW.out Tryz.underlying41 rfl (by kernel_rfl) ?_) | (refine wpList_store_row rfl 41 _ _ rfl w.heap.size _ rfl rfl 41 _ HRES.out (by kernel_rfl) (by rfl) (by simp [Value.oneCell']) ?_))
        exact bodyPost_ret (v := .tuple #[.agg _, .nilIface]) (results_cell_row_tmp (fn := Tryz.f15) (p := 2) (u := 3) rfl _ _ w.heap.size 41 _ (0, 0) _ rfl (setRow_heap _ _ _ _ _ _ HRES.out) Tryz.underlying41 rfl (by kernel_rfl)) rfl ⟨_, rfl, .nil, below_setRow hHeld3 (Nat.le_refl _) _⟩
      · have hT : bicTail s = ⟨#[]⟩ := by unfold bicTail; rw [hx]; rfl
        rw [hT]
        clear hT
        go_enter Tryz.func15, Tryz.ntmps15
        go_wp2_with fail
        refine (hF _ (Ok.below HOK.out ((Below.refl _ _).alloc (Nat.le_refl _) _))).mono ?_
        rintro e w1 ⟨v, rfl, hE, hB⟩
        have hres := blk_below hB (heap_alloc_new w (.cells #[.string ⟨#[]⟩, .string ⟨#[]⟩, .string ⟨#[]⟩, .string ⟨#[]⟩] 41)) (by simp)
        have hbw : Below w.heap.size w w1 := ((Below.refl _ _).alloc (Nat.le_refl _) _).trans (hB.mono (by simp))

        rw [HZ.out] at hE
        obtain ⟨rfl, _⟩ := hE.zero rfl
        have hlt1 := lt_of_block hres
        go_upto_region 7 with fail
        refine wp_region_held_drew (S := fun w' => Below w.heap.size w w') (by kernel_rfl) hbw.drew (fun hHeld => ?_)
        (refine rg_yes 0 ?v68 (by simp only [List.getElem?_toArray, List.getElem?_cons_succ, List.getElem?_cons_zero]; rfl) (by kernel_rfl) (by kernel_rfl) (by kernel_rfl) (by exact fun _ _ _ h => h) (by kernel_rfl) (by assumption) ?y68 ?z68; case y68 => (intro w hSw; (try dsimp only at hSw); go_simp; (try (rw [if_neg (by omega)])); (try with_reducible rfl)))
        (try simp only [Act.put, List.setIfInBounds_toArray, List.set_cons_zero, List.set_cons_succ])
        (refine rg_yes 1 ?v69 (by simp only [List.getElem?_toArray, List.getElem?_cons_succ, List.getElem?_cons_zero]; rfl) (by kernel_rfl) (by kernel_rfl) (by kernel_rfl) (by exact fun _ _ _ h => h) (by kernel_rfl) (by assumption) ?y69 ?z69; case y69 => (intro w hSw; (try dsimp only at hSw); go_simp; (try (rw [if_neg (by omega)])); (try with_reducible rfl)))
        (try simp only [Act.put, List.setIfInBounds_toArray, List.set_cons_zero, List.set_cons_succ])
        (refine rg_yes 2 ?v70 (by simp only [List.getElem?_toArray, List.getElem?_cons_succ, List.getElem?_cons_zero]; rfl) (by kernel_rfl) (by kernel_rfl) (by kernel_rfl) (by exact fun _ _ _ h => h) (by kernel_rfl) (by assumption) ?y70 ?z70; case y70 => (intro w hSw; (try dsimp only at hSw); go_simp; (try (rw [if_neg (by omega)])); (try with_reducible rfl)))
        (try simp only [Act.put, List.setIfInBounds_toArray, List.set_cons_zero, List.set_cons_succ])
        (refine rg_yes 3 ?v71 (by simp only [List.getElem?_toArray, List.getElem?_cons_succ, List.getElem?_cons_zero]; rfl) (by kernel_rfl) (by kernel_rfl) (by kernel_rfl) (by exact fun _ _ _ h => h) (by kernel_rfl) (by assumption) ?y71 ?z71; case y71 => (intro w hSw; (try dsimp only at hSw); go_simp; (try (rw [if_neg (by omega)])); (try with_reducible rfl)))
        (try simp only [Act.put, List.setIfInBounds_toArray, List.set_cons_zero, List.set_cons_succ])
        (refine rg_yes 4 ?v72 (by simp only [List.getElem?_toArray, List.getElem?_cons_succ, List.getElem?_cons_zero]; rfl) (by kernel_rfl) (by kernel_rfl) (by kernel_rfl) (by exact fun _ _ _ h => h) (by kernel_rfl) (by assumption) ?y72 ?z72; case y72 => (intro w hSw; (try dsimp only at hSw); go_simp; (try (rw [if_neg (by omega)])); (try with_reducible rfl)))
        (try simp only [Act.put, List.setIfInBounds_toArray, List.set_cons_zero, List.set_cons_succ])
        (refine rg_yes 5 ?v73 (by simp only [List.getElem?_toArray, List.getElem?_cons_succ, List.getElem?_cons_zero]; rfl) (by kernel_rfl) (by kernel_rfl) (by kernel_rfl) (by exact fun _ _ _ h => h) (by kernel_rfl) (by assumption) ?y73 ?z73; case y73 => (intro w hSw; (try dsimp only at hSw); go_simp; (try (rw [if_neg (by omega)])); (try with_reducible rfl)))
        (try simp only [Act.put, List.setIfInBounds_toArray, List.set_cons_zero, List.set_cons_succ])
        (refine rg_yes 6 ?v74 (by simp only [List.getElem?_toArray, List.getElem?_cons_succ, List.getElem?_cons_zero]; rfl) (by kernel_rfl) (by kernel_rfl) (by kernel_rfl) (by exact fun _ _ _ h => h) (by kernel_rfl) (by assumption) ?y74 ?z74; case y74 => (intro w hSw; (try dsimp only at hSw); go_simp; (try (rw [if_neg (by omega)])); (try with_reducible rfl)))
        (try simp only [Act.put, List.setIfInBounds_toArray, List.set_cons_zero, List.set_cons_succ])
        (refine rg_yes 7 ?v75 (by simp only [List.getElem?_toArray, List.getElem?_cons_succ, List.getElem?_cons_zero]; rfl) (by kernel_rfl) (by kernel_rfl) (by kernel_rfl) (by exact fun _ _ _ h => h) (by kernel_rfl) (by assumption) ?y75 ?z75; case y75 => (intro w hSw; (try dsimp only at hSw); go_simp; (try (rw [if_neg (by omega)])); (try with_reducible rfl)))
        (try simp only [Act.put, List.setIfInBounds_toArray, List.set_cons_zero, List.set_cons_succ])
        (refine rg_yes 8 ?v76 (by simp only [List.getElem?_toArray, List.getElem?_cons_succ, List.getElem?_cons_zero]; rfl) (by kernel_rfl) (by kernel_rfl) (by kernel_rfl) (by exact fun _ _ _ h => h) (by kernel_rfl) (by assumption) ?y76 ?z76; case y76 => (intro w hSw; (try dsimp only at hSw); go_simp; (try (rw [if_neg (by omega)])); (try with_reducible rfl)))
        (try simp only [Act.put, List.setIfInBounds_toArray, List.set_cons_zero, List.set_cons_succ])
        refine rg_one 9 _ _ (by simp only [List.getElem?_toArray, List.getElem?_cons_succ, List.getElem?_cons_zero]; rfl) (by kernel_rfl) (by kernel_rfl) (by go_simp; first | exact ⟨rfl, rfl⟩ | rfl) (hHeld.alloc hHeld.size _) (fun hHeld => ?_)
        (try simp only [Act.put, List.setIfInBounds_toArray, List.set_cons_zero, List.set_cons_succ])
        refine rg_wp 10 (by simp only [List.getElem?_toArray, List.getElem?_cons_succ, List.getElem?_cons_zero]; rfl) (by kernel_rfl) (by kernel_rfl) (wp_store_row 41 _ _ rfl w1.heap.size _ rfl rfl 41 _ (heap_alloc_new w1.drew _) (by kernel_rfl) (by rfl) (by simp [Value.oneCell']) ⟨below_setRow hHeld hbw.size _, fun hHeld => ?_⟩)
        (try simp only [Act.put, List.setIfInBounds_toArray, List.set_cons_zero, List.set_cons_succ])
        refine wpAnyH_done (by kernel_rfl) ?_ _
        have hrow := setRow_heap _ _ _ #[.string (s.extract 0 4), .string (s.extract 4 6), .string (s.extract 6 8), .string (s.extract 8 s.size)] _ _ (heap_alloc_new w1.drew (.cells #[.string ⟨#[]⟩, .string ⟨#[]⟩, .string ⟨#[]⟩, .string ⟨#[]⟩] 41))
        have hres2 : ((w1.drew.alloc (.cells #[.string ⟨#[]⟩, .string ⟨#[]⟩, .string ⟨#[]⟩, .string ⟨#[]⟩] 41)).setRow w1.heap.size #[.string (s.extract 0 4), .string (s.extract 4 6), .string (s.extract 6 8), .string (s.extract 8 s.size)]).heap[w.heap.size]? = some (.cells #[.string ⟨#[]⟩, .string ⟨#[]⟩, .string ⟨#[]⟩, .string ⟨#[]⟩] 41 (0, 0)) := by
          rw [setRow_other _ _ _ _ (Nat.ne_of_lt hlt1)]
          exact (heap_alloc_old w1.drew _ hlt1).trans hres
        have hs0 : w1.drew.heap.size = w1.heap.size := rfl
        rw [hs0] at hrow
        have hHeld2 : Below w.heap.size w ((w1.drew.alloc (.cells #[.string ⟨#[]⟩, .string ⟨#[]⟩, .string ⟨#[]⟩, .string ⟨#[]⟩] 41)).setRow w1.heap.size #[.string (s.extract 0 4), .string (s.extract 4 6), .string (s.extract 6 8), .string (s.extract 8 s.size)]) := below_setRow (hbw.drew.alloc hbw.size _) hbw.size _
        generalize (w1.drew.alloc (.cells #[.string ⟨#[]⟩, .string ⟨#[]⟩, .string ⟨#[]⟩, .string ⟨#[]⟩] 41)).setRow w1.heap.size #[.string (s.extract 0 4), .string (s.extract 4 6), .string (s.extract 6 8), .string (s.extract 8 s.size)] = w2 at hrow hres2 hHeld2 ⊢
        generalize w1.heap.size = g at *
        have hc3 : w2.cell? ⟨g, 3, none⟩ = some (.string (s.extract 8 s.size)) := by rw [cell_of_row _ _ _ _ _ _ hrow]; rfl
        have hfr := free_of_row hrow 3

        have hrow3 : (w2.setCell ⟨g, 3, none⟩ (.string ⟨#[]⟩)).heap[g]? = some (.cells #[.string (s.extract 0 4), .string (s.extract 4 6), .string (s.extract 6 8), .string ⟨#[]⟩] 41 (0, 0)) := setCell_row hrow 3 (.string ⟨#[]⟩)
        have hres3 : (w2.setCell ⟨g, 3, none⟩ (.string ⟨#[]⟩)).heap[w.heap.size]? = some (.cells #[.string ⟨#[]⟩, .string ⟨#[]⟩, .string ⟨#[]⟩, .string ⟨#[]⟩] 41 (0, 0)) := (Go.Deep.blk_setCell_other _ _ _ _ (Nat.ne_of_lt hlt1)).trans hres2
        have hHeld3 : Below w.heap.size w (w2.setCell ⟨g, 3, none⟩ (.string ⟨#[]⟩)) := hHeld2.setCell (p := ⟨g, 3, none⟩) (Nat.le_of_lt hlt1) _
        have HROW := Lib.hid hrow3
        have HRES := Lib.hid hres3
        clear hrow hres2 hres hrow3 hres3

        go_wp2_with (first | (refine wpList_load_row rfl 41 _ rfl g rfl 41 _ (0, 0) _ HROW.out Tryz.underlying41 rfl (by kernel_rfl) ?_) | (refine wpList_store_row rfl 41 _ _ rfl w.heap.size _ rfl rfl 41 _ HRES.out (by kernel_rfl) (by rfl) (by simp [Value.oneCell']) ?_))
        exact bodyPost_ret (v := .tuple #[.agg _, .nilIface]) (results_cell_row_tmp (fn := Tryz.f15) (p := 2) (u := 3) rfl _ _ w.heap.size 41 _ (0, 0) _ rfl (setRow_heap _ _ _ _ _ _ HRES.out) Tryz.underlying41 rfl (by kernel_rfl)) rfl ⟨_, rfl, .nil, below_setRow hHeld3 (Nat.le_refl _) _⟩
  · have hA : bicArr s = #[.string ⟨#[]⟩, .string ⟨#[]⟩, .string ⟨#[]⟩, .string ⟨#[]⟩] := by unfold bicArr; rw [if_neg h1]
    rw [hA]
    clear hA
    have hR : bicR s = hasR s.data.toList (formBic s.size) := rfl
    rw [hR] at h1 ⊢
    clear hR
    by_cases h8 : s.size = 8
    · have e : formBic s.size = [67, 67, 67, 67, 67, 67, 83, 83] := by unfold formBic; rw [if_pos h8]
      have hF := hF8
      rw [e] at h1 ⊢
      have k8 : ((s.size : Int) != 8) = false := by simp only [bne_eq_false_iff_eq]; omega
      clear hF8 hF11 e h8
      generalize hasR s.data.toList [67, 67, 67, 67, 67, 67, 83, 83] = r at h1 hF ⊢
      have hn : r.1 ≠ 0 := h1
      have hne : (r.1 != 0) = true := by simpa using h1
      clear h1
      go_enter Tryz.func15, Tryz.ntmps15
      go_wp2_with fail
      refine (hF _ (Ok.below HOK.out ((Below.refl _ _).alloc (Nat.le_refl _) _))).mono ?_
      rintro e w1 ⟨v, rfl, hE, hB⟩
      have hres := blk_below hB (heap_alloc_new w (.cells #[.string ⟨#[]⟩, .string ⟨#[]⟩, .string ⟨#[]⟩, .string ⟨#[]⟩] 41)) (by simp)
      have hbw : Below w.heap.size w w1 := ((Below.refl _ _).alloc (Nat.le_refl _) _).trans (hB.mono (by simp))

      obtain ⟨t, x, rfl⟩ := hE.held hn
      go_wp2_with (refine wpList_store_row rfl 41 _ _ rfl w.heap.size _ rfl rfl 41 _ hres (by kernel_rfl) (by rfl) (by simp [Value.oneCell']) ?_)
      exact bodyPost_ret (v := .tuple #[.agg _, .iface t x]) (results_cell_row_tmp (fn := Tryz.f15) (p := 2) (u := 3) rfl _ _ w.heap.size 41 _ (0, 0) _ rfl (setRow_heap _ _ _ _ _ _ hres) Tryz.underlying41 rfl (by kernel_rfl)) rfl ⟨_, rfl, hE, below_setRow hbw (Nat.le_refl _) _⟩
    · have e : formBic s.size = [67, 67, 67, 67, 67, 67, 83, 83, 83, 83, 83] := by unfold formBic; rw [if_neg h8]
      have hF := hF11
      rw [e] at h1 ⊢
      have k8 : ((s.size : Int) != 8) = true := by simp only [bne_iff_ne, ne_eq]; omega
      clear hF8 hF11 e h8
      generalize hasR s.data.toList [67, 67, 67, 67, 67, 67, 83, 83, 83, 83, 83] = r at h1 hF ⊢
      have hn : r.1 ≠ 0 := h1
      have hne : (r.1 != 0) = true := by simpa using h1
      clear h1
      go_enter Tryz.func15, Tryz.ntmps15
      go_wp2_with fail
      refine (hF _ (Ok.below HOK.out ((Below.refl _ _).alloc (Nat.le_refl _) _))).mono ?_
      rintro e w1 ⟨v, rfl, hE, hB⟩
      have hres := blk_below hB (heap_alloc_new w (.cells #[.string ⟨#[]⟩, .string ⟨#[]⟩, .string ⟨#[]⟩, .string ⟨#[]⟩] 41)) (by simp)
      have hbw : Below w.heap.size w w1 := ((Below.refl _ _).alloc (Nat.le_refl _) _).trans (hB.mono (by simp))

      obtain ⟨t, x, rfl⟩ := hE.held hn
      go_wp2_with (refine wpList_store_row rfl 41 _ _ rfl w.heap.size _ rfl rfl 41 _ hres (by kernel_rfl) (by rfl) (by simp [Value.oneCell']) ?_)
      exact bodyPost_ret (v := .tuple #[.agg _, .iface t x]) (results_cell_row_tmp (fn := Tryz.f15) (p := 2) (u := 3) rfl _ _ w.heap.size 41 _ (0, 0) _ rfl (setRow_heap _ _ _ _ _ _ hres) Tryz.underlying41 rfl (by kernel_rfl)) rfl ⟨_, rfl, hE, below_setRow hbw (Nat.le_refl _) _⟩
end Go.Proofs.YtenpakddifebbaaGreatDoor
