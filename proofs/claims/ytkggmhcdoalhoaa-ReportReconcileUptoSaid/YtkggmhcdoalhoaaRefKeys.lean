/- The document's keys of balances, rising, each once: by contract. -/
import Derived.Test.YtkggmhcdoalhoaaRefRec
namespace Go.Proofs.Ytkggmhcdoalhoaa
set_option linter.unusedVariables false
set_option linter.unusedSimpArgs false
open Go.RowKit
attribute [local irreducible] Go.wpStill

theorem insK_len (k : Int × Int) : ∀ l : List (Int × Int), (insK k l).length ≤ l.length + 1
  | [] => by simp [insK]
  | o :: r => by
    unfold insK
    have := insK_len k r
    split
    · simp; omega
    · split
      · simp
      · simp
theorem keysR_len : ∀ (l : List BalV) (out : List (Int × Int)), (keysR l out).length ≤ out.length + l.length
  | [], out => by simp [keysR]
  | x :: l, out => by
    have h1 := keysR_len l (insK x.key out)
    have h2 := insK_len x.key out
    show (keysR l (insK x.key out)).length ≤ _
    simp only [List.length_cons]
    omega
theorem keysR_snoc (l : List BalV) (x : BalV) (out : List (Int × Int)) : keysR (l ++ [x]) out = insK x.key (keysR l out) := by simp [keysR, List.foldl_append]
/-- one more key behind a row -/
theorem push_key {w0 w : World} {B : Nat} {v : Value} {xs : List keyT} (hR : RowE keyE 34 w B v xs) (hb : Below B w0 w) (h0 : w0.heap.size = B) (x : keyT) (hl : xs.length ≤ 4194304) :
    ∃ v' w', (Builtin.append_ #[30, 30] 30 #[v, .slice (some ⟨w.heap.size, 0, none⟩) 1 1]).run Try.prog (w.alloc (.cells #[.int .i64 x.1, .int .i64 x.2] 34)) = .ok v' w' ∧ RowE keyE 34 w' B v' (xs ++ [x]) ∧ Below B w0 w' := by
  have hs := hb.size
  have hbA : Below B w0 (w.alloc (.cells #[.int .i64 x.1, .int .i64 x.2] 34)) := hb.alloc (by omega) _
  obtain ⟨v', w', h1, h2, h3, _, _⟩ := (hR.alloc (.cells #[.int .i64 x.1, .int .i64 x.2] 34)).push keyTy (by have := hbA.size; omega) x w.heap.size 1 _ rfl (heap_alloc_new w _) (by omega) (by omega)
  exact ⟨v', w', h1, h2, hbA.trans ((hR.alloc _).grown h3 (by have := hbA.size; omega) (Nat.le_refl _))⟩
set_option maxRecDepth 100000 in
set_option maxHeartbeats 4000000 in
theorem keys31_any (v u : Value) (xs : List BalV) (out : List keyT) (w : World) (h : BalsR w v xs) (hu : ReadsE keyE w u out) (hs : xs.length ≤ 1048576) (hs2 : out.length ≤ 1048576) :
    Calls Try.prog 10 #[v, u] w fun e w' => ∃ v', e = .returned v' ∧ ReadsE keyE w' v' (keysR xs out) ∧ Below w.heap.size w w' := by
  obtain ⟨ao, cap, rfl⟩ := h.1.slice
  have HR := Lib.hid h
  have HU := Lib.hid hu
  clear h hu
  go_enter Try.func10, Try.ntmps10
  go_wp2_with fail
  go_loopw [1, 5] (fun ov iv wr => ∃ i : Nat, i ≤ xs.length ∧ iv = .int .i64 i ∧ ReadsE keyE wr ov (keysR (xs.take i) out) ∧ Below w.heap.size w wr) (fun _ iv _ => xs.length - (intOf iv).toNat)
  case atStart => exact ⟨0, by omega, rfl, HU.out, Below.refl _ _⟩
  case round =>
    obtain ⟨i, hi, rfl, hO, hW⟩ := hrel
    have HWB := Lib.hid hW
    have hol : (keysR (xs.take i) out).length ≤ 2097152 := by have := keysR_len (xs.take i) out; rw [List.length_take, Nat.min_eq_left hi] at this; omega
    by_cases hlt : i < xs.length
    · obtain ⟨x, hx⟩ : ∃ x, xs[i]? = some x := ⟨_, List.getElem?_eq_getElem hlt⟩
      have hr' := HR.out.below hW
      obtain ⟨g, o, rfl, hr⟩ := hr'.1.at hx
      have hdl : decide ((i : Int) < xs.length) = true := decide_eq_true (by omega)
      have HT := Lib.hid (show keysR (xs.take (i + 1)) out = insK x.key (keysR (xs.take i) out) by rw [take_snoc' hx, keysR_snoc])
      generalize keysR (xs.take i) out = os at *
      obtain ⟨oo, oc, rfl⟩ := hO.slice
      obtain ⟨a, b, avail, xao, xcap, ms⟩ := x
      simp only [BalV.key] at HT
      have HKK := Lib.hid (show wr.rangeAt g (o + i * 4) [.int .i64 a, .int .i64 b] from rangeAt_two hr)
      have HO := Lib.hid hO
      clear hx hr' hr hW hO
      go_upto_region 5 with (refine wpList_val (.agg #[.int .i64 a, .int .i64 b]) (by kernel_rfl) (exec_load_mid (T := 34) HKK.out rfl rfl Try.underlying34 rfl (by kernel_rfl)) ?_)
      generalize hW0 : World.alloc wr _ = W0
      have hb0 : Below wr.heap.size wr W0 := by rw [← hW0]; exact (Below.refl _ _).alloc (Nat.le_refl _) _
      have hB : W0.heap[wr.heap.size]? = some (.cells #[.int .i64 a, .int .i64 b] 34 (0, 0)) := by rw [← hW0]; exact heap_alloc_new wr _
      have HO0 := Lib.hid (HO.out.below hb0)
      have HB0 := Lib.hid (HWB.out.trans (hb0.mono HWB.out.size))
      have HBX := Lib.hid hB
      have HBL := Lib.hid (lt_of_block hB)
      clear hW0 hB hb0 HO HKK HWB
      generalize wr.heap.size = bx at *
      go_wp2_with fail
      go_loopw [7, 8, 9] (fun nv dv jv wq => ∃ (j : Nat) (done : Bool) (nx : List keyT), j ≤ os.length ∧ jv = .int .i64 j ∧ dv = .bool done ∧ RowE keyE 34 wq W0.heap.size nv nx ∧ (if done = true then nx ++ os.drop j else nx ++ insK (a, b) (os.drop j)) = insK (a, b) os ∧ nx.length ≤ j + done.toNat ∧ Below W0.heap.size W0 wq) (fun _ _ jv _ => os.length - (intOf jv).toNat)
      case atStart => exact ⟨0, false, [], by omega, rfl, rfl, RowE.nil _ _, by simp, by simp, Below.refl _ _⟩
      case round =>
        obtain ⟨j, done, nx, hj, rfl, rfl, hN, hins, hnl, hQ⟩ := hrel
        have HINS := Lib.hid hins
        have HN := Lib.hid hN
        have HQB := Lib.hid hQ
        clear hins hN
        by_cases hjl : j < os.length
        · obtain ⟨y, hy⟩ : ∃ y, os[j]? = some y := ⟨_, List.getElem?_eq_getElem hjl⟩
          obtain ⟨g2, o2, rfl, hr0⟩ := HO0.out.at hy
          obtain ⟨c, d⟩ := y
          have KO0 := Lib.hid (fun (wz : World) (hz : Below W0.heap.size W0 wz) => (show wz.rangeAt g2 (o2 + j * 2) [.int .i64 c, .int .i64 d] from fun k v hv => (hz.cell (p := ⟨g2, o2 + j * 2 + k, none⟩) (rangeE_lt hr0)).trans (hr0 k v hv)))
          have hr2 := KO0.out _ hQ
          have hdj : decide ((j : Int) < os.length) = true := decide_eq_true (by omega)
          have hdrop : os.drop j = (c, d) :: os.drop (j + 1) := by rw [List.drop_eq_getElem_cons hjl]; congr 1; exact Option.some.inj ((List.getElem?_eq_getElem hjl).symm.trans hy)
          have HDR := Lib.hid hdrop
          have KO := Lib.hid (fun (wz : World) (hz : Below wr.heap.size wr wz) => (show wz.rangeAt g2 (o2 + j * 2) [.int .i64 c, .int .i64 d] from fun k v hv => (hz.cell (p := ⟨g2, o2 + j * 2 + k, none⟩) (rangeE_lt (E := keyE) (x := (c, d)) hr2)).trans (hr2 k v hv)))
          have KB := Lib.hid (fun (wz : World) (hz : Below wr.heap.size wr wz) => ((hz.block bx (Nat.lt_of_lt_of_le HBL.out hQ.size)).trans ((hQ.block bx HBL.out).trans HBX.out) : wz.heap[bx]? = some (.cells #[.int .i64 a, .int .i64 b] 34 (0, 0))))
          clear hr2 hr0 hy hdrop hQ
          have HEQ := Lib.hid (eqKeys (c, d) (a, b))
          cases done with
          | true =>
            have hnl : nx.length ≤ j + 1 := hnl
            go_wp2_with fail
            rename_i HK
            refine wp_region_held_drew (S := fun w' => Below wr.heap.size wr w') (by kernel_rfl) (Below.refl _ _).drew (fun hHeld => ?_)
            (refine rg_yes 0 ?v1 (by simp only [List.getElem?_toArray, List.getElem?_cons_succ, List.getElem?_cons_zero]; rfl) (by kernel_rfl) (by kernel_rfl) (by kernel_rfl) (by exact fun _ _ _ h => h) (by kernel_rfl) (by assumption) ?y1 ?z1; case y1 => (intro w hSw; (try dsimp only at hSw); go_simp; (try (rw [if_neg (by omega)])); (try with_reducible rfl)))
            (try simp only [Act.put, List.setIfInBounds_toArray, List.set_cons_zero, List.set_cons_succ])
            (refine rg_yes 1 ?v2 (by simp only [List.getElem?_toArray, List.getElem?_cons_succ, List.getElem?_cons_zero]; rfl) (by kernel_rfl) (by kernel_rfl) (by kernel_rfl) (by exact fun _ _ _ h => h) (by kernel_rfl) (by assumption) ?y2 ?z2; case y2 => (intro w hSw; (try dsimp only at hSw); go_simp; (try (rw [if_neg (by omega)])); (try with_reducible rfl)))
            (try simp only [Act.put, List.setIfInBounds_toArray, List.set_cons_zero, List.set_cons_succ])
            (refine rg_yes 2 ?v3 (by simp only [List.getElem?_toArray, List.getElem?_cons_succ, List.getElem?_cons_zero]; rfl) (by kernel_rfl) (by kernel_rfl) (by kernel_rfl) (by exact fun _ _ _ h => h) (by kernel_rfl) (by assumption) ?y3 ?z3; case y3 => (intro w hSw; (try dsimp only at hSw); go_simp; (try (rw [if_neg (by omega)])); (try with_reducible rfl)))
            (try simp only [Act.put, List.setIfInBounds_toArray, List.set_cons_zero, List.set_cons_succ])
            (refine rg_no 3 (by simp only [List.getElem?_toArray, List.getElem?_cons_succ, List.getElem?_cons_zero]; rfl) (by kernel_rfl) (by kernel_rfl) (by kernel_rfl) (by exact fun _ _ _ h => h) (by kernel_rfl) (by assumption) ?_)
            (try simp only [Act.put, List.setIfInBounds_toArray, List.set_cons_zero, List.set_cons_succ])
            (refine rg_no 4 (by simp only [List.getElem?_toArray, List.getElem?_cons_succ, List.getElem?_cons_zero]; rfl) (by kernel_rfl) (by kernel_rfl) (by kernel_rfl) (by exact fun _ _ _ h => h) (by kernel_rfl) (by assumption) ?_)
            (try simp only [Act.put, List.setIfInBounds_toArray, List.set_cons_zero, List.set_cons_succ])
            (refine rg_no 5 (by simp only [List.getElem?_toArray, List.getElem?_cons_succ, List.getElem?_cons_zero]; rfl) (by kernel_rfl) (by kernel_rfl) (by kernel_rfl) (by exact fun _ _ _ h => h) (by kernel_rfl) (by assumption) ?_)
            (try simp only [Act.put, List.setIfInBounds_toArray, List.set_cons_zero, List.set_cons_succ])
            (refine rg_no 6 (by simp only [List.getElem?_toArray, List.getElem?_cons_succ, List.getElem?_cons_zero]; rfl) (by kernel_rfl) (by kernel_rfl) (by kernel_rfl) (by exact fun _ _ _ h => h) (by kernel_rfl) (by assumption) ?_)
            (try simp only [Act.put, List.setIfInBounds_toArray, List.set_cons_zero, List.set_cons_succ])
            (refine rg_no 7 (by simp only [List.getElem?_toArray, List.getElem?_cons_succ, List.getElem?_cons_zero]; rfl) (by kernel_rfl) (by kernel_rfl) (by kernel_rfl) (by exact fun _ _ _ h => h) (by kernel_rfl) (by assumption) ?_)
            (try simp only [Act.put, List.setIfInBounds_toArray, List.set_cons_zero, List.set_cons_succ])
            (refine rg_no 8 (by simp only [List.getElem?_toArray, List.getElem?_cons_succ, List.getElem?_cons_zero]; rfl) (by kernel_rfl) (by kernel_rfl) (by kernel_rfl) (by exact fun _ _ _ h => h) (by kernel_rfl) (by assumption) ?_)
            (try simp only [Act.put, List.setIfInBounds_toArray, List.set_cons_zero, List.set_cons_succ])
            (refine rg_no 9 (by simp only [List.getElem?_toArray, List.getElem?_cons_succ, List.getElem?_cons_zero]; rfl) (by kernel_rfl) (by kernel_rfl) (by kernel_rfl) (by exact fun _ _ _ h => h) (by kernel_rfl) (by assumption) ?_)
            (try simp only [Act.put, List.setIfInBounds_toArray, List.set_cons_zero, List.set_cons_succ])
            (refine rg_yes 10 ?v11 (by simp only [List.getElem?_toArray, List.getElem?_cons_succ, List.getElem?_cons_zero]; rfl) (by kernel_rfl) (by kernel_rfl) (by kernel_rfl) (by exact fun _ _ _ h => h) (by kernel_rfl) (by assumption) ?y11 ?z11; case y11 => (intro w hSw; (try dsimp only at hSw); go_simp; (try (rw [if_neg (by omega)])); (try with_reducible rfl)))
            (try simp only [Act.put, List.setIfInBounds_toArray, List.set_cons_zero, List.set_cons_succ])
            refine wpAnyH_done (by kernel_rfl) ?_ _
            apply HK
            have HZ := Lib.hid hHeld
            clear hHeld HK HEQ
            obtain ⟨v', w6, hrun, hR, hb6⟩ := push_key (HN.out.below HZ.out) (HQB.out.trans (HZ.out.mono HQB.out.size)) rfl (c, d) (by have := hnl; simp; omega)
            have HRUN := Lib.hid hrun
            have HKO := Lib.hid (KO.out _ HZ.out)
            have HR6 := Lib.hid hR
            have HB6 := Lib.hid hb6
            clear hrun hR hb6 HZ
            go_wp2_with (first | (refine wpList_val (.agg #[.int .i64 c, .int .i64 d]) (by kernel_rfl) (exec_load_mid (T := 34) HKO.out rfl rfl Try.underlying34 rfl (by kernel_rfl)) ?_) | (refine wpList_val (w' := w6) v' (by kernel_rfl) (exec_append2 rfl rfl rfl rfl ?_) ?_; focus (exact HRUN.out)))
            exact ⟨⟨j + 1, true, nx ++ [(c, d)], by omega, by go_num, rfl, HR6.out, by have h := HINS.out; rw [HDR.out] at h; simpa using h, by simp; omega, HB6.out⟩, by simp [intOf]; omega⟩
          | false =>
            have hnl : nx.length ≤ j := hnl
            by_cases hbf : befK (c, d) (a, b) = true
            · have HP := Lib.hid (before31_any (c, d) (a, b))
              rw [hbf] at HP
              have HBF := Lib.hid hbf
              clear hbf
              go_wp2_with fail
              rename_i HK
              refine wp_region_held_drew (S := fun w' => Below wr.heap.size wr w') (by kernel_rfl) (Below.refl _ _).drew (fun hHeld => ?_)
              (refine rg_yes 0 ?v12 (by simp only [List.getElem?_toArray, List.getElem?_cons_succ, List.getElem?_cons_zero]; rfl) (by kernel_rfl) (by kernel_rfl) (by kernel_rfl) (by exact fun _ _ _ h => h) (by kernel_rfl) (by assumption) ?y12 ?z12; case y12 => (intro w hSw; (try dsimp only at hSw); go_simp; (try (rw [if_neg (by omega)])); (try with_reducible rfl)))
              (try simp only [Act.put, List.setIfInBounds_toArray, List.set_cons_zero, List.set_cons_succ])
              (refine rg_yes 1 ?v13 (by simp only [List.getElem?_toArray, List.getElem?_cons_succ, List.getElem?_cons_zero]; rfl) (by kernel_rfl) (by kernel_rfl) (by kernel_rfl) (by exact fun _ _ _ h => h) (by kernel_rfl) (by assumption) ?y13 ?z13; case y13 => (intro w hSw; (try dsimp only at hSw); go_simp; (try (rw [if_neg (by omega)])); (try with_reducible rfl)))
              (try simp only [Act.put, List.setIfInBounds_toArray, List.set_cons_zero, List.set_cons_succ])
              (refine rg_yes 2 ?v14 (by simp only [List.getElem?_toArray, List.getElem?_cons_succ, List.getElem?_cons_zero]; rfl) (by kernel_rfl) (by kernel_rfl) (by kernel_rfl) (by exact fun _ _ _ h => h) (by kernel_rfl) (by assumption) ?y14 ?z14; case y14 => (intro w hSw; (try dsimp only at hSw); go_simp; (try (rw [if_neg (by omega)])); (try with_reducible rfl)))
              (try simp only [Act.put, List.setIfInBounds_toArray, List.set_cons_zero, List.set_cons_succ])
              (refine rg_yes 3 ?v15 (by simp only [List.getElem?_toArray, List.getElem?_cons_succ, List.getElem?_cons_zero]; rfl) (by kernel_rfl) (by kernel_rfl) (by kernel_rfl) (by exact fun _ _ _ h => h) (by kernel_rfl) (by assumption) ?y15 ?z15; case y15 => (intro w hSw; (try dsimp only at hSw); go_simp; (try (rw [if_neg (by omega)])); (try with_reducible rfl)))
              (try simp only [Act.put, List.setIfInBounds_toArray, List.set_cons_zero, List.set_cons_succ])
              (refine rg_yes 4 ?v16 (by simp only [List.getElem?_toArray, List.getElem?_cons_succ, List.getElem?_cons_zero]; rfl) (by kernel_rfl) (by kernel_rfl) (by kernel_rfl) (by exact fun _ _ _ h => h) (by kernel_rfl) (by assumption) ?y16 ?z16; case y16 => (intro w hSw; (try dsimp only at hSw); go_simp; (try (rw [if_neg (by omega)])); (try with_reducible rfl)))
              (try simp only [Act.put, List.setIfInBounds_toArray, List.set_cons_zero, List.set_cons_succ])
              (refine rg_yes 5 ?v17 (by simp only [List.getElem?_toArray, List.getElem?_cons_succ, List.getElem?_cons_zero]; rfl) (by kernel_rfl) (by kernel_rfl) (by kernel_rfl) (by exact fun _ _ _ h => h) (by kernel_rfl) (by assumption) ?y17 ?z17; case y17 => (intro w hSw; (try dsimp only at hSw); go_simp; (try (rw [if_neg (by omega)])); (try with_reducible rfl)))
              (try simp only [Act.put, List.setIfInBounds_toArray, List.set_cons_zero, List.set_cons_succ])
              refine rg_yes 6 _ (by simp only [List.getElem?_toArray, List.getElem?_cons_succ, List.getElem?_cons_zero]; rfl) (by kernel_rfl) (by kernel_rfl) (by kernel_rfl) (by exact fun _ _ _ h => h) (by kernel_rfl) (by assumption) (by exact fun w' hS => (exec_load_mid (T := 34) (KO.out _ hS) rfl rfl Try.underlying34 rfl (by kernel_rfl))) ?_
              (try simp only [Act.put, List.setIfInBounds_toArray, List.set_cons_zero, List.set_cons_succ])
              refine rg_yes 7 _ (by simp only [List.getElem?_toArray, List.getElem?_cons_succ, List.getElem?_cons_zero]; rfl) (by kernel_rfl) (by kernel_rfl) (by kernel_rfl) (by exact fun _ _ _ h => h) (by kernel_rfl) (by assumption) (by exact fun w' hS => (exec_load_row (KB.out _ hS) rfl rfl Try.underlying34 rfl (by kernel_rfl))) ?_
              (try simp only [Act.put, List.setIfInBounds_toArray, List.set_cons_zero, List.set_cons_succ])
              refine rg_call 8 _ _ (by simp only [List.getElem?_toArray, List.getElem?_cons_succ, List.getElem?_cons_zero]; rfl) (by kernel_rfl) (by kernel_rfl) (fun w => by go_simp; exact ⟨rfl, rfl⟩) ?_
              refine (HP.out _).mono ?_
              rintro e w5 ⟨rfl, hb5⟩
              refine ⟨_, rfl, hHeld.trans (hb5.mono hHeld.size), fun hHeld => ?_⟩
              (refine rg_yes 9 ?v18 (by simp only [List.getElem?_toArray, List.getElem?_cons_succ, List.getElem?_cons_zero]; rfl) (by kernel_rfl) (by kernel_rfl) (by kernel_rfl) (by exact fun _ _ _ h => h) (by kernel_rfl) (by assumption) ?y18 ?z18; case y18 => (intro w hSw; (try dsimp only at hSw); go_simp; (try (rw [if_neg (by omega)])); (try with_reducible rfl)))
              (try simp only [Act.put, List.setIfInBounds_toArray, List.set_cons_zero, List.set_cons_succ])
              (refine rg_yes 10 ?v19 (by simp only [List.getElem?_toArray, List.getElem?_cons_succ, List.getElem?_cons_zero]; rfl) (by kernel_rfl) (by kernel_rfl) (by kernel_rfl) (by exact fun _ _ _ h => h) (by kernel_rfl) (by assumption) ?y19 ?z19; case y19 => (intro w hSw; (try dsimp only at hSw); go_simp; (try (rw [if_neg (by omega)])); (try with_reducible rfl)))
              (try simp only [Act.put, List.setIfInBounds_toArray, List.set_cons_zero, List.set_cons_succ])
              refine wpAnyH_done (by kernel_rfl) ?_ _
              apply HK
              have HZ := Lib.hid hHeld
              clear hHeld HK HEQ
              obtain ⟨v', w6, hrun, hR, hb6⟩ := push_key (HN.out.below HZ.out) (HQB.out.trans (HZ.out.mono HQB.out.size)) rfl (c, d) (by have := hnl; simp; omega)
              have HRUN := Lib.hid hrun
              have HKO := Lib.hid (KO.out _ HZ.out)
              have HR6 := Lib.hid hR
              have HB6 := Lib.hid hb6
              clear hrun hR hb6 HZ
              go_wp2_with (first | (refine wpList_val (.agg #[.int .i64 c, .int .i64 d]) (by kernel_rfl) (exec_load_mid (T := 34) HKO.out rfl rfl Try.underlying34 rfl (by kernel_rfl)) ?_) | (refine wpList_val (w' := w6) v' (by kernel_rfl) (exec_append2 rfl rfl rfl rfl ?_) ?_; focus (exact HRUN.out)))
              exact ⟨⟨j + 1, false, nx ++ [(c, d)], by omega, by go_num, rfl, HR6.out, by have h := HINS.out; rw [HDR.out] at h; simpa [insK, HBF.out] using h, by simp; omega, HB6.out⟩, by simp [intOf]; omega⟩
            · have hbf' : befK (c, d) (a, b) = false := by simpa using hbf
              have HP := Lib.hid (before31_any (c, d) (a, b))
              rw [hbf'] at HP
              have HBF := Lib.hid hbf
              clear hbf hbf'
              go_wp2_with fail
              rename_i HK
              refine wp_region_held_drew (S := fun w' => Below wr.heap.size wr w') (by kernel_rfl) (Below.refl _ _).drew (fun hHeld => ?_)
              (refine rg_yes 0 ?v20 (by simp only [List.getElem?_toArray, List.getElem?_cons_succ, List.getElem?_cons_zero]; rfl) (by kernel_rfl) (by kernel_rfl) (by kernel_rfl) (by exact fun _ _ _ h => h) (by kernel_rfl) (by assumption) ?y20 ?z20; case y20 => (intro w hSw; (try dsimp only at hSw); go_simp; (try (rw [if_neg (by omega)])); (try with_reducible rfl)))
              (try simp only [Act.put, List.setIfInBounds_toArray, List.set_cons_zero, List.set_cons_succ])
              (refine rg_yes 1 ?v21 (by simp only [List.getElem?_toArray, List.getElem?_cons_succ, List.getElem?_cons_zero]; rfl) (by kernel_rfl) (by kernel_rfl) (by kernel_rfl) (by exact fun _ _ _ h => h) (by kernel_rfl) (by assumption) ?y21 ?z21; case y21 => (intro w hSw; (try dsimp only at hSw); go_simp; (try (rw [if_neg (by omega)])); (try with_reducible rfl)))
              (try simp only [Act.put, List.setIfInBounds_toArray, List.set_cons_zero, List.set_cons_succ])
              (refine rg_yes 2 ?v22 (by simp only [List.getElem?_toArray, List.getElem?_cons_succ, List.getElem?_cons_zero]; rfl) (by kernel_rfl) (by kernel_rfl) (by kernel_rfl) (by exact fun _ _ _ h => h) (by kernel_rfl) (by assumption) ?y22 ?z22; case y22 => (intro w hSw; (try dsimp only at hSw); go_simp; (try (rw [if_neg (by omega)])); (try with_reducible rfl)))
              (try simp only [Act.put, List.setIfInBounds_toArray, List.set_cons_zero, List.set_cons_succ])
              (refine rg_yes 3 ?v23 (by simp only [List.getElem?_toArray, List.getElem?_cons_succ, List.getElem?_cons_zero]; rfl) (by kernel_rfl) (by kernel_rfl) (by kernel_rfl) (by exact fun _ _ _ h => h) (by kernel_rfl) (by assumption) ?y23 ?z23; case y23 => (intro w hSw; (try dsimp only at hSw); go_simp; (try (rw [if_neg (by omega)])); (try with_reducible rfl)))
              (try simp only [Act.put, List.setIfInBounds_toArray, List.set_cons_zero, List.set_cons_succ])
              (refine rg_yes 4 ?v24 (by simp only [List.getElem?_toArray, List.getElem?_cons_succ, List.getElem?_cons_zero]; rfl) (by kernel_rfl) (by kernel_rfl) (by kernel_rfl) (by exact fun _ _ _ h => h) (by kernel_rfl) (by assumption) ?y24 ?z24; case y24 => (intro w hSw; (try dsimp only at hSw); go_simp; (try (rw [if_neg (by omega)])); (try with_reducible rfl)))
              (try simp only [Act.put, List.setIfInBounds_toArray, List.set_cons_zero, List.set_cons_succ])
              (refine rg_yes 5 ?v25 (by simp only [List.getElem?_toArray, List.getElem?_cons_succ, List.getElem?_cons_zero]; rfl) (by kernel_rfl) (by kernel_rfl) (by kernel_rfl) (by exact fun _ _ _ h => h) (by kernel_rfl) (by assumption) ?y25 ?z25; case y25 => (intro w hSw; (try dsimp only at hSw); go_simp; (try (rw [if_neg (by omega)])); (try with_reducible rfl)))
              (try simp only [Act.put, List.setIfInBounds_toArray, List.set_cons_zero, List.set_cons_succ])
              refine rg_yes 6 _ (by simp only [List.getElem?_toArray, List.getElem?_cons_succ, List.getElem?_cons_zero]; rfl) (by kernel_rfl) (by kernel_rfl) (by kernel_rfl) (by exact fun _ _ _ h => h) (by kernel_rfl) (by assumption) (by exact fun w' hS => (exec_load_mid (T := 34) (KO.out _ hS) rfl rfl Try.underlying34 rfl (by kernel_rfl))) ?_
              (try simp only [Act.put, List.setIfInBounds_toArray, List.set_cons_zero, List.set_cons_succ])
              refine rg_yes 7 _ (by simp only [List.getElem?_toArray, List.getElem?_cons_succ, List.getElem?_cons_zero]; rfl) (by kernel_rfl) (by kernel_rfl) (by kernel_rfl) (by exact fun _ _ _ h => h) (by kernel_rfl) (by assumption) (by exact fun w' hS => (exec_load_row (KB.out _ hS) rfl rfl Try.underlying34 rfl (by kernel_rfl))) ?_
              (try simp only [Act.put, List.setIfInBounds_toArray, List.set_cons_zero, List.set_cons_succ])
              refine rg_call 8 _ _ (by simp only [List.getElem?_toArray, List.getElem?_cons_succ, List.getElem?_cons_zero]; rfl) (by kernel_rfl) (by kernel_rfl) (fun w => by go_simp; exact ⟨rfl, rfl⟩) ?_
              refine (HP.out _).mono ?_
              rintro e w5 ⟨rfl, hb5⟩
              refine ⟨_, rfl, hHeld.trans (hb5.mono hHeld.size), fun hHeld => ?_⟩
              (refine rg_yes 9 ?v26 (by simp only [List.getElem?_toArray, List.getElem?_cons_succ, List.getElem?_cons_zero]; rfl) (by kernel_rfl) (by kernel_rfl) (by kernel_rfl) (by exact fun _ _ _ h => h) (by kernel_rfl) (by assumption) ?y26 ?z26; case y26 => (intro w hSw; (try dsimp only at hSw); go_simp; (try (rw [if_neg (by omega)])); (try with_reducible rfl)))
              (try simp only [Act.put, List.setIfInBounds_toArray, List.set_cons_zero, List.set_cons_succ])
              (refine rg_yes 10 ?v27 (by simp only [List.getElem?_toArray, List.getElem?_cons_succ, List.getElem?_cons_zero]; rfl) (by kernel_rfl) (by kernel_rfl) (by kernel_rfl) (by exact fun _ _ _ h => h) (by kernel_rfl) (by assumption) ?y27 ?z27; case y27 => (intro w hSw; (try dsimp only at hSw); go_simp; (try (rw [if_neg (by omega)])); (try with_reducible rfl)))
              (try simp only [Act.put, List.setIfInBounds_toArray, List.set_cons_zero, List.set_cons_succ])
              refine wpAnyH_done (by kernel_rfl) ?_ _
              apply HK
              have HZ0 := Lib.hid hHeld
              clear hHeld HK
              by_cases hk : (c, d) = (a, b)
              · rw [show decide ((c, d) = (a, b)) = true from decide_eq_true hk] at HEQ
                have HKE := Lib.hid hk
                clear hk
                go_wp2_with fail
                rename_i HK
                refine wp_region_held_drew (S := fun w' => Below wr.heap.size wr w') (by kernel_rfl) HZ0.out.drew (fun hHeld => ?_)
                (refine rg_yes 0 ?v28 (by simp only [List.getElem?_toArray, List.getElem?_cons_succ, List.getElem?_cons_zero]; rfl) (by kernel_rfl) (by kernel_rfl) (by kernel_rfl) (by exact fun _ _ _ h => h) (by kernel_rfl) (by assumption) ?y28 ?z28; case y28 => (intro w hSw; (try dsimp only at hSw); go_simp; (try (rw [if_neg (by omega)])); (try with_reducible rfl)))
                (try simp only [Act.put, List.setIfInBounds_toArray, List.set_cons_zero, List.set_cons_succ])
                (refine rg_yes 1 ?v29 (by simp only [List.getElem?_toArray, List.getElem?_cons_succ, List.getElem?_cons_zero]; rfl) (by kernel_rfl) (by kernel_rfl) (by kernel_rfl) (by exact fun _ _ _ h => h) (by kernel_rfl) (by assumption) ?y29 ?z29; case y29 => (intro w hSw; (try dsimp only at hSw); go_simp; (try (rw [if_neg (by omega)])); (try with_reducible rfl)))
                (try simp only [Act.put, List.setIfInBounds_toArray, List.set_cons_zero, List.set_cons_succ])
                (refine rg_yes 2 ?v30 (by simp only [List.getElem?_toArray, List.getElem?_cons_succ, List.getElem?_cons_zero]; rfl) (by kernel_rfl) (by kernel_rfl) (by kernel_rfl) (by exact fun _ _ _ h => h) (by kernel_rfl) (by assumption) ?y30 ?z30; case y30 => (intro w hSw; (try dsimp only at hSw); go_simp; (try (rw [if_neg (by omega)])); (try with_reducible rfl)))
                (try simp only [Act.put, List.setIfInBounds_toArray, List.set_cons_zero, List.set_cons_succ])
                refine rg_yes 3 _ (by simp only [List.getElem?_toArray, List.getElem?_cons_succ, List.getElem?_cons_zero]; rfl) (by kernel_rfl) (by kernel_rfl) (by kernel_rfl) (by exact fun _ _ _ h => h) (by kernel_rfl) (by assumption) (by exact fun w' hS => (exec_load_mid (T := 34) (KO.out _ hS) rfl rfl Try.underlying34 rfl (by kernel_rfl))) ?_
                (try simp only [Act.put, List.setIfInBounds_toArray, List.set_cons_zero, List.set_cons_succ])
                refine rg_yes 4 _ (by simp only [List.getElem?_toArray, List.getElem?_cons_succ, List.getElem?_cons_zero]; rfl) (by kernel_rfl) (by kernel_rfl) (by kernel_rfl) (by exact fun _ _ _ h => h) (by kernel_rfl) (by assumption) (by exact fun w' hS => (exec_load_row (KB.out _ hS) rfl rfl Try.underlying34 rfl (by kernel_rfl))) ?_
                (try simp only [Act.put, List.setIfInBounds_toArray, List.set_cons_zero, List.set_cons_succ])
                refine rg_yes 5 _ (by simp only [List.getElem?_toArray, List.getElem?_cons_succ, List.getElem?_cons_zero]; rfl) (by kernel_rfl) (by kernel_rfl) (by kernel_rfl) (by exact fun _ _ _ h => h) (by kernel_rfl) (by assumption) (by exact fun w' hS => (exec_neq_val (b := false) rfl rfl rfl (by kernel_rfl) HEQ.out rfl)) ?_
                (try simp only [Act.put, List.setIfInBounds_toArray, List.set_cons_zero, List.set_cons_succ])
                refine wpAnyH_done (by kernel_rfl) ?_ _
                apply HK
                have HZ := Lib.hid hHeld
                clear hHeld HK HEQ HZ0
                obtain ⟨v', w6, hrun, hR, hb6⟩ := push_key (HN.out.below HZ.out) (HQB.out.trans (HZ.out.mono HQB.out.size)) rfl (c, d) (by have := hnl; simp; omega)
                have HRUN := Lib.hid hrun
                have HKO := Lib.hid (KO.out _ HZ.out)
                have HR6 := Lib.hid hR
                have HB6 := Lib.hid hb6
                clear hrun hR hb6 HZ
                go_wp2_with (first | (refine wpList_val (.agg #[.int .i64 c, .int .i64 d]) (by kernel_rfl) (exec_load_mid (T := 34) HKO.out rfl rfl Try.underlying34 rfl (by kernel_rfl)) ?_) | (refine wpList_val (w' := w6) v' (by kernel_rfl) (exec_append2 rfl rfl rfl rfl ?_) ?_; focus (exact HRUN.out)))
                exact ⟨⟨j + 1, true, nx ++ [(c, d)], by omega, by go_num, rfl, HR6.out, by have h := HINS.out; rw [HDR.out, if_neg (by simp), insK, if_neg HBF.out, if_pos HKE.out] at h; simpa using h, by simp; omega, HB6.out⟩, by simp [intOf]; omega⟩
              · rw [show decide ((c, d) = (a, b)) = false from decide_eq_false hk] at HEQ
                have HKE := Lib.hid hk
                clear hk
                go_wp2_with fail
                rename_i HK
                refine wp_region_held_drew (S := fun w' => Below wr.heap.size wr w') (by kernel_rfl) HZ0.out.drew (fun hHeld => ?_)
                (refine rg_yes 0 ?v31 (by simp only [List.getElem?_toArray, List.getElem?_cons_succ, List.getElem?_cons_zero]; rfl) (by kernel_rfl) (by kernel_rfl) (by kernel_rfl) (by exact fun _ _ _ h => h) (by kernel_rfl) (by assumption) ?y31 ?z31; case y31 => (intro w hSw; (try dsimp only at hSw); go_simp; (try (rw [if_neg (by omega)])); (try with_reducible rfl)))
                (try simp only [Act.put, List.setIfInBounds_toArray, List.set_cons_zero, List.set_cons_succ])
                (refine rg_yes 1 ?v32 (by simp only [List.getElem?_toArray, List.getElem?_cons_succ, List.getElem?_cons_zero]; rfl) (by kernel_rfl) (by kernel_rfl) (by kernel_rfl) (by exact fun _ _ _ h => h) (by kernel_rfl) (by assumption) ?y32 ?z32; case y32 => (intro w hSw; (try dsimp only at hSw); go_simp; (try (rw [if_neg (by omega)])); (try with_reducible rfl)))
                (try simp only [Act.put, List.setIfInBounds_toArray, List.set_cons_zero, List.set_cons_succ])
                (refine rg_yes 2 ?v33 (by simp only [List.getElem?_toArray, List.getElem?_cons_succ, List.getElem?_cons_zero]; rfl) (by kernel_rfl) (by kernel_rfl) (by kernel_rfl) (by exact fun _ _ _ h => h) (by kernel_rfl) (by assumption) ?y33 ?z33; case y33 => (intro w hSw; (try dsimp only at hSw); go_simp; (try (rw [if_neg (by omega)])); (try with_reducible rfl)))
                (try simp only [Act.put, List.setIfInBounds_toArray, List.set_cons_zero, List.set_cons_succ])
                refine rg_yes 3 _ (by simp only [List.getElem?_toArray, List.getElem?_cons_succ, List.getElem?_cons_zero]; rfl) (by kernel_rfl) (by kernel_rfl) (by kernel_rfl) (by exact fun _ _ _ h => h) (by kernel_rfl) (by assumption) (by exact fun w' hS => (exec_load_mid (T := 34) (KO.out _ hS) rfl rfl Try.underlying34 rfl (by kernel_rfl))) ?_
                (try simp only [Act.put, List.setIfInBounds_toArray, List.set_cons_zero, List.set_cons_succ])
                refine rg_yes 4 _ (by simp only [List.getElem?_toArray, List.getElem?_cons_succ, List.getElem?_cons_zero]; rfl) (by kernel_rfl) (by kernel_rfl) (by kernel_rfl) (by exact fun _ _ _ h => h) (by kernel_rfl) (by assumption) (by exact fun w' hS => (exec_load_row (KB.out _ hS) rfl rfl Try.underlying34 rfl (by kernel_rfl))) ?_
                (try simp only [Act.put, List.setIfInBounds_toArray, List.set_cons_zero, List.set_cons_succ])
                refine rg_yes 5 _ (by simp only [List.getElem?_toArray, List.getElem?_cons_succ, List.getElem?_cons_zero]; rfl) (by kernel_rfl) (by kernel_rfl) (by kernel_rfl) (by exact fun _ _ _ h => h) (by kernel_rfl) (by assumption) (by exact fun w' hS => (exec_neq_val (b := true) rfl rfl rfl (by kernel_rfl) HEQ.out rfl)) ?_
                (try simp only [Act.put, List.setIfInBounds_toArray, List.set_cons_zero, List.set_cons_succ])
                refine wpAnyH_done (by kernel_rfl) ?_ _
                apply HK
                have HZ := Lib.hid hHeld
                clear hHeld HK HEQ HZ0
                obtain ⟨u', w8, hrun, hR, hb8⟩ := push_key (HN.out.below HZ.out) (HQB.out.trans (HZ.out.mono HQB.out.size)) rfl (a, b) (by have := hnl; omega)
                have HRUN := Lib.hid hrun
                have HKB := Lib.hid (KB.out _ HZ.out)
                have HR8 := Lib.hid hR
                have HB8 := Lib.hid hb8
                have hkept := KO.out _ HZ.out
                clear hrun hR
                have KO8 := Lib.hid (KO0.out _ HB8.out)
                clear hkept hb8 HZ
                have HZ8 := Lib.hid HB8.out
                obtain ⟨v', w6, hrun, hR, hb6⟩ := push_key HR8.out HB8.out rfl (c, d) (by have := hnl; simp; omega)
                have HRUN6 := Lib.hid hrun
                have HR6 := Lib.hid hR
                have HB6 := Lib.hid hb6
                clear hrun hR hb6
                go_wp2_with (first | (refine wpList_val (.agg #[.int .i64 a, .int .i64 b]) (by kernel_rfl) (exec_load_row HKB.out rfl rfl Try.underlying34 rfl (by kernel_rfl)) ?_) | (refine wpList_val (w' := w8) u' (by kernel_rfl) (exec_append2 rfl rfl rfl rfl ?_) ?_; focus (exact HRUN.out)) | (refine wpList_val (.agg #[.int .i64 c, .int .i64 d]) (by kernel_rfl) (exec_load_mid (T := 34) KO8.out rfl rfl Try.underlying34 rfl (by kernel_rfl)) ?_) | (refine wpList_val (w' := w6) v' (by kernel_rfl) (exec_append2 rfl rfl rfl rfl ?_) ?_; focus (exact HRUN6.out)))
                exact ⟨⟨j + 1, true, nx ++ [(a, b)] ++ [(c, d)], by omega, by go_num, rfl, HR6.out, by have h := HINS.out; rw [HDR.out, if_neg (by simp), insK, if_neg HBF.out, if_neg HKE.out] at h; simpa using h, by simp; omega, HB6.out⟩, by simp [intOf]; omega⟩
        · have hje : j = os.length := by omega
          subst hje
          have hdj : decide ((os.length : Int) < os.length) = false := decide_eq_false (by omega)
          have hD : os.drop os.length = [] := by simp
          rw [hD] at HINS
          have KB := Lib.hid (fun (wz : World) (hz : Below wr.heap.size wr wz) => ((hz.block bx (Nat.lt_of_lt_of_le HBL.out hQ.size)).trans ((hQ.block bx HBL.out).trans HBX.out) : wz.heap[bx]? = some (.cells #[.int .i64 a, .int .i64 b] 34 (0, 0))))
          have HKB := Lib.hid (KB.out _ (Below.refl _ _))
          clear hQ KB hD
          cases done with
          | true =>
            have HI2 := Lib.hid (show nx = insK (a, b) os by have h := HINS.out; simpa using h)
            have hnl : nx.length ≤ os.length + 1 := hnl
            go_wp2_with fail
            exact ⟨⟨i + 1, by omega, by go_num, by rw [HT.out, ← HI2.out]; exact HN.out.reads (by omega), HB0.out.trans (HQB.out.mono HB0.out.size)⟩, by simp [intOf]; omega⟩
          | false =>
            have HI2 := Lib.hid (show nx ++ [(a, b)] = insK (a, b) os by have h := HINS.out; simpa [insK] using h)
            have hnl : nx.length ≤ os.length := hnl
            obtain ⟨u', w8, hrun, hR, hb8⟩ := push_key HN.out HQB.out rfl (a, b) (by omega)
            have HRUN := Lib.hid hrun
            have HR8 := Lib.hid hR
            have HB8 := Lib.hid hb8
            clear hrun hR hb8
            go_wp2_with (first | (refine wpList_val (.agg #[.int .i64 a, .int .i64 b]) (by kernel_rfl) (exec_load_row HKB.out rfl rfl Try.underlying34 rfl (by kernel_rfl)) ?_) | (refine wpList_val (w' := w8) u' (by kernel_rfl) (exec_append2 rfl rfl rfl rfl ?_) ?_; focus (exact HRUN.out)))
            exact ⟨⟨i + 1, by omega, by go_num, by rw [HT.out, ← HI2.out]; exact HR8.out.reads (by simp; omega), HB0.out.trans (HB8.out.mono HB0.out.size)⟩, by simp [intOf]; omega⟩
    · have hie : i = xs.length := by omega
      have hdl : decide ((i : Int) < xs.length) = false := decide_eq_false (by omega)
      rw [hie, List.take_length] at hO
      have HO := Lib.hid hO
      clear hie hO hol
      go_wp2_with fail
      go_ret
      exact ⟨_, rfl, HO.out, HWB.out⟩
end Go.Proofs.Ytkggmhcdoalhoaa
