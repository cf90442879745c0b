/- prio: NeverPassed by contract. -/
import Derived.Test.YtffioombjejchaaPrioQ
namespace Go.Proofs.Ytffioombjejchaa
set_option linter.unusedVariables false
set_option linter.unusedSimpArgs false
open Go.RowKit
attribute [local irreducible] Go.wpStill

set_option maxRecDepth 100000 in
set_option maxHeartbeats 4000000 in
theorem neverPassed_any (sv : Value) (xs : List ActT) (w : World) (hS : ReadsA w sv xs) : Calls Try.prog 5 #[sv] w (RetB true w) := by
  obtain ⟨hl, ao, cap, rfl, hr⟩ := id hS
  have HS := Lib.hid hS
  clear hS hr
  go_enter Try.func5, Try.ntmps5
  go_wp2_with fail
  refine (newP _ false w (.inl ⟨rfl, rfl⟩)).mono ?_
  rintro e w1 ⟨rfl, hA1, hB1, hs1⟩
  go_wp2_with fail
  refine (works_any w1).mono ?_
  rintro e w2 ⟨rfl, hb2⟩
  have hA2 := hA1.below hb2
  have hB2 : Below w.heap.size w w2 := hB1.trans (hb2.mono hB1.size)
  clear hA1 hB1 hs1 hb2
  generalize hB : w.heap.size = B at hA2 hB2 ⊢
  go_wp2_with fail
  go_loopw [4, 5] (fun tv iv wr => ∃ (k n : Nat) (ps : List Pair) (r : Option Nat), k ≤ xs.length ∧ n ≤ k ∧ iv = .int .i64 k ∧ Marks k ps ∧ RowT wr B tv ps ∧ HeapP wr (B + 1) B false ps n r ∧ (∀ q, r = some q → B ≤ q) ∧ Below B w wr) (fun _ iv _ => xs.length - (intOf iv).toNat)
  case atStart => exact ⟨0, 0, [], none, by omega, by omega, rfl, ⟨fun i j _ hj => by simp at hj, fun i hi => by simp at hi⟩, .inl ⟨rfl, rfl⟩, hA2, (fun q hq => by cases hq), hB2⟩
  case round =>
    clear hA2 hB2
    obtain ⟨k, n, ps, r, hk, hn, rfl, hM, hT, hA, hrB, hW⟩ := hrel
    have hcn := hA.count
    have hs : B ≤ wr.heap.size := by have := hW.size; omega
    by_cases hlt : k < xs.length
    · obtain ⟨x, hx⟩ : ∃ x, xs[k]? = some x := ⟨_, List.getElem?_eq_getElem hlt⟩
      obtain ⟨_, ao', cap', hva, hra⟩ := HS.out.below (by rw [hB]; exact hW)
      injection hva with h1 h2 h3
      subst h1
      obtain ⟨g, o, rfl, hca⟩ := hra k x hx
      clear h2 h3 hra hx cap'
      obtain ⟨on, kind, a, b⟩ := x
      simp only at hca
      have c0 := hca 0 _ rfl
      have c1 := hca 1 _ rfl
      have c2 := hca 2 _ rfl
      have c3 := hca 3 _ rfl
      simp only [Nat.add_zero] at c0
      clear hca
      by_cases hpush : kind = 1 ∨ 4 < kind ∨ kind < 0
      · skip
        rcases hpush with rfl | hk1 | hk1
        all_goals
          go_wp2_with fail
          refine (pushP (B + 1) B n false ps r (a, (k : Int)) _ (hA.kept (fun k hk => heap_alloc_old _ _ hk)) (by omega)).mono ?_
          rintro e w3 ⟨r3, rfl, hA3, hT3⟩
          obtain ⟨hB3, hr3⟩ := hT3.big (hW.alloc hs _) (Nat.le_of_eq hB.symm) (by omega) hrB
          have hR3 := (hT.kept (fun k hk => heap_alloc_old _ _ hk)).beside (hA.kept (fun k hk => heap_alloc_old _ _ hk)) hT3
          have hX3 := (hA.kept (fun k hk => heap_alloc_old _ _ hk)).other hT3 (heap_alloc_new wr _) (by decide) (by decide)
          have c4 : w3.cell? ⟨wr.heap.size, 2, none⟩ = some (.int .i64 a) := by rw [cell_of_row _ _ _ _ _ _ hX3]; rfl
          clear hT3 hA hT hW c0 c1 c2 c3 hX3
          have hs3 : B ≤ w3.heap.size := by have := hB3.size; omega
          have hR3' := hR3.kept (w' := w3.alloc (.cells #[.int .i64 a, .int .i64 k] 25)) (fun k hk => heap_alloc_old _ _ hk)
          obtain ⟨v4, w4, hrun, hR4, hg4⟩ := hR3'.push (by simp; omega) (a, (k : Int)) w3.heap.size 1 (heap_alloc_new w3 _) (by omega)
          go_wp2_with (refine wpList_val v4 (by kernel_rfl) (exec_append2 rfl rfl rfl rfl hrun) ?_)
          exact ⟨⟨k + 1, n + 1, _, r3, by omega, by omega, by go_num, hM.snoc a, hR4, (hA3.kept (fun k hk => heap_alloc_old _ _ hk)).grown hg4 (fun g hg => (hR3'.type hg).2), hr3, (hB3.alloc hs3 _).trans (grown_below hg4 (by simp; omega) (fun k hk => (hR3'.type hk).1))⟩, by simp [intOf]; omega⟩
      · obtain ⟨ra, rc, rfl⟩ := hT.slice
        have hk1 : (kind == 1) = false := by simp; omega
        obtain ⟨hX5, hL5, hG5, hk5, hb5⟩ := three_new hW hs #[.int .i64 on, .int .i64 kind, .int .i64 a, .int .i64 b] #[.int .i64 a] #[.int .i64 0, .int .i64 0] 35 3 25
        have HX5 := Lib.hid hX5
        have HL5 := Lib.hid hL5
        have HG5 := Lib.hid hG5
        have hA5 := hA.kept hk5
        have hT5 := hT.kept hk5
        clear hX5 hL5 hG5 hk5
        by_cases hk3 : kind = 3
        case' pos =>
          have hk3' : (kind == 3) = true := by simp; omega
          clear hk3
          go_wp2_with fail
          generalize ((wr.alloc (.cells #[.int .i64 on, .int .i64 kind, .int .i64 a, .int .i64 b] 35)).alloc (.cells #[.int .i64 a] 3)).alloc (.cells #[.int .i64 0, .int .i64 0] 25) = w5 at HX5 HL5 HG5 hA5 hT5 hb5 ⊢
          refine (removeP (B + 1) B n false (askN kind a) _ ps r w5 hA5 (by omega) (asks_np wr.heap.size (wr.heap.size + 1) on kind a b a w5 HX5.out HL5.out)).mono ?_
          rintro e w6 h6
          obtain ⟨got, ok, ps', rfl, hA6, hT6, hQ⟩ := took_q hA5 h6
          clear h6
        case' neg =>
          have hk3' : (kind == 3) = false := by simp; omega
          have hall : PP.all = askN kind a := funext fun q => by simp [PP.all, askN, hk3]
          have HAll := Lib.hid hall
          clear hk3 hall
          go_wp2_with fail
          generalize ((wr.alloc (.cells #[.int .i64 on, .int .i64 kind, .int .i64 a, .int .i64 b] 35)).alloc (.cells #[.int .i64 a] 3)).alloc (.cells #[.int .i64 0, .int .i64 0] 25) = w5 at HX5 HL5 HG5 hA5 hT5 hb5 ⊢
          refine (popP (B + 1) B n false ps r w5 hA5 (by omega)).mono ?_
          rintro e w6 h6
          rw [HAll.out] at h6
          clear HAll
          obtain ⟨got, ok, ps', rfl, hA6, hT6, hQ⟩ := took_q hA5 h6
          clear h6
        case pos =>
          have hX6 := hA5.other hT6 HX5.out (by decide) (by decide)
          have hL6 := hA5.other hT6 HL5.out (by decide) (by decide)
          have hG6 := hA5.other hT6 HG5.out (by decide) (by decide)
          have hR6 := hT5.beside hA5 hT6
          obtain ⟨hb6, _⟩ := hT6.big hb5 (Nat.le_of_eq hB.symm) (by omega) hrB
          obtain ⟨hG7, hg7⟩ := put2 (u := .int .i64 got.1) (v := .int .i64 got.2) hG6
          have hg0 : ∀ g, some (wr.heap.size + 2) = some g → ∃ cs, w6.heap[g]? = some (.cells cs 25 (0, 0)) := fun g hg => by
            injection hg with hg
            exact ⟨_, hg ▸ hG6⟩
          have hA7 := hA6.grown hg7 hg0
          have hb7 : Below B w _ := hb6.trans (grown_below hg7 (by have := hb6.size; omega) (fun k hk => by injection hk with hk; omega))
          have hX7 := (hg7.block wr.heap.size (lt_of_block hX6) (by simp)).trans hX6
          have hL7 := (hg7.block (wr.heap.size + 1) (lt_of_block hL6) (by simp)).trans hL6
          have hR7 : RowT _ B _ ps := hR6.congr (fun k cs hk ho => hg7.block k (lt_of_block hk) (by
            obtain ⟨_, hc'⟩ := (hT.type ho).2
            have := lt_of_block hc'
            simp; omega))
          have d0 : w6.cell? ⟨wr.heap.size + 2, 0, none⟩ = some (.int .i64 0) := by rw [cell_of_row _ _ _ _ _ _ hG6]; rfl
          have d1 : w6.cell? ⟨wr.heap.size + 2, 1, none⟩ = some (.int .i64 0) := by rw [cell_of_row _ _ _ _ _ _ hG6]; rfl
          have d2 : ∀ o, w6.frozen? ⟨wr.heap.size + 2, o, none⟩ = false := fun o => by simp [World.frozen?, hG6]
          have HX7 := Lib.hid hX7
          have HL7 := Lib.hid hL7
          have HG7 := Lib.hid hG7
          clear hA hT hW hA5 hT5 hb5 hT6 hX6 hL6 hA6 hR6 hb6 hG6 hg7 hg0 HX5 HL5 HG5 hX7 hL7 hG7 c0 c1 c2 c3
          simp only [pairV]
          go_wp2_with fail
          generalize (w6.setCell ⟨wr.heap.size + 2, 0, none⟩ (.int .i64 got.1)).setCell ⟨wr.heap.size + 2, 1, none⟩ (.int .i64 got.2) = w7 at HX7 HL7 HG7 hA7 hR7 hb7 ⊢
          clear d0 d1 d2 w6 w5
          generalize wr.heap.size = s0 at HX7 HL7 HG7 hs ⊢
          clear hk1 hk3' hpush wr
          have HR7 := Lib.hid hR7
          have HQ := Lib.hid hQ
          clear hR7 hQ
          go_loopw [11, 12] (fun av iv wr => ∃ j : Nat, j ≤ ps.length ∧ iv = .int .i64 j ∧ av = .int .i64 (lastAt ps got j) ∧ Below w7.heap.size w7 wr) (fun _ iv _ => ps.length - (intOf iv).toNat)
          case atStart => exact ⟨0, by omega, rfl, rfl, Below.refl _ _⟩
          case round =>
            obtain ⟨j, hj, rfl, rfl, hW8⟩ := hrel
            by_cases hlt2 : j < ps.length
            · skip
              obtain ⟨p, hp⟩ : ∃ p, ps[j]? = some p := ⟨_, List.getElem?_eq_getElem hlt2⟩
              obtain ⟨_, ao, cp, hva, hra⟩ := (HR7.out.below hW8).reads (by omega)
              injection hva with h1 h2 h3
              subst h1
              obtain ⟨gg, rfl, hcp⟩ := hra j p hp
              have hcg := pair_rangeAt (rowAt_below HG7.out hW8)
              have hgd : ps.getD j default = p := by rw [List.getD_eq_getElem?_getD, hp]; rfl
              clear h2 h3 hra
              by_cases hq : p = got
              · have hl1 : lastAt ps got (j + 1) = j := by simp only [lastAt, hgd, hq, if_pos]
                have hd : decide (p = got) = true := by simp [hq]
                have HL1 := Lib.hid hl1
                have HD := Lib.hid hd
                clear hl1 hq hgd hp hd
                go_wp2_with fail
                refine wp_region_still_tail 5 (by kernel_rfl) (by kernel_rfl) ?_
                simp only [List.take_succ_cons, List.take_zero, List.drop_succ_cons, List.drop_zero]
                refine (fun (Hst : wpStill _ _ (World.drew _) (fun a' => wpList _ _ _ _ a' (World.drew _)) _ _) => Hst) ?_
                (refine still_yes ?v1 (by kernel_rfl) ?y1 ?z1; case y1 => (go_simp; (try (rw [if_neg (by omega)])); (try with_reducible rfl)))
                (try simp only [Act.put, List.setIfInBounds_toArray, List.set_cons_zero, List.set_cons_succ])
                (refine still_yes ?v2 (by kernel_rfl) ?y2 ?z2; case y2 => (go_simp; (try (rw [if_neg (by omega)])); (try with_reducible rfl)))
                (try simp only [Act.put, List.setIfInBounds_toArray, List.set_cons_zero, List.set_cons_succ])
                (refine still_yes ?v3 (by kernel_rfl) ?y3 ?z3; case y3 => (go_simp; (try (rw [if_neg (by omega)])); (try with_reducible rfl)))
                (try simp only [Act.put, List.setIfInBounds_toArray, List.set_cons_zero, List.set_cons_succ])
                refine still_yes _ (by kernel_rfl) (exec_load_mid hcp rfl rfl Try.underlying25 rfl (by kernel_rfl)) ?_
                (try simp only [Act.put, List.setIfInBounds_toArray, List.set_cons_zero, List.set_cons_succ])
                refine still_yes _ (by kernel_rfl) (exec_load_mid hcg rfl rfl Try.underlying25 rfl (by kernel_rfl)) ?_
                (try simp only [Act.put, List.setIfInBounds_toArray, List.set_cons_zero, List.set_cons_succ])
                refine wpStill_nil ?_
                refine wpList_val (.bool true) (by kernel_rfl) (exec_eql_val (r := true) rfl rfl rfl (by kernel_rfl) (fun w => by rw [eqPair p got w, HD.out])) ?_
                (try simp only [Act.put, List.setIfInBounds_toArray, List.set_cons_zero, List.set_cons_succ])
                go_wp2_with fail
                exact ⟨⟨j + 1, by omega, by go_num, by rw [HL1.out], hW8.drew⟩, by simp [intOf]; omega⟩
              · have hl1 : lastAt ps got (j + 1) = lastAt ps got j := by simp only [lastAt, hgd, if_neg hq]
                have hd : decide (p = got) = false := by simp [hq]
                have HL1 := Lib.hid hl1
                have HD := Lib.hid hd
                clear hl1 hq hgd hp hd
                go_wp2_with fail
                refine wp_region_still_tail 5 (by kernel_rfl) (by kernel_rfl) ?_
                simp only [List.take_succ_cons, List.take_zero, List.drop_succ_cons, List.drop_zero]
                refine (fun (Hst : wpStill _ _ (World.drew _) (fun a' => wpList _ _ _ _ a' (World.drew _)) _ _) => Hst) ?_
                (refine still_yes ?v4 (by kernel_rfl) ?y4 ?z4; case y4 => (go_simp; (try (rw [if_neg (by omega)])); (try with_reducible rfl)))
                (try simp only [Act.put, List.setIfInBounds_toArray, List.set_cons_zero, List.set_cons_succ])
                (refine still_yes ?v5 (by kernel_rfl) ?y5 ?z5; case y5 => (go_simp; (try (rw [if_neg (by omega)])); (try with_reducible rfl)))
                (try simp only [Act.put, List.setIfInBounds_toArray, List.set_cons_zero, List.set_cons_succ])
                (refine still_yes ?v6 (by kernel_rfl) ?y6 ?z6; case y6 => (go_simp; (try (rw [if_neg (by omega)])); (try with_reducible rfl)))
                (try simp only [Act.put, List.setIfInBounds_toArray, List.set_cons_zero, List.set_cons_succ])
                refine still_yes _ (by kernel_rfl) (exec_load_mid hcp rfl rfl Try.underlying25 rfl (by kernel_rfl)) ?_
                (try simp only [Act.put, List.setIfInBounds_toArray, List.set_cons_zero, List.set_cons_succ])
                refine still_yes _ (by kernel_rfl) (exec_load_mid hcg rfl rfl Try.underlying25 rfl (by kernel_rfl)) ?_
                (try simp only [Act.put, List.setIfInBounds_toArray, List.set_cons_zero, List.set_cons_succ])
                refine wpStill_nil ?_
                refine wpList_val (.bool false) (by kernel_rfl) (exec_eql_val (r := false) rfl rfl rfl (by kernel_rfl) (fun w => by rw [eqPair p got w, HD.out])) ?_
                (try simp only [Act.put, List.setIfInBounds_toArray, List.set_cons_zero, List.set_cons_succ])
                go_wp2_with fail
                exact ⟨⟨j + 1, by omega, by go_num, by rw [HL1.out], hW8.drew⟩, by simp [intOf]; omega⟩
            · have hje : j = ps.length := by omega
              subst hje
              clear hlt2 hj
              go_wp2_with fail
              go_loopw [13] (fun iv wr => ∃ j : Nat, j ≤ ps.length ∧ iv = .int .i64 j ∧ Below w7.heap.size w7 wr) (fun iv _ => ps.length - (intOf iv).toNat)
              case atStart => exact ⟨0, by omega, rfl, hW8⟩
              case round =>
                clear hW8
                obtain ⟨j, hj, rfl, hW8⟩ := hrel
                by_cases hlt2 : j < ps.length
                · skip
                  obtain ⟨p, hp⟩ : ∃ p, ps[j]? = some p := ⟨_, List.getElem?_eq_getElem hlt2⟩
                  obtain ⟨_, ao, cp, hva, hra⟩ := (HR7.out.below hW8).reads (by omega)
                  injection hva with h1 h2 h3
                  subst h1
                  obtain ⟨gg, rfl, hcp⟩ := hra j p hp
                  have hgd : ps.getD j default = p := by rw [List.getD_eq_getElem?_getD, hp]; rfl
                  clear h2 h3 hra hp
                  have e0 := hcp 0 _ rfl
                  have e1 := hcp 1 _ rfl
                  simp only [Nat.add_zero] at e0
                  go_wp2_with fail
                  refine (np1_any s0 (s0 + 1) on kind a b a p _ (rowAt_below HX7.out hW8) (rowAt_below HL7.out hW8)).mono ?_
                  rintro e w9 ⟨rfl, hb9⟩
                  have hW9 := hW8.trans (hb9.mono hW8.size)
                  replace hcp := rangeAt_below' hcp hb9
                  clear e0 e1 hb9 hW8
                  cases hask : askN kind a p
                  · clear hgd hask hcp
                    go_wp2_with fail
                    exact ⟨⟨j + 1, by omega, by go_num, hW9⟩, by simp [intOf]; omega⟩
                  · obtain ⟨hok, hn1, hn2⟩ := HQ.out.never hM hlt2 (by rw [hgd]; exact hask)
                    rw [hgd] at hn1 hn2
                    subst hok
                    have d1 : decide (p.1 < got.1) = false := by simpa using hn1
                    have e0 := hcp 0 _ rfl
                    have e1 := hcp 1 _ rfl
                    have hcg := pair_rangeAt (rowAt_below HG7.out hW9)
                    have e2 := hcg 0 _ rfl
                    have e3 := hcg 1 _ rfl
                    simp only [Nat.add_zero, Nat.zero_add] at e0 e2 e3
                    clear hgd hask hcp hcg hn1
                    by_cases heq : p.1 = got.1
                    · have d2 : (p.1 == got.1) = true := by simpa using heq
                      have d3 : decide (p.2 < got.2) = false := by simpa using hn2 heq
                      clear hn2 heq
                      go_wp2_with fail
                      refine wp_region_still_tail 31 (by kernel_rfl) (by kernel_rfl) ?_
                      simp only [List.take_succ_cons, List.take_zero, List.drop_succ_cons, List.drop_zero]
                      refine (fun (Hst : wpStill _ _ (World.drew _) (fun a' => wpList _ _ _ _ a' (World.drew _)) _ _) => Hst) ?_
                      (refine still_yes ?v7 (by kernel_rfl) ?y7 ?z7; case y7 => (go_simp; (try (rw [if_neg (by omega)])); (try with_reducible rfl)))
                      (try simp only [Act.put, List.setIfInBounds_toArray, List.set_cons_zero, List.set_cons_succ])
                      (refine still_yes ?v8 (by kernel_rfl) ?y8 ?z8; case y8 => (go_simp; (try (rw [if_neg (by omega)])); (try with_reducible rfl)))
                      (try simp only [Act.put, List.setIfInBounds_toArray, List.set_cons_zero, List.set_cons_succ])
                      (refine still_yes ?v9 (by kernel_rfl) ?y9 ?z9; case y9 => (go_simp; (try (rw [if_neg (by omega)])); (try with_reducible rfl)))
                      (try simp only [Act.put, List.setIfInBounds_toArray, List.set_cons_zero, List.set_cons_succ])
                      (refine still_yes ?v10 (by kernel_rfl) ?y10 ?z10; case y10 => (go_simp; (try (rw [if_neg (by omega)])); (try with_reducible rfl)))
                      (try simp only [Act.put, List.setIfInBounds_toArray, List.set_cons_zero, List.set_cons_succ])
                      (refine still_yes ?v11 (by kernel_rfl) ?y11 ?z11; case y11 => (go_simp; (try (rw [if_neg (by omega)])); (try with_reducible rfl)))
                      (try simp only [Act.put, List.setIfInBounds_toArray, List.set_cons_zero, List.set_cons_succ])
                      (refine still_yes ?v12 (by kernel_rfl) ?y12 ?z12; case y12 => (go_simp; (try (rw [if_neg (by omega)])); (try with_reducible rfl)))
                      (try simp only [Act.put, List.setIfInBounds_toArray, List.set_cons_zero, List.set_cons_succ])
                      (refine still_yes ?v13 (by kernel_rfl) ?y13 ?z13; case y13 => (go_simp; (try (rw [if_neg (by omega)])); (try with_reducible rfl)))
                      (try simp only [Act.put, List.setIfInBounds_toArray, List.set_cons_zero, List.set_cons_succ])
                      (refine still_yes ?v14 (by kernel_rfl) ?y14 ?z14; case y14 => (go_simp; (try (rw [if_neg (by omega)])); (try with_reducible rfl)))
                      (try simp only [Act.put, List.setIfInBounds_toArray, List.set_cons_zero, List.set_cons_succ])
                      (refine still_yes ?v15 (by kernel_rfl) ?y15 ?z15; case y15 => (go_simp; (try (rw [if_neg (by omega)])); (try with_reducible rfl)))
                      (try simp only [Act.put, List.setIfInBounds_toArray, List.set_cons_zero, List.set_cons_succ])
                      (refine still_yes ?v16 (by kernel_rfl) ?y16 ?z16; case y16 => (go_simp; (try (rw [if_neg (by omega)])); (try with_reducible rfl)))
                      (try simp only [Act.put, List.setIfInBounds_toArray, List.set_cons_zero, List.set_cons_succ])
                      (refine still_yes ?v17 (by kernel_rfl) ?y17 ?z17; case y17 => (go_simp; (try (rw [if_neg (by omega)])); (try with_reducible rfl)))
                      (try simp only [Act.put, List.setIfInBounds_toArray, List.set_cons_zero, List.set_cons_succ])
                      (refine still_yes ?v18 (by kernel_rfl) ?y18 ?z18; case y18 => (go_simp; (try (rw [if_neg (by omega)])); (try with_reducible rfl)))
                      (try simp only [Act.put, List.setIfInBounds_toArray, List.set_cons_zero, List.set_cons_succ])
                      (refine still_yes ?v19 (by kernel_rfl) ?y19 ?z19; case y19 => (go_simp; (try (rw [if_neg (by omega)])); (try with_reducible rfl)))
                      (try simp only [Act.put, List.setIfInBounds_toArray, List.set_cons_zero, List.set_cons_succ])
                      (refine still_yes ?v20 (by kernel_rfl) ?y20 ?z20; case y20 => (go_simp; (try (rw [if_neg (by omega)])); (try with_reducible rfl)))
                      (try simp only [Act.put, List.setIfInBounds_toArray, List.set_cons_zero, List.set_cons_succ])
                      (refine still_yes ?v21 (by kernel_rfl) ?y21 ?z21; case y21 => (go_simp; (try (rw [if_neg (by omega)])); (try with_reducible rfl)))
                      (try simp only [Act.put, List.setIfInBounds_toArray, List.set_cons_zero, List.set_cons_succ])
                      (refine still_yes ?v22 (by kernel_rfl) ?y22 ?z22; case y22 => (go_simp; (try (rw [if_neg (by omega)])); (try with_reducible rfl)))
                      (try simp only [Act.put, List.setIfInBounds_toArray, List.set_cons_zero, List.set_cons_succ])
                      (refine still_yes ?v23 (by kernel_rfl) ?y23 ?z23; case y23 => (go_simp; (try (rw [if_neg (by omega)])); (try with_reducible rfl)))
                      (try simp only [Act.put, List.setIfInBounds_toArray, List.set_cons_zero, List.set_cons_succ])
                      (refine still_yes ?v24 (by kernel_rfl) ?y24 ?z24; case y24 => (go_simp; (try (rw [if_neg (by omega)])); (try with_reducible rfl)))
                      (try simp only [Act.put, List.setIfInBounds_toArray, List.set_cons_zero, List.set_cons_succ])
                      (refine still_yes ?v25 (by kernel_rfl) ?y25 ?z25; case y25 => (go_simp; (try (rw [if_neg (by omega)])); (try with_reducible rfl)))
                      (try simp only [Act.put, List.setIfInBounds_toArray, List.set_cons_zero, List.set_cons_succ])
                      (refine still_yes ?v26 (by kernel_rfl) ?y26 ?z26; case y26 => (go_simp; (try (rw [if_neg (by omega)])); (try with_reducible rfl)))
                      (try simp only [Act.put, List.setIfInBounds_toArray, List.set_cons_zero, List.set_cons_succ])
                      (refine still_yes ?v27 (by kernel_rfl) ?y27 ?z27; case y27 => (go_simp; (try (rw [if_neg (by omega)])); (try with_reducible rfl)))
                      (try simp only [Act.put, List.setIfInBounds_toArray, List.set_cons_zero, List.set_cons_succ])
                      (refine still_yes ?v28 (by kernel_rfl) ?y28 ?z28; case y28 => (go_simp; (try (rw [if_neg (by omega)])); (try with_reducible rfl)))
                      (try simp only [Act.put, List.setIfInBounds_toArray, List.set_cons_zero, List.set_cons_succ])
                      (refine still_yes ?v29 (by kernel_rfl) ?y29 ?z29; case y29 => (go_simp; (try (rw [if_neg (by omega)])); (try with_reducible rfl)))
                      (try simp only [Act.put, List.setIfInBounds_toArray, List.set_cons_zero, List.set_cons_succ])
                      (refine still_yes ?v30 (by kernel_rfl) ?y30 ?z30; case y30 => (go_simp; (try (rw [if_neg (by omega)])); (try with_reducible rfl)))
                      (try simp only [Act.put, List.setIfInBounds_toArray, List.set_cons_zero, List.set_cons_succ])
                      (refine still_yes ?v31 (by kernel_rfl) ?y31 ?z31; case y31 => (go_simp; (try (rw [if_neg (by omega)])); (try with_reducible rfl)))
                      (try simp only [Act.put, List.setIfInBounds_toArray, List.set_cons_zero, List.set_cons_succ])
                      (refine still_yes ?v32 (by kernel_rfl) ?y32 ?z32; case y32 => (go_simp; (try (rw [if_neg (by omega)])); (try with_reducible rfl)))
                      (try simp only [Act.put, List.setIfInBounds_toArray, List.set_cons_zero, List.set_cons_succ])
                      (refine still_yes ?v33 (by kernel_rfl) ?y33 ?z33; case y33 => (go_simp; (try (rw [if_neg (by omega)])); (try with_reducible rfl)))
                      (try simp only [Act.put, List.setIfInBounds_toArray, List.set_cons_zero, List.set_cons_succ])
                      (refine still_yes ?v34 (by kernel_rfl) ?y34 ?z34; case y34 => (go_simp; (try (rw [if_neg (by omega)])); (try with_reducible rfl)))
                      (try simp only [Act.put, List.setIfInBounds_toArray, List.set_cons_zero, List.set_cons_succ])
                      (refine still_yes ?v35 (by kernel_rfl) ?y35 ?z35; case y35 => (go_simp; (try (rw [if_neg (by omega)])); (try with_reducible rfl)))
                      (try simp only [Act.put, List.setIfInBounds_toArray, List.set_cons_zero, List.set_cons_succ])
                      (refine still_yes ?v36 (by kernel_rfl) ?y36 ?z36; case y36 => (go_simp; (try (rw [if_neg (by omega)])); (try with_reducible rfl)))
                      (try simp only [Act.put, List.setIfInBounds_toArray, List.set_cons_zero, List.set_cons_succ])
                      (refine still_yes ?v37 (by kernel_rfl) ?y37 ?z37; case y37 => (go_simp; (try (rw [if_neg (by omega)])); (try with_reducible rfl)))
                      (try simp only [Act.put, List.setIfInBounds_toArray, List.set_cons_zero, List.set_cons_succ])
                      refine wpStill_nil ?_
                      go_wp2_with fail
                      exact ⟨⟨j + 1, by omega, by go_num, hW9.drew⟩, by simp [intOf]; omega⟩
                    · have d2 : (p.1 == got.1) = false := by simpa using heq
                      clear hn2 heq
                      go_wp2_with fail
                      refine wp_region_still_tail 31 (by kernel_rfl) (by kernel_rfl) ?_
                      simp only [List.take_succ_cons, List.take_zero, List.drop_succ_cons, List.drop_zero]
                      refine (fun (Hst : wpStill _ _ (World.drew _) (fun a' => wpList _ _ _ _ a' (World.drew _)) _ _) => Hst) ?_
                      (refine still_yes ?v38 (by kernel_rfl) ?y38 ?z38; case y38 => (go_simp; (try (rw [if_neg (by omega)])); (try with_reducible rfl)))
                      (try simp only [Act.put, List.setIfInBounds_toArray, List.set_cons_zero, List.set_cons_succ])
                      (refine still_yes ?v39 (by kernel_rfl) ?y39 ?z39; case y39 => (go_simp; (try (rw [if_neg (by omega)])); (try with_reducible rfl)))
                      (try simp only [Act.put, List.setIfInBounds_toArray, List.set_cons_zero, List.set_cons_succ])
                      (refine still_yes ?v40 (by kernel_rfl) ?y40 ?z40; case y40 => (go_simp; (try (rw [if_neg (by omega)])); (try with_reducible rfl)))
                      (try simp only [Act.put, List.setIfInBounds_toArray, List.set_cons_zero, List.set_cons_succ])
                      (refine still_yes ?v41 (by kernel_rfl) ?y41 ?z41; case y41 => (go_simp; (try (rw [if_neg (by omega)])); (try with_reducible rfl)))
                      (try simp only [Act.put, List.setIfInBounds_toArray, List.set_cons_zero, List.set_cons_succ])
                      (refine still_yes ?v42 (by kernel_rfl) ?y42 ?z42; case y42 => (go_simp; (try (rw [if_neg (by omega)])); (try with_reducible rfl)))
                      (try simp only [Act.put, List.setIfInBounds_toArray, List.set_cons_zero, List.set_cons_succ])
                      (refine still_yes ?v43 (by kernel_rfl) ?y43 ?z43; case y43 => (go_simp; (try (rw [if_neg (by omega)])); (try with_reducible rfl)))
                      (try simp only [Act.put, List.setIfInBounds_toArray, List.set_cons_zero, List.set_cons_succ])
                      (refine still_yes ?v44 (by kernel_rfl) ?y44 ?z44; case y44 => (go_simp; (try (rw [if_neg (by omega)])); (try with_reducible rfl)))
                      (try simp only [Act.put, List.setIfInBounds_toArray, List.set_cons_zero, List.set_cons_succ])
                      (refine still_yes ?v45 (by kernel_rfl) ?y45 ?z45; case y45 => (go_simp; (try (rw [if_neg (by omega)])); (try with_reducible rfl)))
                      (try simp only [Act.put, List.setIfInBounds_toArray, List.set_cons_zero, List.set_cons_succ])
                      (refine still_yes ?v46 (by kernel_rfl) ?y46 ?z46; case y46 => (go_simp; (try (rw [if_neg (by omega)])); (try with_reducible rfl)))
                      (try simp only [Act.put, List.setIfInBounds_toArray, List.set_cons_zero, List.set_cons_succ])
                      (refine still_yes ?v47 (by kernel_rfl) ?y47 ?z47; case y47 => (go_simp; (try (rw [if_neg (by omega)])); (try with_reducible rfl)))
                      (try simp only [Act.put, List.setIfInBounds_toArray, List.set_cons_zero, List.set_cons_succ])
                      (refine still_yes ?v48 (by kernel_rfl) ?y48 ?z48; case y48 => (go_simp; (try (rw [if_neg (by omega)])); (try with_reducible rfl)))
                      (try simp only [Act.put, List.setIfInBounds_toArray, List.set_cons_zero, List.set_cons_succ])
                      (refine still_yes ?v49 (by kernel_rfl) ?y49 ?z49; case y49 => (go_simp; (try (rw [if_neg (by omega)])); (try with_reducible rfl)))
                      (try simp only [Act.put, List.setIfInBounds_toArray, List.set_cons_zero, List.set_cons_succ])
                      (refine still_yes ?v50 (by kernel_rfl) ?y50 ?z50; case y50 => (go_simp; (try (rw [if_neg (by omega)])); (try with_reducible rfl)))
                      (try simp only [Act.put, List.setIfInBounds_toArray, List.set_cons_zero, List.set_cons_succ])
                      (refine still_yes ?v51 (by kernel_rfl) ?y51 ?z51; case y51 => (go_simp; (try (rw [if_neg (by omega)])); (try with_reducible rfl)))
                      (try simp only [Act.put, List.setIfInBounds_toArray, List.set_cons_zero, List.set_cons_succ])
                      (refine still_yes ?v52 (by kernel_rfl) ?y52 ?z52; case y52 => (go_simp; (try (rw [if_neg (by omega)])); (try with_reducible rfl)))
                      (try simp only [Act.put, List.setIfInBounds_toArray, List.set_cons_zero, List.set_cons_succ])
                      (refine still_yes ?v53 (by kernel_rfl) ?y53 ?z53; case y53 => (go_simp; (try (rw [if_neg (by omega)])); (try with_reducible rfl)))
                      (try simp only [Act.put, List.setIfInBounds_toArray, List.set_cons_zero, List.set_cons_succ])
                      (refine still_yes ?v54 (by kernel_rfl) ?y54 ?z54; case y54 => (go_simp; (try (rw [if_neg (by omega)])); (try with_reducible rfl)))
                      (try simp only [Act.put, List.setIfInBounds_toArray, List.set_cons_zero, List.set_cons_succ])
                      (refine still_yes ?v55 (by kernel_rfl) ?y55 ?z55; case y55 => (go_simp; (try (rw [if_neg (by omega)])); (try with_reducible rfl)))
                      (try simp only [Act.put, List.setIfInBounds_toArray, List.set_cons_zero, List.set_cons_succ])
                      (refine still_yes ?v56 (by kernel_rfl) ?y56 ?z56; case y56 => (go_simp; (try (rw [if_neg (by omega)])); (try with_reducible rfl)))
                      (try simp only [Act.put, List.setIfInBounds_toArray, List.set_cons_zero, List.set_cons_succ])
                      (refine still_yes ?v57 (by kernel_rfl) ?y57 ?z57; case y57 => (go_simp; (try (rw [if_neg (by omega)])); (try with_reducible rfl)))
                      (try simp only [Act.put, List.setIfInBounds_toArray, List.set_cons_zero, List.set_cons_succ])
                      (refine still_yes ?v58 (by kernel_rfl) ?y58 ?z58; case y58 => (go_simp; (try (rw [if_neg (by omega)])); (try with_reducible rfl)))
                      (try simp only [Act.put, List.setIfInBounds_toArray, List.set_cons_zero, List.set_cons_succ])
                      (refine still_yes ?v59 (by kernel_rfl) ?y59 ?z59; case y59 => (go_simp; (try (rw [if_neg (by omega)])); (try with_reducible rfl)))
                      (try simp only [Act.put, List.setIfInBounds_toArray, List.set_cons_zero, List.set_cons_succ])
                      refine still_no (by kernel_rfl) ?_
                      (try simp only [Act.put, List.setIfInBounds_toArray, List.set_cons_zero, List.set_cons_succ])
                      refine still_no (by kernel_rfl) ?_
                      (try simp only [Act.put, List.setIfInBounds_toArray, List.set_cons_zero, List.set_cons_succ])
                      refine still_no (by kernel_rfl) ?_
                      (try simp only [Act.put, List.setIfInBounds_toArray, List.set_cons_zero, List.set_cons_succ])
                      refine still_no (by kernel_rfl) ?_
                      (try simp only [Act.put, List.setIfInBounds_toArray, List.set_cons_zero, List.set_cons_succ])
                      refine still_no (by kernel_rfl) ?_
                      (try simp only [Act.put, List.setIfInBounds_toArray, List.set_cons_zero, List.set_cons_succ])
                      refine still_no (by kernel_rfl) ?_
                      (try simp only [Act.put, List.setIfInBounds_toArray, List.set_cons_zero, List.set_cons_succ])
                      refine still_no (by kernel_rfl) ?_
                      (try simp only [Act.put, List.setIfInBounds_toArray, List.set_cons_zero, List.set_cons_succ])
                      refine still_no (by kernel_rfl) ?_
                      (try simp only [Act.put, List.setIfInBounds_toArray, List.set_cons_zero, List.set_cons_succ])
                      (refine still_yes ?v60 (by kernel_rfl) ?y60 ?z60; case y60 => (go_simp; (try (rw [if_neg (by omega)])); (try with_reducible rfl)))
                      (try simp only [Act.put, List.setIfInBounds_toArray, List.set_cons_zero, List.set_cons_succ])
                      refine wpStill_nil ?_
                      go_wp2_with fail
                      exact ⟨⟨j + 1, by omega, by go_num, hW9.drew⟩, by simp [intOf]; omega⟩
                · have hje : j = ps.length := by omega
                  subst hje
                  clear hlt2 hj
                  cases ok
                  · skip
                    obtain ⟨rfl, rfl⟩ := HQ.out.none_is
                    have q0 : ∀ w, (Op.equalIn 10000 25 (.agg #[.int .i64 0, .int .i64 0]) (.agg #[.int .i64 0, .int .i64 0])).run Try.prog w = .ok true w := fun w => eqPair (0, 0) (0, 0) w
                    have hcg := pair_rangeAt (rowAt_below HG7.out hW8)
                    have e2 := hcg 0 _ rfl
                    have e3 := hcg 1 _ rfl
                    simp only [Nat.add_zero, Nat.zero_add] at e2 e3
                    clear hcg
                    go_wp2_with fail
                    exact ⟨⟨k + 1, n, ps', r, by omega, by omega, by go_num, hM.up (by omega), HR7.out.below hW8, hA7.below hW8, hrB, hb7.trans (hW8.mono (by have := hb7.size; omega))⟩, by simp [intOf]; omega⟩
                  · skip
                    obtain ⟨bi, hbi, hgot, hpg, rfl⟩ := HQ.out.some_is
                    have hat : lastAt ps got ps.length = bi := by rw [hgot, lastAt_is hM hbi _ (Nat.le_refl _), if_pos hbi]
                    rw [hat]
                    have hcg := pair_rangeAt (rowAt_below HG7.out hW8)
                    have e2 := hcg 0 _ rfl
                    have e3 := hcg 1 _ rfl
                    simp only [Nat.add_zero, Nat.zero_add] at e2 e3
                    clear hcg hat hgot
                    go_wp2_with fail
                    refine (np1_any s0 (s0 + 1) on kind a b a got _ (rowAt_below HX7.out hW8) (rowAt_below HL7.out hW8)).mono ?_
                    rintro e w9 ⟨rfl, hb9⟩
                    have hW9 := hW8.trans (hb9.mono hW8.size)
                    rw [hpg]
                    clear e2 e3 hb9 hW8 hpg
                    have hA9 := hA7.below hW9
                    have hR9 := HR7.out.below hW9
                    have hB9 := hb7.trans (hW9.mono (by have := hb7.size; omega))
                    clear hW9 HQ HR7 hA7 hb7 HX7 HL7 HG7
                    have hsz9 : B ≤ w9.heap.size := by have := hB9.size; omega
                    obtain ⟨gg, cp, hva, hcp1, hcp2, v10, w10, hrun, hR10, hg10⟩ := RowT.cut (w := w9.drew) (hR9.congr (fun k cs hk _ => rfl)) hsz9 bi hbi (by omega)
                    injection hva with h1 h2 h3
                    subst h1
                    subst h3
                    clear h2
                    go_wp2_with fail
                    refine wp_region_still_tail 8 (by kernel_rfl) (by kernel_rfl) ?_
                    simp only [List.take_succ_cons, List.take_zero, List.drop_succ_cons, List.drop_zero]
                    refine (fun (Hst : wpStill _ _ (World.drew _) (fun a' => wpList _ _ _ _ a' (World.drew _)) _ _) => Hst) ?_
                    (refine still_yes ?v61 (by kernel_rfl) ?y61 ?z61; case y61 => (go_simp; (try (rw [if_neg (by omega)])); (try with_reducible rfl)))
                    (try simp only [Act.put, List.setIfInBounds_toArray, List.set_cons_zero, List.set_cons_succ])
                    (refine still_yes ?v62 (by kernel_rfl) ?y62 ?z62; case y62 => (go_simp; (try (rw [if_neg (by omega)])); (try with_reducible rfl)))
                    (try simp only [Act.put, List.setIfInBounds_toArray, List.set_cons_zero, List.set_cons_succ])
                    (refine still_yes ?v63 (by kernel_rfl) ?y63 ?z63; case y63 => (go_simp; (try (rw [if_neg (by omega)])); (try with_reducible rfl)))
                    (try simp only [Act.put, List.setIfInBounds_toArray, List.set_cons_zero, List.set_cons_succ])
                    refine still_yes _ (by kernel_rfl) (exec_slice_hm (k := bi) rfl rfl rfl rfl (by omega)) ?_
                    (try simp only [Act.put, List.setIfInBounds_toArray, List.set_cons_zero, List.set_cons_succ])
                    (refine still_yes ?v64 (by kernel_rfl) ?y64 ?z64; case y64 => (go_simp; (try (rw [if_neg (by omega)])); (try with_reducible rfl)))
                    (try simp only [Act.put, List.setIfInBounds_toArray, List.set_cons_zero, List.set_cons_succ])
                    (refine still_yes ?v65 (by kernel_rfl) ?y65 ?z65; case y65 => (go_simp; (try (rw [if_neg (by omega)])); (try with_reducible rfl)))
                    (try simp only [Act.put, List.setIfInBounds_toArray, List.set_cons_zero, List.set_cons_succ])
                    (refine still_yes ?v66 (by kernel_rfl) ?y66 ?z66; case y66 => (go_simp; (try (rw [if_neg (by omega)])); (try with_reducible rfl)))
                    (try simp only [Act.put, List.setIfInBounds_toArray, List.set_cons_zero, List.set_cons_succ])
                    refine still_yes _ (by kernel_rfl) (exec_slice_l (k := bi + 1) rfl rfl rfl (by rw [IntWalk.i64_in _ (by omega)]; rfl) (by omega)) ?_
                    (try simp only [Act.put, List.setIfInBounds_toArray, List.set_cons_zero, List.set_cons_succ])
                    refine wpStill_nil ?_
                    refine wpList_val v10 (by kernel_rfl) (exec_append2 rfl rfl rfl rfl hrun) ?_
                    (try simp only [Act.put, List.setIfInBounds_toArray, List.set_cons_zero, List.set_cons_succ])
                    clear hrun
                    have hA10 := (HeapP.kept (w' := w9.drew) hA9 (fun k hk => rfl)).grown hg10 (fun g hg => by cases hg)
                    have hB10 := hB9.drew.trans (grown_below hg10 hsz9 (fun k hk => by cases hk))
                    have hle := List.length_eraseIdx_of_lt hbi
                    clear hg10 hB9 hA9 hR9 hcp1 hcp2
                    obtain ⟨a10, c10, rfl⟩ := hR10.slice
                    go_wp2_with fail
                    refine (lenP (B + 1) B n false _ r _ hA10 (by omega)).mono ?_
                    rintro e w11 ⟨rfl, rfl⟩
                    go_wp2_with fail
                    rw [← hle]
                    exact ⟨⟨k + 1, n, _, r, by omega, by omega, by go_num, (hM.erase hbi).up (by omega), hR10, hA10, hrB, hB10⟩, by simp [intOf]; omega⟩
        case neg =>
          have hX6 := hA5.other hT6 HX5.out (by decide) (by decide)
          have hL6 := hA5.other hT6 HL5.out (by decide) (by decide)
          have hG6 := hA5.other hT6 HG5.out (by decide) (by decide)
          have hR6 := hT5.beside hA5 hT6
          obtain ⟨hb6, _⟩ := hT6.big hb5 (Nat.le_of_eq hB.symm) (by omega) hrB
          obtain ⟨hG7, hg7⟩ := put2 (u := .int .i64 got.1) (v := .int .i64 got.2) hG6
          have hg0 : ∀ g, some (wr.heap.size + 2) = some g → ∃ cs, w6.heap[g]? = some (.cells cs 25 (0, 0)) := fun g hg => by
            injection hg with hg
            exact ⟨_, hg ▸ hG6⟩
          have hA7 := hA6.grown hg7 hg0
          have hb7 : Below B w _ := hb6.trans (grown_below hg7 (by have := hb6.size; omega) (fun k hk => by injection hk with hk; omega))
          have hX7 := (hg7.block wr.heap.size (lt_of_block hX6) (by simp)).trans hX6
          have hL7 := (hg7.block (wr.heap.size + 1) (lt_of_block hL6) (by simp)).trans hL6
          have hR7 : RowT _ B _ ps := hR6.congr (fun k cs hk ho => hg7.block k (lt_of_block hk) (by
            obtain ⟨_, hc'⟩ := (hT.type ho).2
            have := lt_of_block hc'
            simp; omega))
          have d0 : w6.cell? ⟨wr.heap.size + 2, 0, none⟩ = some (.int .i64 0) := by rw [cell_of_row _ _ _ _ _ _ hG6]; rfl
          have d1 : w6.cell? ⟨wr.heap.size + 2, 1, none⟩ = some (.int .i64 0) := by rw [cell_of_row _ _ _ _ _ _ hG6]; rfl
          have d2 : ∀ o, w6.frozen? ⟨wr.heap.size + 2, o, none⟩ = false := fun o => by simp [World.frozen?, hG6]
          have HX7 := Lib.hid hX7
          have HL7 := Lib.hid hL7
          have HG7 := Lib.hid hG7
          clear hA hT hW hA5 hT5 hb5 hT6 hX6 hL6 hA6 hR6 hb6 hG6 hg7 hg0 HX5 HL5 HG5 hX7 hL7 hG7 c0 c1 c2 c3
          simp only [pairV]
          go_wp2_with fail
          generalize (w6.setCell ⟨wr.heap.size + 2, 0, none⟩ (.int .i64 got.1)).setCell ⟨wr.heap.size + 2, 1, none⟩ (.int .i64 got.2) = w7 at HX7 HL7 HG7 hA7 hR7 hb7 ⊢
          clear d0 d1 d2 w6 w5
          generalize wr.heap.size = s0 at HX7 HL7 HG7 hs ⊢
          clear hk1 hk3' hpush wr
          have HR7 := Lib.hid hR7
          have HQ := Lib.hid hQ
          clear hR7 hQ
          go_loopw [11, 12] (fun av iv wr => ∃ j : Nat, j ≤ ps.length ∧ iv = .int .i64 j ∧ av = .int .i64 (lastAt ps got j) ∧ Below w7.heap.size w7 wr) (fun _ iv _ => ps.length - (intOf iv).toNat)
          case atStart => exact ⟨0, by omega, rfl, rfl, Below.refl _ _⟩
          case round =>
            obtain ⟨j, hj, rfl, rfl, hW8⟩ := hrel
            by_cases hlt2 : j < ps.length
            · skip
              obtain ⟨p, hp⟩ : ∃ p, ps[j]? = some p := ⟨_, List.getElem?_eq_getElem hlt2⟩
              obtain ⟨_, ao, cp, hva, hra⟩ := (HR7.out.below hW8).reads (by omega)
              injection hva with h1 h2 h3
              subst h1
              obtain ⟨gg, rfl, hcp⟩ := hra j p hp
              have hcg := pair_rangeAt (rowAt_below HG7.out hW8)
              have hgd : ps.getD j default = p := by rw [List.getD_eq_getElem?_getD, hp]; rfl
              clear h2 h3 hra
              by_cases hq : p = got
              · have hl1 : lastAt ps got (j + 1) = j := by simp only [lastAt, hgd, hq, if_pos]
                have hd : decide (p = got) = true := by simp [hq]
                have HL1 := Lib.hid hl1
                have HD := Lib.hid hd
                clear hl1 hq hgd hp hd
                go_wp2_with fail
                refine wp_region_still_tail 5 (by kernel_rfl) (by kernel_rfl) ?_
                simp only [List.take_succ_cons, List.take_zero, List.drop_succ_cons, List.drop_zero]
                refine (fun (Hst : wpStill _ _ (World.drew _) (fun a' => wpList _ _ _ _ a' (World.drew _)) _ _) => Hst) ?_
                (refine still_yes ?v67 (by kernel_rfl) ?y67 ?z67; case y67 => (go_simp; (try (rw [if_neg (by omega)])); (try with_reducible rfl)))
                (try simp only [Act.put, List.setIfInBounds_toArray, List.set_cons_zero, List.set_cons_succ])
                (refine still_yes ?v68 (by kernel_rfl) ?y68 ?z68; case y68 => (go_simp; (try (rw [if_neg (by omega)])); (try with_reducible rfl)))
                (try simp only [Act.put, List.setIfInBounds_toArray, List.set_cons_zero, List.set_cons_succ])
                (refine still_yes ?v69 (by kernel_rfl) ?y69 ?z69; case y69 => (go_simp; (try (rw [if_neg (by omega)])); (try with_reducible rfl)))
                (try simp only [Act.put, List.setIfInBounds_toArray, List.set_cons_zero, List.set_cons_succ])
                refine still_yes _ (by kernel_rfl) (exec_load_mid hcp rfl rfl Try.underlying25 rfl (by kernel_rfl)) ?_
                (try simp only [Act.put, List.setIfInBounds_toArray, List.set_cons_zero, List.set_cons_succ])
                refine still_yes _ (by kernel_rfl) (exec_load_mid hcg rfl rfl Try.underlying25 rfl (by kernel_rfl)) ?_
                (try simp only [Act.put, List.setIfInBounds_toArray, List.set_cons_zero, List.set_cons_succ])
                refine wpStill_nil ?_
                refine wpList_val (.bool true) (by kernel_rfl) (exec_eql_val (r := true) rfl rfl rfl (by kernel_rfl) (fun w => by rw [eqPair p got w, HD.out])) ?_
                (try simp only [Act.put, List.setIfInBounds_toArray, List.set_cons_zero, List.set_cons_succ])
                go_wp2_with fail
                exact ⟨⟨j + 1, by omega, by go_num, by rw [HL1.out], hW8.drew⟩, by simp [intOf]; omega⟩
              · have hl1 : lastAt ps got (j + 1) = lastAt ps got j := by simp only [lastAt, hgd, if_neg hq]
                have hd : decide (p = got) = false := by simp [hq]
                have HL1 := Lib.hid hl1
                have HD := Lib.hid hd
                clear hl1 hq hgd hp hd
                go_wp2_with fail
                refine wp_region_still_tail 5 (by kernel_rfl) (by kernel_rfl) ?_
                simp only [List.take_succ_cons, List.take_zero, List.drop_succ_cons, List.drop_zero]
                refine (fun (Hst : wpStill _ _ (World.drew _) (fun a' => wpList _ _ _ _ a' (World.drew _)) _ _) => Hst) ?_
                (refine still_yes ?v70 (by kernel_rfl) ?y70 ?z70; case y70 => (go_simp; (try (rw [if_neg (by omega)])); (try with_reducible rfl)))
                (try simp only [Act.put, List.setIfInBounds_toArray, List.set_cons_zero, List.set_cons_succ])
                (refine still_yes ?v71 (by kernel_rfl) ?y71 ?z71; case y71 => (go_simp; (try (rw [if_neg (by omega)])); (try with_reducible rfl)))
                (try simp only [Act.put, List.setIfInBounds_toArray, List.set_cons_zero, List.set_cons_succ])
                (refine still_yes ?v72 (by kernel_rfl) ?y72 ?z72; case y72 => (go_simp; (try (rw [if_neg (by omega)])); (try with_reducible rfl)))
                (try simp only [Act.put, List.setIfInBounds_toArray, List.set_cons_zero, List.set_cons_succ])
                refine still_yes _ (by kernel_rfl) (exec_load_mid hcp rfl rfl Try.underlying25 rfl (by kernel_rfl)) ?_
                (try simp only [Act.put, List.setIfInBounds_toArray, List.set_cons_zero, List.set_cons_succ])
                refine still_yes _ (by kernel_rfl) (exec_load_mid hcg rfl rfl Try.underlying25 rfl (by kernel_rfl)) ?_
                (try simp only [Act.put, List.setIfInBounds_toArray, List.set_cons_zero, List.set_cons_succ])
                refine wpStill_nil ?_
                refine wpList_val (.bool false) (by kernel_rfl) (exec_eql_val (r := false) rfl rfl rfl (by kernel_rfl) (fun w => by rw [eqPair p got w, HD.out])) ?_
                (try simp only [Act.put, List.setIfInBounds_toArray, List.set_cons_zero, List.set_cons_succ])
                go_wp2_with fail
                exact ⟨⟨j + 1, by omega, by go_num, by rw [HL1.out], hW8.drew⟩, by simp [intOf]; omega⟩
            · have hje : j = ps.length := by omega
              subst hje
              clear hlt2 hj
              go_wp2_with fail
              go_loopw [13] (fun iv wr => ∃ j : Nat, j ≤ ps.length ∧ iv = .int .i64 j ∧ Below w7.heap.size w7 wr) (fun iv _ => ps.length - (intOf iv).toNat)
              case atStart => exact ⟨0, by omega, rfl, hW8⟩
              case round =>
                clear hW8
                obtain ⟨j, hj, rfl, hW8⟩ := hrel
                by_cases hlt2 : j < ps.length
                · skip
                  obtain ⟨p, hp⟩ : ∃ p, ps[j]? = some p := ⟨_, List.getElem?_eq_getElem hlt2⟩
                  obtain ⟨_, ao, cp, hva, hra⟩ := (HR7.out.below hW8).reads (by omega)
                  injection hva with h1 h2 h3
                  subst h1
                  obtain ⟨gg, rfl, hcp⟩ := hra j p hp
                  have hgd : ps.getD j default = p := by rw [List.getD_eq_getElem?_getD, hp]; rfl
                  clear h2 h3 hra hp
                  have e0 := hcp 0 _ rfl
                  have e1 := hcp 1 _ rfl
                  simp only [Nat.add_zero] at e0
                  go_wp2_with fail
                  refine (np1_any s0 (s0 + 1) on kind a b a p _ (rowAt_below HX7.out hW8) (rowAt_below HL7.out hW8)).mono ?_
                  rintro e w9 ⟨rfl, hb9⟩
                  have hW9 := hW8.trans (hb9.mono hW8.size)
                  replace hcp := rangeAt_below' hcp hb9
                  clear e0 e1 hb9 hW8
                  cases hask : askN kind a p
                  · clear hgd hask hcp
                    go_wp2_with fail
                    exact ⟨⟨j + 1, by omega, by go_num, hW9⟩, by simp [intOf]; omega⟩
                  · obtain ⟨hok, hn1, hn2⟩ := HQ.out.never hM hlt2 (by rw [hgd]; exact hask)
                    rw [hgd] at hn1 hn2
                    subst hok
                    have d1 : decide (p.1 < got.1) = false := by simpa using hn1
                    have e0 := hcp 0 _ rfl
                    have e1 := hcp 1 _ rfl
                    have hcg := pair_rangeAt (rowAt_below HG7.out hW9)
                    have e2 := hcg 0 _ rfl
                    have e3 := hcg 1 _ rfl
                    simp only [Nat.add_zero, Nat.zero_add] at e0 e2 e3
                    clear hgd hask hcp hcg hn1
                    by_cases heq : p.1 = got.1
                    · have d2 : (p.1 == got.1) = true := by simpa using heq
                      have d3 : decide (p.2 < got.2) = false := by simpa using hn2 heq
                      clear hn2 heq
                      go_wp2_with fail
                      refine wp_region_still_tail 31 (by kernel_rfl) (by kernel_rfl) ?_
                      simp only [List.take_succ_cons, List.take_zero, List.drop_succ_cons, List.drop_zero]
                      refine (fun (Hst : wpStill _ _ (World.drew _) (fun a' => wpList _ _ _ _ a' (World.drew _)) _ _) => Hst) ?_
                      (refine still_yes ?v73 (by kernel_rfl) ?y73 ?z73; case y73 => (go_simp; (try (rw [if_neg (by omega)])); (try with_reducible rfl)))
                      (try simp only [Act.put, List.setIfInBounds_toArray, List.set_cons_zero, List.set_cons_succ])
                      (refine still_yes ?v74 (by kernel_rfl) ?y74 ?z74; case y74 => (go_simp; (try (rw [if_neg (by omega)])); (try with_reducible rfl)))
                      (try simp only [Act.put, List.setIfInBounds_toArray, List.set_cons_zero, List.set_cons_succ])
                      (refine still_yes ?v75 (by kernel_rfl) ?y75 ?z75; case y75 => (go_simp; (try (rw [if_neg (by omega)])); (try with_reducible rfl)))
                      (try simp only [Act.put, List.setIfInBounds_toArray, List.set_cons_zero, List.set_cons_succ])
                      (refine still_yes ?v76 (by kernel_rfl) ?y76 ?z76; case y76 => (go_simp; (try (rw [if_neg (by omega)])); (try with_reducible rfl)))
                      (try simp only [Act.put, List.setIfInBounds_toArray, List.set_cons_zero, List.set_cons_succ])
                      (refine still_yes ?v77 (by kernel_rfl) ?y77 ?z77; case y77 => (go_simp; (try (rw [if_neg (by omega)])); (try with_reducible rfl)))
                      (try simp only [Act.put, List.setIfInBounds_toArray, List.set_cons_zero, List.set_cons_succ])
                      (refine still_yes ?v78 (by kernel_rfl) ?y78 ?z78; case y78 => (go_simp; (try (rw [if_neg (by omega)])); (try with_reducible rfl)))
                      (try simp only [Act.put, List.setIfInBounds_toArray, List.set_cons_zero, List.set_cons_succ])
                      (refine still_yes ?v79 (by kernel_rfl) ?y79 ?z79; case y79 => (go_simp; (try (rw [if_neg (by omega)])); (try with_reducible rfl)))
                      (try simp only [Act.put, List.setIfInBounds_toArray, List.set_cons_zero, List.set_cons_succ])
                      (refine still_yes ?v80 (by kernel_rfl) ?y80 ?z80; case y80 => (go_simp; (try (rw [if_neg (by omega)])); (try with_reducible rfl)))
                      (try simp only [Act.put, List.setIfInBounds_toArray, List.set_cons_zero, List.set_cons_succ])
                      (refine still_yes ?v81 (by kernel_rfl) ?y81 ?z81; case y81 => (go_simp; (try (rw [if_neg (by omega)])); (try with_reducible rfl)))
                      (try simp only [Act.put, List.setIfInBounds_toArray, List.set_cons_zero, List.set_cons_succ])
                      (refine still_yes ?v82 (by kernel_rfl) ?y82 ?z82; case y82 => (go_simp; (try (rw [if_neg (by omega)])); (try with_reducible rfl)))
                      (try simp only [Act.put, List.setIfInBounds_toArray, List.set_cons_zero, List.set_cons_succ])
                      (refine still_yes ?v83 (by kernel_rfl) ?y83 ?z83; case y83 => (go_simp; (try (rw [if_neg (by omega)])); (try with_reducible rfl)))
                      (try simp only [Act.put, List.setIfInBounds_toArray, List.set_cons_zero, List.set_cons_succ])
                      (refine still_yes ?v84 (by kernel_rfl) ?y84 ?z84; case y84 => (go_simp; (try (rw [if_neg (by omega)])); (try with_reducible rfl)))
                      (try simp only [Act.put, List.setIfInBounds_toArray, List.set_cons_zero, List.set_cons_succ])
                      (refine still_yes ?v85 (by kernel_rfl) ?y85 ?z85; case y85 => (go_simp; (try (rw [if_neg (by omega)])); (try with_reducible rfl)))
                      (try simp only [Act.put, List.setIfInBounds_toArray, List.set_cons_zero, List.set_cons_succ])
                      (refine still_yes ?v86 (by kernel_rfl) ?y86 ?z86; case y86 => (go_simp; (try (rw [if_neg (by omega)])); (try with_reducible rfl)))
                      (try simp only [Act.put, List.setIfInBounds_toArray, List.set_cons_zero, List.set_cons_succ])
                      (refine still_yes ?v87 (by kernel_rfl) ?y87 ?z87; case y87 => (go_simp; (try (rw [if_neg (by omega)])); (try with_reducible rfl)))
                      (try simp only [Act.put, List.setIfInBounds_toArray, List.set_cons_zero, List.set_cons_succ])
                      (refine still_yes ?v88 (by kernel_rfl) ?y88 ?z88; case y88 => (go_simp; (try (rw [if_neg (by omega)])); (try with_reducible rfl)))
                      (try simp only [Act.put, List.setIfInBounds_toArray, List.set_cons_zero, List.set_cons_succ])
                      (refine still_yes ?v89 (by kernel_rfl) ?y89 ?z89; case y89 => (go_simp; (try (rw [if_neg (by omega)])); (try with_reducible rfl)))
                      (try simp only [Act.put, List.setIfInBounds_toArray, List.set_cons_zero, List.set_cons_succ])
                      (refine still_yes ?v90 (by kernel_rfl) ?y90 ?z90; case y90 => (go_simp; (try (rw [if_neg (by omega)])); (try with_reducible rfl)))
                      (try simp only [Act.put, List.setIfInBounds_toArray, List.set_cons_zero, List.set_cons_succ])
                      (refine still_yes ?v91 (by kernel_rfl) ?y91 ?z91; case y91 => (go_simp; (try (rw [if_neg (by omega)])); (try with_reducible rfl)))
                      (try simp only [Act.put, List.setIfInBounds_toArray, List.set_cons_zero, List.set_cons_succ])
                      (refine still_yes ?v92 (by kernel_rfl) ?y92 ?z92; case y92 => (go_simp; (try (rw [if_neg (by omega)])); (try with_reducible rfl)))
                      (try simp only [Act.put, List.setIfInBounds_toArray, List.set_cons_zero, List.set_cons_succ])
                      (refine still_yes ?v93 (by kernel_rfl) ?y93 ?z93; case y93 => (go_simp; (try (rw [if_neg (by omega)])); (try with_reducible rfl)))
                      (try simp only [Act.put, List.setIfInBounds_toArray, List.set_cons_zero, List.set_cons_succ])
                      (refine still_yes ?v94 (by kernel_rfl) ?y94 ?z94; case y94 => (go_simp; (try (rw [if_neg (by omega)])); (try with_reducible rfl)))
                      (try simp only [Act.put, List.setIfInBounds_toArray, List.set_cons_zero, List.set_cons_succ])
                      (refine still_yes ?v95 (by kernel_rfl) ?y95 ?z95; case y95 => (go_simp; (try (rw [if_neg (by omega)])); (try with_reducible rfl)))
                      (try simp only [Act.put, List.setIfInBounds_toArray, List.set_cons_zero, List.set_cons_succ])
                      (refine still_yes ?v96 (by kernel_rfl) ?y96 ?z96; case y96 => (go_simp; (try (rw [if_neg (by omega)])); (try with_reducible rfl)))
                      (try simp only [Act.put, List.setIfInBounds_toArray, List.set_cons_zero, List.set_cons_succ])
                      (refine still_yes ?v97 (by kernel_rfl) ?y97 ?z97; case y97 => (go_simp; (try (rw [if_neg (by omega)])); (try with_reducible rfl)))
                      (try simp only [Act.put, List.setIfInBounds_toArray, List.set_cons_zero, List.set_cons_succ])
                      (refine still_yes ?v98 (by kernel_rfl) ?y98 ?z98; case y98 => (go_simp; (try (rw [if_neg (by omega)])); (try with_reducible rfl)))
                      (try simp only [Act.put, List.setIfInBounds_toArray, List.set_cons_zero, List.set_cons_succ])
                      (refine still_yes ?v99 (by kernel_rfl) ?y99 ?z99; case y99 => (go_simp; (try (rw [if_neg (by omega)])); (try with_reducible rfl)))
                      (try simp only [Act.put, List.setIfInBounds_toArray, List.set_cons_zero, List.set_cons_succ])
                      (refine still_yes ?v100 (by kernel_rfl) ?y100 ?z100; case y100 => (go_simp; (try (rw [if_neg (by omega)])); (try with_reducible rfl)))
                      (try simp only [Act.put, List.setIfInBounds_toArray, List.set_cons_zero, List.set_cons_succ])
                      (refine still_yes ?v101 (by kernel_rfl) ?y101 ?z101; case y101 => (go_simp; (try (rw [if_neg (by omega)])); (try with_reducible rfl)))
                      (try simp only [Act.put, List.setIfInBounds_toArray, List.set_cons_zero, List.set_cons_succ])
                      (refine still_yes ?v102 (by kernel_rfl) ?y102 ?z102; case y102 => (go_simp; (try (rw [if_neg (by omega)])); (try with_reducible rfl)))
                      (try simp only [Act.put, List.setIfInBounds_toArray, List.set_cons_zero, List.set_cons_succ])
                      (refine still_yes ?v103 (by kernel_rfl) ?y103 ?z103; case y103 => (go_simp; (try (rw [if_neg (by omega)])); (try with_reducible rfl)))
                      (try simp only [Act.put, List.setIfInBounds_toArray, List.set_cons_zero, List.set_cons_succ])
                      refine wpStill_nil ?_
                      go_wp2_with fail
                      exact ⟨⟨j + 1, by omega, by go_num, hW9.drew⟩, by simp [intOf]; omega⟩
                    · have d2 : (p.1 == got.1) = false := by simpa using heq
                      clear hn2 heq
                      go_wp2_with fail
                      refine wp_region_still_tail 31 (by kernel_rfl) (by kernel_rfl) ?_
                      simp only [List.take_succ_cons, List.take_zero, List.drop_succ_cons, List.drop_zero]
                      refine (fun (Hst : wpStill _ _ (World.drew _) (fun a' => wpList _ _ _ _ a' (World.drew _)) _ _) => Hst) ?_
                      (refine still_yes ?v104 (by kernel_rfl) ?y104 ?z104; case y104 => (go_simp; (try (rw [if_neg (by omega)])); (try with_reducible rfl)))
                      (try simp only [Act.put, List.setIfInBounds_toArray, List.set_cons_zero, List.set_cons_succ])
                      (refine still_yes ?v105 (by kernel_rfl) ?y105 ?z105; case y105 => (go_simp; (try (rw [if_neg (by omega)])); (try with_reducible rfl)))
                      (try simp only [Act.put, List.setIfInBounds_toArray, List.set_cons_zero, List.set_cons_succ])
                      (refine still_yes ?v106 (by kernel_rfl) ?y106 ?z106; case y106 => (go_simp; (try (rw [if_neg (by omega)])); (try with_reducible rfl)))
                      (try simp only [Act.put, List.setIfInBounds_toArray, List.set_cons_zero, List.set_cons_succ])
                      (refine still_yes ?v107 (by kernel_rfl) ?y107 ?z107; case y107 => (go_simp; (try (rw [if_neg (by omega)])); (try with_reducible rfl)))
                      (try simp only [Act.put, List.setIfInBounds_toArray, List.set_cons_zero, List.set_cons_succ])
                      (refine still_yes ?v108 (by kernel_rfl) ?y108 ?z108; case y108 => (go_simp; (try (rw [if_neg (by omega)])); (try with_reducible rfl)))
                      (try simp only [Act.put, List.setIfInBounds_toArray, List.set_cons_zero, List.set_cons_succ])
                      (refine still_yes ?v109 (by kernel_rfl) ?y109 ?z109; case y109 => (go_simp; (try (rw [if_neg (by omega)])); (try with_reducible rfl)))
                      (try simp only [Act.put, List.setIfInBounds_toArray, List.set_cons_zero, List.set_cons_succ])
                      (refine still_yes ?v110 (by kernel_rfl) ?y110 ?z110; case y110 => (go_simp; (try (rw [if_neg (by omega)])); (try with_reducible rfl)))
                      (try simp only [Act.put, List.setIfInBounds_toArray, List.set_cons_zero, List.set_cons_succ])
                      (refine still_yes ?v111 (by kernel_rfl) ?y111 ?z111; case y111 => (go_simp; (try (rw [if_neg (by omega)])); (try with_reducible rfl)))
                      (try simp only [Act.put, List.setIfInBounds_toArray, List.set_cons_zero, List.set_cons_succ])
                      (refine still_yes ?v112 (by kernel_rfl) ?y112 ?z112; case y112 => (go_simp; (try (rw [if_neg (by omega)])); (try with_reducible rfl)))
                      (try simp only [Act.put, List.setIfInBounds_toArray, List.set_cons_zero, List.set_cons_succ])
                      (refine still_yes ?v113 (by kernel_rfl) ?y113 ?z113; case y113 => (go_simp; (try (rw [if_neg (by omega)])); (try with_reducible rfl)))
                      (try simp only [Act.put, List.setIfInBounds_toArray, List.set_cons_zero, List.set_cons_succ])
                      (refine still_yes ?v114 (by kernel_rfl) ?y114 ?z114; case y114 => (go_simp; (try (rw [if_neg (by omega)])); (try with_reducible rfl)))
                      (try simp only [Act.put, List.setIfInBounds_toArray, List.set_cons_zero, List.set_cons_succ])
                      (refine still_yes ?v115 (by kernel_rfl) ?y115 ?z115; case y115 => (go_simp; (try (rw [if_neg (by omega)])); (try with_reducible rfl)))
                      (try simp only [Act.put, List.setIfInBounds_toArray, List.set_cons_zero, List.set_cons_succ])
                      (refine still_yes ?v116 (by kernel_rfl) ?y116 ?z116; case y116 => (go_simp; (try (rw [if_neg (by omega)])); (try with_reducible rfl)))
                      (try simp only [Act.put, List.setIfInBounds_toArray, List.set_cons_zero, List.set_cons_succ])
                      (refine still_yes ?v117 (by kernel_rfl) ?y117 ?z117; case y117 => (go_simp; (try (rw [if_neg (by omega)])); (try with_reducible rfl)))
                      (try simp only [Act.put, List.setIfInBounds_toArray, List.set_cons_zero, List.set_cons_succ])
                      (refine still_yes ?v118 (by kernel_rfl) ?y118 ?z118; case y118 => (go_simp; (try (rw [if_neg (by omega)])); (try with_reducible rfl)))
                      (try simp only [Act.put, List.setIfInBounds_toArray, List.set_cons_zero, List.set_cons_succ])
                      (refine still_yes ?v119 (by kernel_rfl) ?y119 ?z119; case y119 => (go_simp; (try (rw [if_neg (by omega)])); (try with_reducible rfl)))
                      (try simp only [Act.put, List.setIfInBounds_toArray, List.set_cons_zero, List.set_cons_succ])
                      (refine still_yes ?v120 (by kernel_rfl) ?y120 ?z120; case y120 => (go_simp; (try (rw [if_neg (by omega)])); (try with_reducible rfl)))
                      (try simp only [Act.put, List.setIfInBounds_toArray, List.set_cons_zero, List.set_cons_succ])
                      (refine still_yes ?v121 (by kernel_rfl) ?y121 ?z121; case y121 => (go_simp; (try (rw [if_neg (by omega)])); (try with_reducible rfl)))
                      (try simp only [Act.put, List.setIfInBounds_toArray, List.set_cons_zero, List.set_cons_succ])
                      (refine still_yes ?v122 (by kernel_rfl) ?y122 ?z122; case y122 => (go_simp; (try (rw [if_neg (by omega)])); (try with_reducible rfl)))
                      (try simp only [Act.put, List.setIfInBounds_toArray, List.set_cons_zero, List.set_cons_succ])
                      (refine still_yes ?v123 (by kernel_rfl) ?y123 ?z123; case y123 => (go_simp; (try (rw [if_neg (by omega)])); (try with_reducible rfl)))
                      (try simp only [Act.put, List.setIfInBounds_toArray, List.set_cons_zero, List.set_cons_succ])
                      (refine still_yes ?v124 (by kernel_rfl) ?y124 ?z124; case y124 => (go_simp; (try (rw [if_neg (by omega)])); (try with_reducible rfl)))
                      (try simp only [Act.put, List.setIfInBounds_toArray, List.set_cons_zero, List.set_cons_succ])
                      (refine still_yes ?v125 (by kernel_rfl) ?y125 ?z125; case y125 => (go_simp; (try (rw [if_neg (by omega)])); (try with_reducible rfl)))
                      (try simp only [Act.put, List.setIfInBounds_toArray, List.set_cons_zero, List.set_cons_succ])
                      refine still_no (by kernel_rfl) ?_
                      (try simp only [Act.put, List.setIfInBounds_toArray, List.set_cons_zero, List.set_cons_succ])
                      refine still_no (by kernel_rfl) ?_
                      (try simp only [Act.put, List.setIfInBounds_toArray, List.set_cons_zero, List.set_cons_succ])
                      refine still_no (by kernel_rfl) ?_
                      (try simp only [Act.put, List.setIfInBounds_toArray, List.set_cons_zero, List.set_cons_succ])
                      refine still_no (by kernel_rfl) ?_
                      (try simp only [Act.put, List.setIfInBounds_toArray, List.set_cons_zero, List.set_cons_succ])
                      refine still_no (by kernel_rfl) ?_
                      (try simp only [Act.put, List.setIfInBounds_toArray, List.set_cons_zero, List.set_cons_succ])
                      refine still_no (by kernel_rfl) ?_
                      (try simp only [Act.put, List.setIfInBounds_toArray, List.set_cons_zero, List.set_cons_succ])
                      refine still_no (by kernel_rfl) ?_
                      (try simp only [Act.put, List.setIfInBounds_toArray, List.set_cons_zero, List.set_cons_succ])
                      refine still_no (by kernel_rfl) ?_
                      (try simp only [Act.put, List.setIfInBounds_toArray, List.set_cons_zero, List.set_cons_succ])
                      (refine still_yes ?v126 (by kernel_rfl) ?y126 ?z126; case y126 => (go_simp; (try (rw [if_neg (by omega)])); (try with_reducible rfl)))
                      (try simp only [Act.put, List.setIfInBounds_toArray, List.set_cons_zero, List.set_cons_succ])
                      refine wpStill_nil ?_
                      go_wp2_with fail
                      exact ⟨⟨j + 1, by omega, by go_num, hW9.drew⟩, by simp [intOf]; omega⟩
                · have hje : j = ps.length := by omega
                  subst hje
                  clear hlt2 hj
                  cases ok
                  · skip
                    obtain ⟨rfl, rfl⟩ := HQ.out.none_is
                    have q0 : ∀ w, (Op.equalIn 10000 25 (.agg #[.int .i64 0, .int .i64 0]) (.agg #[.int .i64 0, .int .i64 0])).run Try.prog w = .ok true w := fun w => eqPair (0, 0) (0, 0) w
                    have hcg := pair_rangeAt (rowAt_below HG7.out hW8)
                    have e2 := hcg 0 _ rfl
                    have e3 := hcg 1 _ rfl
                    simp only [Nat.add_zero, Nat.zero_add] at e2 e3
                    clear hcg
                    go_wp2_with fail
                    exact ⟨⟨k + 1, n, ps', r, by omega, by omega, by go_num, hM.up (by omega), HR7.out.below hW8, hA7.below hW8, hrB, hb7.trans (hW8.mono (by have := hb7.size; omega))⟩, by simp [intOf]; omega⟩
                  · skip
                    obtain ⟨bi, hbi, hgot, hpg, rfl⟩ := HQ.out.some_is
                    have hat : lastAt ps got ps.length = bi := by rw [hgot, lastAt_is hM hbi _ (Nat.le_refl _), if_pos hbi]
                    rw [hat]
                    have hcg := pair_rangeAt (rowAt_below HG7.out hW8)
                    have e2 := hcg 0 _ rfl
                    have e3 := hcg 1 _ rfl
                    simp only [Nat.add_zero, Nat.zero_add] at e2 e3
                    clear hcg hat hgot
                    go_wp2_with fail
                    refine (np1_any s0 (s0 + 1) on kind a b a got _ (rowAt_below HX7.out hW8) (rowAt_below HL7.out hW8)).mono ?_
                    rintro e w9 ⟨rfl, hb9⟩
                    have hW9 := hW8.trans (hb9.mono hW8.size)
                    rw [hpg]
                    clear e2 e3 hb9 hW8 hpg
                    have hA9 := hA7.below hW9
                    have hR9 := HR7.out.below hW9
                    have hB9 := hb7.trans (hW9.mono (by have := hb7.size; omega))
                    clear hW9 HQ HR7 hA7 hb7 HX7 HL7 HG7
                    have hsz9 : B ≤ w9.heap.size := by have := hB9.size; omega
                    obtain ⟨gg, cp, hva, hcp1, hcp2, v10, w10, hrun, hR10, hg10⟩ := RowT.cut (w := w9.drew) (hR9.congr (fun k cs hk _ => rfl)) hsz9 bi hbi (by omega)
                    injection hva with h1 h2 h3
                    subst h1
                    subst h3
                    clear h2
                    go_wp2_with fail
                    refine wp_region_still_tail 8 (by kernel_rfl) (by kernel_rfl) ?_
                    simp only [List.take_succ_cons, List.take_zero, List.drop_succ_cons, List.drop_zero]
                    refine (fun (Hst : wpStill _ _ (World.drew _) (fun a' => wpList _ _ _ _ a' (World.drew _)) _ _) => Hst) ?_
                    (refine still_yes ?v127 (by kernel_rfl) ?y127 ?z127; case y127 => (go_simp; (try (rw [if_neg (by omega)])); (try with_reducible rfl)))
                    (try simp only [Act.put, List.setIfInBounds_toArray, List.set_cons_zero, List.set_cons_succ])
                    (refine still_yes ?v128 (by kernel_rfl) ?y128 ?z128; case y128 => (go_simp; (try (rw [if_neg (by omega)])); (try with_reducible rfl)))
                    (try simp only [Act.put, List.setIfInBounds_toArray, List.set_cons_zero, List.set_cons_succ])
                    (refine still_yes ?v129 (by kernel_rfl) ?y129 ?z129; case y129 => (go_simp; (try (rw [if_neg (by omega)])); (try with_reducible rfl)))
                    (try simp only [Act.put, List.setIfInBounds_toArray, List.set_cons_zero, List.set_cons_succ])
                    refine still_yes _ (by kernel_rfl) (exec_slice_hm (k := bi) rfl rfl rfl rfl (by omega)) ?_
                    (try simp only [Act.put, List.setIfInBounds_toArray, List.set_cons_zero, List.set_cons_succ])
                    (refine still_yes ?v130 (by kernel_rfl) ?y130 ?z130; case y130 => (go_simp; (try (rw [if_neg (by omega)])); (try with_reducible rfl)))
                    (try simp only [Act.put, List.setIfInBounds_toArray, List.set_cons_zero, List.set_cons_succ])
                    (refine still_yes ?v131 (by kernel_rfl) ?y131 ?z131; case y131 => (go_simp; (try (rw [if_neg (by omega)])); (try with_reducible rfl)))
                    (try simp only [Act.put, List.setIfInBounds_toArray, List.set_cons_zero, List.set_cons_succ])
                    (refine still_yes ?v132 (by kernel_rfl) ?y132 ?z132; case y132 => (go_simp; (try (rw [if_neg (by omega)])); (try with_reducible rfl)))
                    (try simp only [Act.put, List.setIfInBounds_toArray, List.set_cons_zero, List.set_cons_succ])
                    refine still_yes _ (by kernel_rfl) (exec_slice_l (k := bi + 1) rfl rfl rfl (by rw [IntWalk.i64_in _ (by omega)]; rfl) (by omega)) ?_
                    (try simp only [Act.put, List.setIfInBounds_toArray, List.set_cons_zero, List.set_cons_succ])
                    refine wpStill_nil ?_
                    refine wpList_val v10 (by kernel_rfl) (exec_append2 rfl rfl rfl rfl hrun) ?_
                    (try simp only [Act.put, List.setIfInBounds_toArray, List.set_cons_zero, List.set_cons_succ])
                    clear hrun
                    have hA10 := (HeapP.kept (w' := w9.drew) hA9 (fun k hk => rfl)).grown hg10 (fun g hg => by cases hg)
                    have hB10 := hB9.drew.trans (grown_below hg10 hsz9 (fun k hk => by cases hk))
                    have hle := List.length_eraseIdx_of_lt hbi
                    clear hg10 hB9 hA9 hR9 hcp1 hcp2
                    obtain ⟨a10, c10, rfl⟩ := hR10.slice
                    go_wp2_with fail
                    refine (lenP (B + 1) B n false _ r _ hA10 (by omega)).mono ?_
                    rintro e w11 ⟨rfl, rfl⟩
                    go_wp2_with fail
                    rw [← hle]
                    exact ⟨⟨k + 1, n, _, r, by omega, by omega, by go_num, (hM.erase hbi).up (by omega), hR10, hA10, hrB, hB10⟩, by simp [intOf]; omega⟩
    · obtain ⟨ra, rc, rfl⟩ := hT.slice
      go_wp2_with fail
      refine (lenP (B + 1) B n false ps r _ hA (by omega)).mono ?_
      rintro e w3 ⟨rfl, rfl⟩
      go_wp2_with fail
      go_ret
      exact ⟨rfl, by rw [hB]; exact hW⟩
end Go.Proofs.Ytffioombjejchaa
