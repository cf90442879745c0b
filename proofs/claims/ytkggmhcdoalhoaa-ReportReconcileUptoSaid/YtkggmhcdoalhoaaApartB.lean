/- ApartBreaks by contract. -/
import Derived.Test.YtkggmhcdoalhoaaBrk
import Derived.Test.YtkggmhcdoalhoaaFamE
import Derived.Test.YtkggmhcdoalhoaaRegK
namespace Go.Proofs.Ytkggmhcdoalhoaa
set_option linter.unusedVariables false
set_option linter.unusedSimpArgs false
open Go.RowKit
attribute [local irreducible] Go.wpStill

def mkB (k i : Int) : breakT := (-10 - k, i, 0, 0)
def brkV (x : breakT) : Value := .agg #[.int .i64 x.1, .int .i64 x.2.1, .int .i64 x.2.2.1, .int .i64 x.2.2.2]
set_option maxRecDepth 100000 in
theorem mark_any (k i : Nat) (w : World) (hk : k ≤ 140737488351232) :
    Calls Try.prog 19 #[.int .i64 k, .int .i64 i] w fun e w' => e = .returned (brkV (mkB k i)) ∧ Below w.heap.size w w' := by
  go_enter Try.func19, Try.ntmps19
  go_wp2_with fail
  exact bodyPost_ret (v := .agg #[.int .i64 (-10 - (k : Int)), .int .i64 i, .int .i64 0, .int .i64 0]) (results_cell_row rfl _ _ w.heap.size 36 _ (0, 0) _ rfl (heap_alloc_new w _) Try.underlying36 rfl (by kernel_rfl)) rfl ⟨rfl, (Below.refl _ _).alloc (Nat.le_refl _) _⟩
theorem there_brk {w : World} {g i : Nat} (h : w.there g (i * breakE.k) breakE.k) : ((∃ u, w.cell? ⟨g, i * 4, none⟩ = some u) ∧ (∃ u, w.cell? ⟨g, i * 4 + 1, none⟩ = some u) ∧ (∃ u, w.cell? ⟨g, i * 4 + 2, none⟩ = some u) ∧ (∃ u, w.cell? ⟨g, i * 4 + 3, none⟩ = some u)) ∧ w.frozen? ⟨g, i * 4, none⟩ = false ∧ w.frozen? ⟨g, i * 4 + 1, none⟩ = false ∧ w.frozen? ⟨g, i * 4 + 2, none⟩ = false ∧ w.frozen? ⟨g, i * 4 + 3, none⟩ = false :=
  ⟨⟨⟨_, Option.eq_some_of_isSome (h 0 (by decide)).1⟩, ⟨_, Option.eq_some_of_isSome (h 1 (by decide)).1⟩, ⟨_, Option.eq_some_of_isSome (h 2 (by decide)).1⟩, ⟨_, Option.eq_some_of_isSome (h 3 (by decide)).1⟩⟩, (h 0 (by decide)).2, (h 1 (by decide)).2, (h 2 (by decide)).2, (h 3 (by decide)).2⟩
theorem set_brk (w : World) (g i : Nat) (x : breakT) : w.setCells g (i * breakE.k) (breakE.enc x) = (((w.setCell ⟨g, i * 4, none⟩ (.int .i64 x.1)).setCell ⟨g, i * 4 + 1, none⟩ (.int .i64 x.2.1)).setCell ⟨g, i * 4 + 2, none⟩ (.int .i64 x.2.2.1)).setCell ⟨g, i * 4 + 3, none⟩ (.int .i64 x.2.2.2) := rfl
theorem brk_rangeAt {w : World} {b : Nat} {x : breakT} {t : TypeId} {fr : Nat × Nat} (h : w.heap[b]? = some (.cells #[.int .i64 x.1, .int .i64 x.2.1, .int .i64 x.2.2.1, .int .i64 x.2.2.2] t fr)) : w.rangeAt b 0 (breakE.enc x) := fun j v hj => by
  rw [Nat.zero_add, cell_of_row _ _ _ _ _ _ h]
  simpa using hj
theorem own_congr {w w' : World} {base : Nat} {e : TypeId} {size : Nat} {v : Value} {n : Nat} {xs : List Value} (h : w.ownsRow base e size v n xs) (hk : ∀ k, v.ownBlock = some k → w'.heap[k]? = w.heap[k]?) : w'.ownsRow base e size v n xs := by
  refine ⟨h.1, ?_⟩
  rcases h.2 with h1 | ⟨g, cap, cur, rfl, hb, hh, hr⟩
  · exact .inl h1
  · exact .inr ⟨g, cap, cur, rfl, hb, (hk g rfl).trans hh, hr⟩
theorem own_type {w : World} {B : Nat} {e : TypeId} {size : Nat} {v : Value} {n : Nat} {xs : List Value} (h : w.ownsRow B e size v n xs) {g : Nat} (hg : v.ownBlock = some g) : ∃ cs, w.heap[g]? = some (.cells cs e (0, 0)) := by
  rcases h.2 with ⟨rfl, _⟩ | ⟨g', cap, cur, rfl, _, hh, _⟩
  · cases hg
  · injection hg with hg
    exact ⟨cur, hg ▸ hh⟩
theorem rangeAt_below' {w w' : World} {b o : Nat} {v : Value} {l : List Value} (h : w.rangeAt b o (v :: l)) (hb : Below w.heap.size w w') : w'.rangeAt b o (v :: l) := fun j u hu => (hb.cell (p := ⟨b, o + j, none⟩) (World.block_lt_of_cell? w ⟨b, o + 0, none⟩ (h 0 v rfl))).trans (h j u hu)
theorem pushB {w : World} {B : Nat} {v : Value} {xs : List breakT} (a : RowE breakE 36 w B v xs) (hB : B ≤ w.heap.size) (x : breakT) (b : Nat) (hx : w.heap[b]? = some (.cells #[.int .i64 x.1, .int .i64 x.2.1, .int .i64 x.2.2.1, .int .i64 x.2.2.2] 36 (0, 0))) (hl : (xs.length + 1) * 32 ≤ 140737488355328) :
    ∃ v' w', (Builtin.append_ #[23, 23] 23 #[v, .slice (some ⟨b, 0, none⟩) 1 1]).run Try.prog w = .ok v' w' ∧ RowE breakE 36 w' B v' (xs ++ [x]) ∧ w.grownBy w' v.ownBlock ∧ (v'.ownBlock = v.ownBlock ∨ ∀ q, v'.ownBlock = some q → w.heap.size ≤ q) ∧
      (∀ b j, b < w.heap.size → (some b ≠ v.ownBlock ∨ j < xs.length * breakE.k) → w'.cell? ⟨b, j, none⟩ = w.cell? ⟨b, j, none⟩) :=
  a.push breakTy hB x b 1 _ rfl hx hl (by omega)
theorem infoL : ∃ i, Try.prog.info? 23 = some i ∧ i.zero = some (.slice none 0 0) ∧ i.size = 1 ∧ i.bytes = 24 := by
  have : (Try.prog.info? 23).map (fun i => (i.zero, i.size, i.bytes)) = some (some (.slice none 0 0), 1, 24) := by kernel_rfl
  obtain ⟨i, h1, h2⟩ := Option.map_eq_some_iff.1 this
  simp at h2
  exact ⟨i, h1, h2.1, h2.2.1, h2.2.2⟩
def ApartP (w : World) (S : Nat → Prop) (e : Ending) (w' : World) : Prop := e = .returned (.bool true) ∧ Wrote w w' S
set_option maxRecDepth 100000 in
set_option maxHeartbeats 4000000 in
theorem apart_any (gl cap N : Nat) (vs : Nat → Value) (ns : Nat → Nat) (C0 : Nat → List breakT) (w : World) (hN : N * 24 ≤ 140737488351232) (hL : ∀ j, j < N → w.cell? ⟨gl, j, none⟩ = some (vs j)) (hgl : gl < w.heap.size) (hgl2 : ∀ j q, j < N → (vs j).ownBlock = some q → q ≠ gl)
    (hF : FamE breakE 36 w N vs vs C0 ns) (hlen : ∀ j, j < N → (C0 j).length = ns j) (hs : ∀ j, j < N → (ns j + 64) * 32 ≤ 140737488355328) :
    Calls Try.prog 9 #[.slice (some ⟨gl, 0, none⟩) N cap] w (ApartP w (fun q => ∃ j, j < N ∧ (vs j).ownBlock = some q)) := by
  have hS : ¬ ∃ j, j < N ∧ (vs j).ownBlock = some gl := fun ⟨j, hj, h⟩ => hgl2 j gl hj h rfl
  have hns : ∀ j, j < N → ns j < 4611686018427387904 := fun j hj => by have := hs j hj; omega
  generalize hSd : (fun q => ∃ j, j < N ∧ (vs j).ownBlock = some q) = S
  have hSg : ¬ S gl := by rw [← hSd]; exact hS
  have hSv : ∀ j q, j < N → (vs j).ownBlock = some q → S q := fun j q hj h => by rw [← hSd]; exact ⟨j, hj, h⟩
  have hLw : ∀ wr, Wrote w wr S → ∀ j, j < N → wr.cell? ⟨gl, j, none⟩ = some (vs j) := fun wr hW j hj => (cell_kept (hW.block gl hgl hSg)).trans (hL j hj)
  have HL := Lib.hid hLw
  have HSV := Lib.hid hSv
  have HNS := Lib.hid hns
  have HSZ := Lib.hid hs
  have hsb : ∀ q, S q → ¬ w.heap.size ≤ q := fun q hq h => by
    rw [← hSd] at hq
    obtain ⟨j, hj, ho⟩ := hq
    have := hF.lt j q hj ho
    omega
  have HSB := Lib.hid hsb
  clear hsb
  clear hS hSd hSg hSv hL hgl2 hLw hns hs
  go_enter Try.func9, Try.ntmps9
  go_wp2_with fail
  go_loopw [3] (fun kv wr => ∃ (k : Nat) (C : Nat → List breakT), k ≤ N ∧ kv = .int .i64 k ∧ FamE breakE 36 wr N vs vs C ns ∧ (∀ j, j < N → (C j).length = ns j) ∧ (∀ j, j < k → C j = marksK mkB j (ns j)) ∧ Wrote w wr S) (fun kv _ => N - (intOf kv).toNat)
  case atStart => exact ⟨0, C0, by omega, rfl, hF, hlen, (fun j hj => by omega), Wrote.refl _ _⟩
  case round =>
    clear hF hlen
    obtain ⟨k, C, hk, rfl, hF, hlen, hC, hW⟩ := hrel
    by_cases hkN : k < N
    · skip
      have c1 := HL.out _ hW k hkN
      obtain ⟨ra, rc, hv⟩ := hF.form hkN
      rw [hv] at c1
      have HNK := Lib.hid (HSZ.out k hkN)
      have hnk : ns k + 64 ≤ 4398046511104 := Nat.le_of_mul_le_mul_right (show (ns k + 64) * 32 ≤ 4398046511104 * 32 from HNK.out) (by decide)
      have HLEN := Lib.hid hlen
      have HC := Lib.hid hC
      clear hlen hC
      go_wp2_with fail
      go_loopw [4] (fun iv wr2 => ∃ (i : Nat) (C : Nat → List breakT), i ≤ ns k ∧ iv = .int .i64 i ∧ FamE breakE 36 wr2 N vs vs C ns ∧ (∀ j, j < N → (C j).length = ns j) ∧ (∀ j, j < k → C j = marksK mkB j (ns j)) ∧ (C k).take i = marksK mkB k i ∧ Wrote w wr2 S) (fun iv _ => ns k - (intOf iv).toNat)
      case atStart => exact ⟨0, C, by omega, rfl, hF, HLEN.out, HC.out, by simp [marksK], hW⟩
      case round =>
        clear hF hW c1 HLEN HC C
        obtain ⟨i, C, hi, rfl, hF, hlen, hC, hCk, hW⟩ := hrel
        have c1 := HL.out _ hW k hkN
        rw [hv] at c1
        have HLEN := Lib.hid hlen
        have HC := Lib.hid hC
        have HCK := Lib.hid hCk
        clear hlen hC hCk
        by_cases hin : i < ns k
        · obtain ⟨g, rfl⟩ : ∃ g, ra = some ⟨g, 0, none⟩ := by
            obtain ⟨_, ao, cp, hva, hra⟩ := hF.reads k hkN
            rw [hv] at hva
            injection hva with h1 h2 h3
            have hl := HLEN.out k hkN
            obtain ⟨g, hg, _⟩ := hra i ((C k)[i]'(by omega)) (by rw [List.getElem?_take_of_lt hin, List.getElem?_eq_getElem])
            exact ⟨g, h1.trans hg⟩
          have HV := Lib.hid hv
          go_wp2_with fail
          refine wp_region_till (k := 9) (S := fun w' => w'.cell? ⟨gl, k, none⟩ = some (.slice (some ⟨g, 0, none⟩) (ns k) rc) ∧ Below wr.heap.size wr w') (by kernel_rfl) ?_
          have hHeld : wr.drew.cell? ⟨gl, k, none⟩ = some (.slice (some ⟨g, 0, none⟩) (ns k) rc) ∧ Below wr.heap.size wr wr.drew := ⟨c1, (Below.refl _ _).drew⟩
          clear hv c1
          (refine rt_yes 0 ?v1 (by simp only [List.getElem?_toArray, List.getElem?_cons_succ, List.getElem?_cons_zero]; rfl) (by kernel_rfl) (by kernel_rfl) (by kernel_rfl) (by kernel_rfl) (by exact fun _ _ _ h => h) (by kernel_rfl) (by exact fun _ => hHeld) ?y1 ?z1; case y1 => (intro w; go_simp; (try (rw [if_neg (by omega)])); (try with_reducible rfl)))
          (try simp only [Act.put, List.setIfInBounds_toArray, List.set_cons_zero, List.set_cons_succ])
          (refine rt_yes 1 ?v2 (by simp only [List.getElem?_toArray, List.getElem?_cons_succ, List.getElem?_cons_zero]; rfl) (by kernel_rfl) (by kernel_rfl) (by kernel_rfl) (by kernel_rfl) (by exact fun _ _ _ h => h) (by kernel_rfl) (by exact fun _ => hHeld) ?y2 ?z2; case y2 => (intro w; go_simp; (try (rw [if_neg (by omega)])); (try with_reducible rfl)))
          (try simp only [Act.put, List.setIfInBounds_toArray, List.set_cons_zero, List.set_cons_succ])
          (refine rt_yes 2 ?v3 (by simp only [List.getElem?_toArray, List.getElem?_cons_succ, List.getElem?_cons_zero]; rfl) (by kernel_rfl) (by kernel_rfl) (by kernel_rfl) (by kernel_rfl) (by exact fun _ _ _ h => h) (by kernel_rfl) (by exact fun _ => hHeld) ?y3 ?z3; case y3 => (intro w; go_simp; (try (rw [if_neg (by omega)])); (try with_reducible rfl)))
          (try simp only [Act.put, List.setIfInBounds_toArray, List.set_cons_zero, List.set_cons_succ])
          refine rt_load 3 _ (by simp only [List.getElem?_toArray, List.getElem?_cons_succ, List.getElem?_cons_zero]; rfl) (by kernel_rfl) (by kernel_rfl) (by kernel_rfl) (by kernel_rfl) (by kernel_rfl) (by kernel_rfl) (by exact fun _ _ _ h => h) (by kernel_rfl) hHeld (fun w' hS => (exec_load_at hS.1 rfl rfl (fun w => by kernel_rfl))) ?_
          (try simp only [Act.put, List.setIfInBounds_toArray, List.set_cons_zero, List.set_cons_succ])
          (refine rt_yes 4 ?v4 (by simp only [List.getElem?_toArray, List.getElem?_cons_succ, List.getElem?_cons_zero]; rfl) (by kernel_rfl) (by kernel_rfl) (by kernel_rfl) (by kernel_rfl) (by exact fun _ _ _ h => h) (by kernel_rfl) (by exact fun _ => hHeld) ?y4 ?z4; case y4 => (intro w; go_simp; (try (rw [if_neg (by omega)])); (try with_reducible rfl)))
          (try simp only [Act.put, List.setIfInBounds_toArray, List.set_cons_zero, List.set_cons_succ])
          (refine rt_yes 5 ?v5 (by simp only [List.getElem?_toArray, List.getElem?_cons_succ, List.getElem?_cons_zero]; rfl) (by kernel_rfl) (by kernel_rfl) (by kernel_rfl) (by kernel_rfl) (by exact fun _ _ _ h => h) (by kernel_rfl) (by exact fun _ => hHeld) ?y5 ?z5; case y5 => (intro w; go_simp; (try (rw [if_neg (by omega)])); (try with_reducible rfl)))
          (try simp only [Act.put, List.setIfInBounds_toArray, List.set_cons_zero, List.set_cons_succ])
          (refine rt_yes 6 ?v6 (by simp only [List.getElem?_toArray, List.getElem?_cons_succ, List.getElem?_cons_zero]; rfl) (by kernel_rfl) (by kernel_rfl) (by kernel_rfl) (by kernel_rfl) (by exact fun _ _ _ h => h) (by kernel_rfl) (by exact fun _ => hHeld) ?y6 ?z6; case y6 => (intro w; go_simp; (try (rw [if_neg (by omega)])); (try with_reducible rfl)))
          (try simp only [Act.put, List.setIfInBounds_toArray, List.set_cons_zero, List.set_cons_succ])
          refine rt_call 7 _ _ (by simp only [List.getElem?_toArray, List.getElem?_cons_succ, List.getElem?_cons_zero]; rfl) (by kernel_rfl) (by kernel_rfl) (fun w => by go_simp; exact ⟨rfl, rfl⟩) ?_
          refine (mark_any k i _ (by omega)).mono ?_
          rintro e w5 ⟨rfl, hb5⟩
          have hglr : gl < wr.heap.size := by have := hW.size; omega
          have hHeld5 : w5.cell? ⟨gl, k, none⟩ = some (.slice (some ⟨g, 0, none⟩) (ns k) rc) ∧ Below wr.heap.size wr w5 := by
            have hb : Below wr.heap.size wr w5 := hHeld.2.trans (hb5.mono (Nat.le_refl _))
            exact ⟨(cell_kept (hb.block gl hglr)).trans hHeld.1, hb⟩
          replace hHeld := hHeld5
          clear hHeld5 hb5
          refine ⟨_, rfl, fun _ => hHeld, ?_⟩
          have hF5 := hF.below hHeld.2
          have hput := hF5.row k hkN
          rw [HV.out] at hput
          obtain ⟨_, _, hth, hnn⟩ := hput.put i (by rw [HLEN.out k hkN]; exact hin) (mkB k i)
          clear hnn
          obtain ⟨hF6, hg6, _⟩ := hF5.put HLEN.out HNS.out hkN HV.out i hin (mkB k i)
          have hW6 := (hW.below hHeld.2).grown hg6 (fun q hq => .inl (HSV.out k q hkN (by rw [HV.out]; exact hq)))
          rw [set_brk] at hF6 hg6 hW6
          obtain ⟨⟨⟨u1, k1⟩, ⟨u2, k2⟩, ⟨u3, k3⟩, ⟨u4, k4⟩⟩, z, z1, z2, z3⟩ := there_brk hth
          simp only [brkV]
          (refine rt_yes 8 ?v7 (by simp only [List.getElem?_toArray, List.getElem?_cons_succ, List.getElem?_cons_zero]; rfl) (by kernel_rfl) (by kernel_rfl) (by kernel_rfl) (by kernel_rfl) (by exact fun _ _ _ h => h) (by kernel_rfl) (by exact fun _ => hHeld) ?y7 ?z7; case y7 => (intro w; go_simp; (try (rw [if_neg (by omega)])); (try with_reducible rfl)))
          (try simp only [Act.put, List.setIfInBounds_toArray, List.set_cons_zero, List.set_cons_succ])
          refine rt_skip 9 ((((w5.setCell ⟨g, i * 4, none⟩ (.int .i64 (mkB k i).1)).setCell ⟨g, i * 4 + 1, none⟩ (.int .i64 (mkB k i).2.1)).setCell ⟨g, i * 4 + 2, none⟩ (.int .i64 (mkB k i).2.2.1)).setCell ⟨g, i * 4 + 3, none⟩ (.int .i64 (mkB k i).2.2.2)) (by simp only [List.getElem?_toArray, List.getElem?_cons_succ, List.getElem?_cons_zero]; rfl) (by kernel_rfl) (by kernel_rfl) (by go_simp) (till_past (by kernel_rfl)) ?_
          (try simp only [Act.put, List.setIfInBounds_toArray, List.set_cons_zero, List.set_cons_succ])
          refine rt_done (by kernel_rfl) ?_ _
          have hL6 : ∀ j, j < N → (if j = k then (C k).set i (mkB k i) else C j).length = ns j := fun j hj => by
            split
            · next e => subst e; rw [List.length_set]; exact HLEN.out j hj
            · exact HLEN.out j hj
          have hC6 : ∀ j, j < k → (if j = k then (C k).set i (mkB k i) else C j) = marksK mkB j (ns j) := fun j hj => by
            rw [if_neg (by omega)]; exact HC.out j hj
          have hK6 : (if k = k then (C k).set i (mkB k i) else C k).take (i + 1) = marksK mkB k (i + 1) := by
            rw [if_pos rfl, List.take_set, List.take_add_one, List.set_append_right _ _ (by rw [List.length_take]; omega), HCK.out]
            rw [marksK_succ]
            congr 1
            have h1 : i < (C k).length := by rw [HLEN.out k hkN]; exact hin
            rw [List.getElem?_eq_getElem h1, marksK_len, Nat.sub_self]
            rfl
          generalize (((w5.setCell ⟨g, i * 4, none⟩ (.int .i64 (mkB k i).1)).setCell ⟨g, i * 4 + 1, none⟩ (.int .i64 (mkB k i).2.1)).setCell ⟨g, i * 4 + 2, none⟩ (.int .i64 (mkB k i).2.2.1)).setCell ⟨g, i * 4 + 3, none⟩ (.int .i64 (mkB k i).2.2.2) = w6 at hF6 hg6 hW6 ⊢
          have HL6 := Lib.hid hL6
          have HC6 := Lib.hid hC6
          have HK6 := Lib.hid hK6
          clear hHeld hF5 hput k1 k2 k3 k4 z z1 z2 z3 hg6 hL6 hC6 hK6
          go_wp2_with fail
          exact ⟨⟨i + 1, _, by omega, by go_num, hF6, HL6.out, HC6.out, HK6.out, hW6⟩, by simp [intOf]; omega⟩
        · have hie : i = ns k := by omega
          subst hie
          have hCk : C k = marksK mkB k (ns k) := by
            have := HCK.out
            rwa [List.take_of_length_le (Nat.le_of_eq (HLEN.out k hkN))] at this
          have HCk := Lib.hid hCk
          clear hCk
          go_wp2_with fail
          exact ⟨⟨k + 1, C, by omega, by go_num, hF, HLEN.out, (fun j hj => by
            by_cases e : j = k
            · subst e; exact HCk.out
            · exact HC.out j (by omega)), hW⟩, by simp [intOf]; omega⟩
    · have hke : k = N := by omega
      subst hke
      go_wp2_with fail
      obtain ⟨iL, hL1, hL2, hL3, hL4⟩ := infoL
      have hC' : ∀ j, j < k → C j = marksK mkB j (ns j + if j < 0 then 64 else 0) := fun j hj => by rw [if_neg (by omega)]; exact hC j hj
      go_loopw [5, 6] (fun gv kv wr => ∃ (k2 : Nat) (GF : Nat → Value) (C : Nat → List breakT), k2 ≤ k ∧ kv = .int .i64 k2 ∧ FamE breakE 36 wr k vs GF C ns ∧ (∀ j, j < k → C j = marksK mkB j (ns j + if j < k2 then 64 else 0)) ∧ (∀ j, k2 ≤ j → GF j = vs j) ∧ wr.ownsRow w.heap.size 23 1 gv k2 ((List.range k2).map GF) ∧ Wrote w wr S ∧ (∀ j q, j < k → (GF j).ownBlock = some q → S q ∨ w.heap.size ≤ q)) (fun _ kv _ => k - (intOf kv).toNat)
      case atStart => exact ⟨0, vs, C, by omega, rfl, hF, hC', (fun j _ => rfl), World.ownsRow_nil _ _ _ _, hW, fun j q hj h => .inl (HSV.out j q hj h)⟩
      case round =>
        clear hF hlen hC hW hC' C
        obtain ⟨k2, GF, C, hk2, rfl, hF, hC, hG, hO, hW, hGS⟩ := hrel
        have HC := Lib.hid hC
        have HG := Lib.hid hG
        have HO := Lib.hid hO
        have HGS := Lib.hid hGS
        clear hC hG hO hGS
        by_cases hkk : k2 < k
        · skip
          have c1 := HL.out _ hW k2 hkk
          obtain ⟨ra, rc, hv⟩ := hF.form hkk
          rw [hv] at c1
          have HNK := Lib.hid (HSZ.out k2 hkk)
          have hnk : ns k2 + 64 ≤ 4398046511104 := Nat.le_of_mul_le_mul_right (show (ns k2 + 64) * 32 ≤ 4398046511104 * 32 from HNK.out) (by decide)
          have HV := Lib.hid hv
          clear hv
          go_wp2_with fail
          go_loopw [7, 8] (fun gv2 iv wr2 => ∃ (i : Nat) (GF2 : Nat → Value) (C2 : Nat → List breakT), i ≤ 64 ∧ iv = .int .i64 i ∧ gv2 = GF2 k2 ∧ FamE breakE 36 wr2 k vs GF2 C2 ns ∧ (∀ j, j < k → C2 j = marksK mkB j (ns j + if j < k2 then 64 else if j = k2 then i else 0)) ∧ (∀ j, k2 < j → GF2 j = vs j) ∧ (∀ j, j < k2 → GF2 j = GF j) ∧ wr2.ownsRow w.heap.size 23 1 u5 k2 ((List.range k2).map GF) ∧ Wrote w wr2 S ∧ (∀ j q, j < k → (GF2 j).ownBlock = some q → S q ∨ w.heap.size ≤ q)) (fun _ iv _ => 64 - (intOf iv).toNat)
          case atStart =>
            refine ⟨0, GF, C, by omega, rfl, by rw [HG.out k2 (Nat.le_refl _), HV.out], hF, fun j hj => ?_, fun j hj => HG.out j (by omega), fun j hj => rfl, HO.out, hW, HGS.out⟩
            rw [HC.out j hj]
            by_cases e : j < k2
            · rw [if_pos e, if_pos e]
            · rw [if_neg e, if_neg e]; split <;> rfl
          case round =>
            clear hF hW c1 HC HG HO HGS
            obtain ⟨i, GF2, C2, hi, rfl, rfl, hF, hC, hG, hG2, hO, hW, hGS⟩ := hrel
            have c1 := HL.out _ hW k2 hkk
            rw [HV.out] at c1
            have HC := Lib.hid hC
            have HG := Lib.hid hG
            have HG2 := Lib.hid hG2
            have HO := Lib.hid hO
            have HGS := Lib.hid hGS
            clear hC hG hG2 hO hGS
            by_cases hi64 : i < 64
            · have hlenC : (C2 k2).length = ns k2 + i := by rw [HC.out k2 hkk, marksK_len, if_neg (Nat.lt_irrefl _), if_pos rfl]
              have hl32 : ((C2 k2).length + 1) * 32 ≤ 140737488355328 := by rw [hlenC]; exact Nat.le_trans (Nat.mul_le_mul_right 32 (show ns k2 + i + 1 ≤ ns k2 + 64 by omega)) HNK.out
              have hsz := hW.size
              obtain ⟨t, ht⟩ : ∃ t : Nat, t = ns k2 + i := ⟨_, rfl⟩
              have hw : IntKind.i64.wrap ((ns k2 : Int) + i) = (t : Int) := by rw [ht, IntWalk.i64_in _ (by omega)]; omega
              have hk2b : k2 ≤ 140737488351232 := by omega
              have HTT := Lib.hid ht
              have HL32 := Lib.hid hl32
              have HLC := Lib.hid hlenC
              clear ht hl32 hlenC
              go_wp2_with fail
              have hlenC := HLC.out
              have hm := mark_any k2 t wr hk2b
              refine hm.mono ?_
              rintro e w5 ⟨rfl, hb5⟩
              clear hm
              have hx : C2 k2 ++ [mkB k2 t] = marksK mkB k2 (ns k2 + (i + 1)) := by
                rw [HTT.out, HC.out k2 hkk, if_neg (Nat.lt_irrefl _), if_pos rfl, show ns k2 + (i + 1) = ns k2 + i + 1 by omega, marksK_succ, Int.natCast_add]
              generalize mkB k2 t = x at hx ⊢
              have hF5 := (hF.below hb5).kept (w' := w5.alloc (.cells #[.int .i64 x.1, .int .i64 x.2.1, .int .i64 x.2.2.1, .int .i64 x.2.2.2] 36)) (fun k hk => heap_alloc_old _ _ hk)
              have hW5 := (hW.below hb5).below ((Below.refl _ _).alloc (Nat.le_refl _) (.cells #[.int .i64 x.1, .int .i64 x.2.1, .int .i64 x.2.2.1, .int .i64 x.2.2.2] 36))
              obtain ⟨v6, w6, hrun, hR6, hg6, ho6, hc6⟩ := pushB (hF5.row k2 hkk) (Nat.zero_le _) x w5.heap.size (heap_alloc_new w5 _) HL32.out
              have hF6 := hF5.push hkk hR6 hg6 ho6 hc6
              have hGs6 : ∀ j q, j < k → (if j = k2 then v6 else GF2 j).ownBlock = some q → S q ∨ w.heap.size ≤ q := fun j q hj h => by
                split at h
                · rcases ho6 with h1 | h1
                  · exact HGS.out k2 q hkk (h1 ▸ h)
                  · have := h1 q h
                    have := hW5.size
                    omega
                · exact HGS.out j q hj h
              have hW6 := hW5.grown hg6 (fun q hq => HGS.out k2 q hkk hq)
              have hO6 : w6.ownsRow w.heap.size 23 1 u5 k2 ((List.range k2).map GF) := own_congr HO.out fun q hq => by
                obtain ⟨cs, hcs⟩ := own_type HO.out hq
                have hq1 := lt_of_block hcs
                have e1 : (w5.alloc (.cells #[.int .i64 x.1, .int .i64 x.2.1, .int .i64 x.2.2.1, .int .i64 x.2.2.2] 36)).heap[q]? = wr.heap[q]? := (heap_alloc_old _ _ (by have := hb5.size; omega)).trans (hb5.block q hq1)
                refine (hg6.block q (by simp; have := hb5.size; omega) fun e => ?_).trans e1
                obtain ⟨_, cs', hc'⟩ := (hF5.row k2 hkk).type e.symm
                rw [e1, hcs] at hc'
                injection hc' with hc'
                injection hc' with _ hc'
                exact absurd hc' (by decide)
              have HF6 := Lib.hid hF6
              have HGS6 := Lib.hid hGs6
              have HO6 := Lib.hid hO6
              have HX := Lib.hid hx
              simp only [brkV]
              clear hF5 hW5 hR6 hg6 ho6 hc6 hF6 hGs6 hO6 hx hb5 hlenC
              go_wp2_with (refine wpList_val (w' := w6) v6 (by kernel_rfl) (exec_append2 rfl rfl rfl rfl ?_) ?_; focus (exact hrun))
              refine ⟨⟨i + 1, _, _, by omega, by go_num, (if_pos rfl).symm, HF6.out, fun j hj => ?_, fun j hj => ?_, fun j hj => ?_, HO6.out, hW6, HGS6.out⟩, by simp [intOf]; omega⟩
              · by_cases e : j = k2
                · subst e
                  simp only [if_pos, if_neg (Nat.lt_irrefl _)]
                  exact HX.out
                · simp only [if_neg e]
                  have := HC.out j hj
                  rw [if_neg e] at this
                  exact this
              · simp only [if_neg (show j ≠ k2 by omega)]
                exact HG.out j hj
              · simp only [if_neg (show j ≠ k2 by omega)]
                exact HG2.out j hj
            · have hie : i = 64 := by omega
              subst hie
              obtain ⟨ga, gc, hgf⟩ := (hF.row k2 hkk).slice
              have hsz := hW.size
              have hO1 := HO.out.alloc (.cells #[GF2 k2] 23)
              obtain ⟨v', w', hrun, hO', hg', _⟩ := run_append_own (P := Try.prog) (wr.alloc (.cells #[GF2 k2] 23)) w.heap.size 29 29 23 iL _ 1 24 Try.underlying29 hL1 hL2 hL3 hL4 rfl (by omega) u5 k2 ((List.range k2).map GF) hO1 ⟨wr.heap.size, 0, none⟩ 1 1 [GF2 k2] rfl (fun j u hj => by
                  have hadd : (⟨wr.heap.size, 0, none⟩ : Addr).add j = ⟨wr.heap.size, j, none⟩ := by unfold Addr.add; split <;> simp_all
                  rw [hadd, cell_of_row _ _ _ _ _ _ (heap_alloc_new wr _)]
                  rcases j with _ | j <;> simp at hj ⊢
                  exact hj) (fun u hu => by simp at hu; subst hu; rw [hgf]; rfl) (by unfold maxLen; omega) (by omega) (by simp; omega)
              have hFa : FamE breakE 36 w' k vs GF2 C2 ns := (hF.kept (w' := wr.alloc (.cells #[GF2 k2] 23)) (fun k hk => heap_alloc_old _ _ hk)).grown hg' (fun j q hj h e => by
                have h1 := (hO1.lt q e).1
                have h2 := HSV.out j q hj h
                exact HSB.out q h2 h1) (fun j q hj h e => by
                obtain ⟨_, cs, hc⟩ := (hF.row j hj).type h
                obtain ⟨cs', hc'⟩ := own_type HO.out e
                rw [hc] at hc'
                injection hc' with hc'
                injection hc' with _ hc'
                exact absurd hc' (by decide))
              have hWa := (hW.below ((Below.refl _ _).alloc (Nat.le_refl _) (.cells #[GF2 k2] 23))).grown hg' (fun q hq => .inr (hO1.lt q hq).1)
              have hOa : w'.ownsRow w.heap.size 23 1 v' (k2 + 1) ((List.range (k2 + 1)).map GF2) := by
                rw [List.range_succ, List.map_append, List.map_congr_left (g := GF) (fun j hj => HG2.out j (List.mem_range.1 hj))]
                exact hO'
              have HFA := Lib.hid hFa
              have HWA := Lib.hid hWa
              have HOA := Lib.hid hOa
              clear hO1 hO' hg' hFa hWa hOa
              rw [hgf] at hrun ⊢
              go_wp2_with (refine wpList_val (w' := w') v' (by kernel_rfl) (exec_append2 rfl rfl rfl rfl ?_) ?_; focus (exact hrun))
              refine ⟨⟨k2 + 1, GF2, C2, by omega, by go_num, HFA.out, fun j hj => ?_, fun j hj => HG.out j (by omega), HOA.out, HWA.out, HGS.out⟩, by simp [intOf]; omega⟩
              rw [HC.out j hj]
              by_cases e : j < k2
              · rw [if_pos e, if_pos (by omega)]
              · rw [if_neg e]
                by_cases e2 : j = k2
                · rw [if_pos e2, if_pos (by omega)]
                · rw [if_neg e2, if_neg (by omega)]
        · have hke : k2 = k := by omega
          subst hke
          go_wp2_with fail
          obtain ⟨wz, rfl⟩ : ∃ wz, wz = wr := ⟨wr, rfl⟩
          have HF := Lib.hid hF
          have HW := Lib.hid hW
          clear hF hW
          go_loopw [9] (fun kv wr3 => ∃ k3 : Nat, k3 ≤ k2 ∧ kv = .int .i64 k3 ∧ Below wz.heap.size wz wr3) (fun kv _ => k2 - (intOf kv).toNat)
          case atStart => exact ⟨0, by omega, rfl, Below.refl _ _⟩
          case round =>
            obtain ⟨k3, hk3, rfl, hB3⟩ := hrel
            by_cases hkk3 : k3 < k2
            · skip
              obtain ⟨gg, cp, rfl⟩ : ∃ gg cp, u5 = .slice (some ⟨gg, 0, none⟩) k2 cp := by
                rcases HO.out.2 with ⟨_, h0⟩ | ⟨gg, cp, cur, h1, _⟩
                · omega
                · exact ⟨gg, cp, h1⟩
              have hgf0 := HO.out.cells (g := gg) rfl k3 (GF k3) (by rw [List.getElem?_map, List.getElem?_range hkk3]; rfl)
              have hadd : (⟨gg, 0, none⟩ : Addr).add k3 = ⟨gg, k3, none⟩ := by unfold Addr.add; split <;> simp_all
              rw [hadd] at hgf0
              have hCk : C k3 = marksK mkB k3 (ns k3 + 64) := by rw [HC.out k3 hkk3, if_pos hkk3]
              have hGr := HF.out.row k3 hkk3
              rw [hCk] at hGr
              obtain ⟨ga, gc, hgf⟩ := hGr.slice
              rw [marksK_len] at hgf
              have HNK := Lib.hid (HSZ.out k3 hkk3)
              have hnk : ns k3 + 64 ≤ 4398046511104 := Nat.le_of_mul_le_mul_right (show (ns k3 + 64) * 32 ≤ 4398046511104 * 32 from HNK.out) (by decide)
              have hGR := hGr.reads (by rw [marksK_len]; omega)
              have hVR := HF.out.reads k3 hkk3
              rw [hCk, marksK_take _ _ _ _ (by omega)] at hVR
              obtain ⟨ra, rc, hv⟩ := HF.out.form hkk3
              have hcl := HL.out _ HW.out k3 hkk3
              rw [hv] at hcl hVR
              rw [hgf] at hgf0 hGR
              have hgg := World.block_lt_of_cell? wz _ hgf0
              have hgl1 := World.block_lt_of_cell? wz _ hcl
              have HCL := Lib.hid hcl
              have HGF := Lib.hid hgf0
              have HGR := Lib.hid hGR
              have HVR := Lib.hid hVR
              have cG : wr.cell? ⟨gg, k3, none⟩ = some (.slice ga (ns k3 + 64) gc) := (cell_kept (hB3.block gg hgg)).trans hgf0
              clear hgf0 hadd hCk hGr hGR hVR hv hcl hgf
              go_wp2_with fail
              go_loopw [10] (fun iv wr4 => ∃ i : Nat, i ≤ ns k3 + 64 ∧ iv = .int .i64 i ∧ Below wz.heap.size wz wr4) (fun iv _ => ns k3 + 64 - (intOf iv).toNat)
              case atStart => exact ⟨0, by omega, rfl, hB3⟩
              case round =>
                clear hB3 cG
                obtain ⟨i, hi, rfl, hB4⟩ := hrel
                have cG : wr.cell? ⟨gg, k3, none⟩ = some (.slice ga (ns k3 + 64) gc) := (cell_kept (hB4.block gg hgg)).trans HGF.out
                by_cases hin : i < ns k3 + 64
                · go_wp2_with fail
                  refine (mark_any k3 i _ (by omega)).mono ?_
                  rintro e w5 ⟨rfl, hb5⟩
                  have hxm : (marksK mkB k3 (ns k3 + 64))[i]? = some (mkB k3 i) := marksK_at _ _ _ _ hin
                  have hxv : i < ns k3 → (marksK mkB k3 (ns k3))[i]? = some (mkB k3 i) := fun h => marksK_at _ _ _ _ h
                  generalize mkB k3 i = x at hxm hxv ⊢
                  simp only [brkV]
                  have hB6 : Below wz.heap.size wz (w5.alloc (.cells #[.int .i64 x.1, .int .i64 x.2.1, .int .i64 x.2.2.1, .int .i64 x.2.2.2] 36)) := (hB4.trans (hb5.mono hB4.size)).alloc (by have := hB4.size; have := hb5.size; omega) _
                  have hX6 := heap_alloc_new w5 (.cells #[.int .i64 x.1, .int .i64 x.2.1, .int .i64 x.2.2.1, .int .i64 x.2.2.2] 36)
                  have HB6 := Lib.hid hB6
                  have HX6 := Lib.hid hX6
                  have HXM := Lib.hid hxm
                  have HXV := Lib.hid hxv
                  clear hB6 hX6 hxm hxv hb5 hB4 cG
                  go_wp2_with fail
                  generalize w5.alloc (.cells #[.int .i64 x.1, .int .i64 x.2.1, .int .i64 x.2.2.1, .int .i64 x.2.2.2] 36) = w6 at HB6 HX6 ⊢
                  generalize w5.heap.size = b6 at HX6 ⊢
                  have hcx := brk_rangeAt HX6.out
                  obtain ⟨g1, o1, rfl, hc1⟩ := HGR.out.at HXM.out
                  replace hc1 := rangeAt_below' hc1 HB6.out
                  have cG : w6.cell? ⟨gg, k3, none⟩ = some (.slice (some ⟨g1, o1, none⟩) (ns k3 + 64) gc) := (cell_kept (HB6.out.block gg hgg)).trans HGF.out
                  by_cases hin2 : i < ns k3
                  · obtain ⟨g2, o2, rfl, hc2⟩ := HVR.out.reads.at (HXV.out hin2)
                    replace hc2 := rangeAt_below' hc2 HB6.out
                    have cL : w6.cell? ⟨gl, k3, none⟩ = some (.slice (some ⟨g2, o2, none⟩) (ns k3) rc) := (cell_kept (HB6.out.block gl hgl1)).trans HCL.out
                    have hlt : decide ((i : Int) < (ns k3 : Int)) = true := by simp; omega
                    refine wp_region_still_tail 28 (by kernel_rfl) (by kernel_rfl) ?_
                    simp only [List.take_succ_cons, List.take_zero, List.drop_succ_cons, List.drop_zero]
                    refine (fun (Hst : wpStill _ _ (World.drew _) (fun a' => wpList _ _ _ _ a' (World.drew _)) _ _) => Hst) ?_
                    (refine still_yes ?v8 (by kernel_rfl) ?y8 ?z8; case y8 => (go_simp; (try (rw [if_neg (by omega)])); (try (rw [if_pos (by omega)])); (try with_reducible rfl)))
                    (try simp only [Act.put, List.setIfInBounds_toArray, List.set_cons_zero, List.set_cons_succ])
                    (refine still_yes ?v9 (by kernel_rfl) ?y9 ?z9; case y9 => (go_simp; (try (rw [if_neg (by omega)])); (try (rw [if_pos (by omega)])); (try with_reducible rfl)))
                    (try simp only [Act.put, List.setIfInBounds_toArray, List.set_cons_zero, List.set_cons_succ])
                    (refine still_yes ?v10 (by kernel_rfl) ?y10 ?z10; case y10 => (go_simp; (try (rw [if_neg (by omega)])); (try (rw [if_pos (by omega)])); (try with_reducible rfl)))
                    (try simp only [Act.put, List.setIfInBounds_toArray, List.set_cons_zero, List.set_cons_succ])
                    (refine still_yes ?v11 (by kernel_rfl) ?y11 ?z11; case y11 => (go_simp; (try (rw [if_neg (by omega)])); (try (rw [if_pos (by omega)])); (try with_reducible rfl)))
                    (try simp only [Act.put, List.setIfInBounds_toArray, List.set_cons_zero, List.set_cons_succ])
                    (refine still_yes ?v12 (by kernel_rfl) ?y12 ?z12; case y12 => (go_simp; (try (rw [if_neg (by omega)])); (try (rw [if_pos (by omega)])); (try with_reducible rfl)))
                    (try simp only [Act.put, List.setIfInBounds_toArray, List.set_cons_zero, List.set_cons_succ])
                    (refine still_yes ?v13 (by kernel_rfl) ?y13 ?z13; case y13 => (go_simp; (try (rw [if_neg (by omega)])); (try (rw [if_pos (by omega)])); (try with_reducible rfl)))
                    (try simp only [Act.put, List.setIfInBounds_toArray, List.set_cons_zero, List.set_cons_succ])
                    refine still_yes _ (by kernel_rfl) (exec_load_mid hc1 rfl rfl Try.underlying36 rfl (by kernel_rfl)) ?_
                    (try simp only [Act.put, List.setIfInBounds_toArray, List.set_cons_zero, List.set_cons_succ])
                    refine still_yes _ (by kernel_rfl) (exec_load_mid hcx rfl rfl Try.underlying36 rfl (by kernel_rfl)) ?_
                    (try simp only [Act.put, List.setIfInBounds_toArray, List.set_cons_zero, List.set_cons_succ])
                    refine still_yes _ (by kernel_rfl) (exec_neq_val (r := true) (b := false) rfl rfl rfl (by kernel_rfl) (fun w => eqBreak x.1 x.2.1 x.2.2.1 x.2.2.2 w) rfl) ?_
                    (try simp only [Act.put, List.setIfInBounds_toArray, List.set_cons_zero, List.set_cons_succ])
                    (refine still_yes ?v14 (by kernel_rfl) ?y14 ?z14; case y14 => (go_simp; (try (rw [if_neg (by omega)])); (try (rw [if_pos (by omega)])); (try with_reducible rfl)))
                    (try simp only [Act.put, List.setIfInBounds_toArray, List.set_cons_zero, List.set_cons_succ])
                    (refine still_yes ?v15 (by kernel_rfl) ?y15 ?z15; case y15 => (go_simp; (try (rw [if_neg (by omega)])); (try (rw [if_pos (by omega)])); (try with_reducible rfl)))
                    (try simp only [Act.put, List.setIfInBounds_toArray, List.set_cons_zero, List.set_cons_succ])
                    (refine still_yes ?v16 (by kernel_rfl) ?y16 ?z16; case y16 => (go_simp; (try (rw [if_neg (by omega)])); (try (rw [if_pos (by omega)])); (try with_reducible rfl)))
                    (try simp only [Act.put, List.setIfInBounds_toArray, List.set_cons_zero, List.set_cons_succ])
                    (refine still_yes ?v17 (by kernel_rfl) ?y17 ?z17; case y17 => (go_simp; (try (rw [if_neg (by omega)])); (try (rw [if_pos (by omega)])); (try with_reducible rfl)))
                    (try simp only [Act.put, List.setIfInBounds_toArray, List.set_cons_zero, List.set_cons_succ])
                    (refine still_yes ?v18 (by kernel_rfl) ?y18 ?z18; case y18 => (go_simp; (try (rw [if_neg (by omega)])); (try (rw [if_pos (by omega)])); (try with_reducible rfl)))
                    (try simp only [Act.put, List.setIfInBounds_toArray, List.set_cons_zero, List.set_cons_succ])
                    (refine still_yes ?v19 (by kernel_rfl) ?y19 ?z19; case y19 => (go_simp; (try (rw [if_neg (by omega)])); (try (rw [if_pos (by omega)])); (try with_reducible rfl)))
                    (try simp only [Act.put, List.setIfInBounds_toArray, List.set_cons_zero, List.set_cons_succ])
                    (refine still_yes ?v20 (by kernel_rfl) ?y20 ?z20; case y20 => (go_simp; (try (rw [if_neg (by omega)])); (try (rw [if_pos (by omega)])); (try with_reducible rfl)))
                    (try simp only [Act.put, List.setIfInBounds_toArray, List.set_cons_zero, List.set_cons_succ])
                    (refine still_yes ?v21 (by kernel_rfl) ?y21 ?z21; case y21 => (go_simp; (try (rw [if_neg (by omega)])); (try (rw [if_pos (by omega)])); (try with_reducible rfl)))
                    (try simp only [Act.put, List.setIfInBounds_toArray, List.set_cons_zero, List.set_cons_succ])
                    (refine still_yes ?v22 (by kernel_rfl) ?y22 ?z22; case y22 => (go_simp; (try (rw [if_neg (by omega)])); (try (rw [if_pos (by omega)])); (try with_reducible rfl)))
                    (try simp only [Act.put, List.setIfInBounds_toArray, List.set_cons_zero, List.set_cons_succ])
                    (refine still_yes ?v23 (by kernel_rfl) ?y23 ?z23; case y23 => (go_simp; (try (rw [if_neg (by omega)])); (try (rw [if_pos (by omega)])); (try with_reducible rfl)))
                    (try simp only [Act.put, List.setIfInBounds_toArray, List.set_cons_zero, List.set_cons_succ])
                    (refine still_yes ?v24 (by kernel_rfl) ?y24 ?z24; case y24 => (go_simp; (try (rw [if_neg (by omega)])); (try (rw [if_pos (by omega)])); (try with_reducible rfl)))
                    (try simp only [Act.put, List.setIfInBounds_toArray, List.set_cons_zero, List.set_cons_succ])
                    (refine still_yes ?v25 (by kernel_rfl) ?y25 ?z25; case y25 => (go_simp; (try (rw [if_neg (by omega)])); (try (rw [if_pos (by omega)])); (try with_reducible rfl)))
                    (try simp only [Act.put, List.setIfInBounds_toArray, List.set_cons_zero, List.set_cons_succ])
                    (refine still_yes ?v26 (by kernel_rfl) ?y26 ?z26; case y26 => (go_simp; (try (rw [if_neg (by omega)])); (try (rw [if_pos (by omega)])); (try with_reducible rfl)))
                    (try simp only [Act.put, List.setIfInBounds_toArray, List.set_cons_zero, List.set_cons_succ])
                    (refine still_yes ?v27 (by kernel_rfl) ?y27 ?z27; case y27 => (go_simp; (try (rw [if_neg (by omega)])); (try (rw [if_pos (by omega)])); (try with_reducible rfl)))
                    (try simp only [Act.put, List.setIfInBounds_toArray, List.set_cons_zero, List.set_cons_succ])
                    (refine still_yes ?v28 (by kernel_rfl) ?y28 ?z28; case y28 => (go_simp; (try (rw [if_neg (by omega)])); (try (rw [if_pos (by omega)])); (try with_reducible rfl)))
                    (try simp only [Act.put, List.setIfInBounds_toArray, List.set_cons_zero, List.set_cons_succ])
                    refine still_yes _ (by kernel_rfl) (exec_load_mid hc2 rfl rfl Try.underlying36 rfl (by kernel_rfl)) ?_
                    (try simp only [Act.put, List.setIfInBounds_toArray, List.set_cons_zero, List.set_cons_succ])
                    refine still_yes _ (by kernel_rfl) (exec_load_mid hcx rfl rfl Try.underlying36 rfl (by kernel_rfl)) ?_
                    (try simp only [Act.put, List.setIfInBounds_toArray, List.set_cons_zero, List.set_cons_succ])
                    refine still_yes _ (by kernel_rfl) (exec_neq_val (r := true) (b := false) rfl rfl rfl (by kernel_rfl) (fun w => eqBreak x.1 x.2.1 x.2.2.1 x.2.2.2 w) rfl) ?_
                    (try simp only [Act.put, List.setIfInBounds_toArray, List.set_cons_zero, List.set_cons_succ])
                    (refine still_yes ?v29 (by kernel_rfl) ?y29 ?z29; case y29 => (go_simp; (try (rw [if_neg (by omega)])); (try (rw [if_pos (by omega)])); (try with_reducible rfl)))
                    (try simp only [Act.put, List.setIfInBounds_toArray, List.set_cons_zero, List.set_cons_succ])
                    refine wpStill_nil ?_
                    go_wp2_with fail
                    exact ⟨⟨i + 1, by omega, by go_num, HB6.out.drew⟩, by simp [intOf]; omega⟩
                  · have cL : w6.cell? ⟨gl, k3, none⟩ = some (.slice ra (ns k3) rc) := (cell_kept (HB6.out.block gl hgl1)).trans HCL.out
                    have hlt : decide ((i : Int) < (ns k3 : Int)) = false := by simp; omega
                    refine wp_region_still_tail 28 (by kernel_rfl) (by kernel_rfl) ?_
                    simp only [List.take_succ_cons, List.take_zero, List.drop_succ_cons, List.drop_zero]
                    refine (fun (Hst : wpStill _ _ (World.drew _) (fun a' => wpList _ _ _ _ a' (World.drew _)) _ _) => Hst) ?_
                    (refine still_yes ?v30 (by kernel_rfl) ?y30 ?z30; case y30 => (go_simp; (try (rw [if_neg (by omega)])); (try (rw [if_pos (by omega)])); (try with_reducible rfl)))
                    (try simp only [Act.put, List.setIfInBounds_toArray, List.set_cons_zero, List.set_cons_succ])
                    (refine still_yes ?v31 (by kernel_rfl) ?y31 ?z31; case y31 => (go_simp; (try (rw [if_neg (by omega)])); (try (rw [if_pos (by omega)])); (try with_reducible rfl)))
                    (try simp only [Act.put, List.setIfInBounds_toArray, List.set_cons_zero, List.set_cons_succ])
                    (refine still_yes ?v32 (by kernel_rfl) ?y32 ?z32; case y32 => (go_simp; (try (rw [if_neg (by omega)])); (try (rw [if_pos (by omega)])); (try with_reducible rfl)))
                    (try simp only [Act.put, List.setIfInBounds_toArray, List.set_cons_zero, List.set_cons_succ])
                    (refine still_yes ?v33 (by kernel_rfl) ?y33 ?z33; case y33 => (go_simp; (try (rw [if_neg (by omega)])); (try (rw [if_pos (by omega)])); (try with_reducible rfl)))
                    (try simp only [Act.put, List.setIfInBounds_toArray, List.set_cons_zero, List.set_cons_succ])
                    (refine still_yes ?v34 (by kernel_rfl) ?y34 ?z34; case y34 => (go_simp; (try (rw [if_neg (by omega)])); (try (rw [if_pos (by omega)])); (try with_reducible rfl)))
                    (try simp only [Act.put, List.setIfInBounds_toArray, List.set_cons_zero, List.set_cons_succ])
                    (refine still_yes ?v35 (by kernel_rfl) ?y35 ?z35; case y35 => (go_simp; (try (rw [if_neg (by omega)])); (try (rw [if_pos (by omega)])); (try with_reducible rfl)))
                    (try simp only [Act.put, List.setIfInBounds_toArray, List.set_cons_zero, List.set_cons_succ])
                    refine still_yes _ (by kernel_rfl) (exec_load_mid hc1 rfl rfl Try.underlying36 rfl (by kernel_rfl)) ?_
                    (try simp only [Act.put, List.setIfInBounds_toArray, List.set_cons_zero, List.set_cons_succ])
                    refine still_yes _ (by kernel_rfl) (exec_load_mid hcx rfl rfl Try.underlying36 rfl (by kernel_rfl)) ?_
                    (try simp only [Act.put, List.setIfInBounds_toArray, List.set_cons_zero, List.set_cons_succ])
                    refine still_yes _ (by kernel_rfl) (exec_neq_val (r := true) (b := false) rfl rfl rfl (by kernel_rfl) (fun w => eqBreak x.1 x.2.1 x.2.2.1 x.2.2.2 w) rfl) ?_
                    (try simp only [Act.put, List.setIfInBounds_toArray, List.set_cons_zero, List.set_cons_succ])
                    (refine still_yes ?v36 (by kernel_rfl) ?y36 ?z36; case y36 => (go_simp; (try (rw [if_neg (by omega)])); (try (rw [if_pos (by omega)])); (try with_reducible rfl)))
                    (try simp only [Act.put, List.setIfInBounds_toArray, List.set_cons_zero, List.set_cons_succ])
                    (refine still_yes ?v37 (by kernel_rfl) ?y37 ?z37; case y37 => (go_simp; (try (rw [if_neg (by omega)])); (try (rw [if_pos (by omega)])); (try with_reducible rfl)))
                    (try simp only [Act.put, List.setIfInBounds_toArray, List.set_cons_zero, List.set_cons_succ])
                    (refine still_yes ?v38 (by kernel_rfl) ?y38 ?z38; case y38 => (go_simp; (try (rw [if_neg (by omega)])); (try (rw [if_pos (by omega)])); (try with_reducible rfl)))
                    (try simp only [Act.put, List.setIfInBounds_toArray, List.set_cons_zero, List.set_cons_succ])
                    (refine still_yes ?v39 (by kernel_rfl) ?y39 ?z39; case y39 => (go_simp; (try (rw [if_neg (by omega)])); (try (rw [if_pos (by omega)])); (try with_reducible rfl)))
                    (try simp only [Act.put, List.setIfInBounds_toArray, List.set_cons_zero, List.set_cons_succ])
                    (refine still_yes ?v40 (by kernel_rfl) ?y40 ?z40; case y40 => (go_simp; (try (rw [if_neg (by omega)])); (try (rw [if_pos (by omega)])); (try with_reducible rfl)))
                    (try simp only [Act.put, List.setIfInBounds_toArray, List.set_cons_zero, List.set_cons_succ])
                    (refine still_yes ?v41 (by kernel_rfl) ?y41 ?z41; case y41 => (go_simp; (try (rw [if_neg (by omega)])); (try (rw [if_pos (by omega)])); (try with_reducible rfl)))
                    (try simp only [Act.put, List.setIfInBounds_toArray, List.set_cons_zero, List.set_cons_succ])
                    (refine still_yes ?v42 (by kernel_rfl) ?y42 ?z42; case y42 => (go_simp; (try (rw [if_neg (by omega)])); (try (rw [if_pos (by omega)])); (try with_reducible rfl)))
                    (try simp only [Act.put, List.setIfInBounds_toArray, List.set_cons_zero, List.set_cons_succ])
                    (refine still_yes ?v43 (by kernel_rfl) ?y43 ?z43; case y43 => (go_simp; (try (rw [if_neg (by omega)])); (try (rw [if_pos (by omega)])); (try with_reducible rfl)))
                    (try simp only [Act.put, List.setIfInBounds_toArray, List.set_cons_zero, List.set_cons_succ])
                    (refine still_yes ?v44 (by kernel_rfl) ?y44 ?z44; case y44 => (go_simp; (try (rw [if_neg (by omega)])); (try (rw [if_pos (by omega)])); (try with_reducible rfl)))
                    (try simp only [Act.put, List.setIfInBounds_toArray, List.set_cons_zero, List.set_cons_succ])
                    refine still_no (by kernel_rfl) ?_
                    (try simp only [Act.put, List.setIfInBounds_toArray, List.set_cons_zero, List.set_cons_succ])
                    refine still_no (by kernel_rfl) ?_
                    (try simp only [Act.put, List.setIfInBounds_toArray, List.set_cons_zero, List.set_cons_succ])
                    refine still_no (by kernel_rfl) ?_
                    (try simp only [Act.put, List.setIfInBounds_toArray, List.set_cons_zero, List.set_cons_succ])
                    refine still_no (by kernel_rfl) ?_
                    (try simp only [Act.put, List.setIfInBounds_toArray, List.set_cons_zero, List.set_cons_succ])
                    refine still_no (by kernel_rfl) ?_
                    (try simp only [Act.put, List.setIfInBounds_toArray, List.set_cons_zero, List.set_cons_succ])
                    refine still_no (by kernel_rfl) ?_
                    (try simp only [Act.put, List.setIfInBounds_toArray, List.set_cons_zero, List.set_cons_succ])
                    refine still_no (by kernel_rfl) ?_
                    (try simp only [Act.put, List.setIfInBounds_toArray, List.set_cons_zero, List.set_cons_succ])
                    refine still_no (by kernel_rfl) ?_
                    (try simp only [Act.put, List.setIfInBounds_toArray, List.set_cons_zero, List.set_cons_succ])
                    refine still_no (by kernel_rfl) ?_
                    (try simp only [Act.put, List.setIfInBounds_toArray, List.set_cons_zero, List.set_cons_succ])
                    (refine still_yes ?v45 (by kernel_rfl) ?y45 ?z45; case y45 => (go_simp; (try (rw [if_neg (by omega)])); (try (rw [if_pos (by omega)])); (try with_reducible rfl)))
                    (try simp only [Act.put, List.setIfInBounds_toArray, List.set_cons_zero, List.set_cons_succ])
                    refine wpStill_nil ?_
                    go_wp2_with fail
                    exact ⟨⟨i + 1, by omega, by go_num, HB6.out.drew⟩, by simp [intOf]; omega⟩
                · have hie : i = ns k3 + 64 := by omega
                  subst hie
                  go_wp2_with fail
                  exact ⟨⟨k3 + 1, by omega, by go_num, hB4⟩, by simp [intOf]; omega⟩
            · have hke : k3 = k2 := by omega
              subst hke
              go_wp2_with fail
              go_ret
              exact ⟨rfl, HW.out.below hB3⟩
end Go.Proofs.Ytkggmhcdoalhoaa
