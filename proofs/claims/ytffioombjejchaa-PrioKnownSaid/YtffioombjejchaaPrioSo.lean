/- prio: the document's row: Sorted by contract; Pick by contract. -/
import Derived.Test.YtffioombjejchaaPrioX
namespace Go.Proofs.Ytffioombjejchaa
set_option linter.unusedVariables false
set_option linter.unusedSimpArgs false
open Go.RowKit
attribute [local irreducible] Go.wpStill

def SortedR (w : World) (ps : List Pair) (e : Ending) (w' : World) : Prop := ∃ v, e = .returned v ∧ RowT w' w.heap.size v ps ∧ Below w.heap.size w w'
theorem sort_step {fall : Bool} {ps : List Pair} {b : Nat} (h : PP.first fall PP.all ps = some b) : PP.sorted fall ps = ps.getD b default :: PP.sorted fall (ps.eraseIdx b) := by
  have hb := first_lt b h
  unfold PP.sorted
  rw [List.length_eraseIdx_of_lt hb]
  obtain ⟨n, hn⟩ : ∃ n, ps.length = n + 1 := ⟨ps.length - 1, by omega⟩
  rw [hn, PP.sort, h, Nat.add_sub_cancel]
theorem first_some {fall : Bool} {ps : List Pair} (h : 0 < ps.length) : ∃ b, PP.first fall PP.all ps = some b := by
  cases hb : PP.first fall PP.all ps with
  | none =>
    have := PP.best_none hb 0 h
    cases this
  | some b => exact ⟨b, rfl⟩
theorem sorted_len (fall : Bool) (ps : List Pair) : (PP.sorted fall ps).length = ps.length := by
  generalize hn : ps.length = n
  induction n generalizing ps with
  | zero =>
    rw [List.length_eq_zero_iff.1 hn]; rfl
  | succ n ih =>
    obtain ⟨b, hb⟩ := first_some (fall := fall) (ps := ps) (by omega)
    rw [sort_step hb, List.length_cons, ih _ (by rw [List.length_eraseIdx_of_lt (first_lt b hb)]; omega)]
set_option maxRecDepth 100000 in
set_option maxHeartbeats 4000000 in
theorem sortedR (h : Nat) (fall : Bool) (ps : List Pair) (g : Option Nat) (w : World) (hR : RowR w h fall ps g) (hb : (ps.length + 1) * 16 ≤ 140737488351232) :
    Calls Try.prog 24 #[.pointer (some ⟨h, 0, none⟩)] w (SortedR w (PP.sorted fall ps)) := by
  have hlt := hR.hlt
  have hRk := hR.kept (w' := w.alloc (.cells #[.bool fall, .slice none 0 0] 31)) (fun k hk => heap_alloc_old _ _ hk)
  have hC1 := heap_alloc_new w (.cells #[.bool fall, .slice none 0 0] 31)
  have hB1 : Below w.heap.size w (w.alloc (.cells #[.bool fall, .slice none 0 0] 31)) := (Below.refl _ _).alloc (Nat.le_refl _) _
  obtain ⟨sl, hg, hh, hT⟩ := hR
  have c0 : w.cell? ⟨h, 0, none⟩ = some (.bool fall) := by rw [cell_of_row _ _ _ _ _ _ hh]; rfl
  have HRK := Lib.hid hRk
  have HC1 := Lib.hid hC1
  have HB1 := Lib.hid hB1
  clear hh hT hRk hC1 hB1
  go_enter Try.func24, Try.ntmps24
  go_wp2_with fail
  generalize w.alloc (.cells #[.bool fall, .slice none 0 0] 31) = w1 at HRK HC1 HB1 ⊢
  obtain ⟨sl1, hg1, hh1, hT1⟩ := HRK.out
  obtain ⟨v', w2, hrun, hT2, hg2⟩ := RowT.copy (w := w1.drew) (hT1.congr (fun k cs hk _ => rfl)) (by omega)
  obtain ⟨ra, rc, rfl⟩ := hT2.slice
  have hsz1 : w.heap.size < w1.heap.size := lt_of_block HC1.out
  refine wp_region_till (k := 12) (S := fun w' => w'.heap[h]? = some (.cells #[.bool fall, sl1] 31 (0, 0)) ∧ w'.heap[w.heap.size]? = some (.cells #[.bool fall, .slice none 0 0] 31 (0, 0))) (by kernel_rfl) ?_
  have hHeld : w1.drew.heap[h]? = some (.cells #[.bool fall, sl1] 31 (0, 0)) ∧ w1.drew.heap[w.heap.size]? = some (.cells #[.bool fall, .slice none 0 0] 31 (0, 0)) := ⟨hh1, HC1.out⟩
  (refine rt_yes 0 ?v1 (by simp only [List.getElem?_toArray, List.getElem?_cons_succ, List.getElem?_cons_zero]; rfl) (by kernel_rfl) (by kernel_rfl) (by kernel_rfl) (by kernel_rfl) (by exact fun _ _ _ h => h) (by kernel_rfl) (by exact fun _ => hHeld) ?y1 ?z1; case y1 => (intro w; go_simp; (try (rw [if_neg (by omega)])); (try with_reducible rfl)))
  (try simp only [Act.put, List.setIfInBounds_toArray, List.set_cons_zero, List.set_cons_succ])
  (refine rt_yes 1 ?v2 (by simp only [List.getElem?_toArray, List.getElem?_cons_succ, List.getElem?_cons_zero]; rfl) (by kernel_rfl) (by kernel_rfl) (by kernel_rfl) (by kernel_rfl) (by exact fun _ _ _ h => h) (by kernel_rfl) (by exact fun _ => hHeld) ?y2 ?z2; case y2 => (intro w; go_simp; (try (rw [if_neg (by omega)])); (try with_reducible rfl)))
  (try simp only [Act.put, List.setIfInBounds_toArray, List.set_cons_zero, List.set_cons_succ])
  (refine rt_yes 2 ?v3 (by simp only [List.getElem?_toArray, List.getElem?_cons_succ, List.getElem?_cons_zero]; rfl) (by kernel_rfl) (by kernel_rfl) (by kernel_rfl) (by kernel_rfl) (by exact fun _ _ _ h => h) (by kernel_rfl) (by exact fun _ => hHeld) ?y3 ?z3; case y3 => (intro w; go_simp; (try (rw [if_neg (by omega)])); (try with_reducible rfl)))
  (try simp only [Act.put, List.setIfInBounds_toArray, List.set_cons_zero, List.set_cons_succ])
  (refine rt_yes 3 ?v4 (by simp only [List.getElem?_toArray, List.getElem?_cons_succ, List.getElem?_cons_zero]; rfl) (by kernel_rfl) (by kernel_rfl) (by kernel_rfl) (by kernel_rfl) (by exact fun _ _ _ h => h) (by kernel_rfl) (by exact fun _ => hHeld) ?y4 ?z4; case y4 => (intro w; go_simp; (try (rw [if_neg (by omega)])); (try with_reducible rfl)))
  (try simp only [Act.put, List.setIfInBounds_toArray, List.set_cons_zero, List.set_cons_succ])
  refine rt_load 4 _ (by simp only [List.getElem?_toArray, List.getElem?_cons_succ, List.getElem?_cons_zero]; rfl) (by kernel_rfl) (by kernel_rfl) (by kernel_rfl) (by kernel_rfl) (by kernel_rfl) (by kernel_rfl) (by exact fun _ _ _ h => h) (by kernel_rfl) hHeld (fun w' hS => (exec_load_one (v := .slice none 0 0) hS.2 rfl rfl rfl (fun w => by kernel_rfl))) ?_
  (try simp only [Act.put, List.setIfInBounds_toArray, List.set_cons_zero, List.set_cons_succ])
  (refine rt_yes 5 ?v5 (by simp only [List.getElem?_toArray, List.getElem?_cons_succ, List.getElem?_cons_zero]; rfl) (by kernel_rfl) (by kernel_rfl) (by kernel_rfl) (by kernel_rfl) (by exact fun _ _ _ h => h) (by kernel_rfl) (by exact fun _ => hHeld) ?y5 ?z5; case y5 => (intro w; go_simp; (try (rw [if_neg (by omega)])); (try with_reducible rfl)))
  (try simp only [Act.put, List.setIfInBounds_toArray, List.set_cons_zero, List.set_cons_succ])
  (refine rt_yes 6 ?v6 (by simp only [List.getElem?_toArray, List.getElem?_cons_succ, List.getElem?_cons_zero]; rfl) (by kernel_rfl) (by kernel_rfl) (by kernel_rfl) (by kernel_rfl) (by exact fun _ _ _ h => h) (by kernel_rfl) (by exact fun _ => hHeld) ?y6 ?z6; case y6 => (intro w; go_simp; (try (rw [if_neg (by omega)])); (try with_reducible rfl)))
  (try simp only [Act.put, List.setIfInBounds_toArray, List.set_cons_zero, List.set_cons_succ])
  (refine rt_yes 7 ?v7 (by simp only [List.getElem?_toArray, List.getElem?_cons_succ, List.getElem?_cons_zero]; rfl) (by kernel_rfl) (by kernel_rfl) (by kernel_rfl) (by kernel_rfl) (by exact fun _ _ _ h => h) (by kernel_rfl) (by exact fun _ => hHeld) ?y7 ?z7; case y7 => (intro w; go_simp; (try (rw [if_neg (by omega)])); (try with_reducible rfl)))
  (try simp only [Act.put, List.setIfInBounds_toArray, List.set_cons_zero, List.set_cons_succ])
  refine rt_load 8 _ (by simp only [List.getElem?_toArray, List.getElem?_cons_succ, List.getElem?_cons_zero]; rfl) (by kernel_rfl) (by kernel_rfl) (by kernel_rfl) (by kernel_rfl) (by kernel_rfl) (by kernel_rfl) (by exact fun _ _ _ h => h) (by kernel_rfl) hHeld (fun w' hS => (exec_load_one (v := sl1) hS.1 rfl rfl rfl (fun w => by kernel_rfl))) ?_
  (try simp only [Act.put, List.setIfInBounds_toArray, List.set_cons_zero, List.set_cons_succ])
  have hHeld2 : w2.heap[h]? = some (.cells #[.bool fall, sl1] 31 (0, 0)) ∧ w2.heap[w.heap.size]? = some (.cells #[.bool fall, .slice none 0 0] 31 (0, 0)) := ⟨(hg2.block h (lt_of_block hHeld.1) (by simp)).trans hHeld.1, (hg2.block _ (lt_of_block hHeld.2) (by simp)).trans hHeld.2⟩
  refine rt_one 9 _ _ (by simp only [List.getElem?_toArray, List.getElem?_cons_succ, List.getElem?_cons_zero]; rfl) (by kernel_rfl) (by kernel_rfl) (exec_append rfl rfl rfl rfl hrun) (fun _ => hHeld2) ?_
  (try simp only [Act.put, List.setIfInBounds_toArray, List.set_cons_zero, List.set_cons_succ])
  replace hHeld := hHeld2
  (refine rt_yes 10 ?v8 (by simp only [List.getElem?_toArray, List.getElem?_cons_succ, List.getElem?_cons_zero]; rfl) (by kernel_rfl) (by kernel_rfl) (by kernel_rfl) (by kernel_rfl) (by exact fun _ _ _ h => h) (by kernel_rfl) (by exact fun _ => hHeld) ?y8 ?z8; case y8 => (intro w; go_simp; (try (rw [if_neg (by omega)])); (try with_reducible rfl)))
  (try simp only [Act.put, List.setIfInBounds_toArray, List.set_cons_zero, List.set_cons_succ])
  (refine rt_yes 11 ?v9 (by simp only [List.getElem?_toArray, List.getElem?_cons_succ, List.getElem?_cons_zero]; rfl) (by kernel_rfl) (by kernel_rfl) (by kernel_rfl) (by kernel_rfl) (by exact fun _ _ _ h => h) (by kernel_rfl) (by exact fun _ => hHeld) ?y9 ?z9; case y9 => (intro w; go_simp; (try (rw [if_neg (by omega)])); (try with_reducible rfl)))
  (try simp only [Act.put, List.setIfInBounds_toArray, List.set_cons_zero, List.set_cons_succ])
  have k1 : w2.cell? ⟨w.heap.size, 1, none⟩ = some (.slice none 0 0) := by rw [cell_of_row _ _ _ _ _ _ hHeld2.2]; rfl
  have z1 : w2.frozen? ⟨w.heap.size, 1, none⟩ = false := by simp [World.frozen?, hHeld2.2]
  refine rt_skip 12 (w2.setCell ⟨w.heap.size, 1, none⟩ (.slice ra ps.length rc)) (by simp only [List.getElem?_toArray, List.getElem?_cons_succ, List.getElem?_cons_zero]; rfl) (by kernel_rfl) (by kernel_rfl) (by go_simp) (till_past (by kernel_rfl)) ?_
  (try simp only [Act.put, List.setIfInBounds_toArray, List.set_cons_zero, List.set_cons_succ])
  refine rt_done (by kernel_rfl) ?_ _
  have hr3 := setCell_row hHeld2.2 1 (.slice ra ps.length rc)
  have hk3 : ∀ k, k ≠ w.heap.size → (w2.setCell ⟨w.heap.size, 1, none⟩ (.slice ra ps.length rc)).heap[k]? = w2.heap[k]? := fun k hk => Below.heap_setCell _ _ _ _ hk
  have hlow : ∀ q, (Value.slice ra ps.length rc).ownBlock = some q → w1.heap.size ≤ q := fun q hq => (hT2.type hq).1
  have hR3 : RowR (w2.setCell ⟨w.heap.size, 1, none⟩ (.slice ra ps.length rc)) w.heap.size fall ps (Value.slice ra ps.length rc).ownBlock :=
    ⟨_, rfl, hr3, (hT2.low (Nat.zero_le _)).congr fun k cs _ hk => hk3 k (by have := hlow k hk; omega)⟩
  have hB3 : Below w.heap.size w (w2.setCell ⟨w.heap.size, 1, none⟩ (.slice ra ps.length rc)) := (HB1.out.drew.trans (grown_below hg2 (by simp; omega) (fun k hk => by cases hk))).trans ⟨rfl, rfl, rfl, by simp, fun k hk => hk3 k (by omega)⟩
  have hlow3 : ∀ q, (Value.slice ra ps.length rc).ownBlock = some q → w.heap.size ≤ q := fun q hq => by have := hlow q hq; omega
  generalize w2.setCell ⟨w.heap.size, 1, none⟩ (.slice ra ps.length rc) = w3 at hR3 hB3 ⊢
  generalize (Value.slice ra ps.length rc).ownBlock = g3 at hR3 hlow3
  clear hHeld hHeld2 k1 z1 hrun hg2 hr3 hk3 hT2 hT1 hh1 hlow HRK HC1
  go_wp2_with fail
  go_loopw [4, 5, 6] (fun ov _ _ wr => ∃ (L ps1 : List Pair) (g1 : Option Nat), L ++ PP.sorted fall ps1 = PP.sorted fall ps ∧ L.length + ps1.length = ps.length ∧ RowR wr w.heap.size fall ps1 g1 ∧ (∀ q, g1 = some q → w.heap.size ≤ q) ∧ RowT wr w.heap.size ov L ∧ (∀ q, g1 = some q → ov.ownBlock = some q → False) ∧ Below w.heap.size w wr) (fun ov _ _ _ => ps.length - sliceLen ov)
  case atStart => exact ⟨[], ps, g3, rfl, by simp, hR3, hlow3, .inl ⟨rfl, rfl⟩, (fun q _ h => by cases h), hB3⟩
  case round =>
    clear hR3 hB3 hlow3
    obtain ⟨L, ps1, g1, hS, hLn, hR, hlow, hO, hap, hB⟩ := hrel
    have hlen := hO.len
    have HS := Lib.hid hS
    have HLN := Lib.hid hLn
    clear hS hLn
    obtain ⟨sl, hge, hh, hT⟩ := id hR
    obtain ⟨ra1, rc1, rfl⟩ := hT.slice
    have c1 : wr.cell? ⟨w.heap.size, 1, none⟩ = some (.slice ra1 ps1.length rc1) := by rw [cell_of_row _ _ _ _ _ _ hh]; rfl
    clear hh hT
    by_cases hn : 0 < ps1.length
    · obtain ⟨b, hb1⟩ := first_some (fall := fall) hn
      have hbl := first_lt b hb1
      have hst := sort_step hb1
      have hl2 := List.length_eraseIdx_of_lt hbl
      have HF := Lib.hid hb1
      have HST := Lib.hid hst
      have HL2 := Lib.hid hl2
      clear hb1 hst hl2
      go_wp2_with fail
      refine (popR w.heap.size fall 0 ps1 g1 wr hR (by have := HLN.out; omega)).mono ?_
      rintro e w5 h5
      have hask : askR true 0 = PP.all := rfl
      rw [hask, HF.out] at h5
      obtain ⟨he, g5, hR5, hT5, _⟩ := h5
      generalize ps1.getD b default = y at he HST
      subst he
      have hO5 : RowT w5 w.heap.size u4 L := hO.congr fun k cs hk ho => hT5.block k (lt_of_block hk) (fun e => RowT.ne_row hR hO (e ▸ ho)) (fun e => hap k e.symm ho)
      have hB5 := hB.trans (hT5.below hB.size (Nat.le_refl _) hlow)
      have hap5 : ∀ q, g5 = some q → u4.ownBlock = some q → False := fun q hq ho => by
        rcases hT5.row with h1 | h1
        · exact hap q (h1 ▸ hq) ho
        · obtain ⟨_, cs, hc⟩ := hO.type ho
          have := lt_of_block hc
          have := h1 q hq
          omega
      have hlow5 : ∀ q, g5 = some q → w.heap.size ≤ q := fun q hq => by
        rcases hT5.row with h1 | h1
        · exact hlow q (h1 ▸ hq)
        · have := h1 q hq
          have := hB.size
          omega
      clear hask hR hT5 hO hB hap hlow c1
      simp only [pairV]
      have hsz5 := hB5.size
      have hk6 : ∀ k, k < w5.heap.size → ((w5.alloc (.cells #[.int .i64 y.1, .int .i64 y.2] 25)).alloc (.cells #[.int .i64 y.1, .int .i64 y.2] 25)).heap[k]? = w5.heap[k]? := fun k hk => by rw [heap_alloc_old _ _ (by simp; omega), heap_alloc_old _ _ hk]
      have hO6 := hO5.kept hk6
      obtain ⟨v8, w8, hrun, hO8, hg8, hrow8, _⟩ := hO6.push2 (by simp; omega) y (w5.heap.size + 1) 1 (heap_alloc2_new w5 _ _) (by have := HLN.out; omega)
      have hR6 := hR5.kept hk6
      have hR8 := hR6.grown hg8 (RowT.ne_row hR6 hO6) (fun q hq ho => hap5 q hq ho)
      have hB8 := ((hB5.alloc hsz5 (.cells #[.int .i64 y.1, .int .i64 y.2] 25)).alloc (by simp; omega) (.cells #[.int .i64 y.1, .int .i64 y.2] 25)).trans (grown_below hg8 (by simp; omega) (fun k hk => (hO6.type hk).1))
      have hap8 : ∀ q, g5 = some q → v8.ownBlock = some q → False := fun q hq ho => by
        rcases hrow8 with h1 | h1
        · exact hap5 q hq (h1 ▸ ho)
        · have := h1 q ho
          have := (hR5.glt hq).1
          have h9 : ((w5.alloc (.cells #[.int .i64 y.1, .int .i64 y.2] 25)).alloc (.cells #[.int .i64 y.1, .int .i64 y.2] 25)).heap.size = w5.heap.size + 2 := by simp
          omega
      have HR8 := Lib.hid hR8
      have HB8 := Lib.hid hB8
      have HO8 := Lib.hid hO8
      have hl8 := hO8.len
      have HL8 := Lib.hid hl8
      clear hO5 hO6 hR5 hR6 hR8 hB8 hO8 hB5 hap5 hg8 hrow8 hk6 hl8
      go_wp2_with (refine wpList_val (w' := w8) v8 (by kernel_rfl) (exec_append2 rfl rfl rfl rfl ?_) ?_; focus (exact hrun))
      refine ⟨⟨L ++ [y], ps1.eraseIdx b, g5, by rw [List.append_assoc, List.singleton_append, ← HST.out]; exact HS.out, by have := HLN.out; have := HL2.out; simp; omega, HR8.out, hlow5, HO8.out, hap8, HB8.out⟩, ?_⟩
      have h1 := HL8.out
      have h2 := HLN.out
      simp at h1
      omega
    · have he1 : ps1 = [] := List.length_eq_zero_iff.1 (by omega)
      have hz : ((ps1.length : Nat) : Int) = 0 := by omega
      have hLe : L = PP.sorted fall ps := by
        have := HS.out
        rw [he1] at this
        simpa [PP.sorted, PP.sort] using this
      have HLE := Lib.hid hLe
      clear hLe he1
      go_wp2_with fail
      go_ret
      exact ⟨_, rfl, by rw [← HLE.out]; exact hO, hB⟩
end Go.Proofs.Ytffioombjejchaa
