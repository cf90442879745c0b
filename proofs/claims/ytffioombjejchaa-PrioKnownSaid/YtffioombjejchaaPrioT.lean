/- prio: the document's row: Take, Pop, Remove, Peek by contract. -/
import Derived.Test.YtffioombjejchaaPrioS
namespace Go.Proofs.Ytffioombjejchaa
set_option linter.unusedVariables false
set_option linter.unusedSimpArgs false
open Go.RowKit
attribute [local irreducible] Go.wpStill

theorem take_erase_step {ps : List Pair} {b k : Nat} {p : Pair} (hp : ps[k]? = some p) : (ps.take (k + 1)).eraseIdx b = if k = b then (ps.take k).eraseIdx b else (ps.take k).eraseIdx b ++ [p] := by
  have hk : k < ps.length := (List.getElem?_eq_some_iff.1 hp).1
  have h1 : ps.take (k + 1) = ps.take k ++ [p] := by rw [List.take_add_one, hp]; rfl
  have hl : (ps.take k).length = k := by rw [List.length_take]; omega
  rw [h1, List.eraseIdx_append]
  by_cases e : k = b
  · subst e
    rw [if_neg (by omega), if_pos rfl, hl, Nat.sub_self, List.eraseIdx_of_length_le (Nat.le_of_eq hl)]
    simp
  · rw [if_neg e]
    by_cases e2 : b < k
    · rw [if_pos (by omega)]
    · rw [if_neg (by omega), hl, List.eraseIdx_of_length_le (l := ps.take k) (by rw [hl]; omega), List.eraseIdx_of_length_le (l := [p]) (by simp; omega)]
theorem RowT.low {w : World} {B B' : Nat} {v : Value} {ps : List Pair} (a : RowT w B v ps) (h : B' ≤ B) : RowT w B' v ps := by
  rcases a with h1 | ⟨g, cap, cur, h1, h2, h3⟩
  · exact .inl h1
  · exact .inr ⟨g, cap, cur, h1, by omega, h3⟩
theorem RowR.touch {w w' : World} {h b : Nat} {fall : Bool} {ps : List Pair} {g : Option Nat} (a : RowR w h fall ps g) (ho : ∀ k, k ≠ b → w'.heap[k]? = w.heap[k]?) (hb : h ≠ b) (hg : g = some b → False) : RowR w' h fall ps g := by
  obtain ⟨sl, h1, h2, h3⟩ := a
  exact ⟨sl, h1, (ho h hb).trans h2, h3.congr fun k cs _ hk => ho k (fun e => hg (by rw [← h1, hk, e]))⟩
/-- what the row answers to Take, Pop and Remove, and what is left -/
def TookR (w : World) (h : Nat) (fall : Bool) (ps : List Pair) (g o : Option Nat) (e : Ending) (w' : World) : Prop :=
  match o with
  | none => e = .returned (.tuple #[zeroP, .bool false]) ∧ Below w.heap.size w w'
  | some b => e = .returned (.tuple #[pairV (ps.getD b default), .bool true]) ∧ ∃ g', RowR w' h fall (ps.eraseIdx b) g' ∧ Tch w w' h g g' ∧ ∀ k, g' = some k → w.heap.size ≤ k
set_option maxRecDepth 100000 in
set_option maxHeartbeats 2000000 in
theorem takeR (h : Nat) (fall : Bool) (ps : List Pair) (g o : Option Nat) (w : World) (hR : RowR w h fall ps g) (hb : ps.length * 16 ≤ 140737488351232) (ho : ∀ b, o = some b → b < ps.length) :
    Calls Try.prog 42 #[.pointer (some ⟨h, 0, none⟩), .int .i64 (bestV o)] w (TookR w h fall ps g o) := by
  obtain ⟨sl, hg, hh, hT⟩ := id hR
  obtain ⟨ao, cap, rfl⟩ := hT.slice
  have hlt := lt_of_block hh
  cases o with
  | none =>
    simp only [bestV]
    go_enter Try.func42, Try.ntmps42
    go_wp2_with fail
    exact bodyPost_ret (v := .tuple #[zeroP, .bool false]) (by simp [results, Try.results42, go_sem, zeroP]) rfl ⟨rfl, (Below.refl _ _).alloc (Nat.le_refl _) _⟩
  | some b =>
    have hbl := ho b rfl
    obtain ⟨p, hp⟩ : ∃ p, ps[b]? = some p := ⟨_, List.getElem?_eq_getElem hbl⟩
    have hgd : ps.getD b default = p := by rw [List.getD_eq_getElem?_getD, hp]; rfl
    obtain ⟨_, ao', cp, hva, hra⟩ := hT.reads (by omega)
    injection hva with h1 h2 h3
    subst h1
    obtain ⟨gg, rfl, hcp⟩ := hra b p hp
    have c1 : w.cell? ⟨h, 1, none⟩ = some (.slice (some ⟨gg, 0, none⟩) ps.length cap) := by rw [cell_of_row _ _ _ _ _ _ hh]; rfl
    have e0 := hcp 0 _ rfl
    have e1 := hcp 1 _ rfl
    have hggl := rangeAt_lt hcp
    simp only [Nat.add_zero] at e0
    have HGD := Lib.hid hgd
    have HH := Lib.hid hh
    have HT := Lib.hid hT
    clear h2 h3 hra hh hT hR ho hgd hcp hp
    simp only [bestV]
    go_enter Try.func42, Try.ntmps42
    go_wp2_with fail
    have hB3 : Below w.heap.size w ((w.alloc (.cells #[.int .i64 0, .int .i64 0] 25)).alloc (.cells #[.int .i64 p.1, .int .i64 p.2] 25)) := ((Below.refl _ _).alloc (Nat.le_refl _) _).alloc (by simp) _
    have hs3 : ((w.alloc (.cells #[.int .i64 0, .int .i64 0] 25)).alloc (.cells #[.int .i64 p.1, .int .i64 p.2] 25)).heap.size = w.heap.size + 2 := by simp
    have hZ3 := heap_alloc2_old w (.cells #[.int .i64 0, .int .i64 0] 25) (.cells #[.int .i64 p.1, .int .i64 p.2] 25)
    have hP3 := heap_alloc2_new w (.cells #[.int .i64 0, .int .i64 0] 25) (.cells #[.int .i64 p.1, .int .i64 p.2] 25)
    have HZ3 := Lib.hid hZ3
    have HP3 := Lib.hid hP3
    clear hZ3 hP3
    generalize (w.alloc (.cells #[.int .i64 0, .int .i64 0] 25)).alloc (.cells #[.int .i64 p.1, .int .i64 p.2] 25) = w3 at hB3 hs3 HZ3 HP3 ⊢
    clear e0 e1
    go_loopw [7, 8] (fun rv kv wr => ∃ k : Nat, k ≤ ps.length ∧ kv = .int .i64 k ∧ RowT wr w3.heap.size rv ((ps.take k).eraseIdx b) ∧ Below w3.heap.size w3 wr) (fun _ kv _ => ps.length - (intOf kv).toNat)
    case atStart => exact ⟨0, by omega, rfl, .inl ⟨rfl, by simp⟩, Below.refl _ _⟩
    case round =>
      obtain ⟨k, hk, rfl, hR4, hW⟩ := hrel
      have hh4 := rowAt_below (rowAt_below HH.out hB3) hW
      have c2 : wr.cell? ⟨h, 1, none⟩ = some (.slice (some ⟨gg, 0, none⟩) ps.length cap) := by rw [cell_of_row _ _ _ _ _ _ hh4]; rfl
      by_cases hkl : k < ps.length
      · obtain ⟨q, hq⟩ : ∃ q, ps[k]? = some q := ⟨_, List.getElem?_eq_getElem hkl⟩
        by_cases hkb : k = b
        · have hst := take_erase_step (b := b) hq
          rw [if_pos hkb] at hst
          have HST := Lib.hid hst
          have hkb' : ((k : Int) != (b : Int)) = false := by simp; omega
          clear hst hq hkb hh4
          go_wp2_with fail
          exact ⟨⟨k + 1, by omega, by go_num, by rw [HST.out]; exact hR4, hW⟩, by simp [intOf]; omega⟩
        · have hst := take_erase_step (b := b) hq
          rw [if_neg hkb] at hst
          have HST := Lib.hid hst
          have hkb' : ((k : Int) != (b : Int)) = true := by simp; omega
          obtain ⟨_, ao', cp', hva, hra⟩ := ((HT.out.below hB3).below hW).reads (by omega)
          injection hva with h1 h2 h3
          obtain ⟨g2, hg2, hcq⟩ := hra k q hq
          rw [hg2] at h1
          injection h1 with h1
          injection h1 with h1
          subst h1
          have e2 := hcq 0 _ rfl
          have e3 := hcq 1 _ rfl
          simp only [Nat.add_zero] at e2
          have hlen : ((ps.take k).eraseIdx b).length ≤ k := by
            have := List.length_eraseIdx_le (ps.take k) b
            rw [List.length_take] at this
            omega
          have hsz4 := hW.size
          have hR4' := hR4.kept (w' := wr.alloc (.cells #[.int .i64 q.1, .int .i64 q.2] 25)) (fun k hk => heap_alloc_old _ _ hk)
          obtain ⟨v5, w5, hrun, hR5, hg5, _, _⟩ := hR4'.push2 (by simp; omega) q wr.heap.size 1 (heap_alloc_new wr _) (by omega)
          clear h2 h3 hra hst hq hkb hh4 hg2 hcq
          go_wp2_with (refine wpList_val v5 (by kernel_rfl) (exec_append2 rfl rfl rfl rfl hrun) ?_)
          exact ⟨⟨k + 1, by omega, by go_num, by rw [HST.out]; exact hR5, (hW.alloc hsz4 _).trans (grown_below hg5 (by simp; omega) (fun k hk => (hR4'.type hk).1))⟩, by simp [intOf]; omega⟩
      · have hke : k = ps.length := by omega
        subst hke
        rw [List.take_length] at hR4
        have z1 : wr.frozen? ⟨h, 1, none⟩ = false := by simp [World.frozen?, hh4]
        have hsz4 := hW.size
        have hP4 := rowAt_below HP3.out hW
        have hZ4 := rowAt_below HZ3.out hW
        have f0 : wr.cell? ⟨w.heap.size + 1, 0, none⟩ = some (.int .i64 p.1) := by rw [cell_of_row _ _ _ _ _ _ hP4]; rfl
        have f1 : wr.cell? ⟨w.heap.size + 1, 1, none⟩ = some (.int .i64 p.2) := by rw [cell_of_row _ _ _ _ _ _ hP4]; rfl
        have n1 : (w.heap.size + 1 = h) = False := by simp; omega
        have n2 : (w.heap.size = h) = False := by simp; omega
        have n3 : (h = w.heap.size + 1) = False := by simp; omega
        have n4 : (h = w.heap.size) = False := by simp; omega
        obtain ⟨ra, rc, rfl⟩ := hR4.slice
        have hh5 := setCell_row hh4 1 (.slice ra (ps.eraseIdx b).length rc)
        have hk5 : ∀ k, k ≠ h → (wr.setCell ⟨h, 1, none⟩ (.slice ra (ps.eraseIdx b).length rc)).heap[k]? = wr.heap[k]? := fun k hk => Below.heap_setCell _ _ _ _ hk
        have hZ5 := (hk5 w.heap.size (by omega)).trans hZ4
        have hT5 : Tch w (wr.setCell ⟨h, 1, none⟩ (.slice ra (ps.eraseIdx b).length rc)) h g g := (Tch.of_below (hB3.trans (hW.mono (by omega))) h g).trans (Tch.setCell_h h 1 _ _)
        have HH5 := Lib.hid hh5
        have HK5 := Lib.hid hk5
        clear hh5 hk5 hP4 hZ4 hh4
        go_wp2_with (refine wpList_store_any rfl 25 _ _ rfl w.heap.size _ rfl rfl 25 _ hZ5 (by kernel_rfl) rfl (by simp [Value.oneCell']) ?_; intro w6 hr6 hs6 hbl6 hot6)
        have hrow : ∀ k, (Value.slice ra (ps.eraseIdx b).length rc).ownBlock = some k → w3.heap.size ≤ k := fun k hk => (hR4.type hk).1
        have hT6 := hT5.store_new (Nat.le_refl _) hs6 hbl6 hot6
        refine bodyPost_ret (v := .tuple #[pairV p, .bool true]) (results_cell_row_tmp (fn := Try.f42) (p := 4) (u := 5) rfl _ _ w.heap.size 25 _ (0, 0) _ rfl hr6 Try.underlying25 rfl (by kernel_rfl)) rfl ⟨by rw [HGD.out], _, ⟨_, rfl, (hot6 h (by omega)).trans HH5.out, ?_⟩, ⟨hT6.os, hT6.tape, hT6.output, hT6.size, hT6.block, .inr fun k hk => by have := hrow k hk; omega⟩, fun k hk => by have := hrow k hk; omega⟩
        refine (hR4.low (Nat.zero_le _)).congr fun k cs _ hk => ?_
        have := hrow k hk
        exact (hot6 k (by omega)).trans (HK5.out k (by omega))
/-- who was taken out, by First and Take -/
theorem first_lt {fall : Bool} {p : Pair → Bool} {ps : List Pair} : ∀ b, PP.first fall p ps = some b → b < ps.length := fun b h => (PP.best_lt h).1
set_option maxRecDepth 100000 in
set_option maxHeartbeats 2000000 in
theorem popR (h : Nat) (fall : Bool) (z : Int) (ps : List Pair) (g : Option Nat) (w : World) (hR : RowR w h fall ps g) (hb : ps.length * 16 ≤ 140737488351232) :
    Calls Try.prog 13 #[.pointer (some ⟨h, 0, none⟩)] w (TookR w h fall ps g (PP.first fall (askR true 0) ps)) := by
  have hlt := hR.hlt
  have hB1 : Below w.heap.size w (w.alloc (.cells #[.int .i64 0, .int .i64 0] 25)) := (Below.refl _ _).alloc (Nat.le_refl _) _
  have hZ1 := heap_alloc_new w (.cells #[.int .i64 0, .int .i64 0] 25)
  have hs1 : (w.alloc (.cells #[.int .i64 0, .int .i64 0] 25)).heap.size = w.heap.size + 1 := by simp
  have HB1 := Lib.hid hB1
  have HZ1 := Lib.hid hZ1
  have HS1 := Lib.hid hs1
  clear hB1 hZ1 hs1
  go_enter Try.func13, Try.ntmps13
  go_wp2_with fail
  generalize w.alloc (.cells #[.int .i64 0, .int .i64 0] 25) = w1 at HB1 HZ1 HS1 ⊢
  refine (firstR h fall true 0 ps g _ (hR.below HB1.out) (by omega)).mono ?_
  rintro e w2 ⟨rfl, hb2⟩
  go_wp2_with fail
  refine (takeR h fall ps g (PP.first fall (askR true 0) ps) w2 ((hR.below HB1.out).below hb2) hb first_lt).mono ?_
  rintro e w3 h3
  have hZ2 := rowAt_below HZ1.out hb2
  have hB2 := HB1.out.trans (hb2.mono HB1.out.size)
  have hs2 : w.heap.size + 1 ≤ w2.heap.size := by have := hb2.size; have := HS1.out; omega
  cases ho : PP.first fall (askR true 0) ps with
  | none =>
    rw [ho] at h3
    obtain ⟨rfl, hb3⟩ := h3
    have hZ3 := rowAt_below hZ2 hb3
    have HB3 := Lib.hid (hB2.trans (hb3.mono hB2.size))
    have HO := Lib.hid ho
    clear hZ2 hb3 hB2 ho
    simp only [zeroP]
    go_wp2_with (refine wpList_store_any rfl 25 _ _ rfl w.heap.size _ rfl rfl 25 _ hZ3 (by kernel_rfl) rfl (by simp [Value.oneCell']) ?_; intro w6 hr6 hs6 hbl6 hot6)
    exact bodyPost_ret (v := .tuple #[zeroP, .bool false]) (results_cell_row_tmp (fn := Try.f13) (p := 2) (u := 3) rfl _ _ w.heap.size 25 _ (0, 0) _ rfl hr6 Try.underlying25 rfl (by kernel_rfl)) rfl (by unfold TookR; rw [HO.out]; exact ⟨rfl, hbl6 _ _ HB3.out (Nat.le_refl _)⟩)
  | some b =>
    rw [ho] at h3
    obtain ⟨rfl, g', hR3, hT3, hg3⟩ := h3
    have hgl : ∀ k, g = some k → k < w.heap.size := fun k hk => (hR.glt hk).1
    have hZ3 := (hT3.block w.heap.size (by omega) (by omega) (fun e => by have := hgl _ e.symm; omega)).trans hZ2
    have HT3 := Lib.hid ((Tch.of_below hB2 h g).trans hT3)
    have HR3 := Lib.hid hR3
    have HO := Lib.hid ho
    clear hZ2 hT3 hR3 hB2 ho
    simp only [pairV]
    go_wp2_with (refine wpList_store_any rfl 25 _ _ rfl w.heap.size _ rfl rfl 25 _ hZ3 (by kernel_rfl) rfl (by simp [Value.oneCell']) ?_; intro w6 hr6 hs6 hbl6 hot6)
    have hT6 := HT3.out.store_new (Nat.le_refl _) hs6 hbl6 hot6
    refine bodyPost_ret (v := .tuple #[pairV (ps.getD b default), .bool true]) (results_cell_row_tmp (fn := Try.f13) (p := 2) (u := 3) rfl _ _ w.heap.size 25 _ (0, 0) _ rfl hr6 Try.underlying25 rfl (by kernel_rfl)) rfl (by unfold TookR; rw [HO.out]; exact ⟨rfl, g', HR3.out.touch hot6 (by omega) (fun e => by have := hg3 _ e; omega), hT6, fun k hk => by have := hg3 k hk; omega⟩)
set_option maxRecDepth 100000 in
set_option maxHeartbeats 2000000 in
theorem removeR (h : Nat) (fall : Bool) (z : Int) (ps : List Pair) (g : Option Nat) (w : World) (hR : RowR w h fall ps g) (hb : ps.length * 16 ≤ 140737488351232) :
    Calls Try.prog 20 #[.pointer (some ⟨h, 0, none⟩), .int .i64 z] w (TookR w h fall ps g (PP.first fall (askR false z) ps)) := by
  have hlt := hR.hlt
  have hB1 : Below w.heap.size w (w.alloc (.cells #[.int .i64 0, .int .i64 0] 25)) := (Below.refl _ _).alloc (Nat.le_refl _) _
  have hZ1 := heap_alloc_new w (.cells #[.int .i64 0, .int .i64 0] 25)
  have hs1 : (w.alloc (.cells #[.int .i64 0, .int .i64 0] 25)).heap.size = w.heap.size + 1 := by simp
  have HB1 := Lib.hid hB1
  have HZ1 := Lib.hid hZ1
  have HS1 := Lib.hid hs1
  clear hB1 hZ1 hs1
  go_enter Try.func20, Try.ntmps20
  go_wp2_with fail
  generalize w.alloc (.cells #[.int .i64 0, .int .i64 0] 25) = w1 at HB1 HZ1 HS1 ⊢
  refine (firstR h fall false z ps g _ (hR.below HB1.out) (by omega)).mono ?_
  rintro e w2 ⟨rfl, hb2⟩
  go_wp2_with fail
  refine (takeR h fall ps g (PP.first fall (askR false z) ps) w2 ((hR.below HB1.out).below hb2) hb first_lt).mono ?_
  rintro e w3 h3
  have hZ2 := rowAt_below HZ1.out hb2
  have hB2 := HB1.out.trans (hb2.mono HB1.out.size)
  have hs2 : w.heap.size + 1 ≤ w2.heap.size := by have := hb2.size; have := HS1.out; omega
  cases ho : PP.first fall (askR false z) ps with
  | none =>
    rw [ho] at h3
    obtain ⟨rfl, hb3⟩ := h3
    have hZ3 := rowAt_below hZ2 hb3
    have HB3 := Lib.hid (hB2.trans (hb3.mono hB2.size))
    have HO := Lib.hid ho
    clear hZ2 hb3 hB2 ho
    simp only [zeroP]
    go_wp2_with (refine wpList_store_any rfl 25 _ _ rfl w.heap.size _ rfl rfl 25 _ hZ3 (by kernel_rfl) rfl (by simp [Value.oneCell']) ?_; intro w6 hr6 hs6 hbl6 hot6)
    exact bodyPost_ret (v := .tuple #[zeroP, .bool false]) (results_cell_row_tmp (fn := Try.f20) (p := 4) (u := 5) rfl _ _ w.heap.size 25 _ (0, 0) _ rfl hr6 Try.underlying25 rfl (by kernel_rfl)) rfl (by unfold TookR; rw [HO.out]; exact ⟨rfl, hbl6 _ _ HB3.out (Nat.le_refl _)⟩)
  | some b =>
    rw [ho] at h3
    obtain ⟨rfl, g', hR3, hT3, hg3⟩ := h3
    have hgl : ∀ k, g = some k → k < w.heap.size := fun k hk => (hR.glt hk).1
    have hZ3 := (hT3.block w.heap.size (by omega) (by omega) (fun e => by have := hgl _ e.symm; omega)).trans hZ2
    have HT3 := Lib.hid ((Tch.of_below hB2 h g).trans hT3)
    have HR3 := Lib.hid hR3
    have HO := Lib.hid ho
    clear hZ2 hT3 hR3 hB2 ho
    simp only [pairV]
    go_wp2_with (refine wpList_store_any rfl 25 _ _ rfl w.heap.size _ rfl rfl 25 _ hZ3 (by kernel_rfl) rfl (by simp [Value.oneCell']) ?_; intro w6 hr6 hs6 hbl6 hot6)
    have hT6 := HT3.out.store_new (Nat.le_refl _) hs6 hbl6 hot6
    refine bodyPost_ret (v := .tuple #[pairV (ps.getD b default), .bool true]) (results_cell_row_tmp (fn := Try.f20) (p := 4) (u := 5) rfl _ _ w.heap.size 25 _ (0, 0) _ rfl hr6 Try.underlying25 rfl (by kernel_rfl)) rfl (by unfold TookR; rw [HO.out]; exact ⟨rfl, g', HR3.out.touch hot6 (by omega) (fun e => by have := hg3 _ e; omega), hT6, fun k hk => by have := hg3 k hk; omega⟩)
def PeekP (w : World) (ps : List Pair) (o : Option Nat) (e : Ending) (w' : World) : Prop := e = .returned (match o with | none => .tuple #[zeroP, .bool false] | some b => .tuple #[pairV (ps.getD b default), .bool true]) ∧ Below w.heap.size w w'
set_option maxRecDepth 100000 in
theorem peekR (h : Nat) (fall : Bool) (ps : List Pair) (g : Option Nat) (w : World) (hR : RowR w h fall ps g) (hb : ps.length * 16 ≤ 140737488351232) :
    Calls Try.prog 17 #[.pointer (some ⟨h, 0, none⟩)] w (PeekP w ps (PP.first fall (askR true 0) ps)) := by
  have hlt := hR.hlt
  have hB1 : Below w.heap.size w (w.alloc (.cells #[.int .i64 0, .int .i64 0] 25)) := (Below.refl _ _).alloc (Nat.le_refl _) _
  have hZ1 := heap_alloc_new w (.cells #[.int .i64 0, .int .i64 0] 25)
  have HB1 := Lib.hid hB1
  have HZ1 := Lib.hid hZ1
  clear hB1 hZ1
  go_enter Try.func17, Try.ntmps17
  go_wp2_with fail
  generalize w.alloc (.cells #[.int .i64 0, .int .i64 0] 25) = w1 at HB1 HZ1 ⊢
  refine (firstR h fall true 0 ps g _ (hR.below HB1.out) (by omega)).mono ?_
  rintro e w2 ⟨rfl, hb2⟩
  have hR2 := (hR.below HB1.out).below hb2
  have hZ2 := rowAt_below HZ1.out hb2
  have HB2 := Lib.hid (HB1.out.trans (hb2.mono HB1.out.size))
  obtain ⟨sl, hg, hh, hT⟩ := hR2
  obtain ⟨ao, cap, rfl⟩ := hT.slice
  have c1 : w2.cell? ⟨h, 1, none⟩ = some (.slice ao ps.length cap) := by rw [cell_of_row _ _ _ _ _ _ hh]; rfl
  cases ho : PP.first fall (askR true 0) ps with
  | none =>
    have HO := Lib.hid ho
    clear hb2 hT ho
    simp only [bestV]
    go_wp2_with (refine wpList_store_any rfl 25 _ _ rfl w.heap.size _ rfl rfl 25 _ hZ2 (by kernel_rfl) rfl (by simp [Value.oneCell']) ?_; intro w6 hr6 hs6 hbl6 hot6)
    exact bodyPost_ret (v := .tuple #[zeroP, .bool false]) (results_cell_row_tmp (fn := Try.f17) (p := 2) (u := 3) rfl _ _ w.heap.size 25 _ (0, 0) _ rfl hr6 Try.underlying25 rfl (by kernel_rfl)) rfl (by unfold PeekP; rw [HO.out]; exact ⟨rfl, hbl6 _ _ HB2.out (Nat.le_refl _)⟩)
  | some b =>
    have hbl := first_lt b ho
    obtain ⟨q, hq⟩ : ∃ q, ps[b]? = some q := ⟨_, List.getElem?_eq_getElem hbl⟩
    have hqd : ps.getD b default = q := by rw [List.getD_eq_getElem?_getD, hq]; rfl
    obtain ⟨_, ao', cp, hva, hra⟩ := hT.reads (by omega)
    injection hva with h1 h2 h3
    subst h1
    obtain ⟨gg, rfl, hcq⟩ := hra b q hq
    have e0 := hcq 0 _ rfl
    have e1 := hcq 1 _ rfl
    simp only [Nat.add_zero] at e0
    have HQD := Lib.hid hqd
    have HO := Lib.hid ho
    clear hb2 hT ho h2 h3 hra hq hqd hcq
    simp only [bestV]
    go_wp2_with (refine wpList_store_any rfl 25 _ _ rfl w.heap.size _ rfl rfl 25 _ hZ2 (by kernel_rfl) rfl (by simp [Value.oneCell']) ?_; intro w6 hr6 hs6 hbl6 hot6)
    exact bodyPost_ret (v := .tuple #[pairV q, .bool true]) (results_cell_row_tmp (fn := Try.f17) (p := 2) (u := 3) rfl _ _ w.heap.size 25 _ (0, 0) _ rfl hr6 Try.underlying25 rfl (by kernel_rfl)) rfl (by unfold PeekP; rw [HO.out]; exact ⟨by simp only [HQD.out], hbl6 _ _ HB2.out (Nat.le_refl _)⟩)
end Go.Proofs.Ytffioombjejchaa
