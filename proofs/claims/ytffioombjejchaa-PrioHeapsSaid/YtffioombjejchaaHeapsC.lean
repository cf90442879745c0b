/- prio: the law PrioHeaps by contract. Printed by gen_heaps.py. -/
import Derived.Test.YtffioombjejchaaHeapsB
namespace Go.Proofs.Ytffioombjejchaa
set_option linter.unusedVariables false
set_option linter.unusedSimpArgs false
open Go.RowKit
attribute [local irreducible] Go.wpStill

theorem start_two {w w2 : World} {B : Nat} (hB : w.heap.size = B) (hs2 : w2.heap.size = B + 2 + 2) (h1 : HeapP w2 (B + 1) B false [] 0 none) (h2 : HeapP w2 (B + 2 + 1) (B + 2) true [] 0 none) (hb : Below B w w2) :
    ∃ H c Q : Nat → Nat, TwoH w ((((w2.alloc (.cells #[.pointer (some ⟨B + 1, 0, none⟩), .pointer (some ⟨B + 2 + 1, 0, none⟩)] 27)).alloc (.cells #[.bool false, .slice none 0 0] 31)).alloc (.cells #[.bool true, .slice none 0 0] 31)).alloc (.cells #[.pointer (some ⟨B + 2 + 2 + 1, 0, none⟩), .pointer (some ⟨B + 2 + 2 + 1 + 1, 0, none⟩)] 32)) B H c Q (fun _ => []) (fun _ => []) (fun _ => 0) (fun _ => none) (fun _ => none) 0 (fun _ => .slice none 0 0) (fun _ => []) (.slice none 0 0) ∧
      Tabs ((((w2.alloc (.cells #[.pointer (some ⟨B + 1, 0, none⟩), .pointer (some ⟨B + 2 + 1, 0, none⟩)] 27)).alloc (.cells #[.bool false, .slice none 0 0] 31)).alloc (.cells #[.bool true, .slice none 0 0] 31)).alloc (.cells #[.pointer (some ⟨B + 2 + 2 + 1, 0, none⟩), .pointer (some ⟨B + 2 + 2 + 1 + 1, 0, none⟩)] 32)) (B + 2 + 2) (B + 2 + 2 + 1 + 1 + 1) H Q := by
  generalize ho1 : Obj.cells #[.pointer (some ⟨B + 1, 0, none⟩), .pointer (some ⟨B + 2 + 1, 0, none⟩)] 27 = o1
  generalize ho2 : Obj.cells #[.bool false, .slice none 0 0] 31 = o2
  generalize ho3 : Obj.cells #[.bool true, .slice none 0 0] 31 = o3
  generalize ho4 : Obj.cells #[.pointer (some ⟨B + 2 + 2 + 1, 0, none⟩), .pointer (some ⟨B + 2 + 2 + 1 + 1, 0, none⟩)] 32 = o4
  have s1 : (w2.alloc o1).heap.size = B + 2 + 2 + 1 := by simp; omega
  have s2 : ((w2.alloc o1).alloc o2).heap.size = B + 2 + 2 + 1 + 1 := by simp; omega
  have s3 : (((w2.alloc o1).alloc o2).alloc o3).heap.size = B + 2 + 2 + 1 + 1 + 1 := by simp; omega
  have hk : ∀ k, k < w2.heap.size → ((((w2.alloc o1).alloc o2).alloc o3).alloc o4).heap[k]? = w2.heap[k]? := fun k hk => by
    rw [heap_alloc_old _ _ (by omega), heap_alloc_old _ _ (by omega), heap_alloc_old _ _ (by omega), heap_alloc_old _ _ hk]
  have n1 : ((((w2.alloc o1).alloc o2).alloc o3).alloc o4).heap[B + 2 + 2]? = some o1 := by
    rw [heap_alloc_old _ _ (by omega), heap_alloc_old _ _ (by omega), heap_alloc_old _ _ (by omega), ← hs2, heap_alloc_new]
  have n2 : ((((w2.alloc o1).alloc o2).alloc o3).alloc o4).heap[B + 2 + 2 + 1]? = some o2 := by
    rw [heap_alloc_old _ _ (by omega), heap_alloc_old _ _ (by omega), ← s1, heap_alloc_new]
  have n3 : ((((w2.alloc o1).alloc o2).alloc o3).alloc o4).heap[B + 2 + 2 + 1 + 1]? = some o3 := by
    rw [heap_alloc_old _ _ (by omega), ← s2, heap_alloc_new]
  have n4 : ((((w2.alloc o1).alloc o2).alloc o3).alloc o4).heap[B + 2 + 2 + 1 + 1 + 1]? = some o4 := by
    rw [← s3, heap_alloc_new]
  have hbw : Below B w ((((w2.alloc o1).alloc o2).alloc o3).alloc o4) := (((hb.alloc (by omega) _).alloc (by omega) _).alloc (by omega) _).alloc (by omega) _
  refine ⟨fun n => if n = 0 then B + 1 else B + 2 + 1, fun n => if n = 0 then B else B + 2, fun n => if n = 0 then B + 2 + 2 + 1 else B + 2 + 2 + 1 + 1, ⟨fun n hn => ?_, fun n hn => ?_, fun n n' hn hn' h => ?_, fun n n' hn hn' h => ?_, (fun _ _ _ _ _ h => by cases h), (fun _ _ _ _ _ h => by cases h), (fun j hj => by omega), (fun j _ _ hj => by omega), (fun j _ _ hj => by omega), World.ownsRow_nil _ _ _ _, (fun n hn => ⟨?_, ?_, (fun q h => by cases h), (fun q h => by cases h)⟩), hbw, by have := hbw.size; omega⟩, ?_, ?_⟩
  · rcases n with _ | _ | n
    · exact h1.kept hk
    · exact h2.kept hk
    · omega
  · rcases n with _ | _ | n
    · exact ⟨_, rfl, n2.trans (by rw [← ho2]; rfl), .inl ⟨rfl, rfl⟩⟩
    · exact ⟨_, rfl, n3.trans (by rw [← ho3]; rfl), .inl ⟨rfl, rfl⟩⟩
    · omega
  · split at h <;> split at h <;> omega
  · split at h <;> split at h <;> omega
  · split <;> omega
  · split <;> omega
  · exact n1.trans (by rw [← ho1]; rfl)
  · exact n4.trans (by rw [← ho4]; rfl)
set_option maxRecDepth 100000 in
set_option maxHeartbeats 20000000 in
theorem prioHeaps_any (sv : Value) (xs : List ActT) (w : World) (hS : ReadsA w sv xs) : Calls Try.prog 3 #[sv] w (RetB true w) := by
  obtain ⟨hl, ao, cap, rfl, hr⟩ := id hS
  have HS := Lib.hid hS
  clear hS hr
  go_enter Try.func3, Try.ntmps3
  go_wp2_with fail
  refine (newP _ false w (.inl ⟨rfl, rfl⟩)).mono ?_
  rintro e w1 ⟨rfl, hA1, hB1, hs1⟩
  go_wp2_with fail
  refine (newP _ true w1 (.inr (.inl ⟨rfl, rfl⟩))).mono ?_
  rintro e w2 ⟨rfl, hA2, hB2, hs2⟩
  have hA12 := hA1.below hB2
  have hZ2 := hB1.trans (hB2.mono hB1.size)
  rw [hs1] at hA2 hs2
  generalize hB : w.heap.size = B at hA12 hA2 hZ2 hs1 hs2
  have HA1 := Lib.hid hA12
  have HA2 := Lib.hid hA2
  have HZ2 := Lib.hid hZ2
  clear hA1 hA2 hB1 hB2 hA12 hZ2
  go_wp2_with fail
  obtain ⟨H, c, Q, hTw, hTb⟩ := start_two hB hs2 HA1.out HA2.out HZ2.out
  generalize (((w2.alloc (.cells #[.pointer (some ⟨B + 1, 0, none⟩), .pointer (some ⟨B + 2 + 1, 0, none⟩)] 27)).alloc (.cells #[.bool false, .slice none 0 0] 31)).alloc (.cells #[.bool true, .slice none 0 0] 31)).alloc (.cells #[.pointer (some ⟨B + 2 + 2 + 1, 0, none⟩), .pointer (some ⟨B + 2 + 2 + 1 + 1, 0, none⟩)] 32) = w5 at hTw hTb ⊢
  generalize B + 2 + 2 + 1 + 1 + 1 = bR at hTb ⊢
  generalize B + 2 + 2 = bH at hTb ⊢
  clear HA1 HA2 HZ2 hs1 hs2
  go_loopw [5, 6] (fun tv iv wr => ∃ (k : Nat) (ps : Nat → List Pair) (m : Nat → Nat) (rr gg : Nat → Option Nat) (N : Nat) (TF : Nat → Value) (TC : Nat → List Pair), k ≤ xs.length ∧ iv = .int .i64 k ∧ TwoH w wr B H c Q ps ps m rr gg N TF TC tv ∧ Tabs wr bH bR H Q ∧ (∀ n, n < 2 → m n ≤ k) ∧ N ≤ k ∧ (∀ j, j < N → (TC j).length ≤ k)) (fun _ iv _ => xs.length - (intOf iv).toNat)
  case atStart => exact ⟨0, _, _, _, _, 0, _, _, by omega, rfl, hTw, hTb, (fun n _ => Nat.le_refl 0), Nat.le_refl 0, (fun j hj => by omega)⟩
  case round =>
    clear hTw hTb
    obtain ⟨k, ps, m, rr, gg, N, TF, TC, hk, rfl, hTw, hTb, hm, hN, hTC⟩ := hrel
    by_cases hkl : k < xs.length
    · obtain ⟨x, hx⟩ : ∃ x, xs[k]? = some x := ⟨_, List.getElem?_eq_getElem hkl⟩
      obtain ⟨_, ao', cap', hva, hra⟩ := HS.out.below (by rw [hB]; exact hTw.bl)
      injection hva with h1 h2 h3
      subst h1
      obtain ⟨ga, o, rfl, hca⟩ := hra k x hx
      clear h2 h3 hra hx cap'
      obtain ⟨on, kind, a, b⟩ := x
      simp only at hca
      have c0 := hca 0 _ rfl
      have c1 := hca 1 _ rfl
      have c2 := hca 2 _ rfl
      have c3 := hca 3 _ rfl
      simp only [Nat.add_zero] at c0
      have hsz := hTw.sz
      have HM := Lib.hid hm
      have HTC := Lib.hid hTC
      have HTw := Lib.hid hTw
      have HTb := Lib.hid hTb
      clear hca hm hTC hTw hTb
      go_wp2_with fail
      refine (pick_any on _).mono ?_
      rintro e wp ⟨⟨n, hn, rfl⟩, hbp⟩
      have hTwp := (HTw.out.alloc (.cells #[.int .i64 on, .int .i64 kind, .int .i64 a, .int .i64 b] 35)).below hbp
      have hTbp := (HTb.out.below ((Below.refl _ _).alloc (Nat.le_refl _) (.cells #[.int .i64 on, .int .i64 kind, .int .i64 a, .int .i64 b] 35))).below hbp
      have hXp := rowAt_below (heap_alloc_new wr (.cells #[.int .i64 on, .int .i64 kind, .int .i64 a, .int .i64 b] 35)) hbp
      have hszp : wr.heap.size < wp.heap.size := lt_of_block hXp
      have hk5 : ∀ k, k < wp.heap.size → ((wp.alloc (.cells #[.int .i64 0, .int .i64 0] 25)).alloc (.cells #[.int .i64 0, .int .i64 0] 25)).heap[k]? = wp.heap[k]? := fun k hk => by rw [heap_alloc_old _ _ (by simp; omega), heap_alloc_old _ _ hk]
      have hTw5 := (hTwp.alloc (.cells #[.int .i64 0, .int .i64 0] 25)).alloc (.cells #[.int .i64 0, .int .i64 0] 25)
      have hTb5 := (hTbp.below ((Below.refl _ _).alloc (Nat.le_refl _) (.cells #[.int .i64 0, .int .i64 0] 25))).below ((Below.refl _ _).alloc (Nat.le_refl _) (.cells #[.int .i64 0, .int .i64 0] 25))
      have hX5 := (hk5 _ (lt_of_block hXp)).trans hXp
      have h11 := heap_alloc2_old wp (.cells #[.int .i64 0, .int .i64 0] 25) (.cells #[.int .i64 0, .int .i64 0] 25)
      have h12 := heap_alloc2_new wp (.cells #[.int .i64 0, .int .i64 0] 25) (.cells #[.int .i64 0, .int .i64 0] 25)
      have hs5 : ((wp.alloc (.cells #[.int .i64 0, .int .i64 0] 25)).alloc (.cells #[.int .i64 0, .int .i64 0] 25)).heap.size = wp.heap.size + 2 := by simp
      have cH := hTbp.cellH hn
      have cR := hTbp.cellR hn
      have hcnt := (HTw.out.hp n hn).count
      have hmn := HM.out n hn
      have hgl : ∀ n q, n < 2 → gg n = some q → q < wp.heap.size := fun n q hn h => by
        have := ((HTw.out.rp n hn).glt h).1
        omega
      have htl : ∀ j q, j < N → (TF j).ownBlock = some q → q < wp.heap.size := fun j q hj h => by
        obtain ⟨_, cs, hc⟩ := (HTw.out.tl j hj).type h
        have := lt_of_block hc
        omega
      have hBp : B ≤ wp.heap.size := by omega
      have HGL := Lib.hid hgl
      have HTL := Lib.hid htl
      have HTw5 := Lib.hid hTw5
      have HTb5 := Lib.hid hTb5
      have HX5 := Lib.hid hX5
      have H11 := Lib.hid h11
      have H12 := Lib.hid h12
      have HS5 := Lib.hid hs5
      have d1 : wp.cell? ⟨wr.heap.size, 1, none⟩ = some (.int .i64 kind) := by rw [cell_of_row _ _ _ _ _ _ hXp]; rfl
      have d2 : wp.cell? ⟨wr.heap.size, 2, none⟩ = some (.int .i64 a) := by rw [cell_of_row _ _ _ _ _ _ hXp]; rfl
      have d3 : wp.cell? ⟨wr.heap.size, 3, none⟩ = some (.int .i64 b) := by rw [cell_of_row _ _ _ _ _ _ hXp]; rfl
      have hnI : (n : Int) < 2 := by omega
      clear hTwp hTbp hXp hk5 hTw5 hTb5 hX5 h11 h12 hs5 hgl htl hbp c0 c1 c2 c3 HTw HTb
      by_cases k0 : kind = 0
      · subst k0
        go_wp2_with fail
        generalize (wp.alloc (.cells #[.int .i64 0, .int .i64 0] 25)).alloc (.cells #[.int .i64 0, .int .i64 0] 25) = w5 at HTw5 HTb5 HX5 H11 H12 HS5 ⊢
        clear d1 d2 d3 cH cR
        have hs5' : wp.heap.size + 2 ≤ w5.heap.size := by have := HS5.out; omega
        refine (popP (H n) (c n) (m n) (dirOf n) (ps n) (rr n) w5 (HTw5.out.hp n hn) (by omega)).mono ?_
        rintro e w6 h6
        obtain ⟨rfl, hA6, hT6⟩ := tookH (p := askR true 0) (HTw5.out.hp n hn) h6
        generalize hR : takeF (dirOf n) (askR true 0) (ps n) = R at hA6
        obtain ⟨x, bb, ps'⟩ := R
        have HR := Lib.hid hR
        clear hR h6
        simp only at hA6
        have hTw6 := HTw5.out.heap hn hA6 hT6
        have hTb6 := HTb5.out.heap (HTw5.out.hp n hn) hT6
        have h11 := (HTw5.out.hp n hn).other hT6 H11.out (by decide) (by decide)
        have h12 := (HTw5.out.hp n hn).other hT6 H12.out (by decide) (by decide)
        have hs6 := hT6.size
        have hs6' : wp.heap.size + 2 ≤ w6.heap.size := by omega
        have HTw6 := Lib.hid hTw6
        have HTb6 := Lib.hid hTb6
        have HB11 := Lib.hid h11
        have HB12 := Lib.hid h12
        clear hTw6 hTb6 h11 h12 hA6 hs6
        simp only [pairV]
        clear hT6
        go_wp2_with (refine wpList_store_any rfl 25 _ _ rfl (wp.heap.size) _ rfl rfl 25 _ HB11.out (by kernel_rfl) rfl (by simp [Value.oneCell']) ?_; intro w7 hr7 hs7 hbl7 hot7)
        have hTw7 := HTw6.out.store HB11.out hBp (grown_of_store hs7 hbl7 hot7) (fun n hn h => by have := HGL.out n _ hn h; omega) (fun j hj h => by have := HTL.out j _ hj h; omega)
        have hTb7 := HTb6.out.stored HB11.out (grown_of_store hs7 hbl7 hot7)
        have h12 := (hot7 (wp.heap.size + 1) (by omega)).trans HB12.out
        have hs7' : wp.heap.size + 2 ≤ w7.heap.size := by omega
        have HTw7 := Lib.hid hTw7
        have HTb7 := Lib.hid hTb7
        have HC11 := Lib.hid hr7
        have HC12 := Lib.hid h12
        clear hTw7 hTb7 h12 hr7 hbl7 hot7 HTw6 HTb6 HB11 HB12 hs6' hs7
        refine (popR (Q n) (dirOf n) 0 (ps n) (gg n) w7 (HTw7.out.rp n hn) (by omega)).mono ?_
        rintro e w8 h8
        obtain ⟨rfl, g8, hR8, hT8⟩ := tookRow (HTw7.out.rp n hn) h8
        rw [HR.out] at hR8 ⊢
        simp only at hR8
        clear h8
        have hTw8 := HTw7.out.row hn hR8 hT8
        have hTb8 := HTb7.out.row (HTw7.out.rp n hn) hT8
        have h11 := (HTw7.out.rp n hn).pairOther hT8 HC11.out (fun h => by have := HGL.out n _ hn h; omega)
        have h12 := (HTw7.out.rp n hn).pairOther hT8 HC12.out (fun h => by have := HGL.out n _ hn h; omega)
        have hg8 : ∀ q, g8 = some q → q < wp.heap.size ∨ wp.heap.size + 2 ≤ q := fun q hq => by
          rcases hT8.row with h1 | h1
          · exact .inl (HGL.out n q hn (h1 ▸ hq))
          · have := h1 q hq
            exact .inr (by omega)
        have HTw8 := Lib.hid hTw8
        have HTb8 := Lib.hid hTb8
        have HD11 := Lib.hid h11
        have HD12 := Lib.hid h12
        have HG8 := Lib.hid hg8
        clear hTw8 hTb8 h11 h12 hR8 hT8 hg8 HTw7 HTb7 HC11 HC12
        simp only [pairV]
        have q0 : ∀ w, (Op.equalIn 10000 25 (.agg #[.int .i64 x.1, .int .i64 x.2]) (.agg #[.int .i64 x.1, .int .i64 x.2])).run Try.prog w = .ok true w := fun w => by rw [eqPair x x w, decide_eq_true rfl]
        go_wp2_with (refine wpList_store_any rfl 25 _ _ rfl (wp.heap.size + 1) _ rfl rfl 25 _ HD12.out (by kernel_rfl) rfl (by simp [Value.oneCell']) ?_; intro w9 hr9 hs9 hbl9 hot9; have x0 := cell_of_row _ _ 0 _ _ _ ((hot9 _ (Nat.ne_of_lt (Nat.lt_succ_self _))).trans HD11.out); have x1 := cell_of_row _ _ 1 _ _ _ ((hot9 _ (Nat.ne_of_lt (Nat.lt_succ_self _))).trans HD11.out); have y0 := cell_of_row _ _ 0 _ _ _ hr9; have y1 := cell_of_row _ _ 1 _ _ _ hr9; have x0 : w9.cell? ⟨wp.heap.size, 0, none⟩ = some (.int .i64 x.1) := x0; have x1 : w9.cell? ⟨wp.heap.size, 1, none⟩ = some (.int .i64 x.2) := x1; have y0 : w9.cell? ⟨wp.heap.size + 1, 0, none⟩ = some (.int .i64 x.1) := y0; have y1 : w9.cell? ⟨wp.heap.size + 1, 1, none⟩ = some (.int .i64 x.2) := y1)
        have hTw9 := HTw8.out.store HD12.out (by omega) (grown_of_store hs9 hbl9 hot9) (fun j hj h => by
          by_cases e : j = n
          · subst e
            rw [upd_same] at h
            have := HG8.out _ h
            omega
          · rw [upd_other _ _ e] at h
            have := HGL.out j _ hj h
            omega) (fun j hj h => by have := HTL.out j _ hj h; omega)
        have hTb9 := HTb8.out.stored HD12.out (grown_of_store hs9 hbl9 hot9)
        exact ⟨⟨k + 1, _, _, _, _, N, TF, TC, by omega, by go_num, hTw9, hTb9, upd_le HM.out (by omega), by omega, fun j hj => by have := HTC.out j hj; omega⟩, by simp [intOf]; omega⟩
      by_cases k1 : kind = 1
      · subst k1
        go_wp2_with fail
        generalize (wp.alloc (.cells #[.int .i64 0, .int .i64 0] 25)).alloc (.cells #[.int .i64 0, .int .i64 0] 25) = w5 at HTw5 HTb5 HX5 H11 H12 HS5 ⊢
        clear d1 d2 d3 cH cR
        refine (pushP (H n) (c n) (m n) (dirOf n) (ps n) (rr n) (a, b) w5 (HTw5.out.hp n hn) (by omega)).mono ?_
        rintro e w6 ⟨r6, rfl, hA6, hT6⟩
        have hTw6 := HTw5.out.heap hn hA6 hT6
        have hTb6 := HTb5.out.heap (HTw5.out.hp n hn) hT6
        have h11 := (HTw5.out.hp n hn).other hT6 H11.out (by decide) (by decide)
        have h12 := (HTw5.out.hp n hn).other hT6 H12.out (by decide) (by decide)
        have hx6 := (HTw5.out.hp n hn).other hT6 HX5.out (by decide) (by decide)
        have e2 : w6.cell? ⟨wr.heap.size, 2, none⟩ = some (.int .i64 a) := by rw [cell_of_row _ _ _ _ _ _ hx6]; rfl
        have e3 : w6.cell? ⟨wr.heap.size, 3, none⟩ = some (.int .i64 b) := by rw [cell_of_row _ _ _ _ _ _ hx6]; rfl
        have HTw6 := Lib.hid hTw6
        have HTb6 := Lib.hid hTb6
        have HC11 := Lib.hid h11
        have HC12 := Lib.hid h12
        clear hTw6 hTb6 h11 h12 hx6 hA6 hT6
        go_wp2_with fail
        refine (pushR (Q n) (dirOf n) (ps n) (gg n) (a, b) w6 (HTw6.out.rp n hn) (by omega)).mono ?_
        rintro e w8 ⟨rfl, g8, hR8, hT8⟩
        have hTw8 := HTw6.out.row hn hR8 hT8
        have hTb8 := HTb6.out.row (HTw6.out.rp n hn) hT8
        have h11 := (HTw6.out.rp n hn).pairOther hT8 HC11.out (fun h => by have := HGL.out n _ hn h; omega)
        have h12 := (HTw6.out.rp n hn).pairOther hT8 HC12.out (fun h => by have := HGL.out n _ hn h; omega)
        clear hR8 hT8 HTw6 HTb6 HC11 HC12 e2 e3
        have x0 : w8.cell? ⟨wp.heap.size, 0, none⟩ = some (.int .i64 0) := by rw [cell_of_row _ _ _ _ _ _ h11]; rfl
        have x1 : w8.cell? ⟨wp.heap.size, 1, none⟩ = some (.int .i64 0) := by rw [cell_of_row _ _ _ _ _ _ h11]; rfl
        have y0 : w8.cell? ⟨wp.heap.size + 1, 0, none⟩ = some (.int .i64 0) := by rw [cell_of_row _ _ _ _ _ _ h12]; rfl
        have y1 : w8.cell? ⟨wp.heap.size + 1, 1, none⟩ = some (.int .i64 0) := by rw [cell_of_row _ _ _ _ _ _ h12]; rfl
        have q0 : ∀ w, (Op.equalIn 10000 25 (.agg #[.int .i64 0, .int .i64 0]) (.agg #[.int .i64 0, .int .i64 0])).run Try.prog w = .ok true w := fun w => eqPair (0, 0) (0, 0) w
        have HTw8 := Lib.hid hTw8
        have HTb8 := Lib.hid hTb8
        clear h11 h12 hTw8 hTb8
        go_wp2_with fail
        exact ⟨⟨k + 1, _, _, _, _, N, TF, TC, by omega, by go_num, HTw8.out, HTb8.out, upd_le HM.out (by omega), by omega, fun j hj => by have := HTC.out j hj; omega⟩, by simp [intOf]; omega⟩
      by_cases k2 : kind = 2
      · subst k2
        go_wp2_with fail
        generalize (wp.alloc (.cells #[.int .i64 0, .int .i64 0] 25)).alloc (.cells #[.int .i64 0, .int .i64 0] 25) = w5 at HTw5 HTb5 HX5 H11 H12 HS5 ⊢
        clear d1 d2 d3 cH cR
        refine (peekP (H n) (c n) (m n) (dirOf n) (ps n) (rr n) w5 (HTw5.out.hp n hn) (by omega)).mono ?_
        rintro e w6 h6
        obtain ⟨rfl, hb6⟩ := peekH h6
        clear h6
        have hR : peekF (dirOf n) (ps n) = peekF (dirOf n) (ps n) := rfl
        generalize hR2 : peekF (dirOf n) (ps n) = R
        obtain ⟨x, bb⟩ := R
        have HR := Lib.hid hR2
        clear hR hR2
        have hTw6 := HTw5.out.below hb6
        have hTb6 := HTb5.out.below hb6
        have h11 := rowAt_below H11.out hb6
        have h12 := rowAt_below H12.out hb6
        have hs6' : wp.heap.size + 2 ≤ w6.heap.size := by have := HS5.out; have := hb6.size; omega
        have HTw6 := Lib.hid hTw6
        have HTb6 := Lib.hid hTb6
        have HB11 := Lib.hid h11
        have HB12 := Lib.hid h12
        clear hTw6 hTb6 h11 h12 hb6
        simp only [pairV]
        go_wp2_with (refine wpList_store_any rfl 25 _ _ rfl (wp.heap.size) _ rfl rfl 25 _ HB11.out (by kernel_rfl) rfl (by simp [Value.oneCell']) ?_; intro w7 hr7 hs7 hbl7 hot7)
        have hTw7 := HTw6.out.store HB11.out hBp (grown_of_store hs7 hbl7 hot7) (fun n hn h => by have := HGL.out n _ hn h; omega) (fun j hj h => by have := HTL.out j _ hj h; omega)
        have hTb7 := HTb6.out.stored HB11.out (grown_of_store hs7 hbl7 hot7)
        have h12 := (hot7 (wp.heap.size + 1) (by omega)).trans HB12.out
        have HTw7 := Lib.hid hTw7
        have HTb7 := Lib.hid hTb7
        have HC11 := Lib.hid hr7
        have HC12 := Lib.hid h12
        clear hTw7 hTb7 h12 hr7 hbl7 hot7 hs7 HTw6 HTb6 HB11 HB12 hs6'
        refine (peekR (Q n) (dirOf n) (ps n) (gg n) w7 (HTw7.out.rp n hn) (by omega)).mono ?_
        rintro e w8 h8
        obtain ⟨rfl, hb8⟩ := peekH (fall := dirOf n) h8
        clear h8
        rw [HR.out]
        have hTw8 := HTw7.out.below hb8
        have hTb8 := HTb7.out.below hb8
        have h11 := rowAt_below HC11.out hb8
        have h12 := rowAt_below HC12.out hb8
        have HTw8 := Lib.hid hTw8
        have HTb8 := Lib.hid hTb8
        have HD11 := Lib.hid h11
        have HD12 := Lib.hid h12
        clear hTw8 hTb8 h11 h12 hb8 HTw7 HTb7 HC11 HC12
        simp only [pairV]
        have q0 : ∀ w, (Op.equalIn 10000 25 (.agg #[.int .i64 x.1, .int .i64 x.2]) (.agg #[.int .i64 x.1, .int .i64 x.2])).run Try.prog w = .ok true w := fun w => by rw [eqPair x x w, decide_eq_true rfl]
        go_wp2_with (refine wpList_store_any rfl 25 _ _ rfl (wp.heap.size + 1) _ rfl rfl 25 _ HD12.out (by kernel_rfl) rfl (by simp [Value.oneCell']) ?_; intro w9 hr9 hs9 hbl9 hot9; have x0 := cell_of_row _ _ 0 _ _ _ ((hot9 _ (Nat.ne_of_lt (Nat.lt_succ_self _))).trans HD11.out); have x1 := cell_of_row _ _ 1 _ _ _ ((hot9 _ (Nat.ne_of_lt (Nat.lt_succ_self _))).trans HD11.out); have y0 := cell_of_row _ _ 0 _ _ _ hr9; have y1 := cell_of_row _ _ 1 _ _ _ hr9; have x0 : w9.cell? ⟨wp.heap.size, 0, none⟩ = some (.int .i64 x.1) := x0; have x1 : w9.cell? ⟨wp.heap.size, 1, none⟩ = some (.int .i64 x.2) := x1; have y0 : w9.cell? ⟨wp.heap.size + 1, 0, none⟩ = some (.int .i64 x.1) := y0; have y1 : w9.cell? ⟨wp.heap.size + 1, 1, none⟩ = some (.int .i64 x.2) := y1)
        have hTw9 := HTw8.out.store HD12.out (by omega) (grown_of_store hs9 hbl9 hot9) (fun j hj h => by have := HGL.out j _ hj h; omega) (fun j hj h => by have := HTL.out j _ hj h; omega)
        have hTb9 := HTb8.out.stored HD12.out (grown_of_store hs9 hbl9 hot9)
        exact ⟨⟨k + 1, _, _, _, _, N, TF, TC, by omega, by go_num, hTw9, hTb9, fun j hj => by have := HM.out j hj; omega, by omega, fun j hj => by have := HTC.out j hj; omega⟩, by simp [intOf]; omega⟩
      by_cases k3 : kind = 3
      · subst k3
        go_wp2_with fail
        generalize (wp.alloc (.cells #[.int .i64 0, .int .i64 0] 25)).alloc (.cells #[.int .i64 0, .int .i64 0] 25) = w5 at HTw5 HTb5 HX5 H11 H12 HS5 ⊢
        clear d1 d2 d3 cH cR
        have hk5 : ∀ k, k < w5.heap.size → (w5.alloc (.cells #[.int .i64 a] 3)).heap[k]? = w5.heap[k]? := fun k hk => heap_alloc_old _ _ hk
        have hTw5 := HTw5.out.alloc (.cells #[.int .i64 a] 3)
        have hTb5 := HTb5.out.below ((Below.refl _ _).alloc (Nat.le_refl _) (.cells #[.int .i64 a] 3))
        have h11 := (hk5 _ (lt_of_block H11.out)).trans H11.out
        have h12 := (hk5 _ (lt_of_block H12.out)).trans H12.out
        have h15 := heap_alloc_new w5 (.cells #[.int .i64 a] 3)
        rw [HS5.out] at h15
        have hs5' : wp.heap.size + 2 ≤ (w5.alloc (.cells #[.int .i64 a] 3)).heap.size := by have := HS5.out; simp; omega
        generalize w5.alloc (.cells #[.int .i64 a] 3) = wa at hTw5 hTb5 h11 h12 h15 hs5' ⊢
        clear hk5 HTw5 HTb5 H11 H12 HS5 HX5
        have HTw5 := Lib.hid hTw5
        have HTb5 := Lib.hid hTb5
        have H11 := Lib.hid h11
        have H12 := Lib.hid h12
        have H15 := Lib.hid h15
        clear hTw5 hTb5 h11 h12 h15 w5
        obtain ⟨w5, rfl⟩ : ∃ w5, w5 = wa := ⟨wa, rfl⟩
        refine (removeP (H n) (c n) (m n) (dirOf n) (askR false a) _ (ps n) (rr n) w5 (HTw5.out.hp n hn) (by omega) (asks_ph (wp.heap.size + 2) a w5 H15.out)).mono ?_
        rintro e w6 h6
        obtain ⟨rfl, hA6, hT6⟩ := tookH (p := askR false a) (HTw5.out.hp n hn) h6
        generalize hR : takeF (dirOf n) (askR false a) (ps n) = R at hA6
        obtain ⟨x, bb, ps'⟩ := R
        have HR := Lib.hid hR
        clear hR h6
        simp only at hA6
        have hTw6 := HTw5.out.heap hn hA6 hT6
        have hTb6 := HTb5.out.heap (HTw5.out.hp n hn) hT6
        have h11 := (HTw5.out.hp n hn).other hT6 H11.out (by decide) (by decide)
        have h12 := (HTw5.out.hp n hn).other hT6 H12.out (by decide) (by decide)
        have hs6 := hT6.size
        have hs6' : wp.heap.size + 2 ≤ w6.heap.size := by omega
        have HTw6 := Lib.hid hTw6
        have HTb6 := Lib.hid hTb6
        have HB11 := Lib.hid h11
        have HB12 := Lib.hid h12
        clear hTw6 hTb6 h11 h12 hA6 hs6
        simp only [pairV]
        have h15 := (HTw5.out.hp n hn).other hT6 H15.out (by decide) (by decide)
        have e15 : w6.cell? ⟨wp.heap.size + 2, 0, none⟩ = some (.int .i64 a) := by rw [cell_of_row _ _ _ _ _ _ h15]; rfl
        clear h15
        clear hT6
        go_wp2_with (refine wpList_store_any rfl 25 _ _ rfl (wp.heap.size) _ rfl rfl 25 _ HB11.out (by kernel_rfl) rfl (by simp [Value.oneCell']) ?_; intro w7 hr7 hs7 hbl7 hot7; have e15 := (cell_kept (hot7 (wp.heap.size + 2) (by omega))).trans e15)
        have hTw7 := HTw6.out.store HB11.out hBp (grown_of_store hs7 hbl7 hot7) (fun n hn h => by have := HGL.out n _ hn h; omega) (fun j hj h => by have := HTL.out j _ hj h; omega)
        have hTb7 := HTb6.out.stored HB11.out (grown_of_store hs7 hbl7 hot7)
        have h12 := (hot7 (wp.heap.size + 1) (by omega)).trans HB12.out
        have hs7' : wp.heap.size + 2 ≤ w7.heap.size := by omega
        have HTw7 := Lib.hid hTw7
        have HTb7 := Lib.hid hTb7
        have HC11 := Lib.hid hr7
        have HC12 := Lib.hid h12
        clear hTw7 hTb7 h12 hr7 hbl7 hot7 HTw6 HTb6 HB11 HB12 hs6' hs7
        refine (removeR (Q n) (dirOf n) a (ps n) (gg n) w7 (HTw7.out.rp n hn) (by omega)).mono ?_
        rintro e w8 h8
        obtain ⟨rfl, g8, hR8, hT8⟩ := tookRow (HTw7.out.rp n hn) h8
        rw [HR.out] at hR8 ⊢
        simp only at hR8
        clear h8
        have hTw8 := HTw7.out.row hn hR8 hT8
        have hTb8 := HTb7.out.row (HTw7.out.rp n hn) hT8
        have h11 := (HTw7.out.rp n hn).pairOther hT8 HC11.out (fun h => by have := HGL.out n _ hn h; omega)
        have h12 := (HTw7.out.rp n hn).pairOther hT8 HC12.out (fun h => by have := HGL.out n _ hn h; omega)
        have hg8 : ∀ q, g8 = some q → q < wp.heap.size ∨ wp.heap.size + 2 ≤ q := fun q hq => by
          rcases hT8.row with h1 | h1
          · exact .inl (HGL.out n q hn (h1 ▸ hq))
          · have := h1 q hq
            exact .inr (by omega)
        have HTw8 := Lib.hid hTw8
        have HTb8 := Lib.hid hTb8
        have HD11 := Lib.hid h11
        have HD12 := Lib.hid h12
        have HG8 := Lib.hid hg8
        clear hTw8 hTb8 h11 h12 hR8 hT8 hg8 HTw7 HTb7 HC11 HC12
        simp only [pairV]
        have q0 : ∀ w, (Op.equalIn 10000 25 (.agg #[.int .i64 x.1, .int .i64 x.2]) (.agg #[.int .i64 x.1, .int .i64 x.2])).run Try.prog w = .ok true w := fun w => by rw [eqPair x x w, decide_eq_true rfl]
        go_wp2_with (refine wpList_store_any rfl 25 _ _ rfl (wp.heap.size + 1) _ rfl rfl 25 _ HD12.out (by kernel_rfl) rfl (by simp [Value.oneCell']) ?_; intro w9 hr9 hs9 hbl9 hot9; have x0 := cell_of_row _ _ 0 _ _ _ ((hot9 _ (Nat.ne_of_lt (Nat.lt_succ_self _))).trans HD11.out); have x1 := cell_of_row _ _ 1 _ _ _ ((hot9 _ (Nat.ne_of_lt (Nat.lt_succ_self _))).trans HD11.out); have y0 := cell_of_row _ _ 0 _ _ _ hr9; have y1 := cell_of_row _ _ 1 _ _ _ hr9; have x0 : w9.cell? ⟨wp.heap.size, 0, none⟩ = some (.int .i64 x.1) := x0; have x1 : w9.cell? ⟨wp.heap.size, 1, none⟩ = some (.int .i64 x.2) := x1; have y0 : w9.cell? ⟨wp.heap.size + 1, 0, none⟩ = some (.int .i64 x.1) := y0; have y1 : w9.cell? ⟨wp.heap.size + 1, 1, none⟩ = some (.int .i64 x.2) := y1)
        have hTw9 := HTw8.out.store HD12.out (by omega) (grown_of_store hs9 hbl9 hot9) (fun j hj h => by
          by_cases e : j = n
          · subst e
            rw [upd_same] at h
            have := HG8.out _ h
            omega
          · rw [upd_other _ _ e] at h
            have := HGL.out j _ hj h
            omega) (fun j hj h => by have := HTL.out j _ hj h; omega)
        have hTb9 := HTb8.out.stored HD12.out (grown_of_store hs9 hbl9 hot9)
        exact ⟨⟨k + 1, _, _, _, _, N, TF, TC, by omega, by go_num, hTw9, hTb9, upd_le HM.out (by omega), by omega, fun j hj => by have := HTC.out j hj; omega⟩, by simp [intOf]; omega⟩
      by_cases k4 : kind = 4
      · subst k4
        go_wp2_with fail
        generalize (wp.alloc (.cells #[.int .i64 0, .int .i64 0] 25)).alloc (.cells #[.int .i64 0, .int .i64 0] 25) = w5 at HTw5 HTb5 HX5 H11 H12 HS5 ⊢
        clear d1 d2 d3 cH cR
        obtain ⟨slr, hgr, hhr, hTr⟩ := HTw5.out.rp n hn
        obtain ⟨ra, rc, rfl⟩ := hTr.slice
        have HHR := Lib.hid hhr
        clear hgr hhr hTr
        refine wp_region_held_drew (S := fun w' => Below w5.heap.size w5 w') (by kernel_rfl) (Below.refl _ _).drew (fun hHeld => ?_)
        (refine rg_yes 0 ?v1 (by simp only [List.getElem?_toArray, List.getElem?_cons_succ, List.getElem?_cons_zero]; rfl) (by kernel_rfl) (by kernel_rfl) (by kernel_rfl) (by exact fun _ _ _ h => h) (by kernel_rfl) (by assumption) ?y1 ?z1; case y1 => (intro w hSw; (try dsimp only at hSw); go_simp; (try (rw [if_neg (by omega)])); (try with_reducible rfl)))
        (try simp only [Act.put, List.setIfInBounds_toArray, List.set_cons_zero, List.set_cons_succ])
        (refine rg_yes 2 ?v2 (by simp only [List.getElem?_toArray, List.getElem?_cons_succ, List.getElem?_cons_zero]; rfl) (by kernel_rfl) (by kernel_rfl) (by kernel_rfl) (by exact fun _ _ _ h => h) (by kernel_rfl) (by assumption) ?y2 ?z2; case y2 => (intro w hSw; (try dsimp only at hSw); go_simp; (try (rw [if_neg (by omega)])); (try with_reducible rfl)))
        (try simp only [Act.put, List.setIfInBounds_toArray, List.set_cons_zero, List.set_cons_succ])
        (refine rg_yes 3 ?v3 (by simp only [List.getElem?_toArray, List.getElem?_cons_succ, List.getElem?_cons_zero]; rfl) (by kernel_rfl) (by kernel_rfl) (by kernel_rfl) (by exact fun _ _ _ h => h) (by kernel_rfl) (by assumption) ?y3 ?z3; case y3 => (intro w hSw; (try dsimp only at hSw); go_simp; (try (rw [if_neg (by omega)])); (try with_reducible rfl)))
        (try simp only [Act.put, List.setIfInBounds_toArray, List.set_cons_zero, List.set_cons_succ])
        (refine rg_yes 4 ?v4 (by simp only [List.getElem?_toArray, List.getElem?_cons_succ, List.getElem?_cons_zero]; rfl) (by kernel_rfl) (by kernel_rfl) (by kernel_rfl) (by exact fun _ _ _ h => h) (by kernel_rfl) (by assumption) ?y4 ?z4; case y4 => (intro w hSw; (try dsimp only at hSw); go_simp; (try (rw [if_neg (by omega)])); (try with_reducible rfl)))
        (try simp only [Act.put, List.setIfInBounds_toArray, List.set_cons_zero, List.set_cons_succ])
        refine rg_yes 5 _ (by simp only [List.getElem?_toArray, List.getElem?_cons_succ, List.getElem?_cons_zero]; rfl) (by kernel_rfl) (by kernel_rfl) (by kernel_rfl) (by exact fun _ _ _ h => h) (by kernel_rfl) (by assumption) (by exact fun w' hS => (exec_load_one (v := .slice ra (ps n).length rc) (rowAt_below HHR.out hS) rfl rfl rfl (fun w => by kernel_rfl))) ?_
        (try simp only [Act.put, List.setIfInBounds_toArray, List.set_cons_zero, List.set_cons_succ])
        (refine rg_yes 6 ?v5 (by simp only [List.getElem?_toArray, List.getElem?_cons_succ, List.getElem?_cons_zero]; rfl) (by kernel_rfl) (by kernel_rfl) (by kernel_rfl) (by exact fun _ _ _ h => h) (by kernel_rfl) (by assumption) ?y5 ?z5; case y5 => (intro w hSw; (try dsimp only at hSw); go_simp; (try (rw [if_neg (by omega)])); (try with_reducible rfl)))
        (try simp only [Act.put, List.setIfInBounds_toArray, List.set_cons_zero, List.set_cons_succ])
        refine rg_call 1 _ _ (by simp only [List.getElem?_toArray, List.getElem?_cons_succ, List.getElem?_cons_zero]; rfl) (by kernel_rfl) (by kernel_rfl) (fun w => by go_simp; exact ⟨rfl, rfl⟩) ?_
        refine (lenP (H n) (c n) (m n) (dirOf n) (ps n) (rr n) _ ((HTw5.out.hp n hn).below hHeld) (by omega)).mono ?_
        rintro e w6 ⟨rfl, rfl⟩
        refine ⟨_, rfl, hHeld, fun hHeld => ?_⟩
        (try simp only [Act.put, List.setIfInBounds_toArray, List.set_cons_zero, List.set_cons_succ])
        (refine rg_yes 7 ?v6 (by simp only [List.getElem?_toArray, List.getElem?_cons_succ, List.getElem?_cons_zero]; rfl) (by kernel_rfl) (by kernel_rfl) (by kernel_rfl) (by exact fun _ _ _ h => h) (by kernel_rfl) (by assumption) ?y6 ?z6; case y6 => (intro w hSw; (try dsimp only at hSw); go_simp; (try (rw [if_neg (by omega)])); (try with_reducible rfl)))
        (try simp only [Act.put, List.setIfInBounds_toArray, List.set_cons_zero, List.set_cons_succ])
        (refine rg_yes 8 ?v7 (by simp only [List.getElem?_toArray, List.getElem?_cons_succ, List.getElem?_cons_zero]; rfl) (by kernel_rfl) (by kernel_rfl) (by kernel_rfl) (by exact fun _ _ _ h => h) (by kernel_rfl) (by assumption) ?y7 ?z7; case y7 => (intro w hSw; (try dsimp only at hSw); go_simp; (try (rw [if_neg (by omega)])); (try with_reducible rfl)))
        (try simp only [Act.put, List.setIfInBounds_toArray, List.set_cons_zero, List.set_cons_succ])
        refine wpAnyH_done (by kernel_rfl) ?_ _
        have hTw8 := HTw5.out.below hHeld
        have hTb8 := HTb5.out.below hHeld
        have h11 := rowAt_below H11.out hHeld
        have h12 := rowAt_below H12.out hHeld
        clear hHeld HHR
        have x0 : w5.drew.cell? ⟨wp.heap.size, 0, none⟩ = some (.int .i64 0) := by rw [cell_of_row _ _ _ _ _ _ h11]; rfl
        have x1 : w5.drew.cell? ⟨wp.heap.size, 1, none⟩ = some (.int .i64 0) := by rw [cell_of_row _ _ _ _ _ _ h11]; rfl
        have y0 : w5.drew.cell? ⟨wp.heap.size + 1, 0, none⟩ = some (.int .i64 0) := by rw [cell_of_row _ _ _ _ _ _ h12]; rfl
        have y1 : w5.drew.cell? ⟨wp.heap.size + 1, 1, none⟩ = some (.int .i64 0) := by rw [cell_of_row _ _ _ _ _ _ h12]; rfl
        have q0 : ∀ w, (Op.equalIn 10000 25 (.agg #[.int .i64 0, .int .i64 0]) (.agg #[.int .i64 0, .int .i64 0])).run Try.prog w = .ok true w := fun w => eqPair (0, 0) (0, 0) w
        have HTw8 := Lib.hid hTw8
        have HTb8 := Lib.hid hTb8
        clear h11 h12 hTw8 hTb8
        go_wp2_with fail
        exact ⟨⟨k + 1, _, _, _, _, N, TF, TC, by omega, by go_num, HTw8.out, HTb8.out, fun j hj => by have := HM.out j hj; omega, by omega, fun j hj => by have := HTC.out j hj; omega⟩, by simp [intOf]; omega⟩
      have b0 : (kind == 0) = false := by simpa using k0
      have b1 : (kind == 1) = false := by simpa using k1
      have b2 : (kind == 2) = false := by simpa using k2
      have b3 : (kind == 3) = false := by simpa using k3
      have b4 : (kind == 4) = false := by simpa using k4
      clear k0 k1 k2 k3 k4
      go_wp2_with fail
      generalize (wp.alloc (.cells #[.int .i64 0, .int .i64 0] 25)).alloc (.cells #[.int .i64 0, .int .i64 0] 25) = w5 at HTw5 HTb5 HX5 H11 H12 HS5 ⊢
      clear d1 d2 d3 cH cR
      obtain ⟨iL, hL1, hL2, hL3, hL4⟩ := infoL
      have hs5 := HS5.out
      refine (sortedP (H n) (c n) (m n) (dirOf n) (ps n) (rr n) w5 (HTw5.out.hp n hn) (by omega)).mono ?_
      rintro e w6 ⟨v, rfl, hO6, hb6⟩
      have hV6 : RowT w6 w5.heap.size v (PP.sorted (dirOf n) (ps n)) := RowT.of_own hO6 rfl
      have hSl := sorted_len (dirOf n) (ps n)
      generalize hSd : PP.sorted (dirOf n) (ps n) = S at hV6 hSl
      have HSD := Lib.hid hSd
      have HSL := Lib.hid hSl
      clear hSd hSl
      obtain ⟨va, vc, rfl⟩ := hV6.slice
      have hTw6 := HTw5.out.below hb6
      have hTb6 := HTb5.out.below hb6
      have h11 := rowAt_below H11.out hb6
      have h12 := rowAt_below H12.out hb6
      have HTw6 := Lib.hid hTw6
      have HTb6 := Lib.hid hTb6
      have HC11 := Lib.hid h11
      have HC12 := Lib.hid h12
      clear hTw6 hTb6 h11 h12 hO6 hb6
      go_wp2_with fail
      refine (sortedR (Q n) (dirOf n) (ps n) (gg n) w6 (HTw6.out.rp n hn) (by omega)).mono ?_
      rintro e w7 ⟨v2, rfl, hV7, hb7⟩
      have hss : PP.sorted (dirOf n) (ps n) = S := HSD.out
      rw [hss] at hV7
      clear hss
      go_wp2_with fail
      refine (sameTwos_any _ _ S S w7 ((hV6.below hb7).reads (by rw [HSL.out]; omega)) (hV7.reads (by rw [HSL.out]; omega))).mono ?_
      rintro e w8 ⟨rfl, hb8⟩
      rw [decide_eq_true rfl]
      have hTw8 := ((HTw6.out.below hb7).below hb8).alloc (.cells #[.slice va S.length vc] 29)
      have hTb8 := ((HTb6.out.below hb7).below hb8).below ((Below.refl _ _).alloc (Nat.le_refl _) (.cells #[.slice va S.length vc] 29))
      have hal : Below w8.heap.size w8 (w8.alloc (.cells #[.slice va S.length vc] 29)) := (Below.refl _ _).alloc (Nat.le_refl _) _
      have h11 := rowAt_below (rowAt_below (rowAt_below HC11.out hb7) hb8) hal
      have h12 := rowAt_below (rowAt_below (rowAt_below HC12.out hb7) hb8) hal
      have hV8 := (((hV6.below hb7).below hb8).below hal).low (show B ≤ w5.heap.size by omega)
      have hvq : ∀ q, (Value.slice va S.length vc).ownBlock = some q → w5.heap.size ≤ q := fun q hq => (hV6.type hq).1
      have hO8 := hTw8.tr
      obtain ⟨v', w', hrun, hO', hg', _⟩ := run_append_own (P := Try.prog) (w8.alloc (.cells #[.slice va S.length vc] 29)) B 33 33 29 iL _ 1 24 Try.underlying33 hL1 hL2 hL3 hL4 rfl (by omega) u5 N ((List.range N).map TF) hO8 ⟨w8.heap.size, 0, none⟩ 1 1 [.slice va S.length vc] rfl (fun j u hj => by
        have hadd : (⟨w8.heap.size, 0, none⟩ : Addr).add j = ⟨w8.heap.size, j, none⟩ := by unfold Addr.add; split <;> simp_all
        rw [hadd, cell_of_row _ _ _ _ _ _ (heap_alloc_new w8 _)]
        rcases j with _ | j <;> simp at hj ⊢
        exact hj) (fun u hu => by simp at hu; subst hu; rfl) (by unfold maxLen; omega) (by omega) hTw8.sz
      have hTwA := hTw8.tell hV8 (fun n' q hn' h h' => by have := HGL.out n' q hn' h'; have := hvq q h; omega) (fun j q hj h h' => by have := HTL.out j q hj h'; have := hvq q h; omega) hg' hO'
      have hTbA := hTb8.grown hg' (fun q hq => by
        obtain ⟨cs, hc⟩ := own_type hO8 hq
        exact ⟨cs, _, hc, by decide, by decide⟩)
      have hn11 : some wp.heap.size ≠ u5.ownBlock := fun e => by
        obtain ⟨cs, hc⟩ := own_type hO8 e.symm
        rw [h11] at hc
        injection hc with hc
        injection hc with _ hc
        exact absurd hc (by decide)
      have hn12 : some (wp.heap.size + 1) ≠ u5.ownBlock := fun e => by
        obtain ⟨cs, hc⟩ := own_type hO8 e.symm
        rw [h12] at hc
        injection hc with hc
        injection hc with _ hc
        exact absurd hc (by decide)
      have g11 := (hg'.block _ (lt_of_block h11) hn11).trans h11
      have g12 := (hg'.block _ (lt_of_block h12) hn12).trans h12
      have HTwA := Lib.hid hTwA
      have HTbA := Lib.hid hTbA
      clear hTw8 hTb8 hal h11 h12 hV8 hvq hO8 hO' hg' hTwA hTbA hV6 hV7 hb7 hb8 HTw6 HTb6 HC11 HC12 hn11 hn12
      have x0 : w'.cell? ⟨wp.heap.size, 0, none⟩ = some (.int .i64 0) := by rw [cell_of_row _ _ _ _ _ _ g11]; rfl
      have x1 : w'.cell? ⟨wp.heap.size, 1, none⟩ = some (.int .i64 0) := by rw [cell_of_row _ _ _ _ _ _ g11]; rfl
      have y0 : w'.cell? ⟨wp.heap.size + 1, 0, none⟩ = some (.int .i64 0) := by rw [cell_of_row _ _ _ _ _ _ g12]; rfl
      have y1 : w'.cell? ⟨wp.heap.size + 1, 1, none⟩ = some (.int .i64 0) := by rw [cell_of_row _ _ _ _ _ _ g12]; rfl
      have q0 : ∀ w, (Op.equalIn 10000 25 (.agg #[.int .i64 0, .int .i64 0]) (.agg #[.int .i64 0, .int .i64 0])).run Try.prog w = .ok true w := fun w => eqPair (0, 0) (0, 0) w
      clear g11 g12
      go_wp2_with (refine wpList_val (w' := w') v' (by kernel_rfl) (exec_append2 rfl rfl rfl rfl ?_) ?_; focus (exact hrun))
      exact ⟨⟨k + 1, _, _, _, _, N + 1, _, _, by omega, by go_num, HTwA.out, HTbA.out, fun j hj => by have := HM.out j hj; omega, by omega, fun j hj => by
                by_cases e : j = N
                · subst e; rw [upd_same, HSL.out]; omega
                · rw [upd_other _ _ e]; have := HTC.out j (by omega); omega⟩, by simp [intOf]; omega⟩
    · have hke : k = xs.length := by omega
      have HM := Lib.hid hm
      have HTC := Lib.hid hTC
      have HTw := Lib.hid hTw
      have HTb := Lib.hid hTb
      have hsz := hTw.sz
      clear hm hTC hTw hTb
      subst hke
      obtain ⟨wz, rfl⟩ : ∃ wz, wz = wr := ⟨wr, rfl⟩
      have hc0 := (HTw.out.hp 0 (by omega)).count
      have hc1 := (HTw.out.hp 1 (by omega)).count
      have hm0 := HM.out 0 (by omega)
      have hm1 := HM.out 1 (by omega)
      go_wp2_with fail
      refine wp_region_till (k := 8) (S := fun w' => Below wz.heap.size wz w') (by kernel_rfl) ?_
      have hHeld : Below wz.heap.size wz wz.drew := (Below.refl _ _).drew
      (refine rt_yes 0 ?v8 (by simp only [List.getElem?_toArray, List.getElem?_cons_succ, List.getElem?_cons_zero]; rfl) (by kernel_rfl) (by kernel_rfl) (by kernel_rfl) (by kernel_rfl) (by exact fun _ _ _ h => h) (by kernel_rfl) (by exact fun _ => hHeld) ?y8 ?z8; case y8 => (intro w; go_simp; (try (rw [if_neg (by omega)])); (try with_reducible rfl)))
      (try simp only [Act.put, List.setIfInBounds_toArray, List.set_cons_zero, List.set_cons_succ])
      refine rt_load 1 _ (by simp only [List.getElem?_toArray, List.getElem?_cons_succ, List.getElem?_cons_zero]; rfl) (by kernel_rfl) (by kernel_rfl) (by kernel_rfl) (by kernel_rfl) (by kernel_rfl) (by kernel_rfl) (by exact fun _ _ _ h => h) (by kernel_rfl) hHeld (fun w' hS => (exec_load_at ((HTb.out.below hS).cellR (n := 0) (by omega)) rfl rfl (fun w => by kernel_rfl))) ?_
      (try simp only [Act.put, List.setIfInBounds_toArray, List.set_cons_zero, List.set_cons_succ])
      (refine rt_yes 3 ?v9 (by simp only [List.getElem?_toArray, List.getElem?_cons_succ, List.getElem?_cons_zero]; rfl) (by kernel_rfl) (by kernel_rfl) (by kernel_rfl) (by kernel_rfl) (by exact fun _ _ _ h => h) (by kernel_rfl) (by exact fun _ => hHeld) ?y9 ?z9; case y9 => (intro w; go_simp; (try (rw [if_neg (by omega)])); (try with_reducible rfl)))
      (try simp only [Act.put, List.setIfInBounds_toArray, List.set_cons_zero, List.set_cons_succ])
      refine rt_load 4 _ (by simp only [List.getElem?_toArray, List.getElem?_cons_succ, List.getElem?_cons_zero]; rfl) (by kernel_rfl) (by kernel_rfl) (by kernel_rfl) (by kernel_rfl) (by kernel_rfl) (by kernel_rfl) (by exact fun _ _ _ h => h) (by kernel_rfl) hHeld (fun w' hS => (exec_load_at ((HTb.out.below hS).cellR (n := 1) (by omega)) rfl rfl (fun w => by kernel_rfl))) ?_
      (try simp only [Act.put, List.setIfInBounds_toArray, List.set_cons_zero, List.set_cons_succ])
      refine rt_both 2 7 (by simp only [List.getElem?_toArray, List.getElem?_cons_succ, List.getElem?_cons_zero]; rfl) (by simp only [List.getElem?_toArray, List.getElem?_cons_succ, List.getElem?_cons_zero]; rfl) (by kernel_rfl) (by kernel_rfl) (by kernel_rfl) ?_ ?_
      · refine op_call _ _ (fun w => by go_simp; exact ⟨rfl, rfl⟩) ?_
        refine (sortedR (Q 0) (dirOf 0) (ps 0) (gg 0) _ ((HTw.out.rp 0 (by omega)).below hHeld) (by omega)).mono ?_
        rintro e wa ⟨v1, rfl, hv1, hbwa⟩
        have hlv1 := sorted_len (dirOf 0) (ps 0)
        generalize hgv1 : PP.sorted (dirOf 0) (ps 0) = S1 at hv1 hlv1
        have HGv1 := Lib.hid hgv1
        have HLv1 := Lib.hid hlv1
        clear hgv1 hlv1
        obtain ⟨a1, c1, rfl⟩ := hv1.slice
        have hlov1 := fun q (hq : (Value.slice a1 S1.length c1).ownBlock = some q) => Nat.le_trans hHeld.size (hv1.type hq).1
        have HLOv1 := Lib.hid hlov1
        clear hlov1
        have hHeld1 : Below wz.heap.size wz wa := hHeld.trans (hbwa.mono (Nat.le_refl _))
        refine ⟨_, rfl, fun _ => hHeld1, ?_⟩
        clear hHeld
        have hHeld := hHeld1
        clear hHeld1
        (try simp only [Act.put, List.setIfInBounds_toArray, List.set_cons_zero, List.set_cons_succ])
        refine rt_both 5 7 (by simp only [List.getElem?_toArray, List.getElem?_cons_succ, List.getElem?_cons_zero]; rfl) (by simp only [List.getElem?_toArray, List.getElem?_cons_succ, List.getElem?_cons_zero]; rfl) (by kernel_rfl) (by kernel_rfl) (by kernel_rfl) ?_ ?_
        · refine op_call _ _ (fun w => by go_simp; exact ⟨rfl, rfl⟩) ?_
          refine (sortedR (Q 1) (dirOf 1) (ps 1) (gg 1) _ ((HTw.out.rp 1 (by omega)).below hHeld) (by omega)).mono ?_
          rintro e wb ⟨v2, rfl, hv2, hbwb⟩
          have hlv2 := sorted_len (dirOf 1) (ps 1)
          generalize hgv2 : PP.sorted (dirOf 1) (ps 1) = S2 at hv2 hlv2
          have HGv2 := Lib.hid hgv2
          have HLv2 := Lib.hid hlv2
          clear hgv2 hlv2
          obtain ⟨a2, c2, rfl⟩ := hv2.slice
          have hlov2 := fun q (hq : (Value.slice a2 S2.length c2).ownBlock = some q) => Nat.le_trans hHeld.size (hv2.type hq).1
          have HLOv2 := Lib.hid hlov2
          clear hlov2
          have hHeld1 : Below wz.heap.size wz wb := hHeld.trans (hbwb.mono hHeld.size)
          refine ⟨_, rfl, fun _ => hHeld1, ?_⟩
          clear hHeld
          have hHeld := hHeld1
          clear hHeld1
          (try simp only [Act.put, List.setIfInBounds_toArray, List.set_cons_zero, List.set_cons_succ])
          (refine rt_yes 6 ?v10 (by simp only [List.getElem?_toArray, List.getElem?_cons_succ, List.getElem?_cons_zero]; rfl) (by kernel_rfl) (by kernel_rfl) (by kernel_rfl) (by kernel_rfl) (by exact fun _ _ _ h => h) (by kernel_rfl) (by exact fun _ => hHeld) ?y10 ?z10; case y10 => (intro w; go_simp; (try (rw [if_neg (by omega)])); (try with_reducible rfl)))
          (try simp only [Act.put, List.setIfInBounds_toArray, List.set_cons_zero, List.set_cons_succ])
          refine rt_one 7 _ _ (by simp only [List.getElem?_toArray, List.getElem?_cons_succ, List.getElem?_cons_zero]; rfl) (by kernel_rfl) (by kernel_rfl) (by go_simp; first | exact ⟨rfl, rfl⟩ | rfl) (fun _ => (hHeld.alloc hHeld.size _)) ?_
          (try simp only [Act.put, List.setIfInBounds_toArray, List.set_cons_zero, List.set_cons_succ])
          refine rt_skip 8 (wb.alloc (.cells #[.slice a1 S1.length c1, .slice a2 S2.length c2] 46)) (by simp only [List.getElem?_toArray, List.getElem?_cons_succ, List.getElem?_cons_zero]; rfl) (by kernel_rfl) (by kernel_rfl) (by go_simp) (till_past (by kernel_rfl)) ?_
          (try simp only [Act.put, List.setIfInBounds_toArray, List.set_cons_zero, List.set_cons_succ])
          refine rt_done (by kernel_rfl) ?_ _
          have h17 := heap_alloc_new wb (.cells #[.slice a1 S1.length c1, .slice a2 S2.length c2] 46)
          have hF := hHeld.alloc hHeld.size (.cells #[.slice a1 S1.length c1, .slice a2 S2.length c2] 46)
          have hal : Below wb.heap.size wb (wb.alloc (.cells #[.slice a1 S1.length c1, .slice a2 S2.length c2] 46)) := (Below.refl _ _).alloc (Nat.le_refl _) _
          have hR1 := ((hv1.below hbwb).below hal).low (Nat.zero_le _)
          have hR2 := (hv2.below hal).low (Nat.zero_le _)
          clear hal hHeld
          generalize wb.alloc (.cells #[.slice a1 S1.length c1, .slice a2 S2.length c2] 46) = w9 at h17 hF hR1 hR2 ⊢
          generalize wb.heap.size = b17 at h17 ⊢
          have hTw9 := HTw.out.below hF
          have hTb9 := HTb.out.below hF
          have hTd := hTw9.below (Below.refl w9.heap.size w9).drew
          have hTbd := hTb9.below (Below.refl w9.heap.size w9).drew
          have HGv1' := HGv1.out
          have HGv2' := HGv2.out
          have HF := Lib.hid hF
          have H17 := Lib.hid h17
          have HR1 := Lib.hid hR1
          have HR2 := Lib.hid hR2
          have HT9 := Lib.hid hTd
          have hlN : ∀ n q, n < 2 → gg n = some q → q < w9.heap.size := fun n q hn h => ((hTw9.rp n hn).glt h).1
          have hlT : ∀ j q, j < N → (TF j).ownBlock = some q → q < w9.heap.size := fun j q hj h => by
            obtain ⟨_, cs, hc⟩ := (hTw9.tl j hj).type h
            exact lt_of_block hc
          have h1lt : ∀ q, (Value.slice a1 S1.length c1).ownBlock = some q → q < w9.heap.size := fun q hq => by
            obtain ⟨_, cs, hc⟩ := hR1.type hq
            exact lt_of_block hc
          have h2lt : ∀ q, (Value.slice a2 S2.length c2).ownBlock = some q → q < w9.heap.size := fun q hq => by
            obtain ⟨_, cs, hc⟩ := hR2.type hq
            exact lt_of_block hc
          have h17lt := lt_of_block h17
          have hs9 := hTw9.sz
          have HLN := Lib.hid hlN
          have HLT := Lib.hid hlT
          have HL1 := Lib.hid h1lt
          have HL2 := Lib.hid h2lt
          obtain ⟨iL, hL1, hL2, hL3, hL4⟩ := infoL
          clear hF h17 hR1 hR2 hTw9 hTb9 hTd hlN hlT h1lt h2lt hv1 hv2 hbwa hbwb
          have HV1 := Lib.hid HGv1'
          have HV2 := Lib.hid HGv2'
          clear HGv1' HGv2' HGv1 HGv2
          have hn1 := HLv1.out
          have hn2 := HLv2.out
          have HN1 : S1.length ≤ xs.length := by omega
          have HN2 : S2.length ≤ xs.length := by omega
          clear hn1 hn2 HLv1 HLv2
          go_wp2_with fail
          refine wp_region_held_drew (S := fun w' => Tabs w' bH bR H Q) (by kernel_rfl) hTbd (fun hHeld => ?_)
          (refine rg_yes 0 ?v11 (by simp only [List.getElem?_toArray, List.getElem?_cons_succ, List.getElem?_cons_zero]; rfl) (by kernel_rfl) (by kernel_rfl) (by kernel_rfl) (by exact fun _ _ _ h => h) (by kernel_rfl) (by assumption) ?y11 ?z11; case y11 => (intro w hSw; (try dsimp only at hSw); go_simp; (try (rw [if_neg (by omega)])); (try with_reducible rfl)))
          (try simp only [Act.put, List.setIfInBounds_toArray, List.set_cons_zero, List.set_cons_succ])
          (refine rg_yes 1 ?v12 (by simp only [List.getElem?_toArray, List.getElem?_cons_succ, List.getElem?_cons_zero]; rfl) (by kernel_rfl) (by kernel_rfl) (by kernel_rfl) (by exact fun _ _ _ h => h) (by kernel_rfl) (by assumption) ?y12 ?z12; case y12 => (intro w hSw; (try dsimp only at hSw); go_simp; (try (rw [if_neg (by omega)])); (try with_reducible rfl)))
          (try simp only [Act.put, List.setIfInBounds_toArray, List.set_cons_zero, List.set_cons_succ])
          refine rg_yes 2 _ (by simp only [List.getElem?_toArray, List.getElem?_cons_succ, List.getElem?_cons_zero]; rfl) (by kernel_rfl) (by kernel_rfl) (by kernel_rfl) (by exact fun _ _ _ h => h) (by kernel_rfl) (by assumption) (by exact fun w' hS => (exec_load_at (hS.cellH (n := 0) (by omega)) rfl rfl (fun w => by kernel_rfl))) ?_
          (try simp only [Act.put, List.setIfInBounds_toArray, List.set_cons_zero, List.set_cons_succ])
          (refine rg_yes 4 ?v13 (by simp only [List.getElem?_toArray, List.getElem?_cons_succ, List.getElem?_cons_zero]; rfl) (by kernel_rfl) (by kernel_rfl) (by kernel_rfl) (by exact fun _ _ _ h => h) (by kernel_rfl) (by assumption) ?y13 ?z13; case y13 => (intro w hSw; (try dsimp only at hSw); go_simp; (try (rw [if_neg (by omega)])); (try with_reducible rfl)))
          (try simp only [Act.put, List.setIfInBounds_toArray, List.set_cons_zero, List.set_cons_succ])
          refine rg_yes 5 _ (by simp only [List.getElem?_toArray, List.getElem?_cons_succ, List.getElem?_cons_zero]; rfl) (by kernel_rfl) (by kernel_rfl) (by kernel_rfl) (by exact fun _ _ _ h => h) (by kernel_rfl) (by assumption) (by exact fun w' hS => (exec_load_at (hS.cellH (n := 1) (by omega)) rfl rfl (fun w => by kernel_rfl))) ?_
          (try simp only [Act.put, List.setIfInBounds_toArray, List.set_cons_zero, List.set_cons_succ])
          refine rg_call 3 _ _ (by simp only [List.getElem?_toArray, List.getElem?_cons_succ, List.getElem?_cons_zero]; rfl) (by kernel_rfl) (by kernel_rfl) (fun w => by go_simp; exact ⟨rfl, rfl⟩) ?_
          refine (sortedP (H 0) (c 0) (m 0) (dirOf 0) (ps 0) (rr 0) _ (HT9.out.hp 0 (by omega)) (by omega)).mono ?_
          rintro e wc ⟨v3, rfl, hO3, hbc⟩
          rw [HV1.out] at hO3
          have hV3 : RowT wc w9.heap.size v3 S1 := RowT.of_own hO3 rfl
          obtain ⟨a3, c3, rfl⟩ := hV3.slice
          refine ⟨_, rfl, hHeld.below hbc, fun hHeld => ?_⟩
          (try simp only [Act.put, List.setIfInBounds_toArray, List.set_cons_zero, List.set_cons_succ])
          refine rg_call 6 _ _ (by simp only [List.getElem?_toArray, List.getElem?_cons_succ, List.getElem?_cons_zero]; rfl) (by kernel_rfl) (by kernel_rfl) (fun w => by go_simp; exact ⟨rfl, rfl⟩) ?_
          refine (sortedP (H 1) (c 1) (m 1) (dirOf 1) (ps 1) (rr 1) _ ((HT9.out.below hbc).hp 1 (by omega)) (by omega)).mono ?_
          rintro e wd ⟨v4, rfl, hO4, hbd⟩
          rw [HV2.out] at hO4
          have hV4 : RowT wd wc.heap.size v4 S2 := RowT.of_own hO4 rfl
          obtain ⟨a4, c4, rfl⟩ := hV4.slice
          have hV34 := hV3.below hbd
          have h3lt : ∀ q, (Value.slice a3 S1.length c3).ownBlock = some q → q < wc.heap.size := fun q hq => by
            obtain ⟨_, cs, hc⟩ := hV3.type hq
            exact lt_of_block hc
          refine ⟨_, rfl, hHeld.below hbd, fun hHeld => ?_⟩
          (try simp only [Act.put, List.setIfInBounds_toArray, List.set_cons_zero, List.set_cons_succ])
          have hTd := ((HT9.out.below hbc).below hbd).alloc (.cells #[.slice a3 S1.length c3, .slice a4 S2.length c4] 29)
          have hsc : w9.heap.size ≤ wc.heap.size := hbc.size
          have hsd : wc.heap.size ≤ wd.heap.size := hbd.size
          have hal : Below wd.heap.size wd (wd.alloc (.cells #[.slice a3 S1.length c3, .slice a4 S2.length c4] 29)) := (Below.refl _ _).alloc (Nat.le_refl _) _
          obtain ⟨v', w', hrun, hO', hg', _⟩ := run_append_own (P := Try.prog) (wd.alloc (.cells #[.slice a3 S1.length c3, .slice a4 S2.length c4] 29)) B 33 33 29 iL _ 1 24 Try.underlying33 hL1 hL2 hL3 hL4 rfl (by omega) u5 N ((List.range N).map TF) hTd.tr ⟨wd.heap.size, 0, none⟩ 2 2 [.slice a3 S1.length c3, .slice a4 S2.length c4] rfl (fun j u hj => by
            have hadd : (⟨wd.heap.size, 0, none⟩ : Addr).add j = ⟨wd.heap.size, j, none⟩ := by unfold Addr.add; split <;> simp_all
            rw [hadd, cell_of_row _ _ _ _ _ _ (heap_alloc_new wd _)]
            rcases j with _ | _ | j <;> simp at hj ⊢ <;> exact hj) (fun u hu => by simp at hu; rcases hu with rfl | rfl <;> rfl) (by unfold maxLen; omega) (by omega) hTd.sz
          have hTbA := (hHeld.below hal).grown hg' (fun q hq => by
            obtain ⟨cs, hc⟩ := own_type hTd.tr hq
            exact ⟨cs, _, hc, by decide, by decide⟩)
          have hTwA := hTd.tell2 (s := w9.heap.size) ((hV34.below hal).low hs9) ((hV4.below hal).low (by omega)) (fun q hq => (hV3.type hq).1) (fun q hq => by have := (hV4.type hq).1; omega) (fun q h h' => by have := h3lt q h; have := (hV4.type h').1; omega) HLN.out HLT.out hg' hO'
          have h17A : w'.heap[b17]? = some (.cells #[.slice a1 S1.length c1, .slice a2 S2.length c2] 46 (0, 0)) := by
            have h0 := rowAt_below (rowAt_below (rowAt_below (rowAt_below H17.out (Below.refl w9.heap.size w9).drew) hbc) hbd) hal
            refine (hg'.block b17 (lt_of_block h0) (fun e => ?_)).trans h0
            obtain ⟨cs, hc⟩ := own_type hTd.tr e.symm
            rw [h0] at hc
            injection hc with hc
            injection hc with _ hc
            exact absurd hc (by decide)
          have hkA : ∀ v ps, RowT w9 0 v ps → RowT w' 0 v ps := fun v ps hR => by
            have h0 := (((hR.below (Below.refl w9.heap.size w9).drew).below hbc).below hbd).below hal
            refine h0.congr fun q cs hq ho => hg'.block q (lt_of_block hq) (fun e => ?_)
            obtain ⟨cs', hc⟩ := own_type hTd.tr e.symm
            rw [hq] at hc
            injection hc with hc
            injection hc with _ hc
            exact absurd hc (by decide)
          have hRA1 := hkA _ _ HR1.out
          have hRA2 := hkA _ _ HR2.out
          refine rg_one 7 _ _ (by simp only [List.getElem?_toArray, List.getElem?_cons_succ, List.getElem?_cons_zero]; rfl) (by kernel_rfl) (by kernel_rfl) (by go_simp; first | exact ⟨rfl, rfl⟩ | rfl) (hHeld.below hal) (fun hHeld => ?_)
          (try simp only [Act.put, List.setIfInBounds_toArray, List.set_cons_zero, List.set_cons_succ])
          refine rg_one 8 _ _ (by simp only [List.getElem?_toArray, List.getElem?_cons_succ, List.getElem?_cons_zero]; rfl) (by kernel_rfl) (by kernel_rfl) (exec_append2 rfl rfl rfl rfl hrun) hTbA (fun hHeld => ?_)
          (try simp only [Act.put, List.setIfInBounds_toArray, List.set_cons_zero, List.set_cons_succ])
          (refine rg_yes 9 ?v14 (by simp only [List.getElem?_toArray, List.getElem?_cons_succ, List.getElem?_cons_zero]; rfl) (by kernel_rfl) (by kernel_rfl) (by kernel_rfl) (by exact fun _ _ _ h => h) (by kernel_rfl) (by assumption) ?y14 ?z14; case y14 => (intro w hSw; (try dsimp only at hSw); go_simp; (try (rw [if_neg (by omega)])); (try with_reducible rfl)))
          (try simp only [Act.put, List.setIfInBounds_toArray, List.set_cons_zero, List.set_cons_succ])
          refine wpAnyH_done (by kernel_rfl) ?_ _
          have HTWA := Lib.hid hTwA
          have HTBA := Lib.hid hTbA
          have H17A := Lib.hid h17A
          have HRA1 := Lib.hid hRA1
          have HRA2 := Lib.hid hRA2
          have H3LT := Lib.hid h3lt
          have hlo3 := fun q (hq : (Value.slice a3 S1.length c3).ownBlock = some q) => (hV3.type hq).1
          have hlo4 := fun q (hq : (Value.slice a4 S2.length c4).ownBlock = some q) => Nat.le_trans hsc (hV4.type hq).1
          have HLO3 := Lib.hid hlo3
          have HLO4 := Lib.hid hlo4
          clear hlo3 hlo4
          clear hTwA hTbA h17A hRA1 hRA2 hkA hrun hO' hg' hTd hal hV3 hV4 hV34 hO3 hO4 hHeld hTbd HT9 hbc hbd h3lt HR1 HR2 H17 HF
          obtain ⟨tb, tc, rfl⟩ : ∃ tb tc, v' = .slice (some ⟨tb, 0, none⟩) (N + 2) tc := by
            rcases HTWA.out.tr.2 with ⟨_, h0⟩ | ⟨gg, cp, cur, h1, _⟩
            · omega
            · exact ⟨gg, cp, h1⟩
          have hget : ∀ j u, ((List.range (N + 2)).map (upd (upd TF N (.slice a3 S1.length c3)) (N + 1) (.slice a4 S2.length c4)))[j]? = some u → w'.cell? ⟨tb, j, none⟩ = some u := fun j u hu => by
            have h0 := HTWA.out.tr.cells (g := tb) rfl j u hu
            have hadd : (⟨tb, 0, none⟩ : Addr).add j = ⟨tb, j, none⟩ := by unfold Addr.add; split <;> simp_all
            rwa [hadd] at h0
          have cT0 : w'.cell? ⟨tb, N, none⟩ = some (.slice a3 S1.length c3) := hget N _ (by rw [List.getElem?_map, List.getElem?_range (by omega)]; simp only [Option.map_some]; rw [upd_other _ _ (by omega), upd_same])
          have cT1 : w'.cell? ⟨tb, N + 1, none⟩ = some (.slice a4 S2.length c4) := hget (N + 1) _ (by rw [List.getElem?_map, List.getElem?_range (by omega)]; simp only [Option.map_some]; rw [upd_same])
          have cL0 : w'.cell? ⟨b17, 0, none⟩ = some (.slice a1 S1.length c1) := by rw [cell_of_row _ _ _ _ _ _ H17A.out]; rfl
          have cL1 : w'.cell? ⟨b17, 1, none⟩ = some (.slice a2 S2.length c2) := by rw [cell_of_row _ _ _ _ _ _ H17A.out]; rfl
          have hGET := Lib.hid hget
          have HT0 := Lib.hid cT0
          have HT1 := Lib.hid cT1
          have HC0 := Lib.hid cL0
          have HC1 := Lib.hid cL1
          have htb : tb < w'.heap.size := World.block_lt_of_cell? w' _ cT0
          have h17b := lt_of_block H17A.out
          clear hget cT0 cT1 cL0 cL1 hHeld
          have hwN : IntKind.i64.wrap (N : Int) = N := IntWalk.i64_in _ (by omega)
          have hwN1 : IntKind.i64.wrap ((N : Int) + 2 - 1) = (N : Int) + 1 := by rw [IntWalk.i64_in _ (by omega)]; omega
          have hNa : ((N : Int) < (N : Int) + 2) := by omega
          have hNb : ((N : Int) + 1 < (N : Int) + 2) := by omega
          have hNc : (0 : Int) ≤ (N : Int) + 1 := by omega
          have hNd : ((N : Int) + 1).toNat = N + 1 := by omega
          go_wp2_with fail
          refine wp_region_held_drew (S := fun w'' => (w''.heap[tb]? = w'.heap[tb]? ∧ w''.heap[b17]? = w'.heap[b17]?) ∧ w'.heap.size ≤ w''.heap.size) (by kernel_rfl) ⟨⟨rfl, rfl⟩, Nat.le_refl _⟩ (fun hHeld => ?_)
          (refine rg_yes 0 ?v15 (by simp only [List.getElem?_toArray, List.getElem?_cons_succ, List.getElem?_cons_zero]; rfl) (by kernel_rfl) (by kernel_rfl) (by kernel_rfl) (by exact fun _ _ _ h => h) (by kernel_rfl) (by assumption) ?y15 ?z15; case y15 => (intro w hSw; (try dsimp only at hSw); go_simp; (try (rw [if_neg (by omega)])); (try with_reducible rfl)))
          (try simp only [Act.put, List.setIfInBounds_toArray, List.set_cons_zero, List.set_cons_succ])
          (refine rg_yes 1 ?v16 (by simp only [List.getElem?_toArray, List.getElem?_cons_succ, List.getElem?_cons_zero]; rfl) (by kernel_rfl) (by kernel_rfl) (by kernel_rfl) (by exact fun _ _ _ h => h) (by kernel_rfl) (by assumption) ?y16 ?z16; case y16 => (intro w hSw; (try dsimp only at hSw); go_simp; (try (rw [if_neg (by omega)])); (try with_reducible rfl)))
          (try simp only [Act.put, List.setIfInBounds_toArray, List.set_cons_zero, List.set_cons_succ])
          (refine rg_yes 2 ?v17 (by simp only [List.getElem?_toArray, List.getElem?_cons_succ, List.getElem?_cons_zero]; rfl) (by kernel_rfl) (by kernel_rfl) (by kernel_rfl) (by exact fun _ _ _ h => h) (by kernel_rfl) (by assumption) ?y17 ?z17; case y17 => (intro w hSw; (try dsimp only at hSw); go_simp; (try (rw [if_neg (by omega)])); (try with_reducible rfl)))
          (try simp only [Act.put, List.setIfInBounds_toArray, List.set_cons_zero, List.set_cons_succ])
          (refine rg_yes 3 ?v18 (by simp only [List.getElem?_toArray, List.getElem?_cons_succ, List.getElem?_cons_zero]; rfl) (by kernel_rfl) (by kernel_rfl) (by kernel_rfl) (by exact fun _ _ _ h => h) (by kernel_rfl) (by assumption) ?y18 ?z18; case y18 => (intro w hSw; (try dsimp only at hSw); go_simp; (try (rw [if_neg (by omega)])); (try with_reducible rfl)))
          (try simp only [Act.put, List.setIfInBounds_toArray, List.set_cons_zero, List.set_cons_succ])
          (refine rg_yes 4 ?v19 (by simp only [List.getElem?_toArray, List.getElem?_cons_succ, List.getElem?_cons_zero]; rfl) (by kernel_rfl) (by kernel_rfl) (by kernel_rfl) (by exact fun _ _ _ h => h) (by kernel_rfl) (by assumption) ?y19 ?z19; case y19 => (intro w hSw; (try dsimp only at hSw); go_simp; (try (rw [if_neg (by omega)])); (try with_reducible rfl)))
          (try simp only [Act.put, List.setIfInBounds_toArray, List.set_cons_zero, List.set_cons_succ])
          refine rg_yes 5 _ (by simp only [List.getElem?_toArray, List.getElem?_cons_succ, List.getElem?_cons_zero]; rfl) (by kernel_rfl) (by kernel_rfl) (by kernel_rfl) (by exact fun _ _ _ h => h) (by kernel_rfl) (by assumption) (by exact fun w' hS => (exec_load_at ((cell_kept hS.1.1).trans HT0.out) rfl rfl (fun w => by kernel_rfl))) ?_
          (try simp only [Act.put, List.setIfInBounds_toArray, List.set_cons_zero, List.set_cons_succ])
          (refine rg_yes 6 ?v20 (by simp only [List.getElem?_toArray, List.getElem?_cons_succ, List.getElem?_cons_zero]; rfl) (by kernel_rfl) (by kernel_rfl) (by kernel_rfl) (by exact fun _ _ _ h => h) (by kernel_rfl) (by assumption) ?y20 ?z20; case y20 => (intro w hSw; (try dsimp only at hSw); go_simp; (try (rw [if_neg (by omega)])); (try with_reducible rfl)))
          (try simp only [Act.put, List.setIfInBounds_toArray, List.set_cons_zero, List.set_cons_succ])
          refine rg_yes 7 _ (by simp only [List.getElem?_toArray, List.getElem?_cons_succ, List.getElem?_cons_zero]; rfl) (by kernel_rfl) (by kernel_rfl) (by kernel_rfl) (by exact fun _ _ _ h => h) (by kernel_rfl) (by assumption) (by exact fun w' hS => (exec_load_at ((cell_kept hS.1.2).trans HC0.out) rfl rfl (fun w => by kernel_rfl))) ?_
          (try simp only [Act.put, List.setIfInBounds_toArray, List.set_cons_zero, List.set_cons_succ])
          refine rg_call 8 _ _ (by simp only [List.getElem?_toArray, List.getElem?_cons_succ, List.getElem?_cons_zero]; rfl) (by kernel_rfl) (by kernel_rfl) (fun w => by go_simp; exact ⟨rfl, rfl⟩) ?_
          have hTA : RowT w' B (.slice a3 S1.length c3) S1 := by
            have h0 := HTWA.out.tl N (by omega)
            rw [upd_other _ _ (by omega), upd_same, upd_other _ _ (by omega), upd_same] at h0
            exact h0
          have hTB : RowT w' B (.slice a4 S2.length c4) S2 := by
            have h0 := HTWA.out.tl (N + 1) (by omega)
            rw [upd_same, upd_same] at h0
            exact h0
          refine (sameTwos_any _ _ S1 S1 _ ((hTA.below (Below.refl _ _).drew).reads (by omega)) ((HRA1.out.below (Below.refl _ _).drew).reads (by omega))).mono ?_
          rintro e we ⟨rfl, hbe⟩
          rw [decide_eq_true rfl]
          have hbe' : Below w'.heap.size w' we := (Below.refl _ _).drew.trans (hbe.mono (Nat.le_refl _))
          refine ⟨_, rfl, ⟨⟨hbe'.block tb htb, hbe'.block b17 h17b⟩, hbe'.size⟩, fun hHeld => ?_⟩
          (try simp only [Act.put, List.setIfInBounds_toArray, List.set_cons_zero, List.set_cons_succ])
          (refine rg_yes 9 ?v21 (by simp only [List.getElem?_toArray, List.getElem?_cons_succ, List.getElem?_cons_zero]; rfl) (by kernel_rfl) (by kernel_rfl) (by kernel_rfl) (by exact fun _ _ _ h => h) (by kernel_rfl) (by assumption) ?y21 ?z21; case y21 => (intro w hSw; (try dsimp only at hSw); go_simp; (try (rw [if_neg (by omega)])); (try with_reducible rfl)))
          (try simp only [Act.put, List.setIfInBounds_toArray, List.set_cons_zero, List.set_cons_succ])
          (refine rg_yes 10 ?v22 (by simp only [List.getElem?_toArray, List.getElem?_cons_succ, List.getElem?_cons_zero]; rfl) (by kernel_rfl) (by kernel_rfl) (by kernel_rfl) (by exact fun _ _ _ h => h) (by kernel_rfl) (by assumption) ?y22 ?z22; case y22 => (intro w hSw; (try dsimp only at hSw); go_simp; (try (rw [if_neg (by omega)])); (try with_reducible rfl)))
          (try simp only [Act.put, List.setIfInBounds_toArray, List.set_cons_zero, List.set_cons_succ])
          (refine rg_yes 11 ?v23 (by simp only [List.getElem?_toArray, List.getElem?_cons_succ, List.getElem?_cons_zero]; rfl) (by kernel_rfl) (by kernel_rfl) (by kernel_rfl) (by exact fun _ _ _ h => h) (by kernel_rfl) (by assumption) ?y23 ?z23; case y23 => (intro w hSw; (try dsimp only at hSw); go_simp; (try (rw [if_neg (by omega)])); (try with_reducible rfl)))
          (try simp only [Act.put, List.setIfInBounds_toArray, List.set_cons_zero, List.set_cons_succ])
          (refine rg_yes 12 ?v24 (by simp only [List.getElem?_toArray, List.getElem?_cons_succ, List.getElem?_cons_zero]; rfl) (by kernel_rfl) (by kernel_rfl) (by kernel_rfl) (by exact fun _ _ _ h => h) (by kernel_rfl) (by assumption) ?y24 ?z24; case y24 => (intro w hSw; (try dsimp only at hSw); go_simp; (try (rw [if_neg (by omega)])); (try with_reducible rfl)))
          (try simp only [Act.put, List.setIfInBounds_toArray, List.set_cons_zero, List.set_cons_succ])
          (refine rg_yes 13 ?v25 (by simp only [List.getElem?_toArray, List.getElem?_cons_succ, List.getElem?_cons_zero]; rfl) (by kernel_rfl) (by kernel_rfl) (by kernel_rfl) (by exact fun _ _ _ h => h) (by kernel_rfl) (by assumption) ?y25 ?z25; case y25 => (intro w hSw; (try dsimp only at hSw); go_simp; (try (rw [if_neg (by omega)])); (try with_reducible rfl)))
          (try simp only [Act.put, List.setIfInBounds_toArray, List.set_cons_zero, List.set_cons_succ])
          (refine rg_yes 14 ?v26 (by simp only [List.getElem?_toArray, List.getElem?_cons_succ, List.getElem?_cons_zero]; rfl) (by kernel_rfl) (by kernel_rfl) (by kernel_rfl) (by exact fun _ _ _ h => h) (by kernel_rfl) (by assumption) ?y26 ?z26; case y26 => (intro w hSw; (try dsimp only at hSw); go_simp; (try (rw [if_neg (by omega)])); (try with_reducible rfl)))
          (try simp only [Act.put, List.setIfInBounds_toArray, List.set_cons_zero, List.set_cons_succ])
          (refine rg_yes 15 ?v27 (by simp only [List.getElem?_toArray, List.getElem?_cons_succ, List.getElem?_cons_zero]; rfl) (by kernel_rfl) (by kernel_rfl) (by kernel_rfl) (by exact fun _ _ _ h => h) (by kernel_rfl) (by assumption) ?y27 ?z27; case y27 => (intro w hSw; (try dsimp only at hSw); go_simp; (try (rw [if_neg (by omega)])); (try with_reducible rfl)))
          (try simp only [Act.put, List.setIfInBounds_toArray, List.set_cons_zero, List.set_cons_succ])
          refine rg_yes 16 _ (by simp only [List.getElem?_toArray, List.getElem?_cons_succ, List.getElem?_cons_zero]; rfl) (by kernel_rfl) (by kernel_rfl) (by kernel_rfl) (by exact fun _ _ _ h => h) (by kernel_rfl) (by assumption) (by exact fun w' hS => (exec_load_at ((cell_kept hS.1.1).trans HT1.out) rfl rfl (fun w => by kernel_rfl))) ?_
          (try simp only [Act.put, List.setIfInBounds_toArray, List.set_cons_zero, List.set_cons_succ])
          (refine rg_yes 17 ?v28 (by simp only [List.getElem?_toArray, List.getElem?_cons_succ, List.getElem?_cons_zero]; rfl) (by kernel_rfl) (by kernel_rfl) (by kernel_rfl) (by exact fun _ _ _ h => h) (by kernel_rfl) (by assumption) ?y28 ?z28; case y28 => (intro w hSw; (try dsimp only at hSw); go_simp; (try (rw [if_neg (by omega)])); (try with_reducible rfl)))
          (try simp only [Act.put, List.setIfInBounds_toArray, List.set_cons_zero, List.set_cons_succ])
          refine rg_yes 18 _ (by simp only [List.getElem?_toArray, List.getElem?_cons_succ, List.getElem?_cons_zero]; rfl) (by kernel_rfl) (by kernel_rfl) (by kernel_rfl) (by exact fun _ _ _ h => h) (by kernel_rfl) (by assumption) (by exact fun w' hS => (exec_load_at ((cell_kept hS.1.2).trans HC1.out) rfl rfl (fun w => by kernel_rfl))) ?_
          (try simp only [Act.put, List.setIfInBounds_toArray, List.set_cons_zero, List.set_cons_succ])
          refine rg_call 19 _ _ (by simp only [List.getElem?_toArray, List.getElem?_cons_succ, List.getElem?_cons_zero]; rfl) (by kernel_rfl) (by kernel_rfl) (fun w => by go_simp; exact ⟨rfl, rfl⟩) ?_
          refine (sameTwos_any _ _ S2 S2 _ ((hTB.below hbe').reads (by omega)) ((HRA2.out.below hbe').reads (by omega))).mono ?_
          rintro e wf ⟨rfl, hbf⟩
          rw [decide_eq_true rfl]
          have hbf' : Below w'.heap.size w' wf := hbe'.trans (hbf.mono hbe'.size)
          refine ⟨_, rfl, ⟨⟨hbf'.block tb htb, hbf'.block b17 h17b⟩, hbf'.size⟩, fun hHeld => ?_⟩
          (try simp only [Act.put, List.setIfInBounds_toArray, List.set_cons_zero, List.set_cons_succ])
          (refine rg_yes 20 ?v29 (by simp only [List.getElem?_toArray, List.getElem?_cons_succ, List.getElem?_cons_zero]; rfl) (by kernel_rfl) (by kernel_rfl) (by kernel_rfl) (by exact fun _ _ _ h => h) (by kernel_rfl) (by assumption) ?y29 ?z29; case y29 => (intro w hSw; (try dsimp only at hSw); go_simp; (try (rw [if_neg (by omega)])); (try with_reducible rfl)))
          (try simp only [Act.put, List.setIfInBounds_toArray, List.set_cons_zero, List.set_cons_succ])
          (refine rg_yes 21 ?v30 (by simp only [List.getElem?_toArray, List.getElem?_cons_succ, List.getElem?_cons_zero]; rfl) (by kernel_rfl) (by kernel_rfl) (by kernel_rfl) (by exact fun _ _ _ h => h) (by kernel_rfl) (by assumption) ?y30 ?z30; case y30 => (intro w hSw; (try dsimp only at hSw); go_simp; (try (rw [if_neg (by omega)])); (try with_reducible rfl)))
          (try simp only [Act.put, List.setIfInBounds_toArray, List.set_cons_zero, List.set_cons_succ])
          (refine rg_yes 22 ?v31 (by simp only [List.getElem?_toArray, List.getElem?_cons_succ, List.getElem?_cons_zero]; rfl) (by kernel_rfl) (by kernel_rfl) (by kernel_rfl) (by exact fun _ _ _ h => h) (by kernel_rfl) (by assumption) ?y31 ?z31; case y31 => (intro w hSw; (try dsimp only at hSw); go_simp; (try (rw [if_neg (by omega)])); (try with_reducible rfl)))
          (try simp only [Act.put, List.setIfInBounds_toArray, List.set_cons_zero, List.set_cons_succ])
          (refine rg_yes 23 ?v32 (by simp only [List.getElem?_toArray, List.getElem?_cons_succ, List.getElem?_cons_zero]; rfl) (by kernel_rfl) (by kernel_rfl) (by kernel_rfl) (by exact fun _ _ _ h => h) (by kernel_rfl) (by assumption) ?y32 ?z32; case y32 => (intro w hSw; (try dsimp only at hSw); go_simp; (try (rw [if_neg (by omega)])); (try with_reducible rfl)))
          (try simp only [Act.put, List.setIfInBounds_toArray, List.set_cons_zero, List.set_cons_succ])
          refine rg_call 24 _ _ (by simp only [List.getElem?_toArray, List.getElem?_cons_succ, List.getElem?_cons_zero]; rfl) (by kernel_rfl) (by kernel_rfl) (fun w => by go_simp; exact ⟨rfl, rfl⟩) ?_
          have hTWf := HTWA.out.below hbf'
          have hTCl : ∀ j, j < N + 2 → (upd (upd TC N S1) (N + 1) S2 j).length ≤ xs.length := fun j hj => by
            by_cases e1 : j = N + 1
            · subst e1; rw [upd_same]; exact HN2
            · rw [upd_other _ _ e1]
              by_cases e2 : j = N
              · subst e2; rw [upd_same]; exact HN1
              · rw [upd_other _ _ e2]; exact HTC.out j (by omega)
          have hTFl : ∀ j q, j < N + 2 → (upd (upd TF N (.slice a3 S1.length c3)) (N + 1) (.slice a4 S2.length c4) j).ownBlock = some q → q ≠ tb ∧ B ≤ q ∧ ∃ cs, wf.heap[q]? = some (.cells cs 25 (0, 0)) := fun j q hj h => by
            obtain ⟨hq, cs, hc⟩ := (hTWf.tl j hj).type h
            refine ⟨fun e => ?_, hq, cs, hc⟩
            obtain ⟨ds, hd⟩ := own_type hTWf.tr (g := tb) rfl
            rw [e, hd] at hc
            injection hc with hc
            injection hc with _ hc
            exact absurd hc (by decide)
          refine (apart_any tb tc (N + 2) (upd (upd TF N (.slice a3 S1.length c3)) (N + 1) (.slice a4 S2.length c4)) (fun j => (upd (upd TC N S1) (N + 1) S2 j).length) (upd (upd TC N S1) (N + 1) S2) wf (by omega) (fun j hj => ?_) (by have := hbf'.size; omega) (fun j q hj h => (hTFl j q hj h).1) (hTWf.fam (fun j hj => by have := hTCl j hj; omega)) (fun j hj => rfl) (fun j hj => by have := hTCl j hj; omega)).mono ?_
          · exact (cell_kept (hbf'.block tb htb)).trans (hGET.out j _ (by rw [List.getElem?_map, List.getElem?_range hj]; rfl))
          · rintro e wg ⟨rfl, hWg⟩
            have hkey : ∀ (k : Nat) (cs : Array Value) (t : TypeId), wf.heap[k]? = some (.cells cs t (0, 0)) → t ≠ 25 → wg.heap[k]? = wf.heap[k]? := fun k cs t hk ht => hWg.block k (lt_of_block hk) fun ⟨j, hj, ho⟩ => by
              obtain ⟨_, _, ds, hd⟩ := hTFl j k hj ho
              rw [hk] at hd
              injection hd with hd
              injection hd with _ hd
              exact ht hd
            have h17f := rowAt_below H17A.out hbf'
            obtain ⟨dsT, hdT⟩ := own_type hTWf.tr (g := tb) rfl
            have hgT := (hkey _ _ _ hdT (by decide)).trans (hbf'.block tb htb)
            have hg17 := (hkey _ _ _ h17f (by decide)).trans (hbf'.block b17 h17b)
            have H17g := Lib.hid ((hkey _ _ _ h17f (by decide)).trans h17f)
            have hpG : ∀ n, n < 2 → HeapP wg (H n) (c n) (dirOf n) (ps n) (m n) (rr n) := fun n hn => (hTWf.hp n hn).keptT fun k cs t hk h1 _ _ => hkey k cs t hk h1
            have hTbf := HTBA.out.below hbf'
            have hTbg : Tabs wg bH bR H Q := ⟨(hkey _ _ _ hTbf.1 (by decide)).trans hTbf.1, (hkey _ _ _ hTbf.2 (by decide)).trans hTbf.2⟩
            have hfar : ∀ q, wz.heap.size ≤ q → q < w9.heap.size → ∀ j, j < N + 2 → (upd (upd TF N (.slice a3 S1.length c3)) (N + 1) (.slice a4 S2.length c4) j).ownBlock = some q → False := fun q h1 h2 j hj h => by
              by_cases e1 : j = N + 1
              · subst e1
                rw [upd_same] at h
                have := HLO4.out q h
                omega
              · rw [upd_other _ _ e1] at h
                by_cases e2 : j = N
                · subst e2
                  rw [upd_same] at h
                  have := HLO3.out q h
                  omega
                · rw [upd_other _ _ e2] at h
                  obtain ⟨_, cs, hc⟩ := (HTw.out.tl j (by omega)).type h
                  have := lt_of_block hc
                  omega
            have hRg : ∀ v ps, RowT w' 0 v ps → (∀ q, v.ownBlock = some q → wz.heap.size ≤ q ∧ q < w9.heap.size) → RowT wg 0 v ps := fun v ps hR hq0 => (hR.below hbf').congr fun q cs hq ho => hWg.block q (lt_of_block hq) fun ⟨j, hj, h⟩ => hfar q (hq0 q ho).1 (hq0 q ho).2 j hj h
            have hR1g := hRg _ _ HRA1.out (fun q hq => ⟨HLOv1.out q hq, HL1.out q hq⟩)
            have hR2g := hRg _ _ HRA2.out (fun q hq => ⟨HLOv2.out q hq, HL2.out q hq⟩)
            have hbg : Below B w wg := (HTWA.out.bl.trans (hbf'.mono HTWA.out.sz)).trans ⟨hWg.os, hWg.tape, hWg.output, hWg.size, fun k hk => hWg.block k (by have := hTWf.sz; omega) fun ⟨j, hj, h⟩ => by
              have := (hTFl j k hj h).2.1
              omega⟩
            refine ⟨_, rfl, ⟨⟨hgT, hg17⟩, Nat.le_trans hbf'.size hWg.size⟩, fun hHeld => ?_⟩
            (try simp only [Act.put, List.setIfInBounds_toArray, List.set_cons_zero, List.set_cons_succ])
            (refine rg_yes 25 ?v33 (by simp only [List.getElem?_toArray, List.getElem?_cons_succ, List.getElem?_cons_zero]; rfl) (by kernel_rfl) (by kernel_rfl) (by kernel_rfl) (by exact fun _ _ _ h => h) (by kernel_rfl) (by assumption) ?y33 ?z33; case y33 => (intro w hSw; (try dsimp only at hSw); go_simp; (try (rw [if_neg (by omega)])); (try with_reducible rfl)))
            (try simp only [Act.put, List.setIfInBounds_toArray, List.set_cons_zero, List.set_cons_succ])
            (refine rg_yes 26 ?v34 (by simp only [List.getElem?_toArray, List.getElem?_cons_succ, List.getElem?_cons_zero]; rfl) (by kernel_rfl) (by kernel_rfl) (by kernel_rfl) (by exact fun _ _ _ h => h) (by kernel_rfl) (by assumption) ?y34 ?z34; case y34 => (intro w hSw; (try dsimp only at hSw); go_simp; (try (rw [if_neg (by omega)])); (try with_reducible rfl)))
            (try simp only [Act.put, List.setIfInBounds_toArray, List.set_cons_zero, List.set_cons_succ])
            refine wpAnyH_done (by kernel_rfl) ?_ _
            have HPG := Lib.hid hpG
            have HTBG := Lib.hid hTbg
            have HR1G := Lib.hid hR1g
            have HR2G := Lib.hid hR2g
            have HBG := Lib.hid hbg
            have hszg := hWg.size
            clear hkey h17f hdT hgT hg17 hpG hTbf hTbg hfar hRg hR1g hR2g hbg hWg hTFl hTCl hTWf hbf' hbf hbe' hbe hTA hTB hHeld hwN hwN1 hNa hNb hNc hNd
            go_wp2_with fail
            refine wp_region_held_drew (S := fun w'' => Below wg.heap.size wg w'') (by kernel_rfl) (Below.refl _ _).drew (fun hHeld => ?_)
            (refine rg_yes 0 ?v35 (by simp only [List.getElem?_toArray, List.getElem?_cons_succ, List.getElem?_cons_zero]; rfl) (by kernel_rfl) (by kernel_rfl) (by kernel_rfl) (by exact fun _ _ _ h => h) (by kernel_rfl) (by assumption) ?y35 ?z35; case y35 => (intro w hSw; (try dsimp only at hSw); go_simp; (try (rw [if_neg (by omega)])); (try with_reducible rfl)))
            (try simp only [Act.put, List.setIfInBounds_toArray, List.set_cons_zero, List.set_cons_succ])
            refine rg_yes 1 _ (by simp only [List.getElem?_toArray, List.getElem?_cons_succ, List.getElem?_cons_zero]; rfl) (by kernel_rfl) (by kernel_rfl) (by kernel_rfl) (by exact fun _ _ _ h => h) (by kernel_rfl) (by assumption) (by exact fun w' hS => (exec_load_at ((HTBG.out.below hS).cellH (n := 0) (by omega)) rfl rfl (fun w => by kernel_rfl))) ?_
            (try simp only [Act.put, List.setIfInBounds_toArray, List.set_cons_zero, List.set_cons_succ])
            (refine rg_yes 3 ?v36 (by simp only [List.getElem?_toArray, List.getElem?_cons_succ, List.getElem?_cons_zero]; rfl) (by kernel_rfl) (by kernel_rfl) (by kernel_rfl) (by exact fun _ _ _ h => h) (by kernel_rfl) (by assumption) ?y36 ?z36; case y36 => (intro w hSw; (try dsimp only at hSw); go_simp; (try (rw [if_neg (by omega)])); (try with_reducible rfl)))
            (try simp only [Act.put, List.setIfInBounds_toArray, List.set_cons_zero, List.set_cons_succ])
            refine rg_yes 4 _ (by simp only [List.getElem?_toArray, List.getElem?_cons_succ, List.getElem?_cons_zero]; rfl) (by kernel_rfl) (by kernel_rfl) (by kernel_rfl) (by exact fun _ _ _ h => h) (by kernel_rfl) (by assumption) (by exact fun w' hS => (exec_load_one (v := .slice a1 S1.length c1) (rowAt_below H17g.out hS) rfl rfl rfl (fun w => by kernel_rfl))) ?_
            (try simp only [Act.put, List.setIfInBounds_toArray, List.set_cons_zero, List.set_cons_succ])
            refine rg_call 2 _ _ (by simp only [List.getElem?_toArray, List.getElem?_cons_succ, List.getElem?_cons_zero]; rfl) (by kernel_rfl) (by kernel_rfl) (fun w => by go_simp; exact ⟨rfl, rfl⟩) ?_
            refine (sortedP (H 0) (c 0) (m 0) (dirOf 0) (ps 0) (rr 0) _ ((HPG.out 0 (by omega)).below hHeld) (by omega)).mono ?_
            rintro e wh ⟨v5, rfl, hO5, hbh⟩
            rw [HV1.out] at hO5
            have hV5 := RowT.of_own hO5 rfl
            have hHh : Below wg.heap.size wg wh := hHeld.trans (hbh.mono hHeld.size)
            refine ⟨_, rfl, hHh, fun hHeld => ?_⟩
            (try simp only [Act.put, List.setIfInBounds_toArray, List.set_cons_zero, List.set_cons_succ])
            refine rg_call 5 _ _ (by simp only [List.getElem?_toArray, List.getElem?_cons_succ, List.getElem?_cons_zero]; rfl) (by kernel_rfl) (by kernel_rfl) (fun w => by go_simp; exact ⟨rfl, rfl⟩) ?_
            refine (sameTwos_any _ _ S1 S1 _ (hV5.reads (by omega)) ((HR1G.out.below hHh).reads (by omega))).mono ?_
            rintro e wi ⟨rfl, hbi⟩
            rw [decide_eq_true rfl]
            have hHi : Below wg.heap.size wg wi := hHh.trans (hbi.mono hHh.size)
            refine ⟨_, rfl, hHi, fun hHeld => ?_⟩
            (try simp only [Act.put, List.setIfInBounds_toArray, List.set_cons_zero, List.set_cons_succ])
            (refine rg_yes 6 ?v37 (by simp only [List.getElem?_toArray, List.getElem?_cons_succ, List.getElem?_cons_zero]; rfl) (by kernel_rfl) (by kernel_rfl) (by kernel_rfl) (by exact fun _ _ _ h => h) (by kernel_rfl) (by assumption) ?y37 ?z37; case y37 => (intro w hSw; (try dsimp only at hSw); go_simp; (try (rw [if_neg (by omega)])); (try with_reducible rfl)))
            (try simp only [Act.put, List.setIfInBounds_toArray, List.set_cons_zero, List.set_cons_succ])
            (refine rg_yes 7 ?v38 (by simp only [List.getElem?_toArray, List.getElem?_cons_succ, List.getElem?_cons_zero]; rfl) (by kernel_rfl) (by kernel_rfl) (by kernel_rfl) (by exact fun _ _ _ h => h) (by kernel_rfl) (by assumption) ?y38 ?z38; case y38 => (intro w hSw; (try dsimp only at hSw); go_simp; (try (rw [if_neg (by omega)])); (try with_reducible rfl)))
            (try simp only [Act.put, List.setIfInBounds_toArray, List.set_cons_zero, List.set_cons_succ])
            refine rg_yes 8 _ (by simp only [List.getElem?_toArray, List.getElem?_cons_succ, List.getElem?_cons_zero]; rfl) (by kernel_rfl) (by kernel_rfl) (by kernel_rfl) (by exact fun _ _ _ h => h) (by kernel_rfl) (by assumption) (by exact fun w' hS => (exec_load_at ((HTBG.out.below hS).cellH (n := 1) (by omega)) rfl rfl (fun w => by kernel_rfl))) ?_
            (try simp only [Act.put, List.setIfInBounds_toArray, List.set_cons_zero, List.set_cons_succ])
            (refine rg_yes 10 ?v39 (by simp only [List.getElem?_toArray, List.getElem?_cons_succ, List.getElem?_cons_zero]; rfl) (by kernel_rfl) (by kernel_rfl) (by kernel_rfl) (by exact fun _ _ _ h => h) (by kernel_rfl) (by assumption) ?y39 ?z39; case y39 => (intro w hSw; (try dsimp only at hSw); go_simp; (try (rw [if_neg (by omega)])); (try with_reducible rfl)))
            (try simp only [Act.put, List.setIfInBounds_toArray, List.set_cons_zero, List.set_cons_succ])
            refine rg_yes 11 _ (by simp only [List.getElem?_toArray, List.getElem?_cons_succ, List.getElem?_cons_zero]; rfl) (by kernel_rfl) (by kernel_rfl) (by kernel_rfl) (by exact fun _ _ _ h => h) (by kernel_rfl) (by assumption) (by exact fun w' hS => (exec_load_one (v := .slice a2 S2.length c2) (rowAt_below H17g.out hS) rfl rfl rfl (fun w => by kernel_rfl))) ?_
            (try simp only [Act.put, List.setIfInBounds_toArray, List.set_cons_zero, List.set_cons_succ])
            refine rg_call 9 _ _ (by simp only [List.getElem?_toArray, List.getElem?_cons_succ, List.getElem?_cons_zero]; rfl) (by kernel_rfl) (by kernel_rfl) (fun w => by go_simp; exact ⟨rfl, rfl⟩) ?_
            refine (sortedP (H 1) (c 1) (m 1) (dirOf 1) (ps 1) (rr 1) _ ((HPG.out 1 (by omega)).below hHi) (by omega)).mono ?_
            rintro e wj ⟨v6, rfl, hO6, hbj⟩
            rw [HV2.out] at hO6
            have hV6 := RowT.of_own hO6 rfl
            have hHj : Below wg.heap.size wg wj := hHi.trans (hbj.mono hHi.size)
            refine ⟨_, rfl, hHj, fun hHeld => ?_⟩
            (try simp only [Act.put, List.setIfInBounds_toArray, List.set_cons_zero, List.set_cons_succ])
            refine rg_call 12 _ _ (by simp only [List.getElem?_toArray, List.getElem?_cons_succ, List.getElem?_cons_zero]; rfl) (by kernel_rfl) (by kernel_rfl) (fun w => by go_simp; exact ⟨rfl, rfl⟩) ?_
            refine (sameTwos_any _ _ S2 S2 _ (hV6.reads (by omega)) ((HR2G.out.below hHj).reads (by omega))).mono ?_
            rintro e wk ⟨rfl, hbk⟩
            rw [decide_eq_true rfl]
            have hHk : Below wg.heap.size wg wk := hHj.trans (hbk.mono hHj.size)
            refine ⟨_, rfl, hHk, fun hHeld => ?_⟩
            (try simp only [Act.put, List.setIfInBounds_toArray, List.set_cons_zero, List.set_cons_succ])
            (refine rg_yes 13 ?v40 (by simp only [List.getElem?_toArray, List.getElem?_cons_succ, List.getElem?_cons_zero]; rfl) (by kernel_rfl) (by kernel_rfl) (by kernel_rfl) (by exact fun _ _ _ h => h) (by kernel_rfl) (by assumption) ?y40 ?z40; case y40 => (intro w hSw; (try dsimp only at hSw); go_simp; (try (rw [if_neg (by omega)])); (try with_reducible rfl)))
            (try simp only [Act.put, List.setIfInBounds_toArray, List.set_cons_zero, List.set_cons_succ])
            (refine rg_yes 14 ?v41 (by simp only [List.getElem?_toArray, List.getElem?_cons_succ, List.getElem?_cons_zero]; rfl) (by kernel_rfl) (by kernel_rfl) (by kernel_rfl) (by exact fun _ _ _ h => h) (by kernel_rfl) (by assumption) ?y41 ?z41; case y41 => (intro w hSw; (try dsimp only at hSw); go_simp; (try (rw [if_neg (by omega)])); (try with_reducible rfl)))
            (try simp only [Act.put, List.setIfInBounds_toArray, List.set_cons_zero, List.set_cons_succ])
            refine rg_call 15 _ _ (by simp only [List.getElem?_toArray, List.getElem?_cons_succ, List.getElem?_cons_zero]; rfl) (by kernel_rfl) (by kernel_rfl) (fun w => by go_simp; exact ⟨rfl, rfl⟩) ?_
            refine (works_any wk).mono ?_
            rintro e wl ⟨rfl, hbl⟩
            have hHl : Below wg.heap.size wg wl := hHk.trans (hbl.mono hHk.size)
            refine ⟨_, rfl, hHl, fun hHeld => ?_⟩
            (try simp only [Act.put, List.setIfInBounds_toArray, List.set_cons_zero, List.set_cons_succ])
            (refine rg_yes 16 ?v42 (by simp only [List.getElem?_toArray, List.getElem?_cons_succ, List.getElem?_cons_zero]; rfl) (by kernel_rfl) (by kernel_rfl) (by kernel_rfl) (by exact fun _ _ _ h => h) (by kernel_rfl) (by assumption) ?y42 ?z42; case y42 => (intro w hSw; (try dsimp only at hSw); go_simp; (try (rw [if_neg (by omega)])); (try with_reducible rfl)))
            (try simp only [Act.put, List.setIfInBounds_toArray, List.set_cons_zero, List.set_cons_succ])
            (refine rg_yes 17 ?v43 (by simp only [List.getElem?_toArray, List.getElem?_cons_succ, List.getElem?_cons_zero]; rfl) (by kernel_rfl) (by kernel_rfl) (by kernel_rfl) (by exact fun _ _ _ h => h) (by kernel_rfl) (by assumption) ?y43 ?z43; case y43 => (intro w hSw; (try dsimp only at hSw); go_simp; (try (rw [if_neg (by omega)])); (try with_reducible rfl)))
            (try simp only [Act.put, List.setIfInBounds_toArray, List.set_cons_zero, List.set_cons_succ])
            refine wpAnyH_done (by kernel_rfl) ?_ _
            have hZ := HBG.out.trans (hHl.mono (by have := HBG.out.size; omega))
            have HZ := Lib.hid hZ
            clear hZ hHl hHk hHj hHi hHh hbl hbk hbj hbi hbh hV5 hV6 hO5 hO6 hHeld
            go_wp2_with fail
            go_ret
            exact ⟨rfl, by rw [hB]; exact HZ.out⟩
        · refine op_one _ _ (by go_simp; first | exact ⟨rfl, rfl⟩ | rfl) ?_
          have hHeld1 : Below wz.heap.size wz (wa.alloc (.cells #[.slice none 0 0, .slice none 0 0] 46)) := hHeld.alloc hHeld.size _
          have hsa := hHeld.size
          refine ⟨fun _ => hHeld1, ?_⟩
          clear hHeld
          have hHeld := hHeld1
          clear hHeld1
          (try simp only [Act.put, List.setIfInBounds_toArray, List.set_cons_zero, List.set_cons_succ])
          refine rt_call 5 _ _ (by simp only [List.getElem?_toArray, List.getElem?_cons_succ, List.getElem?_cons_zero]; rfl) (by kernel_rfl) (by kernel_rfl) (fun w => by go_simp; exact ⟨rfl, rfl⟩) ?_
          refine (sortedR (Q 1) (dirOf 1) (ps 1) (gg 1) _ ((HTw.out.rp 1 (by omega)).below hHeld) (by omega)).mono ?_
          rintro e wb ⟨v2, rfl, hv2, hbwb⟩
          have hlv2 := sorted_len (dirOf 1) (ps 1)
          generalize hgv2 : PP.sorted (dirOf 1) (ps 1) = S2 at hv2 hlv2
          have HGv2 := Lib.hid hgv2
          have HLv2 := Lib.hid hlv2
          clear hgv2 hlv2
          obtain ⟨a2, c2, rfl⟩ := hv2.slice
          have hlov2 := fun q (hq : (Value.slice a2 S2.length c2).ownBlock = some q) => Nat.le_trans hHeld.size (hv2.type hq).1
          have HLOv2 := Lib.hid hlov2
          clear hlov2
          have hHeld1 : Below wz.heap.size wz wb := hHeld.trans (hbwb.mono hHeld.size)
          refine ⟨_, rfl, fun _ => hHeld1, ?_⟩
          have n17 := rowAt_below (heap_alloc_new wa (.cells #[.slice none 0 0, .slice none 0 0] 46)) hbwb
          have hal : Below wa.heap.size wa (wa.alloc (.cells #[.slice none 0 0, .slice none 0 0] 46)) := (Below.refl _ _).alloc (Nat.le_refl _) _
          have hR1 := (hv1.below hal).below hbwb
          have hR2 := hv2
          clear hHeld hal
          have hHeld := hHeld1
          clear hHeld1
          (try simp only [Act.put, List.setIfInBounds_toArray, List.set_cons_zero, List.set_cons_succ])
          (refine rt_yes 6 ?v44 (by simp only [List.getElem?_toArray, List.getElem?_cons_succ, List.getElem?_cons_zero]; rfl) (by kernel_rfl) (by kernel_rfl) (by kernel_rfl) (by kernel_rfl) (by exact fun _ _ _ h => h) (by kernel_rfl) (by exact fun _ => hHeld) ?y44 ?z44; case y44 => (intro w; go_simp; (try (rw [if_neg (by omega)])); (try with_reducible rfl)))
          (try simp only [Act.put, List.setIfInBounds_toArray, List.set_cons_zero, List.set_cons_succ])
          have k1 : wb.cell? ⟨wa.heap.size, 0, none⟩ = some (.slice none 0 0) := by rw [cell_of_row _ _ _ _ _ _ n17]; rfl
          have k2 : wb.cell? ⟨wa.heap.size, 1, none⟩ = some (.slice none 0 0) := by rw [cell_of_row _ _ _ _ _ _ n17]; rfl
          have z : ∀ o, wb.frozen? ⟨wa.heap.size, o, none⟩ = false := fun o => by simp [World.frozen?, n17]
          refine rt_skip 8 ((wb.setCell ⟨wa.heap.size, 0, none⟩ (.slice a1 S1.length c1)).setCell ⟨wa.heap.size, 1, none⟩ (.slice a2 S2.length c2)) (by simp only [List.getElem?_toArray, List.getElem?_cons_succ, List.getElem?_cons_zero]; rfl) (by kernel_rfl) (by kernel_rfl) (by go_simp) (till_past (by kernel_rfl)) ?_
          (try simp only [Act.put, List.setIfInBounds_toArray, List.set_cons_zero, List.set_cons_succ])
          refine rt_done (by kernel_rfl) ?_ _
          obtain ⟨h17, hg17⟩ := put2 (u := .slice a1 S1.length c1) (v := .slice a2 S2.length c2) n17
          have hF := hHeld.trans (grown_below hg17 hHeld.size (fun q hq => by injection hq with hq; omega))
          have hR1 := (hR1.low (Nat.zero_le _)).congr (w' := (wb.setCell ⟨wa.heap.size, 0, none⟩ (.slice a1 S1.length c1)).setCell ⟨wa.heap.size, 1, none⟩ (.slice a2 S2.length c2)) (fun q cs hq ho => hg17.block q (lt_of_block hq) (fun e => by
            injection e with e
            rw [e, n17] at hq
            injection hq with hq
            injection hq with _ hq
            exact absurd hq (by decide)))
          have hR2 := (hR2.low (Nat.zero_le _)).congr (w' := (wb.setCell ⟨wa.heap.size, 0, none⟩ (.slice a1 S1.length c1)).setCell ⟨wa.heap.size, 1, none⟩ (.slice a2 S2.length c2)) (fun q cs hq ho => hg17.block q (lt_of_block hq) (fun e => by
            injection e with e
            rw [e, n17] at hq
            injection hq with hq
            injection hq with _ hq
            exact absurd hq (by decide)))
          clear k1 k2 z n17 hg17 hHeld
          generalize (wb.setCell ⟨wa.heap.size, 0, none⟩ (.slice a1 S1.length c1)).setCell ⟨wa.heap.size, 1, none⟩ (.slice a2 S2.length c2) = w9 at h17 hF hR1 hR2 ⊢
          generalize wa.heap.size = b17 at h17 ⊢
          have hTw9 := HTw.out.below hF
          have hTb9 := HTb.out.below hF
          have hTd := hTw9.below (Below.refl w9.heap.size w9).drew
          have hTbd := hTb9.below (Below.refl w9.heap.size w9).drew
          have HGv1' := HGv1.out
          have HGv2' := HGv2.out
          have HF := Lib.hid hF
          have H17 := Lib.hid h17
          have HR1 := Lib.hid hR1
          have HR2 := Lib.hid hR2
          have HT9 := Lib.hid hTd
          have hlN : ∀ n q, n < 2 → gg n = some q → q < w9.heap.size := fun n q hn h => ((hTw9.rp n hn).glt h).1
          have hlT : ∀ j q, j < N → (TF j).ownBlock = some q → q < w9.heap.size := fun j q hj h => by
            obtain ⟨_, cs, hc⟩ := (hTw9.tl j hj).type h
            exact lt_of_block hc
          have h1lt : ∀ q, (Value.slice a1 S1.length c1).ownBlock = some q → q < w9.heap.size := fun q hq => by
            obtain ⟨_, cs, hc⟩ := hR1.type hq
            exact lt_of_block hc
          have h2lt : ∀ q, (Value.slice a2 S2.length c2).ownBlock = some q → q < w9.heap.size := fun q hq => by
            obtain ⟨_, cs, hc⟩ := hR2.type hq
            exact lt_of_block hc
          have h17lt := lt_of_block h17
          have hs9 := hTw9.sz
          have HLN := Lib.hid hlN
          have HLT := Lib.hid hlT
          have HL1 := Lib.hid h1lt
          have HL2 := Lib.hid h2lt
          obtain ⟨iL, hL1, hL2, hL3, hL4⟩ := infoL
          clear hF h17 hR1 hR2 hTw9 hTb9 hTd hlN hlT h1lt h2lt hv1 hv2 hbwa hbwb
          have HV1 := Lib.hid HGv1'
          have HV2 := Lib.hid HGv2'
          clear HGv1' HGv2' HGv1 HGv2
          have hn1 := HLv1.out
          have hn2 := HLv2.out
          have HN1 : S1.length ≤ xs.length := by omega
          have HN2 : S2.length ≤ xs.length := by omega
          clear hn1 hn2 HLv1 HLv2
          go_wp2_with fail
          refine wp_region_held_drew (S := fun w' => Tabs w' bH bR H Q) (by kernel_rfl) hTbd (fun hHeld => ?_)
          (refine rg_yes 0 ?v45 (by simp only [List.getElem?_toArray, List.getElem?_cons_succ, List.getElem?_cons_zero]; rfl) (by kernel_rfl) (by kernel_rfl) (by kernel_rfl) (by exact fun _ _ _ h => h) (by kernel_rfl) (by assumption) ?y45 ?z45; case y45 => (intro w hSw; (try dsimp only at hSw); go_simp; (try (rw [if_neg (by omega)])); (try with_reducible rfl)))
          (try simp only [Act.put, List.setIfInBounds_toArray, List.set_cons_zero, List.set_cons_succ])
          (refine rg_yes 1 ?v46 (by simp only [List.getElem?_toArray, List.getElem?_cons_succ, List.getElem?_cons_zero]; rfl) (by kernel_rfl) (by kernel_rfl) (by kernel_rfl) (by exact fun _ _ _ h => h) (by kernel_rfl) (by assumption) ?y46 ?z46; case y46 => (intro w hSw; (try dsimp only at hSw); go_simp; (try (rw [if_neg (by omega)])); (try with_reducible rfl)))
          (try simp only [Act.put, List.setIfInBounds_toArray, List.set_cons_zero, List.set_cons_succ])
          refine rg_yes 2 _ (by simp only [List.getElem?_toArray, List.getElem?_cons_succ, List.getElem?_cons_zero]; rfl) (by kernel_rfl) (by kernel_rfl) (by kernel_rfl) (by exact fun _ _ _ h => h) (by kernel_rfl) (by assumption) (by exact fun w' hS => (exec_load_at (hS.cellH (n := 0) (by omega)) rfl rfl (fun w => by kernel_rfl))) ?_
          (try simp only [Act.put, List.setIfInBounds_toArray, List.set_cons_zero, List.set_cons_succ])
          (refine rg_yes 4 ?v47 (by simp only [List.getElem?_toArray, List.getElem?_cons_succ, List.getElem?_cons_zero]; rfl) (by kernel_rfl) (by kernel_rfl) (by kernel_rfl) (by exact fun _ _ _ h => h) (by kernel_rfl) (by assumption) ?y47 ?z47; case y47 => (intro w hSw; (try dsimp only at hSw); go_simp; (try (rw [if_neg (by omega)])); (try with_reducible rfl)))
          (try simp only [Act.put, List.setIfInBounds_toArray, List.set_cons_zero, List.set_cons_succ])
          refine rg_yes 5 _ (by simp only [List.getElem?_toArray, List.getElem?_cons_succ, List.getElem?_cons_zero]; rfl) (by kernel_rfl) (by kernel_rfl) (by kernel_rfl) (by exact fun _ _ _ h => h) (by kernel_rfl) (by assumption) (by exact fun w' hS => (exec_load_at (hS.cellH (n := 1) (by omega)) rfl rfl (fun w => by kernel_rfl))) ?_
          (try simp only [Act.put, List.setIfInBounds_toArray, List.set_cons_zero, List.set_cons_succ])
          refine rg_call 3 _ _ (by simp only [List.getElem?_toArray, List.getElem?_cons_succ, List.getElem?_cons_zero]; rfl) (by kernel_rfl) (by kernel_rfl) (fun w => by go_simp; exact ⟨rfl, rfl⟩) ?_
          refine (sortedP (H 0) (c 0) (m 0) (dirOf 0) (ps 0) (rr 0) _ (HT9.out.hp 0 (by omega)) (by omega)).mono ?_
          rintro e wc ⟨v3, rfl, hO3, hbc⟩
          rw [HV1.out] at hO3
          have hV3 : RowT wc w9.heap.size v3 S1 := RowT.of_own hO3 rfl
          obtain ⟨a3, c3, rfl⟩ := hV3.slice
          refine ⟨_, rfl, hHeld.below hbc, fun hHeld => ?_⟩
          (try simp only [Act.put, List.setIfInBounds_toArray, List.set_cons_zero, List.set_cons_succ])
          refine rg_call 6 _ _ (by simp only [List.getElem?_toArray, List.getElem?_cons_succ, List.getElem?_cons_zero]; rfl) (by kernel_rfl) (by kernel_rfl) (fun w => by go_simp; exact ⟨rfl, rfl⟩) ?_
          refine (sortedP (H 1) (c 1) (m 1) (dirOf 1) (ps 1) (rr 1) _ ((HT9.out.below hbc).hp 1 (by omega)) (by omega)).mono ?_
          rintro e wd ⟨v4, rfl, hO4, hbd⟩
          rw [HV2.out] at hO4
          have hV4 : RowT wd wc.heap.size v4 S2 := RowT.of_own hO4 rfl
          obtain ⟨a4, c4, rfl⟩ := hV4.slice
          have hV34 := hV3.below hbd
          have h3lt : ∀ q, (Value.slice a3 S1.length c3).ownBlock = some q → q < wc.heap.size := fun q hq => by
            obtain ⟨_, cs, hc⟩ := hV3.type hq
            exact lt_of_block hc
          refine ⟨_, rfl, hHeld.below hbd, fun hHeld => ?_⟩
          (try simp only [Act.put, List.setIfInBounds_toArray, List.set_cons_zero, List.set_cons_succ])
          have hTd := ((HT9.out.below hbc).below hbd).alloc (.cells #[.slice a3 S1.length c3, .slice a4 S2.length c4] 29)
          have hsc : w9.heap.size ≤ wc.heap.size := hbc.size
          have hsd : wc.heap.size ≤ wd.heap.size := hbd.size
          have hal : Below wd.heap.size wd (wd.alloc (.cells #[.slice a3 S1.length c3, .slice a4 S2.length c4] 29)) := (Below.refl _ _).alloc (Nat.le_refl _) _
          obtain ⟨v', w', hrun, hO', hg', _⟩ := run_append_own (P := Try.prog) (wd.alloc (.cells #[.slice a3 S1.length c3, .slice a4 S2.length c4] 29)) B 33 33 29 iL _ 1 24 Try.underlying33 hL1 hL2 hL3 hL4 rfl (by omega) u5 N ((List.range N).map TF) hTd.tr ⟨wd.heap.size, 0, none⟩ 2 2 [.slice a3 S1.length c3, .slice a4 S2.length c4] rfl (fun j u hj => by
            have hadd : (⟨wd.heap.size, 0, none⟩ : Addr).add j = ⟨wd.heap.size, j, none⟩ := by unfold Addr.add; split <;> simp_all
            rw [hadd, cell_of_row _ _ _ _ _ _ (heap_alloc_new wd _)]
            rcases j with _ | _ | j <;> simp at hj ⊢ <;> exact hj) (fun u hu => by simp at hu; rcases hu with rfl | rfl <;> rfl) (by unfold maxLen; omega) (by omega) hTd.sz
          have hTbA := (hHeld.below hal).grown hg' (fun q hq => by
            obtain ⟨cs, hc⟩ := own_type hTd.tr hq
            exact ⟨cs, _, hc, by decide, by decide⟩)
          have hTwA := hTd.tell2 (s := w9.heap.size) ((hV34.below hal).low hs9) ((hV4.below hal).low (by omega)) (fun q hq => (hV3.type hq).1) (fun q hq => by have := (hV4.type hq).1; omega) (fun q h h' => by have := h3lt q h; have := (hV4.type h').1; omega) HLN.out HLT.out hg' hO'
          have h17A : w'.heap[b17]? = some (.cells #[.slice a1 S1.length c1, .slice a2 S2.length c2] 46 (0, 0)) := by
            have h0 := rowAt_below (rowAt_below (rowAt_below (rowAt_below H17.out (Below.refl w9.heap.size w9).drew) hbc) hbd) hal
            refine (hg'.block b17 (lt_of_block h0) (fun e => ?_)).trans h0
            obtain ⟨cs, hc⟩ := own_type hTd.tr e.symm
            rw [h0] at hc
            injection hc with hc
            injection hc with _ hc
            exact absurd hc (by decide)
          have hkA : ∀ v ps, RowT w9 0 v ps → RowT w' 0 v ps := fun v ps hR => by
            have h0 := (((hR.below (Below.refl w9.heap.size w9).drew).below hbc).below hbd).below hal
            refine h0.congr fun q cs hq ho => hg'.block q (lt_of_block hq) (fun e => ?_)
            obtain ⟨cs', hc⟩ := own_type hTd.tr e.symm
            rw [hq] at hc
            injection hc with hc
            injection hc with _ hc
            exact absurd hc (by decide)
          have hRA1 := hkA _ _ HR1.out
          have hRA2 := hkA _ _ HR2.out
          refine rg_one 7 _ _ (by simp only [List.getElem?_toArray, List.getElem?_cons_succ, List.getElem?_cons_zero]; rfl) (by kernel_rfl) (by kernel_rfl) (by go_simp; first | exact ⟨rfl, rfl⟩ | rfl) (hHeld.below hal) (fun hHeld => ?_)
          (try simp only [Act.put, List.setIfInBounds_toArray, List.set_cons_zero, List.set_cons_succ])
          refine rg_one 8 _ _ (by simp only [List.getElem?_toArray, List.getElem?_cons_succ, List.getElem?_cons_zero]; rfl) (by kernel_rfl) (by kernel_rfl) (exec_append2 rfl rfl rfl rfl hrun) hTbA (fun hHeld => ?_)
          (try simp only [Act.put, List.setIfInBounds_toArray, List.set_cons_zero, List.set_cons_succ])
          (refine rg_yes 9 ?v48 (by simp only [List.getElem?_toArray, List.getElem?_cons_succ, List.getElem?_cons_zero]; rfl) (by kernel_rfl) (by kernel_rfl) (by kernel_rfl) (by exact fun _ _ _ h => h) (by kernel_rfl) (by assumption) ?y48 ?z48; case y48 => (intro w hSw; (try dsimp only at hSw); go_simp; (try (rw [if_neg (by omega)])); (try with_reducible rfl)))
          (try simp only [Act.put, List.setIfInBounds_toArray, List.set_cons_zero, List.set_cons_succ])
          refine wpAnyH_done (by kernel_rfl) ?_ _
          have HTWA := Lib.hid hTwA
          have HTBA := Lib.hid hTbA
          have H17A := Lib.hid h17A
          have HRA1 := Lib.hid hRA1
          have HRA2 := Lib.hid hRA2
          have H3LT := Lib.hid h3lt
          have hlo3 := fun q (hq : (Value.slice a3 S1.length c3).ownBlock = some q) => (hV3.type hq).1
          have hlo4 := fun q (hq : (Value.slice a4 S2.length c4).ownBlock = some q) => Nat.le_trans hsc (hV4.type hq).1
          have HLO3 := Lib.hid hlo3
          have HLO4 := Lib.hid hlo4
          clear hlo3 hlo4
          clear hTwA hTbA h17A hRA1 hRA2 hkA hrun hO' hg' hTd hal hV3 hV4 hV34 hO3 hO4 hHeld hTbd HT9 hbc hbd h3lt HR1 HR2 H17 HF
          obtain ⟨tb, tc, rfl⟩ : ∃ tb tc, v' = .slice (some ⟨tb, 0, none⟩) (N + 2) tc := by
            rcases HTWA.out.tr.2 with ⟨_, h0⟩ | ⟨gg, cp, cur, h1, _⟩
            · omega
            · exact ⟨gg, cp, h1⟩
          have hget : ∀ j u, ((List.range (N + 2)).map (upd (upd TF N (.slice a3 S1.length c3)) (N + 1) (.slice a4 S2.length c4)))[j]? = some u → w'.cell? ⟨tb, j, none⟩ = some u := fun j u hu => by
            have h0 := HTWA.out.tr.cells (g := tb) rfl j u hu
            have hadd : (⟨tb, 0, none⟩ : Addr).add j = ⟨tb, j, none⟩ := by unfold Addr.add; split <;> simp_all
            rwa [hadd] at h0
          have cT0 : w'.cell? ⟨tb, N, none⟩ = some (.slice a3 S1.length c3) := hget N _ (by rw [List.getElem?_map, List.getElem?_range (by omega)]; simp only [Option.map_some]; rw [upd_other _ _ (by omega), upd_same])
          have cT1 : w'.cell? ⟨tb, N + 1, none⟩ = some (.slice a4 S2.length c4) := hget (N + 1) _ (by rw [List.getElem?_map, List.getElem?_range (by omega)]; simp only [Option.map_some]; rw [upd_same])
          have cL0 : w'.cell? ⟨b17, 0, none⟩ = some (.slice a1 S1.length c1) := by rw [cell_of_row _ _ _ _ _ _ H17A.out]; rfl
          have cL1 : w'.cell? ⟨b17, 1, none⟩ = some (.slice a2 S2.length c2) := by rw [cell_of_row _ _ _ _ _ _ H17A.out]; rfl
          have hGET := Lib.hid hget
          have HT0 := Lib.hid cT0
          have HT1 := Lib.hid cT1
          have HC0 := Lib.hid cL0
          have HC1 := Lib.hid cL1
          have htb : tb < w'.heap.size := World.block_lt_of_cell? w' _ cT0
          have h17b := lt_of_block H17A.out
          clear hget cT0 cT1 cL0 cL1 hHeld
          have hwN : IntKind.i64.wrap (N : Int) = N := IntWalk.i64_in _ (by omega)
          have hwN1 : IntKind.i64.wrap ((N : Int) + 2 - 1) = (N : Int) + 1 := by rw [IntWalk.i64_in _ (by omega)]; omega
          have hNa : ((N : Int) < (N : Int) + 2) := by omega
          have hNb : ((N : Int) + 1 < (N : Int) + 2) := by omega
          have hNc : (0 : Int) ≤ (N : Int) + 1 := by omega
          have hNd : ((N : Int) + 1).toNat = N + 1 := by omega
          go_wp2_with fail
          refine wp_region_held_drew (S := fun w'' => (w''.heap[tb]? = w'.heap[tb]? ∧ w''.heap[b17]? = w'.heap[b17]?) ∧ w'.heap.size ≤ w''.heap.size) (by kernel_rfl) ⟨⟨rfl, rfl⟩, Nat.le_refl _⟩ (fun hHeld => ?_)
          (refine rg_yes 0 ?v49 (by simp only [List.getElem?_toArray, List.getElem?_cons_succ, List.getElem?_cons_zero]; rfl) (by kernel_rfl) (by kernel_rfl) (by kernel_rfl) (by exact fun _ _ _ h => h) (by kernel_rfl) (by assumption) ?y49 ?z49; case y49 => (intro w hSw; (try dsimp only at hSw); go_simp; (try (rw [if_neg (by omega)])); (try with_reducible rfl)))
          (try simp only [Act.put, List.setIfInBounds_toArray, List.set_cons_zero, List.set_cons_succ])
          (refine rg_yes 1 ?v50 (by simp only [List.getElem?_toArray, List.getElem?_cons_succ, List.getElem?_cons_zero]; rfl) (by kernel_rfl) (by kernel_rfl) (by kernel_rfl) (by exact fun _ _ _ h => h) (by kernel_rfl) (by assumption) ?y50 ?z50; case y50 => (intro w hSw; (try dsimp only at hSw); go_simp; (try (rw [if_neg (by omega)])); (try with_reducible rfl)))
          (try simp only [Act.put, List.setIfInBounds_toArray, List.set_cons_zero, List.set_cons_succ])
          (refine rg_yes 2 ?v51 (by simp only [List.getElem?_toArray, List.getElem?_cons_succ, List.getElem?_cons_zero]; rfl) (by kernel_rfl) (by kernel_rfl) (by kernel_rfl) (by exact fun _ _ _ h => h) (by kernel_rfl) (by assumption) ?y51 ?z51; case y51 => (intro w hSw; (try dsimp only at hSw); go_simp; (try (rw [if_neg (by omega)])); (try with_reducible rfl)))
          (try simp only [Act.put, List.setIfInBounds_toArray, List.set_cons_zero, List.set_cons_succ])
          (refine rg_yes 3 ?v52 (by simp only [List.getElem?_toArray, List.getElem?_cons_succ, List.getElem?_cons_zero]; rfl) (by kernel_rfl) (by kernel_rfl) (by kernel_rfl) (by exact fun _ _ _ h => h) (by kernel_rfl) (by assumption) ?y52 ?z52; case y52 => (intro w hSw; (try dsimp only at hSw); go_simp; (try (rw [if_neg (by omega)])); (try with_reducible rfl)))
          (try simp only [Act.put, List.setIfInBounds_toArray, List.set_cons_zero, List.set_cons_succ])
          (refine rg_yes 4 ?v53 (by simp only [List.getElem?_toArray, List.getElem?_cons_succ, List.getElem?_cons_zero]; rfl) (by kernel_rfl) (by kernel_rfl) (by kernel_rfl) (by exact fun _ _ _ h => h) (by kernel_rfl) (by assumption) ?y53 ?z53; case y53 => (intro w hSw; (try dsimp only at hSw); go_simp; (try (rw [if_neg (by omega)])); (try with_reducible rfl)))
          (try simp only [Act.put, List.setIfInBounds_toArray, List.set_cons_zero, List.set_cons_succ])
          refine rg_yes 5 _ (by simp only [List.getElem?_toArray, List.getElem?_cons_succ, List.getElem?_cons_zero]; rfl) (by kernel_rfl) (by kernel_rfl) (by kernel_rfl) (by exact fun _ _ _ h => h) (by kernel_rfl) (by assumption) (by exact fun w' hS => (exec_load_at ((cell_kept hS.1.1).trans HT0.out) rfl rfl (fun w => by kernel_rfl))) ?_
          (try simp only [Act.put, List.setIfInBounds_toArray, List.set_cons_zero, List.set_cons_succ])
          (refine rg_yes 6 ?v54 (by simp only [List.getElem?_toArray, List.getElem?_cons_succ, List.getElem?_cons_zero]; rfl) (by kernel_rfl) (by kernel_rfl) (by kernel_rfl) (by exact fun _ _ _ h => h) (by kernel_rfl) (by assumption) ?y54 ?z54; case y54 => (intro w hSw; (try dsimp only at hSw); go_simp; (try (rw [if_neg (by omega)])); (try with_reducible rfl)))
          (try simp only [Act.put, List.setIfInBounds_toArray, List.set_cons_zero, List.set_cons_succ])
          refine rg_yes 7 _ (by simp only [List.getElem?_toArray, List.getElem?_cons_succ, List.getElem?_cons_zero]; rfl) (by kernel_rfl) (by kernel_rfl) (by kernel_rfl) (by exact fun _ _ _ h => h) (by kernel_rfl) (by assumption) (by exact fun w' hS => (exec_load_at ((cell_kept hS.1.2).trans HC0.out) rfl rfl (fun w => by kernel_rfl))) ?_
          (try simp only [Act.put, List.setIfInBounds_toArray, List.set_cons_zero, List.set_cons_succ])
          refine rg_call 8 _ _ (by simp only [List.getElem?_toArray, List.getElem?_cons_succ, List.getElem?_cons_zero]; rfl) (by kernel_rfl) (by kernel_rfl) (fun w => by go_simp; exact ⟨rfl, rfl⟩) ?_
          have hTA : RowT w' B (.slice a3 S1.length c3) S1 := by
            have h0 := HTWA.out.tl N (by omega)
            rw [upd_other _ _ (by omega), upd_same, upd_other _ _ (by omega), upd_same] at h0
            exact h0
          have hTB : RowT w' B (.slice a4 S2.length c4) S2 := by
            have h0 := HTWA.out.tl (N + 1) (by omega)
            rw [upd_same, upd_same] at h0
            exact h0
          refine (sameTwos_any _ _ S1 S1 _ ((hTA.below (Below.refl _ _).drew).reads (by omega)) ((HRA1.out.below (Below.refl _ _).drew).reads (by omega))).mono ?_
          rintro e we ⟨rfl, hbe⟩
          rw [decide_eq_true rfl]
          have hbe' : Below w'.heap.size w' we := (Below.refl _ _).drew.trans (hbe.mono (Nat.le_refl _))
          refine ⟨_, rfl, ⟨⟨hbe'.block tb htb, hbe'.block b17 h17b⟩, hbe'.size⟩, fun hHeld => ?_⟩
          (try simp only [Act.put, List.setIfInBounds_toArray, List.set_cons_zero, List.set_cons_succ])
          (refine rg_yes 9 ?v55 (by simp only [List.getElem?_toArray, List.getElem?_cons_succ, List.getElem?_cons_zero]; rfl) (by kernel_rfl) (by kernel_rfl) (by kernel_rfl) (by exact fun _ _ _ h => h) (by kernel_rfl) (by assumption) ?y55 ?z55; case y55 => (intro w hSw; (try dsimp only at hSw); go_simp; (try (rw [if_neg (by omega)])); (try with_reducible rfl)))
          (try simp only [Act.put, List.setIfInBounds_toArray, List.set_cons_zero, List.set_cons_succ])
          (refine rg_yes 10 ?v56 (by simp only [List.getElem?_toArray, List.getElem?_cons_succ, List.getElem?_cons_zero]; rfl) (by kernel_rfl) (by kernel_rfl) (by kernel_rfl) (by exact fun _ _ _ h => h) (by kernel_rfl) (by assumption) ?y56 ?z56; case y56 => (intro w hSw; (try dsimp only at hSw); go_simp; (try (rw [if_neg (by omega)])); (try with_reducible rfl)))
          (try simp only [Act.put, List.setIfInBounds_toArray, List.set_cons_zero, List.set_cons_succ])
          (refine rg_yes 11 ?v57 (by simp only [List.getElem?_toArray, List.getElem?_cons_succ, List.getElem?_cons_zero]; rfl) (by kernel_rfl) (by kernel_rfl) (by kernel_rfl) (by exact fun _ _ _ h => h) (by kernel_rfl) (by assumption) ?y57 ?z57; case y57 => (intro w hSw; (try dsimp only at hSw); go_simp; (try (rw [if_neg (by omega)])); (try with_reducible rfl)))
          (try simp only [Act.put, List.setIfInBounds_toArray, List.set_cons_zero, List.set_cons_succ])
          (refine rg_yes 12 ?v58 (by simp only [List.getElem?_toArray, List.getElem?_cons_succ, List.getElem?_cons_zero]; rfl) (by kernel_rfl) (by kernel_rfl) (by kernel_rfl) (by exact fun _ _ _ h => h) (by kernel_rfl) (by assumption) ?y58 ?z58; case y58 => (intro w hSw; (try dsimp only at hSw); go_simp; (try (rw [if_neg (by omega)])); (try with_reducible rfl)))
          (try simp only [Act.put, List.setIfInBounds_toArray, List.set_cons_zero, List.set_cons_succ])
          (refine rg_yes 13 ?v59 (by simp only [List.getElem?_toArray, List.getElem?_cons_succ, List.getElem?_cons_zero]; rfl) (by kernel_rfl) (by kernel_rfl) (by kernel_rfl) (by exact fun _ _ _ h => h) (by kernel_rfl) (by assumption) ?y59 ?z59; case y59 => (intro w hSw; (try dsimp only at hSw); go_simp; (try (rw [if_neg (by omega)])); (try with_reducible rfl)))
          (try simp only [Act.put, List.setIfInBounds_toArray, List.set_cons_zero, List.set_cons_succ])
          (refine rg_yes 14 ?v60 (by simp only [List.getElem?_toArray, List.getElem?_cons_succ, List.getElem?_cons_zero]; rfl) (by kernel_rfl) (by kernel_rfl) (by kernel_rfl) (by exact fun _ _ _ h => h) (by kernel_rfl) (by assumption) ?y60 ?z60; case y60 => (intro w hSw; (try dsimp only at hSw); go_simp; (try (rw [if_neg (by omega)])); (try with_reducible rfl)))
          (try simp only [Act.put, List.setIfInBounds_toArray, List.set_cons_zero, List.set_cons_succ])
          (refine rg_yes 15 ?v61 (by simp only [List.getElem?_toArray, List.getElem?_cons_succ, List.getElem?_cons_zero]; rfl) (by kernel_rfl) (by kernel_rfl) (by kernel_rfl) (by exact fun _ _ _ h => h) (by kernel_rfl) (by assumption) ?y61 ?z61; case y61 => (intro w hSw; (try dsimp only at hSw); go_simp; (try (rw [if_neg (by omega)])); (try with_reducible rfl)))
          (try simp only [Act.put, List.setIfInBounds_toArray, List.set_cons_zero, List.set_cons_succ])
          refine rg_yes 16 _ (by simp only [List.getElem?_toArray, List.getElem?_cons_succ, List.getElem?_cons_zero]; rfl) (by kernel_rfl) (by kernel_rfl) (by kernel_rfl) (by exact fun _ _ _ h => h) (by kernel_rfl) (by assumption) (by exact fun w' hS => (exec_load_at ((cell_kept hS.1.1).trans HT1.out) rfl rfl (fun w => by kernel_rfl))) ?_
          (try simp only [Act.put, List.setIfInBounds_toArray, List.set_cons_zero, List.set_cons_succ])
          (refine rg_yes 17 ?v62 (by simp only [List.getElem?_toArray, List.getElem?_cons_succ, List.getElem?_cons_zero]; rfl) (by kernel_rfl) (by kernel_rfl) (by kernel_rfl) (by exact fun _ _ _ h => h) (by kernel_rfl) (by assumption) ?y62 ?z62; case y62 => (intro w hSw; (try dsimp only at hSw); go_simp; (try (rw [if_neg (by omega)])); (try with_reducible rfl)))
          (try simp only [Act.put, List.setIfInBounds_toArray, List.set_cons_zero, List.set_cons_succ])
          refine rg_yes 18 _ (by simp only [List.getElem?_toArray, List.getElem?_cons_succ, List.getElem?_cons_zero]; rfl) (by kernel_rfl) (by kernel_rfl) (by kernel_rfl) (by exact fun _ _ _ h => h) (by kernel_rfl) (by assumption) (by exact fun w' hS => (exec_load_at ((cell_kept hS.1.2).trans HC1.out) rfl rfl (fun w => by kernel_rfl))) ?_
          (try simp only [Act.put, List.setIfInBounds_toArray, List.set_cons_zero, List.set_cons_succ])
          refine rg_call 19 _ _ (by simp only [List.getElem?_toArray, List.getElem?_cons_succ, List.getElem?_cons_zero]; rfl) (by kernel_rfl) (by kernel_rfl) (fun w => by go_simp; exact ⟨rfl, rfl⟩) ?_
          refine (sameTwos_any _ _ S2 S2 _ ((hTB.below hbe').reads (by omega)) ((HRA2.out.below hbe').reads (by omega))).mono ?_
          rintro e wf ⟨rfl, hbf⟩
          rw [decide_eq_true rfl]
          have hbf' : Below w'.heap.size w' wf := hbe'.trans (hbf.mono hbe'.size)
          refine ⟨_, rfl, ⟨⟨hbf'.block tb htb, hbf'.block b17 h17b⟩, hbf'.size⟩, fun hHeld => ?_⟩
          (try simp only [Act.put, List.setIfInBounds_toArray, List.set_cons_zero, List.set_cons_succ])
          (refine rg_yes 20 ?v63 (by simp only [List.getElem?_toArray, List.getElem?_cons_succ, List.getElem?_cons_zero]; rfl) (by kernel_rfl) (by kernel_rfl) (by kernel_rfl) (by exact fun _ _ _ h => h) (by kernel_rfl) (by assumption) ?y63 ?z63; case y63 => (intro w hSw; (try dsimp only at hSw); go_simp; (try (rw [if_neg (by omega)])); (try with_reducible rfl)))
          (try simp only [Act.put, List.setIfInBounds_toArray, List.set_cons_zero, List.set_cons_succ])
          (refine rg_yes 21 ?v64 (by simp only [List.getElem?_toArray, List.getElem?_cons_succ, List.getElem?_cons_zero]; rfl) (by kernel_rfl) (by kernel_rfl) (by kernel_rfl) (by exact fun _ _ _ h => h) (by kernel_rfl) (by assumption) ?y64 ?z64; case y64 => (intro w hSw; (try dsimp only at hSw); go_simp; (try (rw [if_neg (by omega)])); (try with_reducible rfl)))
          (try simp only [Act.put, List.setIfInBounds_toArray, List.set_cons_zero, List.set_cons_succ])
          (refine rg_yes 22 ?v65 (by simp only [List.getElem?_toArray, List.getElem?_cons_succ, List.getElem?_cons_zero]; rfl) (by kernel_rfl) (by kernel_rfl) (by kernel_rfl) (by exact fun _ _ _ h => h) (by kernel_rfl) (by assumption) ?y65 ?z65; case y65 => (intro w hSw; (try dsimp only at hSw); go_simp; (try (rw [if_neg (by omega)])); (try with_reducible rfl)))
          (try simp only [Act.put, List.setIfInBounds_toArray, List.set_cons_zero, List.set_cons_succ])
          (refine rg_yes 23 ?v66 (by simp only [List.getElem?_toArray, List.getElem?_cons_succ, List.getElem?_cons_zero]; rfl) (by kernel_rfl) (by kernel_rfl) (by kernel_rfl) (by exact fun _ _ _ h => h) (by kernel_rfl) (by assumption) ?y66 ?z66; case y66 => (intro w hSw; (try dsimp only at hSw); go_simp; (try (rw [if_neg (by omega)])); (try with_reducible rfl)))
          (try simp only [Act.put, List.setIfInBounds_toArray, List.set_cons_zero, List.set_cons_succ])
          refine rg_call 24 _ _ (by simp only [List.getElem?_toArray, List.getElem?_cons_succ, List.getElem?_cons_zero]; rfl) (by kernel_rfl) (by kernel_rfl) (fun w => by go_simp; exact ⟨rfl, rfl⟩) ?_
          have hTWf := HTWA.out.below hbf'
          have hTCl : ∀ j, j < N + 2 → (upd (upd TC N S1) (N + 1) S2 j).length ≤ xs.length := fun j hj => by
            by_cases e1 : j = N + 1
            · subst e1; rw [upd_same]; exact HN2
            · rw [upd_other _ _ e1]
              by_cases e2 : j = N
              · subst e2; rw [upd_same]; exact HN1
              · rw [upd_other _ _ e2]; exact HTC.out j (by omega)
          have hTFl : ∀ j q, j < N + 2 → (upd (upd TF N (.slice a3 S1.length c3)) (N + 1) (.slice a4 S2.length c4) j).ownBlock = some q → q ≠ tb ∧ B ≤ q ∧ ∃ cs, wf.heap[q]? = some (.cells cs 25 (0, 0)) := fun j q hj h => by
            obtain ⟨hq, cs, hc⟩ := (hTWf.tl j hj).type h
            refine ⟨fun e => ?_, hq, cs, hc⟩
            obtain ⟨ds, hd⟩ := own_type hTWf.tr (g := tb) rfl
            rw [e, hd] at hc
            injection hc with hc
            injection hc with _ hc
            exact absurd hc (by decide)
          refine (apart_any tb tc (N + 2) (upd (upd TF N (.slice a3 S1.length c3)) (N + 1) (.slice a4 S2.length c4)) (fun j => (upd (upd TC N S1) (N + 1) S2 j).length) (upd (upd TC N S1) (N + 1) S2) wf (by omega) (fun j hj => ?_) (by have := hbf'.size; omega) (fun j q hj h => (hTFl j q hj h).1) (hTWf.fam (fun j hj => by have := hTCl j hj; omega)) (fun j hj => rfl) (fun j hj => by have := hTCl j hj; omega)).mono ?_
          · exact (cell_kept (hbf'.block tb htb)).trans (hGET.out j _ (by rw [List.getElem?_map, List.getElem?_range hj]; rfl))
          · rintro e wg ⟨rfl, hWg⟩
            have hkey : ∀ (k : Nat) (cs : Array Value) (t : TypeId), wf.heap[k]? = some (.cells cs t (0, 0)) → t ≠ 25 → wg.heap[k]? = wf.heap[k]? := fun k cs t hk ht => hWg.block k (lt_of_block hk) fun ⟨j, hj, ho⟩ => by
              obtain ⟨_, _, ds, hd⟩ := hTFl j k hj ho
              rw [hk] at hd
              injection hd with hd
              injection hd with _ hd
              exact ht hd
            have h17f := rowAt_below H17A.out hbf'
            obtain ⟨dsT, hdT⟩ := own_type hTWf.tr (g := tb) rfl
            have hgT := (hkey _ _ _ hdT (by decide)).trans (hbf'.block tb htb)
            have hg17 := (hkey _ _ _ h17f (by decide)).trans (hbf'.block b17 h17b)
            have H17g := Lib.hid ((hkey _ _ _ h17f (by decide)).trans h17f)
            have hpG : ∀ n, n < 2 → HeapP wg (H n) (c n) (dirOf n) (ps n) (m n) (rr n) := fun n hn => (hTWf.hp n hn).keptT fun k cs t hk h1 _ _ => hkey k cs t hk h1
            have hTbf := HTBA.out.below hbf'
            have hTbg : Tabs wg bH bR H Q := ⟨(hkey _ _ _ hTbf.1 (by decide)).trans hTbf.1, (hkey _ _ _ hTbf.2 (by decide)).trans hTbf.2⟩
            have hfar : ∀ q, wz.heap.size ≤ q → q < w9.heap.size → ∀ j, j < N + 2 → (upd (upd TF N (.slice a3 S1.length c3)) (N + 1) (.slice a4 S2.length c4) j).ownBlock = some q → False := fun q h1 h2 j hj h => by
              by_cases e1 : j = N + 1
              · subst e1
                rw [upd_same] at h
                have := HLO4.out q h
                omega
              · rw [upd_other _ _ e1] at h
                by_cases e2 : j = N
                · subst e2
                  rw [upd_same] at h
                  have := HLO3.out q h
                  omega
                · rw [upd_other _ _ e2] at h
                  obtain ⟨_, cs, hc⟩ := (HTw.out.tl j (by omega)).type h
                  have := lt_of_block hc
                  omega
            have hRg : ∀ v ps, RowT w' 0 v ps → (∀ q, v.ownBlock = some q → wz.heap.size ≤ q ∧ q < w9.heap.size) → RowT wg 0 v ps := fun v ps hR hq0 => (hR.below hbf').congr fun q cs hq ho => hWg.block q (lt_of_block hq) fun ⟨j, hj, h⟩ => hfar q (hq0 q ho).1 (hq0 q ho).2 j hj h
            have hR1g := hRg _ _ HRA1.out (fun q hq => ⟨HLOv1.out q hq, HL1.out q hq⟩)
            have hR2g := hRg _ _ HRA2.out (fun q hq => ⟨HLOv2.out q hq, HL2.out q hq⟩)
            have hbg : Below B w wg := (HTWA.out.bl.trans (hbf'.mono HTWA.out.sz)).trans ⟨hWg.os, hWg.tape, hWg.output, hWg.size, fun k hk => hWg.block k (by have := hTWf.sz; omega) fun ⟨j, hj, h⟩ => by
              have := (hTFl j k hj h).2.1
              omega⟩
            refine ⟨_, rfl, ⟨⟨hgT, hg17⟩, Nat.le_trans hbf'.size hWg.size⟩, fun hHeld => ?_⟩
            (try simp only [Act.put, List.setIfInBounds_toArray, List.set_cons_zero, List.set_cons_succ])
            (refine rg_yes 25 ?v67 (by simp only [List.getElem?_toArray, List.getElem?_cons_succ, List.getElem?_cons_zero]; rfl) (by kernel_rfl) (by kernel_rfl) (by kernel_rfl) (by exact fun _ _ _ h => h) (by kernel_rfl) (by assumption) ?y67 ?z67; case y67 => (intro w hSw; (try dsimp only at hSw); go_simp; (try (rw [if_neg (by omega)])); (try with_reducible rfl)))
            (try simp only [Act.put, List.setIfInBounds_toArray, List.set_cons_zero, List.set_cons_succ])
            (refine rg_yes 26 ?v68 (by simp only [List.getElem?_toArray, List.getElem?_cons_succ, List.getElem?_cons_zero]; rfl) (by kernel_rfl) (by kernel_rfl) (by kernel_rfl) (by exact fun _ _ _ h => h) (by kernel_rfl) (by assumption) ?y68 ?z68; case y68 => (intro w hSw; (try dsimp only at hSw); go_simp; (try (rw [if_neg (by omega)])); (try with_reducible rfl)))
            (try simp only [Act.put, List.setIfInBounds_toArray, List.set_cons_zero, List.set_cons_succ])
            refine wpAnyH_done (by kernel_rfl) ?_ _
            have HPG := Lib.hid hpG
            have HTBG := Lib.hid hTbg
            have HR1G := Lib.hid hR1g
            have HR2G := Lib.hid hR2g
            have HBG := Lib.hid hbg
            have hszg := hWg.size
            clear hkey h17f hdT hgT hg17 hpG hTbf hTbg hfar hRg hR1g hR2g hbg hWg hTFl hTCl hTWf hbf' hbf hbe' hbe hTA hTB hHeld hwN hwN1 hNa hNb hNc hNd
            go_wp2_with fail
            refine wp_region_held_drew (S := fun w'' => Below wg.heap.size wg w'') (by kernel_rfl) (Below.refl _ _).drew (fun hHeld => ?_)
            (refine rg_yes 0 ?v69 (by simp only [List.getElem?_toArray, List.getElem?_cons_succ, List.getElem?_cons_zero]; rfl) (by kernel_rfl) (by kernel_rfl) (by kernel_rfl) (by exact fun _ _ _ h => h) (by kernel_rfl) (by assumption) ?y69 ?z69; case y69 => (intro w hSw; (try dsimp only at hSw); go_simp; (try (rw [if_neg (by omega)])); (try with_reducible rfl)))
            (try simp only [Act.put, List.setIfInBounds_toArray, List.set_cons_zero, List.set_cons_succ])
            refine rg_yes 1 _ (by simp only [List.getElem?_toArray, List.getElem?_cons_succ, List.getElem?_cons_zero]; rfl) (by kernel_rfl) (by kernel_rfl) (by kernel_rfl) (by exact fun _ _ _ h => h) (by kernel_rfl) (by assumption) (by exact fun w' hS => (exec_load_at ((HTBG.out.below hS).cellH (n := 0) (by omega)) rfl rfl (fun w => by kernel_rfl))) ?_
            (try simp only [Act.put, List.setIfInBounds_toArray, List.set_cons_zero, List.set_cons_succ])
            (refine rg_yes 3 ?v70 (by simp only [List.getElem?_toArray, List.getElem?_cons_succ, List.getElem?_cons_zero]; rfl) (by kernel_rfl) (by kernel_rfl) (by kernel_rfl) (by exact fun _ _ _ h => h) (by kernel_rfl) (by assumption) ?y70 ?z70; case y70 => (intro w hSw; (try dsimp only at hSw); go_simp; (try (rw [if_neg (by omega)])); (try with_reducible rfl)))
            (try simp only [Act.put, List.setIfInBounds_toArray, List.set_cons_zero, List.set_cons_succ])
            refine rg_yes 4 _ (by simp only [List.getElem?_toArray, List.getElem?_cons_succ, List.getElem?_cons_zero]; rfl) (by kernel_rfl) (by kernel_rfl) (by kernel_rfl) (by exact fun _ _ _ h => h) (by kernel_rfl) (by assumption) (by exact fun w' hS => (exec_load_one (v := .slice a1 S1.length c1) (rowAt_below H17g.out hS) rfl rfl rfl (fun w => by kernel_rfl))) ?_
            (try simp only [Act.put, List.setIfInBounds_toArray, List.set_cons_zero, List.set_cons_succ])
            refine rg_call 2 _ _ (by simp only [List.getElem?_toArray, List.getElem?_cons_succ, List.getElem?_cons_zero]; rfl) (by kernel_rfl) (by kernel_rfl) (fun w => by go_simp; exact ⟨rfl, rfl⟩) ?_
            refine (sortedP (H 0) (c 0) (m 0) (dirOf 0) (ps 0) (rr 0) _ ((HPG.out 0 (by omega)).below hHeld) (by omega)).mono ?_
            rintro e wh ⟨v5, rfl, hO5, hbh⟩
            rw [HV1.out] at hO5
            have hV5 := RowT.of_own hO5 rfl
            have hHh : Below wg.heap.size wg wh := hHeld.trans (hbh.mono hHeld.size)
            refine ⟨_, rfl, hHh, fun hHeld => ?_⟩
            (try simp only [Act.put, List.setIfInBounds_toArray, List.set_cons_zero, List.set_cons_succ])
            refine rg_call 5 _ _ (by simp only [List.getElem?_toArray, List.getElem?_cons_succ, List.getElem?_cons_zero]; rfl) (by kernel_rfl) (by kernel_rfl) (fun w => by go_simp; exact ⟨rfl, rfl⟩) ?_
            refine (sameTwos_any _ _ S1 S1 _ (hV5.reads (by omega)) ((HR1G.out.below hHh).reads (by omega))).mono ?_
            rintro e wi ⟨rfl, hbi⟩
            rw [decide_eq_true rfl]
            have hHi : Below wg.heap.size wg wi := hHh.trans (hbi.mono hHh.size)
            refine ⟨_, rfl, hHi, fun hHeld => ?_⟩
            (try simp only [Act.put, List.setIfInBounds_toArray, List.set_cons_zero, List.set_cons_succ])
            (refine rg_yes 6 ?v71 (by simp only [List.getElem?_toArray, List.getElem?_cons_succ, List.getElem?_cons_zero]; rfl) (by kernel_rfl) (by kernel_rfl) (by kernel_rfl) (by exact fun _ _ _ h => h) (by kernel_rfl) (by assumption) ?y71 ?z71; case y71 => (intro w hSw; (try dsimp only at hSw); go_simp; (try (rw [if_neg (by omega)])); (try with_reducible rfl)))
            (try simp only [Act.put, List.setIfInBounds_toArray, List.set_cons_zero, List.set_cons_succ])
            (refine rg_yes 7 ?v72 (by simp only [List.getElem?_toArray, List.getElem?_cons_succ, List.getElem?_cons_zero]; rfl) (by kernel_rfl) (by kernel_rfl) (by kernel_rfl) (by exact fun _ _ _ h => h) (by kernel_rfl) (by assumption) ?y72 ?z72; case y72 => (intro w hSw; (try dsimp only at hSw); go_simp; (try (rw [if_neg (by omega)])); (try with_reducible rfl)))
            (try simp only [Act.put, List.setIfInBounds_toArray, List.set_cons_zero, List.set_cons_succ])
            refine rg_yes 8 _ (by simp only [List.getElem?_toArray, List.getElem?_cons_succ, List.getElem?_cons_zero]; rfl) (by kernel_rfl) (by kernel_rfl) (by kernel_rfl) (by exact fun _ _ _ h => h) (by kernel_rfl) (by assumption) (by exact fun w' hS => (exec_load_at ((HTBG.out.below hS).cellH (n := 1) (by omega)) rfl rfl (fun w => by kernel_rfl))) ?_
            (try simp only [Act.put, List.setIfInBounds_toArray, List.set_cons_zero, List.set_cons_succ])
            (refine rg_yes 10 ?v73 (by simp only [List.getElem?_toArray, List.getElem?_cons_succ, List.getElem?_cons_zero]; rfl) (by kernel_rfl) (by kernel_rfl) (by kernel_rfl) (by exact fun _ _ _ h => h) (by kernel_rfl) (by assumption) ?y73 ?z73; case y73 => (intro w hSw; (try dsimp only at hSw); go_simp; (try (rw [if_neg (by omega)])); (try with_reducible rfl)))
            (try simp only [Act.put, List.setIfInBounds_toArray, List.set_cons_zero, List.set_cons_succ])
            refine rg_yes 11 _ (by simp only [List.getElem?_toArray, List.getElem?_cons_succ, List.getElem?_cons_zero]; rfl) (by kernel_rfl) (by kernel_rfl) (by kernel_rfl) (by exact fun _ _ _ h => h) (by kernel_rfl) (by assumption) (by exact fun w' hS => (exec_load_one (v := .slice a2 S2.length c2) (rowAt_below H17g.out hS) rfl rfl rfl (fun w => by kernel_rfl))) ?_
            (try simp only [Act.put, List.setIfInBounds_toArray, List.set_cons_zero, List.set_cons_succ])
            refine rg_call 9 _ _ (by simp only [List.getElem?_toArray, List.getElem?_cons_succ, List.getElem?_cons_zero]; rfl) (by kernel_rfl) (by kernel_rfl) (fun w => by go_simp; exact ⟨rfl, rfl⟩) ?_
            refine (sortedP (H 1) (c 1) (m 1) (dirOf 1) (ps 1) (rr 1) _ ((HPG.out 1 (by omega)).below hHi) (by omega)).mono ?_
            rintro e wj ⟨v6, rfl, hO6, hbj⟩
            rw [HV2.out] at hO6
            have hV6 := RowT.of_own hO6 rfl
            have hHj : Below wg.heap.size wg wj := hHi.trans (hbj.mono hHi.size)
            refine ⟨_, rfl, hHj, fun hHeld => ?_⟩
            (try simp only [Act.put, List.setIfInBounds_toArray, List.set_cons_zero, List.set_cons_succ])
            refine rg_call 12 _ _ (by simp only [List.getElem?_toArray, List.getElem?_cons_succ, List.getElem?_cons_zero]; rfl) (by kernel_rfl) (by kernel_rfl) (fun w => by go_simp; exact ⟨rfl, rfl⟩) ?_
            refine (sameTwos_any _ _ S2 S2 _ (hV6.reads (by omega)) ((HR2G.out.below hHj).reads (by omega))).mono ?_
            rintro e wk ⟨rfl, hbk⟩
            rw [decide_eq_true rfl]
            have hHk : Below wg.heap.size wg wk := hHj.trans (hbk.mono hHj.size)
            refine ⟨_, rfl, hHk, fun hHeld => ?_⟩
            (try simp only [Act.put, List.setIfInBounds_toArray, List.set_cons_zero, List.set_cons_succ])
            (refine rg_yes 13 ?v74 (by simp only [List.getElem?_toArray, List.getElem?_cons_succ, List.getElem?_cons_zero]; rfl) (by kernel_rfl) (by kernel_rfl) (by kernel_rfl) (by exact fun _ _ _ h => h) (by kernel_rfl) (by assumption) ?y74 ?z74; case y74 => (intro w hSw; (try dsimp only at hSw); go_simp; (try (rw [if_neg (by omega)])); (try with_reducible rfl)))
            (try simp only [Act.put, List.setIfInBounds_toArray, List.set_cons_zero, List.set_cons_succ])
            (refine rg_yes 14 ?v75 (by simp only [List.getElem?_toArray, List.getElem?_cons_succ, List.getElem?_cons_zero]; rfl) (by kernel_rfl) (by kernel_rfl) (by kernel_rfl) (by exact fun _ _ _ h => h) (by kernel_rfl) (by assumption) ?y75 ?z75; case y75 => (intro w hSw; (try dsimp only at hSw); go_simp; (try (rw [if_neg (by omega)])); (try with_reducible rfl)))
            (try simp only [Act.put, List.setIfInBounds_toArray, List.set_cons_zero, List.set_cons_succ])
            refine rg_call 15 _ _ (by simp only [List.getElem?_toArray, List.getElem?_cons_succ, List.getElem?_cons_zero]; rfl) (by kernel_rfl) (by kernel_rfl) (fun w => by go_simp; exact ⟨rfl, rfl⟩) ?_
            refine (works_any wk).mono ?_
            rintro e wl ⟨rfl, hbl⟩
            have hHl : Below wg.heap.size wg wl := hHk.trans (hbl.mono hHk.size)
            refine ⟨_, rfl, hHl, fun hHeld => ?_⟩
            (try simp only [Act.put, List.setIfInBounds_toArray, List.set_cons_zero, List.set_cons_succ])
            (refine rg_yes 16 ?v76 (by simp only [List.getElem?_toArray, List.getElem?_cons_succ, List.getElem?_cons_zero]; rfl) (by kernel_rfl) (by kernel_rfl) (by kernel_rfl) (by exact fun _ _ _ h => h) (by kernel_rfl) (by assumption) ?y76 ?z76; case y76 => (intro w hSw; (try dsimp only at hSw); go_simp; (try (rw [if_neg (by omega)])); (try with_reducible rfl)))
            (try simp only [Act.put, List.setIfInBounds_toArray, List.set_cons_zero, List.set_cons_succ])
            (refine rg_yes 17 ?v77 (by simp only [List.getElem?_toArray, List.getElem?_cons_succ, List.getElem?_cons_zero]; rfl) (by kernel_rfl) (by kernel_rfl) (by kernel_rfl) (by exact fun _ _ _ h => h) (by kernel_rfl) (by assumption) ?y77 ?z77; case y77 => (intro w hSw; (try dsimp only at hSw); go_simp; (try (rw [if_neg (by omega)])); (try with_reducible rfl)))
            (try simp only [Act.put, List.setIfInBounds_toArray, List.set_cons_zero, List.set_cons_succ])
            refine wpAnyH_done (by kernel_rfl) ?_ _
            have hZ := HBG.out.trans (hHl.mono (by have := HBG.out.size; omega))
            have HZ := Lib.hid hZ
            clear hZ hHl hHk hHj hHi hHh hbl hbk hbj hbi hbh hV5 hV6 hO5 hO6 hHeld
            go_wp2_with fail
            go_ret
            exact ⟨rfl, by rw [hB]; exact HZ.out⟩
      · refine op_one _ _ (by go_simp; first | exact ⟨rfl, rfl⟩ | rfl) ?_
        have hHeld1 : Below wz.heap.size wz (wz.drew.alloc (.cells #[.slice none 0 0, .slice none 0 0] 46)) := hHeld.alloc (Nat.le_refl _) _
        refine ⟨fun _ => hHeld1, ?_⟩
        have n17 : (wz.drew.alloc (.cells #[.slice none 0 0, .slice none 0 0] 46)).heap[wz.heap.size]? = _ := heap_alloc_new wz.drew (.cells #[.slice none 0 0, .slice none 0 0] 46)
        clear hHeld
        have hHeld := hHeld1
        clear hHeld1
        (try simp only [Act.put, List.setIfInBounds_toArray, List.set_cons_zero, List.set_cons_succ])
        refine rt_call 2 _ _ (by simp only [List.getElem?_toArray, List.getElem?_cons_succ, List.getElem?_cons_zero]; rfl) (by kernel_rfl) (by kernel_rfl) (fun w => by go_simp; exact ⟨rfl, rfl⟩) ?_
        refine (sortedR (Q 0) (dirOf 0) (ps 0) (gg 0) _ ((HTw.out.rp 0 (by omega)).below hHeld) (by omega)).mono ?_
        rintro e wa ⟨v1, rfl, hv1, hbwa⟩
        have hlv1 := sorted_len (dirOf 0) (ps 0)
        generalize hgv1 : PP.sorted (dirOf 0) (ps 0) = S1 at hv1 hlv1
        have HGv1 := Lib.hid hgv1
        have HLv1 := Lib.hid hlv1
        clear hgv1 hlv1
        obtain ⟨a1, c1, rfl⟩ := hv1.slice
        have hlov1 := fun q (hq : (Value.slice a1 S1.length c1).ownBlock = some q) => Nat.le_trans hHeld.size (hv1.type hq).1
        have HLOv1 := Lib.hid hlov1
        clear hlov1
        have hHeld1 : Below wz.heap.size wz wa := hHeld.trans (hbwa.mono hHeld.size)
        refine ⟨_, rfl, fun _ => hHeld1, ?_⟩
        replace n17 := rowAt_below n17 hbwa
        clear hHeld
        have hHeld := hHeld1
        clear hHeld1
        (try simp only [Act.put, List.setIfInBounds_toArray, List.set_cons_zero, List.set_cons_succ])
        refine rt_call 5 _ _ (by simp only [List.getElem?_toArray, List.getElem?_cons_succ, List.getElem?_cons_zero]; rfl) (by kernel_rfl) (by kernel_rfl) (fun w => by go_simp; exact ⟨rfl, rfl⟩) ?_
        refine (sortedR (Q 1) (dirOf 1) (ps 1) (gg 1) _ ((HTw.out.rp 1 (by omega)).below hHeld) (by omega)).mono ?_
        rintro e wb ⟨v2, rfl, hv2, hbwb⟩
        have hlv2 := sorted_len (dirOf 1) (ps 1)
        generalize hgv2 : PP.sorted (dirOf 1) (ps 1) = S2 at hv2 hlv2
        have HGv2 := Lib.hid hgv2
        have HLv2 := Lib.hid hlv2
        clear hgv2 hlv2
        obtain ⟨a2, c2, rfl⟩ := hv2.slice
        have hlov2 := fun q (hq : (Value.slice a2 S2.length c2).ownBlock = some q) => Nat.le_trans hHeld.size (hv2.type hq).1
        have HLOv2 := Lib.hid hlov2
        clear hlov2
        have hHeld1 : Below wz.heap.size wz wb := hHeld.trans (hbwb.mono hHeld.size)
        refine ⟨_, rfl, fun _ => hHeld1, ?_⟩
        replace n17 := rowAt_below n17 hbwb
        have hR1 := hv1.below hbwb
        have hR2 := hv2
        clear hHeld
        have hHeld := hHeld1
        clear hHeld1
        (try simp only [Act.put, List.setIfInBounds_toArray, List.set_cons_zero, List.set_cons_succ])
        (refine rt_yes 6 ?v78 (by simp only [List.getElem?_toArray, List.getElem?_cons_succ, List.getElem?_cons_zero]; rfl) (by kernel_rfl) (by kernel_rfl) (by kernel_rfl) (by kernel_rfl) (by exact fun _ _ _ h => h) (by kernel_rfl) (by exact fun _ => hHeld) ?y78 ?z78; case y78 => (intro w; go_simp; (try (rw [if_neg (by omega)])); (try with_reducible rfl)))
        (try simp only [Act.put, List.setIfInBounds_toArray, List.set_cons_zero, List.set_cons_succ])
        have k1 : wb.cell? ⟨wz.heap.size, 0, none⟩ = some (.slice none 0 0) := by rw [cell_of_row _ _ _ _ _ _ n17]; rfl
        have k2 : wb.cell? ⟨wz.heap.size, 1, none⟩ = some (.slice none 0 0) := by rw [cell_of_row _ _ _ _ _ _ n17]; rfl
        have z : ∀ o, wb.frozen? ⟨wz.heap.size, o, none⟩ = false := fun o => by simp [World.frozen?, n17]
        refine rt_skip 8 ((wb.setCell ⟨wz.heap.size, 0, none⟩ (.slice a1 S1.length c1)).setCell ⟨wz.heap.size, 1, none⟩ (.slice a2 S2.length c2)) (by simp only [List.getElem?_toArray, List.getElem?_cons_succ, List.getElem?_cons_zero]; rfl) (by kernel_rfl) (by kernel_rfl) (by go_simp) (till_past (by kernel_rfl)) ?_
        (try simp only [Act.put, List.setIfInBounds_toArray, List.set_cons_zero, List.set_cons_succ])
        refine rt_done (by kernel_rfl) ?_ _
        obtain ⟨h17, hg17⟩ := put2 (u := .slice a1 S1.length c1) (v := .slice a2 S2.length c2) n17
        have hF := hHeld.trans (grown_below hg17 hHeld.size (fun q hq => by injection hq with hq; omega))
        have hR1 := (hR1.low (Nat.zero_le _)).congr (w' := (wb.setCell ⟨wz.heap.size, 0, none⟩ (.slice a1 S1.length c1)).setCell ⟨wz.heap.size, 1, none⟩ (.slice a2 S2.length c2)) (fun q cs hq ho => hg17.block q (lt_of_block hq) (fun e => by
          injection e with e
          rw [e, n17] at hq
          injection hq with hq
          injection hq with _ hq
          exact absurd hq (by decide)))
        have hR2 := (hR2.low (Nat.zero_le _)).congr (w' := (wb.setCell ⟨wz.heap.size, 0, none⟩ (.slice a1 S1.length c1)).setCell ⟨wz.heap.size, 1, none⟩ (.slice a2 S2.length c2)) (fun q cs hq ho => hg17.block q (lt_of_block hq) (fun e => by
          injection e with e
          rw [e, n17] at hq
          injection hq with hq
          injection hq with _ hq
          exact absurd hq (by decide)))
        clear k1 k2 z n17 hg17 hHeld
        generalize (wb.setCell ⟨wz.heap.size, 0, none⟩ (.slice a1 S1.length c1)).setCell ⟨wz.heap.size, 1, none⟩ (.slice a2 S2.length c2) = w9 at h17 hF hR1 hR2 ⊢
        generalize wz.heap.size = b17 at h17 ⊢
        have hTw9 := HTw.out.below hF
        have hTb9 := HTb.out.below hF
        have hTd := hTw9.below (Below.refl w9.heap.size w9).drew
        have hTbd := hTb9.below (Below.refl w9.heap.size w9).drew
        have HGv1' := HGv1.out
        have HGv2' := HGv2.out
        have HF := Lib.hid hF
        have H17 := Lib.hid h17
        have HR1 := Lib.hid hR1
        have HR2 := Lib.hid hR2
        have HT9 := Lib.hid hTd
        have hlN : ∀ n q, n < 2 → gg n = some q → q < w9.heap.size := fun n q hn h => ((hTw9.rp n hn).glt h).1
        have hlT : ∀ j q, j < N → (TF j).ownBlock = some q → q < w9.heap.size := fun j q hj h => by
          obtain ⟨_, cs, hc⟩ := (hTw9.tl j hj).type h
          exact lt_of_block hc
        have h1lt : ∀ q, (Value.slice a1 S1.length c1).ownBlock = some q → q < w9.heap.size := fun q hq => by
          obtain ⟨_, cs, hc⟩ := hR1.type hq
          exact lt_of_block hc
        have h2lt : ∀ q, (Value.slice a2 S2.length c2).ownBlock = some q → q < w9.heap.size := fun q hq => by
          obtain ⟨_, cs, hc⟩ := hR2.type hq
          exact lt_of_block hc
        have h17lt := lt_of_block h17
        have hs9 := hTw9.sz
        have HLN := Lib.hid hlN
        have HLT := Lib.hid hlT
        have HL1 := Lib.hid h1lt
        have HL2 := Lib.hid h2lt
        obtain ⟨iL, hL1, hL2, hL3, hL4⟩ := infoL
        clear hF h17 hR1 hR2 hTw9 hTb9 hTd hlN hlT h1lt h2lt hv1 hv2 hbwa hbwb
        have HV1 := Lib.hid HGv1'
        have HV2 := Lib.hid HGv2'
        clear HGv1' HGv2' HGv1 HGv2
        have hn1 := HLv1.out
        have hn2 := HLv2.out
        have HN1 : S1.length ≤ xs.length := by omega
        have HN2 : S2.length ≤ xs.length := by omega
        clear hn1 hn2 HLv1 HLv2
        go_wp2_with fail
        refine wp_region_held_drew (S := fun w' => Tabs w' bH bR H Q) (by kernel_rfl) hTbd (fun hHeld => ?_)
        (refine rg_yes 0 ?v79 (by simp only [List.getElem?_toArray, List.getElem?_cons_succ, List.getElem?_cons_zero]; rfl) (by kernel_rfl) (by kernel_rfl) (by kernel_rfl) (by exact fun _ _ _ h => h) (by kernel_rfl) (by assumption) ?y79 ?z79; case y79 => (intro w hSw; (try dsimp only at hSw); go_simp; (try (rw [if_neg (by omega)])); (try with_reducible rfl)))
        (try simp only [Act.put, List.setIfInBounds_toArray, List.set_cons_zero, List.set_cons_succ])
        (refine rg_yes 1 ?v80 (by simp only [List.getElem?_toArray, List.getElem?_cons_succ, List.getElem?_cons_zero]; rfl) (by kernel_rfl) (by kernel_rfl) (by kernel_rfl) (by exact fun _ _ _ h => h) (by kernel_rfl) (by assumption) ?y80 ?z80; case y80 => (intro w hSw; (try dsimp only at hSw); go_simp; (try (rw [if_neg (by omega)])); (try with_reducible rfl)))
        (try simp only [Act.put, List.setIfInBounds_toArray, List.set_cons_zero, List.set_cons_succ])
        refine rg_yes 2 _ (by simp only [List.getElem?_toArray, List.getElem?_cons_succ, List.getElem?_cons_zero]; rfl) (by kernel_rfl) (by kernel_rfl) (by kernel_rfl) (by exact fun _ _ _ h => h) (by kernel_rfl) (by assumption) (by exact fun w' hS => (exec_load_at (hS.cellH (n := 0) (by omega)) rfl rfl (fun w => by kernel_rfl))) ?_
        (try simp only [Act.put, List.setIfInBounds_toArray, List.set_cons_zero, List.set_cons_succ])
        (refine rg_yes 4 ?v81 (by simp only [List.getElem?_toArray, List.getElem?_cons_succ, List.getElem?_cons_zero]; rfl) (by kernel_rfl) (by kernel_rfl) (by kernel_rfl) (by exact fun _ _ _ h => h) (by kernel_rfl) (by assumption) ?y81 ?z81; case y81 => (intro w hSw; (try dsimp only at hSw); go_simp; (try (rw [if_neg (by omega)])); (try with_reducible rfl)))
        (try simp only [Act.put, List.setIfInBounds_toArray, List.set_cons_zero, List.set_cons_succ])
        refine rg_yes 5 _ (by simp only [List.getElem?_toArray, List.getElem?_cons_succ, List.getElem?_cons_zero]; rfl) (by kernel_rfl) (by kernel_rfl) (by kernel_rfl) (by exact fun _ _ _ h => h) (by kernel_rfl) (by assumption) (by exact fun w' hS => (exec_load_at (hS.cellH (n := 1) (by omega)) rfl rfl (fun w => by kernel_rfl))) ?_
        (try simp only [Act.put, List.setIfInBounds_toArray, List.set_cons_zero, List.set_cons_succ])
        refine rg_call 3 _ _ (by simp only [List.getElem?_toArray, List.getElem?_cons_succ, List.getElem?_cons_zero]; rfl) (by kernel_rfl) (by kernel_rfl) (fun w => by go_simp; exact ⟨rfl, rfl⟩) ?_
        refine (sortedP (H 0) (c 0) (m 0) (dirOf 0) (ps 0) (rr 0) _ (HT9.out.hp 0 (by omega)) (by omega)).mono ?_
        rintro e wc ⟨v3, rfl, hO3, hbc⟩
        rw [HV1.out] at hO3
        have hV3 : RowT wc w9.heap.size v3 S1 := RowT.of_own hO3 rfl
        obtain ⟨a3, c3, rfl⟩ := hV3.slice
        refine ⟨_, rfl, hHeld.below hbc, fun hHeld => ?_⟩
        (try simp only [Act.put, List.setIfInBounds_toArray, List.set_cons_zero, List.set_cons_succ])
        refine rg_call 6 _ _ (by simp only [List.getElem?_toArray, List.getElem?_cons_succ, List.getElem?_cons_zero]; rfl) (by kernel_rfl) (by kernel_rfl) (fun w => by go_simp; exact ⟨rfl, rfl⟩) ?_
        refine (sortedP (H 1) (c 1) (m 1) (dirOf 1) (ps 1) (rr 1) _ ((HT9.out.below hbc).hp 1 (by omega)) (by omega)).mono ?_
        rintro e wd ⟨v4, rfl, hO4, hbd⟩
        rw [HV2.out] at hO4
        have hV4 : RowT wd wc.heap.size v4 S2 := RowT.of_own hO4 rfl
        obtain ⟨a4, c4, rfl⟩ := hV4.slice
        have hV34 := hV3.below hbd
        have h3lt : ∀ q, (Value.slice a3 S1.length c3).ownBlock = some q → q < wc.heap.size := fun q hq => by
          obtain ⟨_, cs, hc⟩ := hV3.type hq
          exact lt_of_block hc
        refine ⟨_, rfl, hHeld.below hbd, fun hHeld => ?_⟩
        (try simp only [Act.put, List.setIfInBounds_toArray, List.set_cons_zero, List.set_cons_succ])
        have hTd := ((HT9.out.below hbc).below hbd).alloc (.cells #[.slice a3 S1.length c3, .slice a4 S2.length c4] 29)
        have hsc : w9.heap.size ≤ wc.heap.size := hbc.size
        have hsd : wc.heap.size ≤ wd.heap.size := hbd.size
        have hal : Below wd.heap.size wd (wd.alloc (.cells #[.slice a3 S1.length c3, .slice a4 S2.length c4] 29)) := (Below.refl _ _).alloc (Nat.le_refl _) _
        obtain ⟨v', w', hrun, hO', hg', _⟩ := run_append_own (P := Try.prog) (wd.alloc (.cells #[.slice a3 S1.length c3, .slice a4 S2.length c4] 29)) B 33 33 29 iL _ 1 24 Try.underlying33 hL1 hL2 hL3 hL4 rfl (by omega) u5 N ((List.range N).map TF) hTd.tr ⟨wd.heap.size, 0, none⟩ 2 2 [.slice a3 S1.length c3, .slice a4 S2.length c4] rfl (fun j u hj => by
          have hadd : (⟨wd.heap.size, 0, none⟩ : Addr).add j = ⟨wd.heap.size, j, none⟩ := by unfold Addr.add; split <;> simp_all
          rw [hadd, cell_of_row _ _ _ _ _ _ (heap_alloc_new wd _)]
          rcases j with _ | _ | j <;> simp at hj ⊢ <;> exact hj) (fun u hu => by simp at hu; rcases hu with rfl | rfl <;> rfl) (by unfold maxLen; omega) (by omega) hTd.sz
        have hTbA := (hHeld.below hal).grown hg' (fun q hq => by
          obtain ⟨cs, hc⟩ := own_type hTd.tr hq
          exact ⟨cs, _, hc, by decide, by decide⟩)
        have hTwA := hTd.tell2 (s := w9.heap.size) ((hV34.below hal).low hs9) ((hV4.below hal).low (by omega)) (fun q hq => (hV3.type hq).1) (fun q hq => by have := (hV4.type hq).1; omega) (fun q h h' => by have := h3lt q h; have := (hV4.type h').1; omega) HLN.out HLT.out hg' hO'
        have h17A : w'.heap[b17]? = some (.cells #[.slice a1 S1.length c1, .slice a2 S2.length c2] 46 (0, 0)) := by
          have h0 := rowAt_below (rowAt_below (rowAt_below (rowAt_below H17.out (Below.refl w9.heap.size w9).drew) hbc) hbd) hal
          refine (hg'.block b17 (lt_of_block h0) (fun e => ?_)).trans h0
          obtain ⟨cs, hc⟩ := own_type hTd.tr e.symm
          rw [h0] at hc
          injection hc with hc
          injection hc with _ hc
          exact absurd hc (by decide)
        have hkA : ∀ v ps, RowT w9 0 v ps → RowT w' 0 v ps := fun v ps hR => by
          have h0 := (((hR.below (Below.refl w9.heap.size w9).drew).below hbc).below hbd).below hal
          refine h0.congr fun q cs hq ho => hg'.block q (lt_of_block hq) (fun e => ?_)
          obtain ⟨cs', hc⟩ := own_type hTd.tr e.symm
          rw [hq] at hc
          injection hc with hc
          injection hc with _ hc
          exact absurd hc (by decide)
        have hRA1 := hkA _ _ HR1.out
        have hRA2 := hkA _ _ HR2.out
        refine rg_one 7 _ _ (by simp only [List.getElem?_toArray, List.getElem?_cons_succ, List.getElem?_cons_zero]; rfl) (by kernel_rfl) (by kernel_rfl) (by go_simp; first | exact ⟨rfl, rfl⟩ | rfl) (hHeld.below hal) (fun hHeld => ?_)
        (try simp only [Act.put, List.setIfInBounds_toArray, List.set_cons_zero, List.set_cons_succ])
        refine rg_one 8 _ _ (by simp only [List.getElem?_toArray, List.getElem?_cons_succ, List.getElem?_cons_zero]; rfl) (by kernel_rfl) (by kernel_rfl) (exec_append2 rfl rfl rfl rfl hrun) hTbA (fun hHeld => ?_)
        (try simp only [Act.put, List.setIfInBounds_toArray, List.set_cons_zero, List.set_cons_succ])
        (refine rg_yes 9 ?v82 (by simp only [List.getElem?_toArray, List.getElem?_cons_succ, List.getElem?_cons_zero]; rfl) (by kernel_rfl) (by kernel_rfl) (by kernel_rfl) (by exact fun _ _ _ h => h) (by kernel_rfl) (by assumption) ?y82 ?z82; case y82 => (intro w hSw; (try dsimp only at hSw); go_simp; (try (rw [if_neg (by omega)])); (try with_reducible rfl)))
        (try simp only [Act.put, List.setIfInBounds_toArray, List.set_cons_zero, List.set_cons_succ])
        refine wpAnyH_done (by kernel_rfl) ?_ _
        have HTWA := Lib.hid hTwA
        have HTBA := Lib.hid hTbA
        have H17A := Lib.hid h17A
        have HRA1 := Lib.hid hRA1
        have HRA2 := Lib.hid hRA2
        have H3LT := Lib.hid h3lt
        have hlo3 := fun q (hq : (Value.slice a3 S1.length c3).ownBlock = some q) => (hV3.type hq).1
        have hlo4 := fun q (hq : (Value.slice a4 S2.length c4).ownBlock = some q) => Nat.le_trans hsc (hV4.type hq).1
        have HLO3 := Lib.hid hlo3
        have HLO4 := Lib.hid hlo4
        clear hlo3 hlo4
        clear hTwA hTbA h17A hRA1 hRA2 hkA hrun hO' hg' hTd hal hV3 hV4 hV34 hO3 hO4 hHeld hTbd HT9 hbc hbd h3lt HR1 HR2 H17 HF
        obtain ⟨tb, tc, rfl⟩ : ∃ tb tc, v' = .slice (some ⟨tb, 0, none⟩) (N + 2) tc := by
          rcases HTWA.out.tr.2 with ⟨_, h0⟩ | ⟨gg, cp, cur, h1, _⟩
          · omega
          · exact ⟨gg, cp, h1⟩
        have hget : ∀ j u, ((List.range (N + 2)).map (upd (upd TF N (.slice a3 S1.length c3)) (N + 1) (.slice a4 S2.length c4)))[j]? = some u → w'.cell? ⟨tb, j, none⟩ = some u := fun j u hu => by
          have h0 := HTWA.out.tr.cells (g := tb) rfl j u hu
          have hadd : (⟨tb, 0, none⟩ : Addr).add j = ⟨tb, j, none⟩ := by unfold Addr.add; split <;> simp_all
          rwa [hadd] at h0
        have cT0 : w'.cell? ⟨tb, N, none⟩ = some (.slice a3 S1.length c3) := hget N _ (by rw [List.getElem?_map, List.getElem?_range (by omega)]; simp only [Option.map_some]; rw [upd_other _ _ (by omega), upd_same])
        have cT1 : w'.cell? ⟨tb, N + 1, none⟩ = some (.slice a4 S2.length c4) := hget (N + 1) _ (by rw [List.getElem?_map, List.getElem?_range (by omega)]; simp only [Option.map_some]; rw [upd_same])
        have cL0 : w'.cell? ⟨b17, 0, none⟩ = some (.slice a1 S1.length c1) := by rw [cell_of_row _ _ _ _ _ _ H17A.out]; rfl
        have cL1 : w'.cell? ⟨b17, 1, none⟩ = some (.slice a2 S2.length c2) := by rw [cell_of_row _ _ _ _ _ _ H17A.out]; rfl
        have hGET := Lib.hid hget
        have HT0 := Lib.hid cT0
        have HT1 := Lib.hid cT1
        have HC0 := Lib.hid cL0
        have HC1 := Lib.hid cL1
        have htb : tb < w'.heap.size := World.block_lt_of_cell? w' _ cT0
        have h17b := lt_of_block H17A.out
        clear hget cT0 cT1 cL0 cL1 hHeld
        have hwN : IntKind.i64.wrap (N : Int) = N := IntWalk.i64_in _ (by omega)
        have hwN1 : IntKind.i64.wrap ((N : Int) + 2 - 1) = (N : Int) + 1 := by rw [IntWalk.i64_in _ (by omega)]; omega
        have hNa : ((N : Int) < (N : Int) + 2) := by omega
        have hNb : ((N : Int) + 1 < (N : Int) + 2) := by omega
        have hNc : (0 : Int) ≤ (N : Int) + 1 := by omega
        have hNd : ((N : Int) + 1).toNat = N + 1 := by omega
        go_wp2_with fail
        refine wp_region_held_drew (S := fun w'' => (w''.heap[tb]? = w'.heap[tb]? ∧ w''.heap[b17]? = w'.heap[b17]?) ∧ w'.heap.size ≤ w''.heap.size) (by kernel_rfl) ⟨⟨rfl, rfl⟩, Nat.le_refl _⟩ (fun hHeld => ?_)
        (refine rg_yes 0 ?v83 (by simp only [List.getElem?_toArray, List.getElem?_cons_succ, List.getElem?_cons_zero]; rfl) (by kernel_rfl) (by kernel_rfl) (by kernel_rfl) (by exact fun _ _ _ h => h) (by kernel_rfl) (by assumption) ?y83 ?z83; case y83 => (intro w hSw; (try dsimp only at hSw); go_simp; (try (rw [if_neg (by omega)])); (try with_reducible rfl)))
        (try simp only [Act.put, List.setIfInBounds_toArray, List.set_cons_zero, List.set_cons_succ])
        (refine rg_yes 1 ?v84 (by simp only [List.getElem?_toArray, List.getElem?_cons_succ, List.getElem?_cons_zero]; rfl) (by kernel_rfl) (by kernel_rfl) (by kernel_rfl) (by exact fun _ _ _ h => h) (by kernel_rfl) (by assumption) ?y84 ?z84; case y84 => (intro w hSw; (try dsimp only at hSw); go_simp; (try (rw [if_neg (by omega)])); (try with_reducible rfl)))
        (try simp only [Act.put, List.setIfInBounds_toArray, List.set_cons_zero, List.set_cons_succ])
        (refine rg_yes 2 ?v85 (by simp only [List.getElem?_toArray, List.getElem?_cons_succ, List.getElem?_cons_zero]; rfl) (by kernel_rfl) (by kernel_rfl) (by kernel_rfl) (by exact fun _ _ _ h => h) (by kernel_rfl) (by assumption) ?y85 ?z85; case y85 => (intro w hSw; (try dsimp only at hSw); go_simp; (try (rw [if_neg (by omega)])); (try with_reducible rfl)))
        (try simp only [Act.put, List.setIfInBounds_toArray, List.set_cons_zero, List.set_cons_succ])
        (refine rg_yes 3 ?v86 (by simp only [List.getElem?_toArray, List.getElem?_cons_succ, List.getElem?_cons_zero]; rfl) (by kernel_rfl) (by kernel_rfl) (by kernel_rfl) (by exact fun _ _ _ h => h) (by kernel_rfl) (by assumption) ?y86 ?z86; case y86 => (intro w hSw; (try dsimp only at hSw); go_simp; (try (rw [if_neg (by omega)])); (try with_reducible rfl)))
        (try simp only [Act.put, List.setIfInBounds_toArray, List.set_cons_zero, List.set_cons_succ])
        (refine rg_yes 4 ?v87 (by simp only [List.getElem?_toArray, List.getElem?_cons_succ, List.getElem?_cons_zero]; rfl) (by kernel_rfl) (by kernel_rfl) (by kernel_rfl) (by exact fun _ _ _ h => h) (by kernel_rfl) (by assumption) ?y87 ?z87; case y87 => (intro w hSw; (try dsimp only at hSw); go_simp; (try (rw [if_neg (by omega)])); (try with_reducible rfl)))
        (try simp only [Act.put, List.setIfInBounds_toArray, List.set_cons_zero, List.set_cons_succ])
        refine rg_yes 5 _ (by simp only [List.getElem?_toArray, List.getElem?_cons_succ, List.getElem?_cons_zero]; rfl) (by kernel_rfl) (by kernel_rfl) (by kernel_rfl) (by exact fun _ _ _ h => h) (by kernel_rfl) (by assumption) (by exact fun w' hS => (exec_load_at ((cell_kept hS.1.1).trans HT0.out) rfl rfl (fun w => by kernel_rfl))) ?_
        (try simp only [Act.put, List.setIfInBounds_toArray, List.set_cons_zero, List.set_cons_succ])
        (refine rg_yes 6 ?v88 (by simp only [List.getElem?_toArray, List.getElem?_cons_succ, List.getElem?_cons_zero]; rfl) (by kernel_rfl) (by kernel_rfl) (by kernel_rfl) (by exact fun _ _ _ h => h) (by kernel_rfl) (by assumption) ?y88 ?z88; case y88 => (intro w hSw; (try dsimp only at hSw); go_simp; (try (rw [if_neg (by omega)])); (try with_reducible rfl)))
        (try simp only [Act.put, List.setIfInBounds_toArray, List.set_cons_zero, List.set_cons_succ])
        refine rg_yes 7 _ (by simp only [List.getElem?_toArray, List.getElem?_cons_succ, List.getElem?_cons_zero]; rfl) (by kernel_rfl) (by kernel_rfl) (by kernel_rfl) (by exact fun _ _ _ h => h) (by kernel_rfl) (by assumption) (by exact fun w' hS => (exec_load_at ((cell_kept hS.1.2).trans HC0.out) rfl rfl (fun w => by kernel_rfl))) ?_
        (try simp only [Act.put, List.setIfInBounds_toArray, List.set_cons_zero, List.set_cons_succ])
        refine rg_call 8 _ _ (by simp only [List.getElem?_toArray, List.getElem?_cons_succ, List.getElem?_cons_zero]; rfl) (by kernel_rfl) (by kernel_rfl) (fun w => by go_simp; exact ⟨rfl, rfl⟩) ?_
        have hTA : RowT w' B (.slice a3 S1.length c3) S1 := by
          have h0 := HTWA.out.tl N (by omega)
          rw [upd_other _ _ (by omega), upd_same, upd_other _ _ (by omega), upd_same] at h0
          exact h0
        have hTB : RowT w' B (.slice a4 S2.length c4) S2 := by
          have h0 := HTWA.out.tl (N + 1) (by omega)
          rw [upd_same, upd_same] at h0
          exact h0
        refine (sameTwos_any _ _ S1 S1 _ ((hTA.below (Below.refl _ _).drew).reads (by omega)) ((HRA1.out.below (Below.refl _ _).drew).reads (by omega))).mono ?_
        rintro e we ⟨rfl, hbe⟩
        rw [decide_eq_true rfl]
        have hbe' : Below w'.heap.size w' we := (Below.refl _ _).drew.trans (hbe.mono (Nat.le_refl _))
        refine ⟨_, rfl, ⟨⟨hbe'.block tb htb, hbe'.block b17 h17b⟩, hbe'.size⟩, fun hHeld => ?_⟩
        (try simp only [Act.put, List.setIfInBounds_toArray, List.set_cons_zero, List.set_cons_succ])
        (refine rg_yes 9 ?v89 (by simp only [List.getElem?_toArray, List.getElem?_cons_succ, List.getElem?_cons_zero]; rfl) (by kernel_rfl) (by kernel_rfl) (by kernel_rfl) (by exact fun _ _ _ h => h) (by kernel_rfl) (by assumption) ?y89 ?z89; case y89 => (intro w hSw; (try dsimp only at hSw); go_simp; (try (rw [if_neg (by omega)])); (try with_reducible rfl)))
        (try simp only [Act.put, List.setIfInBounds_toArray, List.set_cons_zero, List.set_cons_succ])
        (refine rg_yes 10 ?v90 (by simp only [List.getElem?_toArray, List.getElem?_cons_succ, List.getElem?_cons_zero]; rfl) (by kernel_rfl) (by kernel_rfl) (by kernel_rfl) (by exact fun _ _ _ h => h) (by kernel_rfl) (by assumption) ?y90 ?z90; case y90 => (intro w hSw; (try dsimp only at hSw); go_simp; (try (rw [if_neg (by omega)])); (try with_reducible rfl)))
        (try simp only [Act.put, List.setIfInBounds_toArray, List.set_cons_zero, List.set_cons_succ])
        (refine rg_yes 11 ?v91 (by simp only [List.getElem?_toArray, List.getElem?_cons_succ, List.getElem?_cons_zero]; rfl) (by kernel_rfl) (by kernel_rfl) (by kernel_rfl) (by exact fun _ _ _ h => h) (by kernel_rfl) (by assumption) ?y91 ?z91; case y91 => (intro w hSw; (try dsimp only at hSw); go_simp; (try (rw [if_neg (by omega)])); (try with_reducible rfl)))
        (try simp only [Act.put, List.setIfInBounds_toArray, List.set_cons_zero, List.set_cons_succ])
        (refine rg_yes 12 ?v92 (by simp only [List.getElem?_toArray, List.getElem?_cons_succ, List.getElem?_cons_zero]; rfl) (by kernel_rfl) (by kernel_rfl) (by kernel_rfl) (by exact fun _ _ _ h => h) (by kernel_rfl) (by assumption) ?y92 ?z92; case y92 => (intro w hSw; (try dsimp only at hSw); go_simp; (try (rw [if_neg (by omega)])); (try with_reducible rfl)))
        (try simp only [Act.put, List.setIfInBounds_toArray, List.set_cons_zero, List.set_cons_succ])
        (refine rg_yes 13 ?v93 (by simp only [List.getElem?_toArray, List.getElem?_cons_succ, List.getElem?_cons_zero]; rfl) (by kernel_rfl) (by kernel_rfl) (by kernel_rfl) (by exact fun _ _ _ h => h) (by kernel_rfl) (by assumption) ?y93 ?z93; case y93 => (intro w hSw; (try dsimp only at hSw); go_simp; (try (rw [if_neg (by omega)])); (try with_reducible rfl)))
        (try simp only [Act.put, List.setIfInBounds_toArray, List.set_cons_zero, List.set_cons_succ])
        (refine rg_yes 14 ?v94 (by simp only [List.getElem?_toArray, List.getElem?_cons_succ, List.getElem?_cons_zero]; rfl) (by kernel_rfl) (by kernel_rfl) (by kernel_rfl) (by exact fun _ _ _ h => h) (by kernel_rfl) (by assumption) ?y94 ?z94; case y94 => (intro w hSw; (try dsimp only at hSw); go_simp; (try (rw [if_neg (by omega)])); (try with_reducible rfl)))
        (try simp only [Act.put, List.setIfInBounds_toArray, List.set_cons_zero, List.set_cons_succ])
        (refine rg_yes 15 ?v95 (by simp only [List.getElem?_toArray, List.getElem?_cons_succ, List.getElem?_cons_zero]; rfl) (by kernel_rfl) (by kernel_rfl) (by kernel_rfl) (by exact fun _ _ _ h => h) (by kernel_rfl) (by assumption) ?y95 ?z95; case y95 => (intro w hSw; (try dsimp only at hSw); go_simp; (try (rw [if_neg (by omega)])); (try with_reducible rfl)))
        (try simp only [Act.put, List.setIfInBounds_toArray, List.set_cons_zero, List.set_cons_succ])
        refine rg_yes 16 _ (by simp only [List.getElem?_toArray, List.getElem?_cons_succ, List.getElem?_cons_zero]; rfl) (by kernel_rfl) (by kernel_rfl) (by kernel_rfl) (by exact fun _ _ _ h => h) (by kernel_rfl) (by assumption) (by exact fun w' hS => (exec_load_at ((cell_kept hS.1.1).trans HT1.out) rfl rfl (fun w => by kernel_rfl))) ?_
        (try simp only [Act.put, List.setIfInBounds_toArray, List.set_cons_zero, List.set_cons_succ])
        (refine rg_yes 17 ?v96 (by simp only [List.getElem?_toArray, List.getElem?_cons_succ, List.getElem?_cons_zero]; rfl) (by kernel_rfl) (by kernel_rfl) (by kernel_rfl) (by exact fun _ _ _ h => h) (by kernel_rfl) (by assumption) ?y96 ?z96; case y96 => (intro w hSw; (try dsimp only at hSw); go_simp; (try (rw [if_neg (by omega)])); (try with_reducible rfl)))
        (try simp only [Act.put, List.setIfInBounds_toArray, List.set_cons_zero, List.set_cons_succ])
        refine rg_yes 18 _ (by simp only [List.getElem?_toArray, List.getElem?_cons_succ, List.getElem?_cons_zero]; rfl) (by kernel_rfl) (by kernel_rfl) (by kernel_rfl) (by exact fun _ _ _ h => h) (by kernel_rfl) (by assumption) (by exact fun w' hS => (exec_load_at ((cell_kept hS.1.2).trans HC1.out) rfl rfl (fun w => by kernel_rfl))) ?_
        (try simp only [Act.put, List.setIfInBounds_toArray, List.set_cons_zero, List.set_cons_succ])
        refine rg_call 19 _ _ (by simp only [List.getElem?_toArray, List.getElem?_cons_succ, List.getElem?_cons_zero]; rfl) (by kernel_rfl) (by kernel_rfl) (fun w => by go_simp; exact ⟨rfl, rfl⟩) ?_
        refine (sameTwos_any _ _ S2 S2 _ ((hTB.below hbe').reads (by omega)) ((HRA2.out.below hbe').reads (by omega))).mono ?_
        rintro e wf ⟨rfl, hbf⟩
        rw [decide_eq_true rfl]
        have hbf' : Below w'.heap.size w' wf := hbe'.trans (hbf.mono hbe'.size)
        refine ⟨_, rfl, ⟨⟨hbf'.block tb htb, hbf'.block b17 h17b⟩, hbf'.size⟩, fun hHeld => ?_⟩
        (try simp only [Act.put, List.setIfInBounds_toArray, List.set_cons_zero, List.set_cons_succ])
        (refine rg_yes 20 ?v97 (by simp only [List.getElem?_toArray, List.getElem?_cons_succ, List.getElem?_cons_zero]; rfl) (by kernel_rfl) (by kernel_rfl) (by kernel_rfl) (by exact fun _ _ _ h => h) (by kernel_rfl) (by assumption) ?y97 ?z97; case y97 => (intro w hSw; (try dsimp only at hSw); go_simp; (try (rw [if_neg (by omega)])); (try with_reducible rfl)))
        (try simp only [Act.put, List.setIfInBounds_toArray, List.set_cons_zero, List.set_cons_succ])
        (refine rg_yes 21 ?v98 (by simp only [List.getElem?_toArray, List.getElem?_cons_succ, List.getElem?_cons_zero]; rfl) (by kernel_rfl) (by kernel_rfl) (by kernel_rfl) (by exact fun _ _ _ h => h) (by kernel_rfl) (by assumption) ?y98 ?z98; case y98 => (intro w hSw; (try dsimp only at hSw); go_simp; (try (rw [if_neg (by omega)])); (try with_reducible rfl)))
        (try simp only [Act.put, List.setIfInBounds_toArray, List.set_cons_zero, List.set_cons_succ])
        (refine rg_yes 22 ?v99 (by simp only [List.getElem?_toArray, List.getElem?_cons_succ, List.getElem?_cons_zero]; rfl) (by kernel_rfl) (by kernel_rfl) (by kernel_rfl) (by exact fun _ _ _ h => h) (by kernel_rfl) (by assumption) ?y99 ?z99; case y99 => (intro w hSw; (try dsimp only at hSw); go_simp; (try (rw [if_neg (by omega)])); (try with_reducible rfl)))
        (try simp only [Act.put, List.setIfInBounds_toArray, List.set_cons_zero, List.set_cons_succ])
        (refine rg_yes 23 ?v100 (by simp only [List.getElem?_toArray, List.getElem?_cons_succ, List.getElem?_cons_zero]; rfl) (by kernel_rfl) (by kernel_rfl) (by kernel_rfl) (by exact fun _ _ _ h => h) (by kernel_rfl) (by assumption) ?y100 ?z100; case y100 => (intro w hSw; (try dsimp only at hSw); go_simp; (try (rw [if_neg (by omega)])); (try with_reducible rfl)))
        (try simp only [Act.put, List.setIfInBounds_toArray, List.set_cons_zero, List.set_cons_succ])
        refine rg_call 24 _ _ (by simp only [List.getElem?_toArray, List.getElem?_cons_succ, List.getElem?_cons_zero]; rfl) (by kernel_rfl) (by kernel_rfl) (fun w => by go_simp; exact ⟨rfl, rfl⟩) ?_
        have hTWf := HTWA.out.below hbf'
        have hTCl : ∀ j, j < N + 2 → (upd (upd TC N S1) (N + 1) S2 j).length ≤ xs.length := fun j hj => by
          by_cases e1 : j = N + 1
          · subst e1; rw [upd_same]; exact HN2
          · rw [upd_other _ _ e1]
            by_cases e2 : j = N
            · subst e2; rw [upd_same]; exact HN1
            · rw [upd_other _ _ e2]; exact HTC.out j (by omega)
        have hTFl : ∀ j q, j < N + 2 → (upd (upd TF N (.slice a3 S1.length c3)) (N + 1) (.slice a4 S2.length c4) j).ownBlock = some q → q ≠ tb ∧ B ≤ q ∧ ∃ cs, wf.heap[q]? = some (.cells cs 25 (0, 0)) := fun j q hj h => by
          obtain ⟨hq, cs, hc⟩ := (hTWf.tl j hj).type h
          refine ⟨fun e => ?_, hq, cs, hc⟩
          obtain ⟨ds, hd⟩ := own_type hTWf.tr (g := tb) rfl
          rw [e, hd] at hc
          injection hc with hc
          injection hc with _ hc
          exact absurd hc (by decide)
        refine (apart_any tb tc (N + 2) (upd (upd TF N (.slice a3 S1.length c3)) (N + 1) (.slice a4 S2.length c4)) (fun j => (upd (upd TC N S1) (N + 1) S2 j).length) (upd (upd TC N S1) (N + 1) S2) wf (by omega) (fun j hj => ?_) (by have := hbf'.size; omega) (fun j q hj h => (hTFl j q hj h).1) (hTWf.fam (fun j hj => by have := hTCl j hj; omega)) (fun j hj => rfl) (fun j hj => by have := hTCl j hj; omega)).mono ?_
        · exact (cell_kept (hbf'.block tb htb)).trans (hGET.out j _ (by rw [List.getElem?_map, List.getElem?_range hj]; rfl))
        · rintro e wg ⟨rfl, hWg⟩
          have hkey : ∀ (k : Nat) (cs : Array Value) (t : TypeId), wf.heap[k]? = some (.cells cs t (0, 0)) → t ≠ 25 → wg.heap[k]? = wf.heap[k]? := fun k cs t hk ht => hWg.block k (lt_of_block hk) fun ⟨j, hj, ho⟩ => by
            obtain ⟨_, _, ds, hd⟩ := hTFl j k hj ho
            rw [hk] at hd
            injection hd with hd
            injection hd with _ hd
            exact ht hd
          have h17f := rowAt_below H17A.out hbf'
          obtain ⟨dsT, hdT⟩ := own_type hTWf.tr (g := tb) rfl
          have hgT := (hkey _ _ _ hdT (by decide)).trans (hbf'.block tb htb)
          have hg17 := (hkey _ _ _ h17f (by decide)).trans (hbf'.block b17 h17b)
          have H17g := Lib.hid ((hkey _ _ _ h17f (by decide)).trans h17f)
          have hpG : ∀ n, n < 2 → HeapP wg (H n) (c n) (dirOf n) (ps n) (m n) (rr n) := fun n hn => (hTWf.hp n hn).keptT fun k cs t hk h1 _ _ => hkey k cs t hk h1
          have hTbf := HTBA.out.below hbf'
          have hTbg : Tabs wg bH bR H Q := ⟨(hkey _ _ _ hTbf.1 (by decide)).trans hTbf.1, (hkey _ _ _ hTbf.2 (by decide)).trans hTbf.2⟩
          have hfar : ∀ q, wz.heap.size ≤ q → q < w9.heap.size → ∀ j, j < N + 2 → (upd (upd TF N (.slice a3 S1.length c3)) (N + 1) (.slice a4 S2.length c4) j).ownBlock = some q → False := fun q h1 h2 j hj h => by
            by_cases e1 : j = N + 1
            · subst e1
              rw [upd_same] at h
              have := HLO4.out q h
              omega
            · rw [upd_other _ _ e1] at h
              by_cases e2 : j = N
              · subst e2
                rw [upd_same] at h
                have := HLO3.out q h
                omega
              · rw [upd_other _ _ e2] at h
                obtain ⟨_, cs, hc⟩ := (HTw.out.tl j (by omega)).type h
                have := lt_of_block hc
                omega
          have hRg : ∀ v ps, RowT w' 0 v ps → (∀ q, v.ownBlock = some q → wz.heap.size ≤ q ∧ q < w9.heap.size) → RowT wg 0 v ps := fun v ps hR hq0 => (hR.below hbf').congr fun q cs hq ho => hWg.block q (lt_of_block hq) fun ⟨j, hj, h⟩ => hfar q (hq0 q ho).1 (hq0 q ho).2 j hj h
          have hR1g := hRg _ _ HRA1.out (fun q hq => ⟨HLOv1.out q hq, HL1.out q hq⟩)
          have hR2g := hRg _ _ HRA2.out (fun q hq => ⟨HLOv2.out q hq, HL2.out q hq⟩)
          have hbg : Below B w wg := (HTWA.out.bl.trans (hbf'.mono HTWA.out.sz)).trans ⟨hWg.os, hWg.tape, hWg.output, hWg.size, fun k hk => hWg.block k (by have := hTWf.sz; omega) fun ⟨j, hj, h⟩ => by
            have := (hTFl j k hj h).2.1
            omega⟩
          refine ⟨_, rfl, ⟨⟨hgT, hg17⟩, Nat.le_trans hbf'.size hWg.size⟩, fun hHeld => ?_⟩
          (try simp only [Act.put, List.setIfInBounds_toArray, List.set_cons_zero, List.set_cons_succ])
          (refine rg_yes 25 ?v101 (by simp only [List.getElem?_toArray, List.getElem?_cons_succ, List.getElem?_cons_zero]; rfl) (by kernel_rfl) (by kernel_rfl) (by kernel_rfl) (by exact fun _ _ _ h => h) (by kernel_rfl) (by assumption) ?y101 ?z101; case y101 => (intro w hSw; (try dsimp only at hSw); go_simp; (try (rw [if_neg (by omega)])); (try with_reducible rfl)))
          (try simp only [Act.put, List.setIfInBounds_toArray, List.set_cons_zero, List.set_cons_succ])
          (refine rg_yes 26 ?v102 (by simp only [List.getElem?_toArray, List.getElem?_cons_succ, List.getElem?_cons_zero]; rfl) (by kernel_rfl) (by kernel_rfl) (by kernel_rfl) (by exact fun _ _ _ h => h) (by kernel_rfl) (by assumption) ?y102 ?z102; case y102 => (intro w hSw; (try dsimp only at hSw); go_simp; (try (rw [if_neg (by omega)])); (try with_reducible rfl)))
          (try simp only [Act.put, List.setIfInBounds_toArray, List.set_cons_zero, List.set_cons_succ])
          refine wpAnyH_done (by kernel_rfl) ?_ _
          have HPG := Lib.hid hpG
          have HTBG := Lib.hid hTbg
          have HR1G := Lib.hid hR1g
          have HR2G := Lib.hid hR2g
          have HBG := Lib.hid hbg
          have hszg := hWg.size
          clear hkey h17f hdT hgT hg17 hpG hTbf hTbg hfar hRg hR1g hR2g hbg hWg hTFl hTCl hTWf hbf' hbf hbe' hbe hTA hTB hHeld hwN hwN1 hNa hNb hNc hNd
          go_wp2_with fail
          refine wp_region_held_drew (S := fun w'' => Below wg.heap.size wg w'') (by kernel_rfl) (Below.refl _ _).drew (fun hHeld => ?_)
          (refine rg_yes 0 ?v103 (by simp only [List.getElem?_toArray, List.getElem?_cons_succ, List.getElem?_cons_zero]; rfl) (by kernel_rfl) (by kernel_rfl) (by kernel_rfl) (by exact fun _ _ _ h => h) (by kernel_rfl) (by assumption) ?y103 ?z103; case y103 => (intro w hSw; (try dsimp only at hSw); go_simp; (try (rw [if_neg (by omega)])); (try with_reducible rfl)))
          (try simp only [Act.put, List.setIfInBounds_toArray, List.set_cons_zero, List.set_cons_succ])
          refine rg_yes 1 _ (by simp only [List.getElem?_toArray, List.getElem?_cons_succ, List.getElem?_cons_zero]; rfl) (by kernel_rfl) (by kernel_rfl) (by kernel_rfl) (by exact fun _ _ _ h => h) (by kernel_rfl) (by assumption) (by exact fun w' hS => (exec_load_at ((HTBG.out.below hS).cellH (n := 0) (by omega)) rfl rfl (fun w => by kernel_rfl))) ?_
          (try simp only [Act.put, List.setIfInBounds_toArray, List.set_cons_zero, List.set_cons_succ])
          (refine rg_yes 3 ?v104 (by simp only [List.getElem?_toArray, List.getElem?_cons_succ, List.getElem?_cons_zero]; rfl) (by kernel_rfl) (by kernel_rfl) (by kernel_rfl) (by exact fun _ _ _ h => h) (by kernel_rfl) (by assumption) ?y104 ?z104; case y104 => (intro w hSw; (try dsimp only at hSw); go_simp; (try (rw [if_neg (by omega)])); (try with_reducible rfl)))
          (try simp only [Act.put, List.setIfInBounds_toArray, List.set_cons_zero, List.set_cons_succ])
          refine rg_yes 4 _ (by simp only [List.getElem?_toArray, List.getElem?_cons_succ, List.getElem?_cons_zero]; rfl) (by kernel_rfl) (by kernel_rfl) (by kernel_rfl) (by exact fun _ _ _ h => h) (by kernel_rfl) (by assumption) (by exact fun w' hS => (exec_load_one (v := .slice a1 S1.length c1) (rowAt_below H17g.out hS) rfl rfl rfl (fun w => by kernel_rfl))) ?_
          (try simp only [Act.put, List.setIfInBounds_toArray, List.set_cons_zero, List.set_cons_succ])
          refine rg_call 2 _ _ (by simp only [List.getElem?_toArray, List.getElem?_cons_succ, List.getElem?_cons_zero]; rfl) (by kernel_rfl) (by kernel_rfl) (fun w => by go_simp; exact ⟨rfl, rfl⟩) ?_
          refine (sortedP (H 0) (c 0) (m 0) (dirOf 0) (ps 0) (rr 0) _ ((HPG.out 0 (by omega)).below hHeld) (by omega)).mono ?_
          rintro e wh ⟨v5, rfl, hO5, hbh⟩
          rw [HV1.out] at hO5
          have hV5 := RowT.of_own hO5 rfl
          have hHh : Below wg.heap.size wg wh := hHeld.trans (hbh.mono hHeld.size)
          refine ⟨_, rfl, hHh, fun hHeld => ?_⟩
          (try simp only [Act.put, List.setIfInBounds_toArray, List.set_cons_zero, List.set_cons_succ])
          refine rg_call 5 _ _ (by simp only [List.getElem?_toArray, List.getElem?_cons_succ, List.getElem?_cons_zero]; rfl) (by kernel_rfl) (by kernel_rfl) (fun w => by go_simp; exact ⟨rfl, rfl⟩) ?_
          refine (sameTwos_any _ _ S1 S1 _ (hV5.reads (by omega)) ((HR1G.out.below hHh).reads (by omega))).mono ?_
          rintro e wi ⟨rfl, hbi⟩
          rw [decide_eq_true rfl]
          have hHi : Below wg.heap.size wg wi := hHh.trans (hbi.mono hHh.size)
          refine ⟨_, rfl, hHi, fun hHeld => ?_⟩
          (try simp only [Act.put, List.setIfInBounds_toArray, List.set_cons_zero, List.set_cons_succ])
          (refine rg_yes 6 ?v105 (by simp only [List.getElem?_toArray, List.getElem?_cons_succ, List.getElem?_cons_zero]; rfl) (by kernel_rfl) (by kernel_rfl) (by kernel_rfl) (by exact fun _ _ _ h => h) (by kernel_rfl) (by assumption) ?y105 ?z105; case y105 => (intro w hSw; (try dsimp only at hSw); go_simp; (try (rw [if_neg (by omega)])); (try with_reducible rfl)))
          (try simp only [Act.put, List.setIfInBounds_toArray, List.set_cons_zero, List.set_cons_succ])
          (refine rg_yes 7 ?v106 (by simp only [List.getElem?_toArray, List.getElem?_cons_succ, List.getElem?_cons_zero]; rfl) (by kernel_rfl) (by kernel_rfl) (by kernel_rfl) (by exact fun _ _ _ h => h) (by kernel_rfl) (by assumption) ?y106 ?z106; case y106 => (intro w hSw; (try dsimp only at hSw); go_simp; (try (rw [if_neg (by omega)])); (try with_reducible rfl)))
          (try simp only [Act.put, List.setIfInBounds_toArray, List.set_cons_zero, List.set_cons_succ])
          refine rg_yes 8 _ (by simp only [List.getElem?_toArray, List.getElem?_cons_succ, List.getElem?_cons_zero]; rfl) (by kernel_rfl) (by kernel_rfl) (by kernel_rfl) (by exact fun _ _ _ h => h) (by kernel_rfl) (by assumption) (by exact fun w' hS => (exec_load_at ((HTBG.out.below hS).cellH (n := 1) (by omega)) rfl rfl (fun w => by kernel_rfl))) ?_
          (try simp only [Act.put, List.setIfInBounds_toArray, List.set_cons_zero, List.set_cons_succ])
          (refine rg_yes 10 ?v107 (by simp only [List.getElem?_toArray, List.getElem?_cons_succ, List.getElem?_cons_zero]; rfl) (by kernel_rfl) (by kernel_rfl) (by kernel_rfl) (by exact fun _ _ _ h => h) (by kernel_rfl) (by assumption) ?y107 ?z107; case y107 => (intro w hSw; (try dsimp only at hSw); go_simp; (try (rw [if_neg (by omega)])); (try with_reducible rfl)))
          (try simp only [Act.put, List.setIfInBounds_toArray, List.set_cons_zero, List.set_cons_succ])
          refine rg_yes 11 _ (by simp only [List.getElem?_toArray, List.getElem?_cons_succ, List.getElem?_cons_zero]; rfl) (by kernel_rfl) (by kernel_rfl) (by kernel_rfl) (by exact fun _ _ _ h => h) (by kernel_rfl) (by assumption) (by exact fun w' hS => (exec_load_one (v := .slice a2 S2.length c2) (rowAt_below H17g.out hS) rfl rfl rfl (fun w => by kernel_rfl))) ?_
          (try simp only [Act.put, List.setIfInBounds_toArray, List.set_cons_zero, List.set_cons_succ])
          refine rg_call 9 _ _ (by simp only [List.getElem?_toArray, List.getElem?_cons_succ, List.getElem?_cons_zero]; rfl) (by kernel_rfl) (by kernel_rfl) (fun w => by go_simp; exact ⟨rfl, rfl⟩) ?_
          refine (sortedP (H 1) (c 1) (m 1) (dirOf 1) (ps 1) (rr 1) _ ((HPG.out 1 (by omega)).below hHi) (by omega)).mono ?_
          rintro e wj ⟨v6, rfl, hO6, hbj⟩
          rw [HV2.out] at hO6
          have hV6 := RowT.of_own hO6 rfl
          have hHj : Below wg.heap.size wg wj := hHi.trans (hbj.mono hHi.size)
          refine ⟨_, rfl, hHj, fun hHeld => ?_⟩
          (try simp only [Act.put, List.setIfInBounds_toArray, List.set_cons_zero, List.set_cons_succ])
          refine rg_call 12 _ _ (by simp only [List.getElem?_toArray, List.getElem?_cons_succ, List.getElem?_cons_zero]; rfl) (by kernel_rfl) (by kernel_rfl) (fun w => by go_simp; exact ⟨rfl, rfl⟩) ?_
          refine (sameTwos_any _ _ S2 S2 _ (hV6.reads (by omega)) ((HR2G.out.below hHj).reads (by omega))).mono ?_
          rintro e wk ⟨rfl, hbk⟩
          rw [decide_eq_true rfl]
          have hHk : Below wg.heap.size wg wk := hHj.trans (hbk.mono hHj.size)
          refine ⟨_, rfl, hHk, fun hHeld => ?_⟩
          (try simp only [Act.put, List.setIfInBounds_toArray, List.set_cons_zero, List.set_cons_succ])
          (refine rg_yes 13 ?v108 (by simp only [List.getElem?_toArray, List.getElem?_cons_succ, List.getElem?_cons_zero]; rfl) (by kernel_rfl) (by kernel_rfl) (by kernel_rfl) (by exact fun _ _ _ h => h) (by kernel_rfl) (by assumption) ?y108 ?z108; case y108 => (intro w hSw; (try dsimp only at hSw); go_simp; (try (rw [if_neg (by omega)])); (try with_reducible rfl)))
          (try simp only [Act.put, List.setIfInBounds_toArray, List.set_cons_zero, List.set_cons_succ])
          (refine rg_yes 14 ?v109 (by simp only [List.getElem?_toArray, List.getElem?_cons_succ, List.getElem?_cons_zero]; rfl) (by kernel_rfl) (by kernel_rfl) (by kernel_rfl) (by exact fun _ _ _ h => h) (by kernel_rfl) (by assumption) ?y109 ?z109; case y109 => (intro w hSw; (try dsimp only at hSw); go_simp; (try (rw [if_neg (by omega)])); (try with_reducible rfl)))
          (try simp only [Act.put, List.setIfInBounds_toArray, List.set_cons_zero, List.set_cons_succ])
          refine rg_call 15 _ _ (by simp only [List.getElem?_toArray, List.getElem?_cons_succ, List.getElem?_cons_zero]; rfl) (by kernel_rfl) (by kernel_rfl) (fun w => by go_simp; exact ⟨rfl, rfl⟩) ?_
          refine (works_any wk).mono ?_
          rintro e wl ⟨rfl, hbl⟩
          have hHl : Below wg.heap.size wg wl := hHk.trans (hbl.mono hHk.size)
          refine ⟨_, rfl, hHl, fun hHeld => ?_⟩
          (try simp only [Act.put, List.setIfInBounds_toArray, List.set_cons_zero, List.set_cons_succ])
          (refine rg_yes 16 ?v110 (by simp only [List.getElem?_toArray, List.getElem?_cons_succ, List.getElem?_cons_zero]; rfl) (by kernel_rfl) (by kernel_rfl) (by kernel_rfl) (by exact fun _ _ _ h => h) (by kernel_rfl) (by assumption) ?y110 ?z110; case y110 => (intro w hSw; (try dsimp only at hSw); go_simp; (try (rw [if_neg (by omega)])); (try with_reducible rfl)))
          (try simp only [Act.put, List.setIfInBounds_toArray, List.set_cons_zero, List.set_cons_succ])
          (refine rg_yes 17 ?v111 (by simp only [List.getElem?_toArray, List.getElem?_cons_succ, List.getElem?_cons_zero]; rfl) (by kernel_rfl) (by kernel_rfl) (by kernel_rfl) (by exact fun _ _ _ h => h) (by kernel_rfl) (by assumption) ?y111 ?z111; case y111 => (intro w hSw; (try dsimp only at hSw); go_simp; (try (rw [if_neg (by omega)])); (try with_reducible rfl)))
          (try simp only [Act.put, List.setIfInBounds_toArray, List.set_cons_zero, List.set_cons_succ])
          refine wpAnyH_done (by kernel_rfl) ?_ _
          have hZ := HBG.out.trans (hHl.mono (by have := HBG.out.size; omega))
          have HZ := Lib.hid hZ
          clear hZ hHl hHk hHj hHi hHh hbl hbk hbj hbi hbh hV5 hV6 hO5 hO6 hHeld
          go_wp2_with fail
          go_ret
          exact ⟨rfl, by rw [hB]; exact HZ.out⟩
end Go.Proofs.Ytffioombjejchaa
