/- Lists of balances, kept as they were lent: by contract. -/
import Derived.Test.YtkggmhcdoalhoaaBal
namespace Go.Proofs.Ytkggmhcdoalhoaa
set_option linter.unusedVariables false
set_option linter.unusedSimpArgs false
open Go.RowKit
attribute [local irreducible] Go.wpStill

theorem rangeAt_drop2 {W : World} {g o : Nat} {u v : Value} {r : List Value} (h : W.rangeAt g o (u :: v :: r)) : W.rangeAt g (o + 2) r := fun j x hj => by
  have := h (j + 2) x hj
  rwa [show o + (j + 2) = o + 2 + j by omega] at this
theorem lentYs_at {xs : List BalV} {gs : List (Nat × Nat)} {i : Nat} {x : BalV} {p : Nat × Nat} (hx : xs[i]? = some x) (hp : gs[i]? = some p) : (lentYs xs gs)[i]? = some (lentY x p) := by
  have : (xs.zip gs)[i]? = some (x, p) := by rw [List.getElem?_zip_eq_some]; exact ⟨hx, hp⟩
  simp [lentYs, this]
theorem lentZs_at {xs : List BalV} {gs : List (Nat × Nat)} {i : Nat} {x : BalV} {p : Nat × Nat} (hx : xs[i]? = some x) (hp : gs[i]? = some p) : (lentZs xs gs)[i]? = some (lentZ i x p) := by
  have : (xs.zip gs)[i]? = some (x, p) := by rw [List.getElem?_zip_eq_some]; exact ⟨hx, hp⟩
  simp [lentZs, List.getElem?_mapIdx, this]
theorem MarksIn.full {W : World} {B : Nat} {xs : List BalV} {gs : List (Nat × Nat)} (h : MarksIn W B xs gs) {i : Nat} {x : BalV} {p : Nat × Nat} (hx : xs[i]? = some x) (hp : gs[i]? = some p) (hl : x.ms.length ≤ 8796093021952) : ReadsE markE W (.slice (some ⟨p.1, 0, none⟩) (x.ms.length + 16) p.2) (x.ms ++ mk16) :=
  (h i x p hx hp).reads (by rw [List.length_append, mk16_len]; omega)
theorem MarksIn.part {W : World} {B : Nat} {xs : List BalV} {gs : List (Nat × Nat)} (h : MarksIn W B xs gs) {i : Nat} {x : BalV} {p : Nat × Nat} (hx : xs[i]? = some x) (hp : gs[i]? = some p) (hl : x.ms.length ≤ 8796093021952) : ReadsE markE W (.slice (some ⟨p.1, 0, none⟩) x.ms.length p.2) x.ms := by
  obtain ⟨ao, cap, e, ht⟩ := (h.full hx hp hl).take x.ms.length (by rw [List.length_append]; omega)
  have := ht p.2
  rw [List.take_left] at this
  injection e with e1 _ e3
  subst e1
  exact this
/-- what is lent reads as what it was made of, in memory of its own -/
theorem LentBal.reads {W : World} {B : Nat} {v : Value} {xs : List BalV} (h : LentBal W B v xs) (hs : xs.length ≤ 1048576) (ho : ∀ x ∈ xs, x.avail ≤ 9223372036854775807 ∧ (∀ m ∈ x.ms, m.2 ≤ 9223372036854775807) ∧ x.ms.length ≤ 8796093021952 ∧ keyGood x.key) :
    ∃ ys, BalsR W v ys ∧ ys.map (fun y => (y.key, y.tot)) = xs.map (fun y => (y.key, y.tot)) := by
  obtain ⟨gs, g, cap, hgl, rfl, hr, hm⟩ := h
  have hll := lentYs_len hgl
  have hlz := lentZs_len hgl
  have hlen : (lentYs xs gs ++ lentZs xs gs ++ [balEnd]).length = 2 * xs.length + 1 := by rw [List.length_append, List.length_append, hll, hlz]; simp; omega
  refine ⟨lentYs xs gs, ⟨?_, fun y hy => ?_⟩, ?_⟩
  · obtain ⟨ao, c, e, ht⟩ := (hr.reads (by rw [hlen]; omega)).take xs.length (by rw [hlen]; omega)
    injection e with e1 _ e3
    subst e1
    have := ht cap
    rw [List.append_assoc, List.take_left' hll] at this
    exact this
  · obtain ⟨i, hi, e⟩ := List.getElem_of_mem hy
    have hi' : i < xs.length := by rw [hll] at hi; exact hi
    have hx := List.getElem?_eq_getElem hi'
    have hp := List.getElem?_eq_getElem (show i < gs.length by omega)
    have h1 := lentYs_at hx hp
    rw [List.getElem?_eq_getElem hi, e] at h1
    have h2 : y = lentY xs[i] gs[i] := Option.some.inj h1
    rw [h2]
    have h3 := ho xs[i] (List.getElem_mem hi')
    have h4 := hm.part hx hp h3.2.2.1
    exact ⟨h4, h3⟩
  · apply List.ext_getElem?
    intro i
    rw [List.getElem?_map, List.getElem?_map]
    rcases Nat.lt_or_ge i xs.length with hi | hi
    · have hx := List.getElem?_eq_getElem hi
      have hp := List.getElem?_eq_getElem (show i < gs.length by omega)
      rw [lentYs_at hx hp, hx]
      rfl
    · rw [List.getElem?_eq_none hi, List.getElem?_eq_none (by rw [hll]; exact hi)]
set_option maxRecDepth 100000 in
set_option maxHeartbeats 4000000 in
theorem keptBalances_any (v u : Value) (xs : List BalV) (B : Nat) (w : World) (h : LentBal w B v xs) (hu : BalsR w u xs) (hs : xs.length ≤ 1048576) :
    Calls Try.prog 8 #[v, u] w (FixB true w) := by
  obtain ⟨gs, g, cap, hgl, rfl, hr, hm⟩ := h
  have hll := lentYs_len hgl
  have hlz := lentZs_len hgl
  have hlen : (lentYs xs gs ++ lentZs xs gs ++ [balEnd]).length = 2 * xs.length + 1 := by rw [List.length_append, List.length_append, hll, hlz]; simp; omega
  have hrr := hr.reads (by rw [hlen]; omega)
  obtain ⟨g', cap', e, hcap, hm64⟩ := hr.some (by rw [hlen]; omega)
  injection e with e1 e2 e3
  clear e2
  injection e1 with e1
  injection e1 with e1 e4
  subst e1
  subst e3
  rw [hlen] at hcap
  unfold maxLen at hm64
  have atY : ∀ (i : Nat) (x : BalV) (p : Nat × Nat), xs[i]? = some x → gs[i]? = some p → (lentYs xs gs ++ lentZs xs gs ++ [balEnd])[i]? = some (lentY x p) := fun i x p hx hp => by
    have hi : i < xs.length := (List.getElem?_eq_some_iff.1 hx).1
    rw [List.append_assoc, List.getElem?_append_left (by omega)]
    exact lentYs_at hx hp
  have atZ : ∀ (i : Nat) (x : BalV) (p : Nat × Nat), xs[i]? = some x → gs[i]? = some p → (lentYs xs gs ++ lentZs xs gs ++ [balEnd])[xs.length + i]? = some (lentZ i x p) := fun i x p hx hp => by
    have hi : i < xs.length := (List.getElem?_eq_some_iff.1 hx).1
    rw [List.append_assoc, List.getElem?_append_right (by omega), hll, show xs.length + i - xs.length = i by omega, List.getElem?_append_left (by omega)]
    exact lentZs_at hx hp
  have atE : (lentYs xs gs ++ lentZs xs gs ++ [balEnd])[2 * xs.length]? = some balEnd := by
    rw [List.getElem?_append_right (by rw [List.length_append]; omega), List.length_append, hll, hlz, show 2 * xs.length - (xs.length + xs.length) = 0 by omega]; rfl
  generalize lentYs xs gs ++ lentZs xs gs ++ [balEnd] = all at *
  obtain ⟨ao, cu, rfl⟩ := hu.1.slice
  have HU := Lib.hid hu
  have HR := Lib.hid hrr
  have HM := Lib.hid hm
  have HY := Lib.hid atY
  have HZ := Lib.hid atZ
  have HE := Lib.hid atE
  have HGL := Lib.hid hgl
  have HAL := Lib.hid hlen
  clear hu hrr hr hm atY atZ atE hgl hll hlz hlen
  obtain ⟨q, hq⟩ : ∃ q : Nat, q = 2 * xs.length := ⟨_, rfl⟩
  have hw1 : IntKind.i64.wrap (2 * (xs.length : Int)) = (q : Int) := by rw [hq, IntWalk.i64_in _ (by omega)]; omega
  have hw2 : IntKind.i64.wrap ((q : Int) + 1) = (all.length : Int) := by rw [HAL.out, hq, IntWalk.i64_in _ (by omega)]; omega
  have hcl : all.length ≤ cap := by have := HAL.out; omega
  have HQ := Lib.hid hq
  clear hq hcap
  go_enter Try.func8, Try.ntmps8
  go_wp2_with fail
  go_loopw [7] (fun iv wr => ∃ i : Nat, i ≤ xs.length ∧ iv = .int .i64 i ∧ Below w.heap.size w wr) (fun iv _ => xs.length - (intOf iv).toNat)
  case atStart => exact ⟨0, by omega, rfl, Below.refl _ _⟩
  case round =>
    obtain ⟨i, hi, rfl, hW⟩ := hrel
    by_cases hlt : i < xs.length
    · obtain ⟨x, hx⟩ : ∃ x, xs[i]? = some x := ⟨_, List.getElem?_eq_getElem hlt⟩
      obtain ⟨p, hp⟩ : ∃ p, gs[i]? = some p := ⟨_, List.getElem?_eq_getElem (by rw [HGL.out]; exact hlt)⟩
      have hdl : decide ((i : Int) < xs.length) = true := decide_eq_true (by omega)
      obtain ⟨t, ht⟩ : ∃ t : Nat, t = xs.length + i := ⟨_, rfl⟩
      have hw3 : IntKind.i64.wrap ((xs.length : Int) + i) = (t : Int) := by rw [ht, IntWalk.i64_in _ (by omega)]; omega
      have hta : t < all.length := by have := HAL.out; omega
      have HTT := Lib.hid ht
      clear ht
      obtain ⟨ga, oa, ea, hra⟩ := HR.out.at (HY.out i x p hx hp)
      injection ea with ea
      injection ea with ea1 ea2
      subst ea1
      subst ea2
      obtain ⟨gz, oz, ez, hrz⟩ := HR.out.at (HZ.out i x p hx hp)
      injection ez with ez
      injection ez with ez1 ez2
      subst ez1
      subst ez2
      obtain ⟨gu, ou, rfl, hru⟩ := HU.out.1.at hx
      have hox := HU.out.2 x (List.mem_of_getElem? hx)
      have HPO := Lib.hid (HM.out.part hx hp hox.2.2.2.1)
      have HFU := Lib.hid (HM.out.full hx hp hox.2.2.2.1)
      have HXM := Lib.hid hox.1
      have KA := Lib.hid (fun (wz : World) (hz : Below w.heap.size w wz) => (show wz.rangeAt g (0 + i * 4) (balE.enc (lentY x p)) from fun j v hv => (hz.cell (p := ⟨g, 0 + i * balE.k + j, none⟩) (rangeE_lt hra)).trans (hra j v hv)))
      have KZ := Lib.hid (fun (wz : World) (hz : Below w.heap.size w wz) => (show wz.rangeAt g (0 + (xs.length + i) * 4) (balE.enc (lentZ i x p)) from fun j v hv => (hz.cell (p := ⟨g, 0 + (xs.length + i) * balE.k + j, none⟩) (rangeE_lt hrz)).trans (hrz j v hv)))
      have KU := Lib.hid (fun (wz : World) (hz : Below w.heap.size w wz) => (show wz.rangeAt gu (ou + i * 4) (balE.enc x) from fun j v hv => (hz.cell (p := ⟨gu, ou + i * balE.k + j, none⟩) (rangeE_lt hru)).trans (hru j v hv)))
      clear hx hp hra hrz hru hox
      obtain ⟨a, b, avail, xao, xcap, ms⟩ := x
      obtain ⟨pg, pc⟩ := p
      have hmz : (ms ++ mk16).length = ms.length + 16 := by rw [List.length_append, mk16_len]
      have KZ2 := Lib.hid (show wr.rangeAt g (t * 4) [.int .i64 (-9), .int .i64 i, .int .i64 0, .slice (some ⟨pg, 0, none⟩) (ms.length + 16) pc] by have h := KZ.out wr hW; rw [HTT.out]; simp only [lentZ, BalV.mv, hmz, Nat.zero_add] at h; exact h)
      have KA2 := Lib.hid (fun (wz : World) (hz : Below w.heap.size w wz) => (show wz.rangeAt g (i * 4) [.int .i64 a, .int .i64 b, .int .i64 avail, .slice (some ⟨pg, 0, none⟩) ms.length pc] by have h := KA.out wz hz; simp only [lentY, BalV.mv, Nat.zero_add] at h; exact h))
      have KU2 := Lib.hid (fun (wz : World) (hz : Below w.heap.size w wz) => (show wz.rangeAt gu (ou + i * 4) [.int .i64 a, .int .i64 b, .int .i64 avail, .slice xao ms.length xcap] from KU.out wz hz))
      simp only [BalV.mv] at HXM HPO HFU
      clear KA KZ KU hmz
      go_wp2_with (refine wpList_val (.agg #[.int .i64 (-9), .int .i64 i, .int .i64 0, .slice (some ⟨pg, 0, none⟩) (ms.length + 16) pc]) (by kernel_rfl) (exec_load_mid (T := 42) KZ2.out rfl rfl Try.underlying42 rfl (by kernel_rfl)) ?_)
      rename_i HK HT1 HT2
      generalize hW1 : World.alloc wr _ = W1
      have hb1 : Below w.heap.size w W1 := by rw [← hW1]; exact hW.alloc hW.size _
      have hz1 : W1.heap[wr.heap.size]? = some (.cells #[.int .i64 (-9), .int .i64 i, .int .i64 0, .slice (some ⟨pg, 0, none⟩) (ms.length + 16) pc] 42 (0, 0)) := by rw [← hW1]; exact heap_alloc_new wr _
      have heq := eqKeys (a, b) (a, b)
      simp only [decide_true] at heq
      have HEQ := Lib.hid heq
      have HB1 := Lib.hid hb1
      have HZ1 := Lib.hid hz1
      have HZL := Lib.hid (lt_of_block hz1)
      have HXM1 := Lib.hid (HXM.out.below hb1)
      have HPO1 := Lib.hid (HPO.out.below hb1)
      have HFU1 := Lib.hid (HFU.out.below hb1)
      have HOW := Lib.hid (fun wz (hz : Below W1.heap.size W1 wz) => (hb1.trans (hz.mono hb1.size) : Below w.heap.size w wz))
      clear hW1 hz1 heq hb1 hW KZ2 HXM HPO HFU
      generalize wr.heap.size = zb at *
      have hia : i < all.length := by have := HAL.out; omega
      refine wp_region_held_drew (S := fun w' => Below W1.heap.size W1 w') (by kernel_rfl) (Below.refl _ _).drew (fun hHeld => ?_)
      (refine rg_yes 0 ?v1 (by simp only [List.getElem?_toArray, List.getElem?_cons_succ, List.getElem?_cons_zero]; rfl) (by kernel_rfl) (by kernel_rfl) (by kernel_rfl) (by exact fun _ _ _ h => h) (by kernel_rfl) (by assumption) ?y1 ?z1; case y1 => (intro w hSw; (try dsimp only at hSw); go_simp; (try (rw [if_neg (by omega)])); (try with_reducible rfl)))
      (try simp only [Act.put, List.setIfInBounds_toArray, List.set_cons_zero, List.set_cons_succ])
      (refine rg_yes 1 ?v2 (by simp only [List.getElem?_toArray, List.getElem?_cons_succ, List.getElem?_cons_zero]; rfl) (by kernel_rfl) (by kernel_rfl) (by kernel_rfl) (by exact fun _ _ _ h => h) (by kernel_rfl) (by assumption) ?y2 ?z2; case y2 => (intro w hSw; (try dsimp only at hSw); go_simp; (try (rw [if_neg (by omega)])); (try with_reducible rfl)))
      (try simp only [Act.put, List.setIfInBounds_toArray, List.set_cons_zero, List.set_cons_succ])
      (refine rg_yes 2 ?v3 (by simp only [List.getElem?_toArray, List.getElem?_cons_succ, List.getElem?_cons_zero]; rfl) (by kernel_rfl) (by kernel_rfl) (by kernel_rfl) (by exact fun _ _ _ h => h) (by kernel_rfl) (by assumption) ?y3 ?z3; case y3 => (intro w hSw; (try dsimp only at hSw); go_simp; (try (rw [if_neg (by omega)])); (try with_reducible rfl)))
      (try simp only [Act.put, List.setIfInBounds_toArray, List.set_cons_zero, List.set_cons_succ])
      (refine rg_yes 3 ?v4 (by simp only [List.getElem?_toArray, List.getElem?_cons_succ, List.getElem?_cons_zero]; rfl) (by kernel_rfl) (by kernel_rfl) (by kernel_rfl) (by exact fun _ _ _ h => h) (by kernel_rfl) (by assumption) ?y4 ?z4; case y4 => (intro w hSw; (try dsimp only at hSw); go_simp; (try (rw [if_neg (by omega)])); (try with_reducible rfl)))
      (try simp only [Act.put, List.setIfInBounds_toArray, List.set_cons_zero, List.set_cons_succ])
      refine rg_yes 4 _ (by simp only [List.getElem?_toArray, List.getElem?_cons_succ, List.getElem?_cons_zero]; rfl) (by kernel_rfl) (by kernel_rfl) (by kernel_rfl) (by exact fun _ _ _ h => h) (by kernel_rfl) (by assumption) (by exact fun w' hS => (exec_load_mid (T := 34) (rangeAt_two (KA2.out _ (HOW.out _ hS))) rfl rfl Try.underlying34 rfl (by kernel_rfl))) ?_
      (try simp only [Act.put, List.setIfInBounds_toArray, List.set_cons_zero, List.set_cons_succ])
      (refine rg_yes 5 ?v5 (by simp only [List.getElem?_toArray, List.getElem?_cons_succ, List.getElem?_cons_zero]; rfl) (by kernel_rfl) (by kernel_rfl) (by kernel_rfl) (by exact fun _ _ _ h => h) (by kernel_rfl) (by assumption) ?y5 ?z5; case y5 => (intro w hSw; (try dsimp only at hSw); go_simp; (try (rw [if_neg (by omega)])); (try with_reducible rfl)))
      (try simp only [Act.put, List.setIfInBounds_toArray, List.set_cons_zero, List.set_cons_succ])
      (refine rg_yes 6 ?v6 (by simp only [List.getElem?_toArray, List.getElem?_cons_succ, List.getElem?_cons_zero]; rfl) (by kernel_rfl) (by kernel_rfl) (by kernel_rfl) (by exact fun _ _ _ h => h) (by kernel_rfl) (by assumption) ?y6 ?z6; case y6 => (intro w hSw; (try dsimp only at hSw); go_simp; (try (rw [if_neg (by omega)])); (try with_reducible rfl)))
      (try simp only [Act.put, List.setIfInBounds_toArray, List.set_cons_zero, List.set_cons_succ])
      (refine rg_yes 7 ?v7 (by simp only [List.getElem?_toArray, List.getElem?_cons_succ, List.getElem?_cons_zero]; rfl) (by kernel_rfl) (by kernel_rfl) (by kernel_rfl) (by exact fun _ _ _ h => h) (by kernel_rfl) (by assumption) ?y7 ?z7; case y7 => (intro w hSw; (try dsimp only at hSw); go_simp; (try (rw [if_neg (by omega)])); (try with_reducible rfl)))
      (try simp only [Act.put, List.setIfInBounds_toArray, List.set_cons_zero, List.set_cons_succ])
      (refine rg_yes 8 ?v8 (by simp only [List.getElem?_toArray, List.getElem?_cons_succ, List.getElem?_cons_zero]; rfl) (by kernel_rfl) (by kernel_rfl) (by kernel_rfl) (by exact fun _ _ _ h => h) (by kernel_rfl) (by assumption) ?y8 ?z8; case y8 => (intro w hSw; (try dsimp only at hSw); go_simp; (try (rw [if_neg (by omega)])); (try with_reducible rfl)))
      (try simp only [Act.put, List.setIfInBounds_toArray, List.set_cons_zero, List.set_cons_succ])
      refine rg_yes 9 _ (by simp only [List.getElem?_toArray, List.getElem?_cons_succ, List.getElem?_cons_zero]; rfl) (by kernel_rfl) (by kernel_rfl) (by kernel_rfl) (by exact fun _ _ _ h => h) (by kernel_rfl) (by assumption) (by exact fun w' hS => (exec_load_mid (T := 34) (rangeAt_two (KU2.out _ (HOW.out _ hS))) rfl rfl Try.underlying34 rfl (by kernel_rfl))) ?_
      (try simp only [Act.put, List.setIfInBounds_toArray, List.set_cons_zero, List.set_cons_succ])
      refine rg_yes 10 _ (by simp only [List.getElem?_toArray, List.getElem?_cons_succ, List.getElem?_cons_zero]; rfl) (by kernel_rfl) (by kernel_rfl) (by kernel_rfl) (by exact fun _ _ _ h => h) (by kernel_rfl) (by assumption) (by exact fun w' hS => (exec_neq_val (r := true) rfl rfl rfl (by kernel_rfl) HEQ.out rfl)) ?_
      (try simp only [Act.put, List.setIfInBounds_toArray, List.set_cons_zero, List.set_cons_succ])
      (refine rg_yes 11 ?v9 (by simp only [List.getElem?_toArray, List.getElem?_cons_succ, List.getElem?_cons_zero]; rfl) (by kernel_rfl) (by kernel_rfl) (by kernel_rfl) (by exact fun _ _ _ h => h) (by kernel_rfl) (by assumption) ?y9 ?z9; case y9 => (intro w hSw; (try dsimp only at hSw); go_simp; (try (rw [if_neg (by omega)])); (try with_reducible rfl)))
      (try simp only [Act.put, List.setIfInBounds_toArray, List.set_cons_zero, List.set_cons_succ])
      (refine rg_yes 12 ?v10 (by simp only [List.getElem?_toArray, List.getElem?_cons_succ, List.getElem?_cons_zero]; rfl) (by kernel_rfl) (by kernel_rfl) (by kernel_rfl) (by exact fun _ _ _ h => h) (by kernel_rfl) (by assumption) ?y10 ?z10; case y10 => (intro w hSw; (try dsimp only at hSw); go_simp; (try (rw [if_neg (by omega)])); (try with_reducible rfl)))
      (try simp only [Act.put, List.setIfInBounds_toArray, List.set_cons_zero, List.set_cons_succ])
      (refine rg_yes 13 ?v11 (by simp only [List.getElem?_toArray, List.getElem?_cons_succ, List.getElem?_cons_zero]; rfl) (by kernel_rfl) (by kernel_rfl) (by kernel_rfl) (by exact fun _ _ _ h => h) (by kernel_rfl) (by assumption) ?y11 ?z11; case y11 => (intro w hSw; (try dsimp only at hSw); go_simp; (try (rw [if_neg (by omega)])); (try with_reducible rfl)))
      (try simp only [Act.put, List.setIfInBounds_toArray, List.set_cons_zero, List.set_cons_succ])
      (refine rg_yes 14 ?v12 (by simp only [List.getElem?_toArray, List.getElem?_cons_succ, List.getElem?_cons_zero]; rfl) (by kernel_rfl) (by kernel_rfl) (by kernel_rfl) (by exact fun _ _ _ h => h) (by kernel_rfl) (by assumption) ?y12 ?z12; case y12 => (intro w hSw; (try dsimp only at hSw); go_simp; (try (rw [if_neg (by omega)])); (try with_reducible rfl)))
      (try simp only [Act.put, List.setIfInBounds_toArray, List.set_cons_zero, List.set_cons_succ])
      (refine rg_yes 15 ?v13 (by simp only [List.getElem?_toArray, List.getElem?_cons_succ, List.getElem?_cons_zero]; rfl) (by kernel_rfl) (by kernel_rfl) (by kernel_rfl) (by exact fun _ _ _ h => h) (by kernel_rfl) (by assumption) ?y13 ?z13; case y13 => (intro w hSw; (try dsimp only at hSw); go_simp; (try (rw [if_neg (by omega)])); (try with_reducible rfl)))
      (try simp only [Act.put, List.setIfInBounds_toArray, List.set_cons_zero, List.set_cons_succ])
      refine rg_yes 16 _ (by simp only [List.getElem?_toArray, List.getElem?_cons_succ, List.getElem?_cons_zero]; rfl) (by kernel_rfl) (by kernel_rfl) (by kernel_rfl) (by exact fun _ _ _ h => h) (by kernel_rfl) (by assumption) (by exact fun w' hS => (exec_load_mid (T := 40) (rangeAt_drop2 (KA2.out _ (HOW.out _ hS))) rfl rfl Try.underlying40 rfl (by kernel_rfl))) ?_
      (try simp only [Act.put, List.setIfInBounds_toArray, List.set_cons_zero, List.set_cons_succ])
      (refine rg_yes 17 ?v14 (by simp only [List.getElem?_toArray, List.getElem?_cons_succ, List.getElem?_cons_zero]; rfl) (by kernel_rfl) (by kernel_rfl) (by kernel_rfl) (by exact fun _ _ _ h => h) (by kernel_rfl) (by assumption) ?y14 ?z14; case y14 => (intro w hSw; (try dsimp only at hSw); go_simp; (try (rw [if_neg (by omega)])); (try with_reducible rfl)))
      (try simp only [Act.put, List.setIfInBounds_toArray, List.set_cons_zero, List.set_cons_succ])
      (refine rg_yes 18 ?v15 (by simp only [List.getElem?_toArray, List.getElem?_cons_succ, List.getElem?_cons_zero]; rfl) (by kernel_rfl) (by kernel_rfl) (by kernel_rfl) (by exact fun _ _ _ h => h) (by kernel_rfl) (by assumption) ?y15 ?z15; case y15 => (intro w hSw; (try dsimp only at hSw); go_simp; (try (rw [if_neg (by omega)])); (try with_reducible rfl)))
      (try simp only [Act.put, List.setIfInBounds_toArray, List.set_cons_zero, List.set_cons_succ])
      (refine rg_yes 19 ?v16 (by simp only [List.getElem?_toArray, List.getElem?_cons_succ, List.getElem?_cons_zero]; rfl) (by kernel_rfl) (by kernel_rfl) (by kernel_rfl) (by exact fun _ _ _ h => h) (by kernel_rfl) (by assumption) ?y16 ?z16; case y16 => (intro w hSw; (try dsimp only at hSw); go_simp; (try (rw [if_neg (by omega)])); (try with_reducible rfl)))
      (try simp only [Act.put, List.setIfInBounds_toArray, List.set_cons_zero, List.set_cons_succ])
      (refine rg_yes 20 ?v17 (by simp only [List.getElem?_toArray, List.getElem?_cons_succ, List.getElem?_cons_zero]; rfl) (by kernel_rfl) (by kernel_rfl) (by kernel_rfl) (by exact fun _ _ _ h => h) (by kernel_rfl) (by assumption) ?y17 ?z17; case y17 => (intro w hSw; (try dsimp only at hSw); go_simp; (try (rw [if_neg (by omega)])); (try with_reducible rfl)))
      (try simp only [Act.put, List.setIfInBounds_toArray, List.set_cons_zero, List.set_cons_succ])
      refine rg_yes 21 _ (by simp only [List.getElem?_toArray, List.getElem?_cons_succ, List.getElem?_cons_zero]; rfl) (by kernel_rfl) (by kernel_rfl) (by kernel_rfl) (by exact fun _ _ _ h => h) (by kernel_rfl) (by assumption) (by exact fun w' hS => (exec_load_mid (T := 40) (rangeAt_drop2 (KU2.out _ (HOW.out _ hS))) rfl rfl Try.underlying40 rfl (by kernel_rfl))) ?_
      (try simp only [Act.put, List.setIfInBounds_toArray, List.set_cons_zero, List.set_cons_succ])
      refine rg_call 22 _ _ (by simp only [List.getElem?_toArray, List.getElem?_cons_succ, List.getElem?_cons_zero]; rfl) (by kernel_rfl) (by kernel_rfl) (fun w => by go_simp; exact ⟨rfl, rfl⟩) ?_
      refine (samePosition_any avail _ _ ms _ (HPO1.out.below hHeld) (HXM1.out.below hHeld)).mono ?_
      rintro e w9 ⟨rfl, hb⟩
      refine ⟨_, rfl, hHeld.trans (hb.mono hHeld.size), fun hHeld => ?_⟩
      clear hb
      (try simp only [Act.put, List.setIfInBounds_toArray, List.set_cons_zero, List.set_cons_succ])
      (refine rg_yes 23 ?v18 (by simp only [List.getElem?_toArray, List.getElem?_cons_succ, List.getElem?_cons_zero]; rfl) (by kernel_rfl) (by kernel_rfl) (by kernel_rfl) (by exact fun _ _ _ h => h) (by kernel_rfl) (by assumption) ?y18 ?z18; case y18 => (intro w hSw; (try dsimp only at hSw); go_simp; (try (rw [if_neg (by omega)])); (try with_reducible rfl)))
      (try simp only [Act.put, List.setIfInBounds_toArray, List.set_cons_zero, List.set_cons_succ])
      (refine rg_yes 24 ?v19 (by simp only [List.getElem?_toArray, List.getElem?_cons_succ, List.getElem?_cons_zero]; rfl) (by kernel_rfl) (by kernel_rfl) (by kernel_rfl) (by exact fun _ _ _ h => h) (by kernel_rfl) (by assumption) ?y19 ?z19; case y19 => (intro w hSw; (try dsimp only at hSw); go_simp; (try (rw [if_neg (by omega)])); (try with_reducible rfl)))
      (try simp only [Act.put, List.setIfInBounds_toArray, List.set_cons_zero, List.set_cons_succ])
      refine wpAnyH_done (by kernel_rfl) ?_ _
      apply HK
      have HH9 := Lib.hid hHeld
      clear hHeld HK HEQ
      go_wp2_with fail
      rename_i HK
      refine wp_region_held_drew (S := fun w' => Below W1.heap.size W1 w') (by kernel_rfl) HH9.out.drew (fun hHeld => ?_)
      (refine rg_yes 0 ?v20 (by simp only [List.getElem?_toArray, List.getElem?_cons_succ, List.getElem?_cons_zero]; rfl) (by kernel_rfl) (by kernel_rfl) (by kernel_rfl) (by exact fun _ _ _ h => h) (by kernel_rfl) (by assumption) ?y20 ?z20; case y20 => (intro w hSw; (try dsimp only at hSw); go_simp; (try (rw [if_neg (by omega)])); (try with_reducible rfl)))
      (try simp only [Act.put, List.setIfInBounds_toArray, List.set_cons_zero, List.set_cons_succ])
      (refine rg_yes 1 ?v21 (by simp only [List.getElem?_toArray, List.getElem?_cons_succ, List.getElem?_cons_zero]; rfl) (by kernel_rfl) (by kernel_rfl) (by kernel_rfl) (by exact fun _ _ _ h => h) (by kernel_rfl) (by assumption) ?y21 ?z21; case y21 => (intro w hSw; (try dsimp only at hSw); go_simp; (try (rw [if_neg (by omega)])); (try with_reducible rfl)))
      (try simp only [Act.put, List.setIfInBounds_toArray, List.set_cons_zero, List.set_cons_succ])
      refine rg_yes 2 _ (by simp only [List.getElem?_toArray, List.getElem?_cons_succ, List.getElem?_cons_zero]; rfl) (by kernel_rfl) (by kernel_rfl) (by kernel_rfl) (by exact fun _ _ _ h => h) (by kernel_rfl) (by assumption) (by exact fun w' hS => (exec_load_one (off := 0) ((hS.block zb HZL.out).trans HZ1.out) rfl rfl rfl (fun w => by kernel_rfl))) ?_
      (try simp only [Act.put, List.setIfInBounds_toArray, List.set_cons_zero, List.set_cons_succ])
      refine rg_yes 3 _ (by simp only [List.getElem?_toArray, List.getElem?_cons_succ, List.getElem?_cons_zero]; rfl) (by kernel_rfl) (by kernel_rfl) (by kernel_rfl) (by exact fun _ _ _ h => h) (by kernel_rfl) (by assumption) (by exact fun w' hS => (exec_ne_int (b := false) rfl rfl rfl (by simp))) ?_
      (try simp only [Act.put, List.setIfInBounds_toArray, List.set_cons_zero, List.set_cons_succ])
      (refine rg_yes 4 ?v22 (by simp only [List.getElem?_toArray, List.getElem?_cons_succ, List.getElem?_cons_zero]; rfl) (by kernel_rfl) (by kernel_rfl) (by kernel_rfl) (by exact fun _ _ _ h => h) (by kernel_rfl) (by assumption) ?y22 ?z22; case y22 => (intro w hSw; (try dsimp only at hSw); go_simp; (try (rw [if_neg (by omega)])); (try with_reducible rfl)))
      (try simp only [Act.put, List.setIfInBounds_toArray, List.set_cons_zero, List.set_cons_succ])
      (refine rg_yes 5 ?v23 (by simp only [List.getElem?_toArray, List.getElem?_cons_succ, List.getElem?_cons_zero]; rfl) (by kernel_rfl) (by kernel_rfl) (by kernel_rfl) (by exact fun _ _ _ h => h) (by kernel_rfl) (by assumption) ?y23 ?z23; case y23 => (intro w hSw; (try dsimp only at hSw); go_simp; (try (rw [if_neg (by omega)])); (try with_reducible rfl)))
      (try simp only [Act.put, List.setIfInBounds_toArray, List.set_cons_zero, List.set_cons_succ])
      (refine rg_yes 6 ?v24 (by simp only [List.getElem?_toArray, List.getElem?_cons_succ, List.getElem?_cons_zero]; rfl) (by kernel_rfl) (by kernel_rfl) (by kernel_rfl) (by exact fun _ _ _ h => h) (by kernel_rfl) (by assumption) ?y24 ?z24; case y24 => (intro w hSw; (try dsimp only at hSw); go_simp; (try (rw [if_neg (by omega)])); (try with_reducible rfl)))
      (try simp only [Act.put, List.setIfInBounds_toArray, List.set_cons_zero, List.set_cons_succ])
      refine rg_yes 7 _ (by simp only [List.getElem?_toArray, List.getElem?_cons_succ, List.getElem?_cons_zero]; rfl) (by kernel_rfl) (by kernel_rfl) (by kernel_rfl) (by exact fun _ _ _ h => h) (by kernel_rfl) (by assumption) (by exact fun w' hS => (exec_load_one (off := 1) ((hS.block zb HZL.out).trans HZ1.out) rfl rfl rfl (fun w => by kernel_rfl))) ?_
      (try simp only [Act.put, List.setIfInBounds_toArray, List.set_cons_zero, List.set_cons_succ])
      (refine rg_yes 8 ?v25 (by simp only [List.getElem?_toArray, List.getElem?_cons_succ, List.getElem?_cons_zero]; rfl) (by kernel_rfl) (by kernel_rfl) (by kernel_rfl) (by exact fun _ _ _ h => h) (by kernel_rfl) (by assumption) ?y25 ?z25; case y25 => (intro w hSw; (try dsimp only at hSw); go_simp; (try (rw [if_neg (by omega)])); (try with_reducible rfl)))
      (try simp only [Act.put, List.setIfInBounds_toArray, List.set_cons_zero, List.set_cons_succ])
      refine rg_yes 9 _ (by simp only [List.getElem?_toArray, List.getElem?_cons_succ, List.getElem?_cons_zero]; rfl) (by kernel_rfl) (by kernel_rfl) (by kernel_rfl) (by exact fun _ _ _ h => h) (by kernel_rfl) (by assumption) (by exact fun w' hS => (exec_ne_int (b := false) rfl rfl rfl (by simp))) ?_
      (try simp only [Act.put, List.setIfInBounds_toArray, List.set_cons_zero, List.set_cons_succ])
      (refine rg_yes 10 ?v26 (by simp only [List.getElem?_toArray, List.getElem?_cons_succ, List.getElem?_cons_zero]; rfl) (by kernel_rfl) (by kernel_rfl) (by kernel_rfl) (by exact fun _ _ _ h => h) (by kernel_rfl) (by assumption) ?y26 ?z26; case y26 => (intro w hSw; (try dsimp only at hSw); go_simp; (try (rw [if_neg (by omega)])); (try with_reducible rfl)))
      (try simp only [Act.put, List.setIfInBounds_toArray, List.set_cons_zero, List.set_cons_succ])
      (refine rg_yes 11 ?v27 (by simp only [List.getElem?_toArray, List.getElem?_cons_succ, List.getElem?_cons_zero]; rfl) (by kernel_rfl) (by kernel_rfl) (by kernel_rfl) (by exact fun _ _ _ h => h) (by kernel_rfl) (by assumption) ?y27 ?z27; case y27 => (intro w hSw; (try dsimp only at hSw); go_simp; (try (rw [if_neg (by omega)])); (try with_reducible rfl)))
      (try simp only [Act.put, List.setIfInBounds_toArray, List.set_cons_zero, List.set_cons_succ])
      (refine rg_yes 12 ?v28 (by simp only [List.getElem?_toArray, List.getElem?_cons_succ, List.getElem?_cons_zero]; rfl) (by kernel_rfl) (by kernel_rfl) (by kernel_rfl) (by exact fun _ _ _ h => h) (by kernel_rfl) (by assumption) ?y28 ?z28; case y28 => (intro w hSw; (try dsimp only at hSw); go_simp; (try (rw [if_neg (by omega)])); (try with_reducible rfl)))
      (try simp only [Act.put, List.setIfInBounds_toArray, List.set_cons_zero, List.set_cons_succ])
      (refine rg_yes 13 ?v29 (by simp only [List.getElem?_toArray, List.getElem?_cons_succ, List.getElem?_cons_zero]; rfl) (by kernel_rfl) (by kernel_rfl) (by kernel_rfl) (by exact fun _ _ _ h => h) (by kernel_rfl) (by assumption) ?y29 ?z29; case y29 => (intro w hSw; (try dsimp only at hSw); go_simp; (try (rw [if_neg (by omega)])); (try with_reducible rfl)))
      (try simp only [Act.put, List.setIfInBounds_toArray, List.set_cons_zero, List.set_cons_succ])
      refine rg_yes 14 _ (by simp only [List.getElem?_toArray, List.getElem?_cons_succ, List.getElem?_cons_zero]; rfl) (by kernel_rfl) (by kernel_rfl) (by kernel_rfl) (by exact fun _ _ _ h => h) (by kernel_rfl) (by assumption) (by exact fun w' hS => (exec_load_one (off := 3) ((hS.block zb HZL.out).trans HZ1.out) rfl rfl rfl (fun w => by kernel_rfl))) ?_
      (try simp only [Act.put, List.setIfInBounds_toArray, List.set_cons_zero, List.set_cons_succ])
      (refine rg_yes 15 ?v30 (by simp only [List.getElem?_toArray, List.getElem?_cons_succ, List.getElem?_cons_zero]; rfl) (by kernel_rfl) (by kernel_rfl) (by kernel_rfl) (by exact fun _ _ _ h => h) (by kernel_rfl) (by assumption) ?y30 ?z30; case y30 => (intro w hSw; (try dsimp only at hSw); go_simp; (try (rw [if_neg (by omega)])); (try with_reducible rfl)))
      (try simp only [Act.put, List.setIfInBounds_toArray, List.set_cons_zero, List.set_cons_succ])
      (refine rg_yes 16 ?v31 (by simp only [List.getElem?_toArray, List.getElem?_cons_succ, List.getElem?_cons_zero]; rfl) (by kernel_rfl) (by kernel_rfl) (by kernel_rfl) (by exact fun _ _ _ h => h) (by kernel_rfl) (by assumption) ?y31 ?z31; case y31 => (intro w hSw; (try dsimp only at hSw); go_simp; (try (rw [if_neg (by omega)])); (try with_reducible rfl)))
      (try simp only [Act.put, List.setIfInBounds_toArray, List.set_cons_zero, List.set_cons_succ])
      (refine rg_yes 17 ?v32 (by simp only [List.getElem?_toArray, List.getElem?_cons_succ, List.getElem?_cons_zero]; rfl) (by kernel_rfl) (by kernel_rfl) (by kernel_rfl) (by exact fun _ _ _ h => h) (by kernel_rfl) (by assumption) ?y32 ?z32; case y32 => (intro w hSw; (try dsimp only at hSw); go_simp; (try (rw [if_neg (by omega)])); (try with_reducible rfl)))
      (try simp only [Act.put, List.setIfInBounds_toArray, List.set_cons_zero, List.set_cons_succ])
      (refine rg_yes 18 ?v33 (by simp only [List.getElem?_toArray, List.getElem?_cons_succ, List.getElem?_cons_zero]; rfl) (by kernel_rfl) (by kernel_rfl) (by kernel_rfl) (by exact fun _ _ _ h => h) (by kernel_rfl) (by assumption) ?y33 ?z33; case y33 => (intro w hSw; (try dsimp only at hSw); go_simp; (try (rw [if_neg (by omega)])); (try with_reducible rfl)))
      (try simp only [Act.put, List.setIfInBounds_toArray, List.set_cons_zero, List.set_cons_succ])
      (refine rg_yes 19 ?v34 (by simp only [List.getElem?_toArray, List.getElem?_cons_succ, List.getElem?_cons_zero]; rfl) (by kernel_rfl) (by kernel_rfl) (by kernel_rfl) (by exact fun _ _ _ h => h) (by kernel_rfl) (by assumption) ?y34 ?z34; case y34 => (intro w hSw; (try dsimp only at hSw); go_simp; (try (rw [if_neg (by omega)])); (try with_reducible rfl)))
      (try simp only [Act.put, List.setIfInBounds_toArray, List.set_cons_zero, List.set_cons_succ])
      refine rg_yes 20 _ (by simp only [List.getElem?_toArray, List.getElem?_cons_succ, List.getElem?_cons_zero]; rfl) (by kernel_rfl) (by kernel_rfl) (by kernel_rfl) (by exact fun _ _ _ h => h) (by kernel_rfl) (by assumption) (by exact fun w' hS => (exec_load_at (KU2.out _ (HOW.out _ hS) 3 (.slice xao ms.length xcap) rfl) rfl rfl (fun w => by kernel_rfl))) ?_
      (try simp only [Act.put, List.setIfInBounds_toArray, List.set_cons_zero, List.set_cons_succ])
      refine rg_call 21 _ _ (by simp only [List.getElem?_toArray, List.getElem?_cons_succ, List.getElem?_cons_zero]; rfl) (by kernel_rfl) (by kernel_rfl) (fun w => by go_simp; exact ⟨rfl, rfl⟩) ?_
      refine (keptFullMarks_any _ _ ms _ (HFU1.out.below hHeld) (HXM1.out.below hHeld)).mono ?_
      rintro e w10 ⟨rfl, hb⟩
      refine ⟨_, rfl, hHeld.trans (hb.mono hHeld.size), fun hHeld => ?_⟩
      clear hb
      (try simp only [Act.put, List.setIfInBounds_toArray, List.set_cons_zero, List.set_cons_succ])
      (refine rg_yes 22 ?v35 (by simp only [List.getElem?_toArray, List.getElem?_cons_succ, List.getElem?_cons_zero]; rfl) (by kernel_rfl) (by kernel_rfl) (by kernel_rfl) (by exact fun _ _ _ h => h) (by kernel_rfl) (by assumption) ?y35 ?z35; case y35 => (intro w hSw; (try dsimp only at hSw); go_simp; (try (rw [if_neg (by omega)])); (try with_reducible rfl)))
      (try simp only [Act.put, List.setIfInBounds_toArray, List.set_cons_zero, List.set_cons_succ])
      (refine rg_yes 23 ?v36 (by simp only [List.getElem?_toArray, List.getElem?_cons_succ, List.getElem?_cons_zero]; rfl) (by kernel_rfl) (by kernel_rfl) (by kernel_rfl) (by exact fun _ _ _ h => h) (by kernel_rfl) (by assumption) ?y36 ?z36; case y36 => (intro w hSw; (try dsimp only at hSw); go_simp; (try (rw [if_neg (by omega)])); (try with_reducible rfl)))
      (try simp only [Act.put, List.setIfInBounds_toArray, List.set_cons_zero, List.set_cons_succ])
      refine wpAnyH_done (by kernel_rfl) ?_ _
      apply HK
      have HH10 := Lib.hid (HOW.out _ hHeld)
      clear hHeld HK
      go_wp2_with fail
      exact ⟨⟨i + 1, by omega, by go_num, HH10.out⟩, by simp [intOf]; omega⟩
    · have hdl : decide ((i : Int) < xs.length) = false := decide_eq_false (by omega)
      obtain ⟨ga, oa, ea, hra⟩ := HR.out.at HE.out
      injection ea with ea
      injection ea with ea1 ea2
      subst ea1
      subst ea2
      have kz : wr.cell? ⟨g, q * 4, none⟩ = some (.int .i64 (-8)) := by
        rw [HQ.out]
        have h := hra 0 (.int .i64 (-8)) rfl
        rw [hW.cell (p := ⟨g, 2 * xs.length * 4, none⟩) (rangeE_lt hra)]
        have e : 0 + 2 * xs.length * balE.k + 0 = 2 * xs.length * 4 := by show 0 + 2 * xs.length * 4 + 0 = _; omega
        rw [e] at h
        exact h
      have h2a : q < all.length := by have h1 := HAL.out; have h2 := HQ.out; omega
      clear hra
      go_wp2_with fail
      go_ret
      exact ⟨ret_bool (by simp), hW⟩
end Go.Proofs.Ytkggmhcdoalhoaa
