/- Lists of balances, lent as deep as they go: by contract. -/
import Derived.Test.YtkggmhcdoalhoaaSameM
import Derived.Test.YtkggmhcdoalhoaaPosR
import Derived.Test.YtkggmhcdoalhoaaKeyM
import Derived.Test.YtkggmhcdoalhoaaAppNil
namespace Go.Proofs.Ytkggmhcdoalhoaa
set_option linter.unusedVariables false
set_option linter.unusedSimpArgs false
open Go.RowKit
attribute [local irreducible] Go.wpStill

abbrev balE : Enc BalV := ⟨fun x => [.int .i64 x.a, .int .i64 x.b, .int .i64 x.avail, x.mv], 4, by decide, fun x => rfl, fun x => all_one rfl⟩
theorem balTy : ElT Try.prog balE 42 22 48 := by
  refine ⟨Try.underlying22, ?_⟩
  have : (Try.prog.info? 42).map (fun i => (i.zero.map (fun z => z.cells.size), i.size, i.bytes)) = some (some 4, 4, 48) := by kernel_rfl
  obtain ⟨i, h1, h2⟩ := Option.map_eq_some_iff.1 this
  simp at h2
  obtain ⟨⟨z, hz, hz2⟩, h3, h4⟩ := h2
  exact ⟨i, z, h1, hz, hz2, h3, h4⟩
/-- a balance that can be: its numbers are of 64 bits, its marks are read, and not too many -/
def BalOk (W : World) (x : BalV) : Prop := ReadsE markE W x.mv x.ms ∧ x.avail ≤ 9223372036854775807 ∧ (∀ m ∈ x.ms, m.2 ≤ 9223372036854775807) ∧ x.ms.length ≤ 8796093021952 ∧ keyGood x.key
def BalsR (W : World) (v : Value) (xs : List BalV) : Prop := ReadsE balE W v xs ∧ ∀ x ∈ xs, BalOk W x
theorem BalsR.below {W W' : World} {v : Value} {xs : List BalV} (h : BalsR W v xs) (hb : Below W.heap.size W W') : BalsR W' v xs := ⟨h.1.below hb, fun x hx => ⟨(h.2 x hx).1.below hb, (h.2 x hx).2⟩⟩
def mk16 : List markT := marksE (mkMarks 90) 16
theorem mk16_len : mk16.length = 16 := marksE_len _ _
def lentY (x : BalV) (p : Nat × Nat) : BalV := { x with ao := some ⟨p.1, 0, none⟩, cap := p.2 }
def lentZ (i : Int) (x : BalV) (p : Nat × Nat) : BalV := ⟨-9, i, 0, some ⟨p.1, 0, none⟩, p.2, x.ms ++ mk16⟩
def lentYs (xs : List BalV) (gs : List (Nat × Nat)) : List BalV := (xs.zip gs).map fun q => lentY q.1 q.2
def lentZs (xs : List BalV) (gs : List (Nat × Nat)) : List BalV := (xs.zip gs).mapIdx fun i q => lentZ i q.1 q.2
def balEnd : BalV := ⟨-8, 0, 0, none, 0, []⟩
theorem zip_snoc {α β : Type} {l : List α} {m : List β} (x : α) (y : β) (h : m.length = l.length) : (l ++ [x]).zip (m ++ [y]) = l.zip m ++ [(x, y)] := by
  rw [List.zip_append h.symm]; rfl
theorem lentYs_len {xs : List BalV} {gs : List (Nat × Nat)} (h : gs.length = xs.length) : (lentYs xs gs).length = xs.length := by simp [lentYs, h]
theorem lentZs_len {xs : List BalV} {gs : List (Nat × Nat)} (h : gs.length = xs.length) : (lentZs xs gs).length = xs.length := by simp [lentZs, h]
/-- the marks of each balance lie in a row of their own -/
def MarksIn (W : World) (B : Nat) (xs : List BalV) (gs : List (Nat × Nat)) : Prop := ∀ (i : Nat) (x : BalV) (p : Nat × Nat), xs[i]? = some x → gs[i]? = some p → RowE markE 55 W B (.slice (some ⟨p.1, 0, none⟩) (x.ms.length + 16) p.2) (x.ms ++ mk16)
theorem MarksIn.snoc {W : World} {B : Nat} {xs : List BalV} {gs : List (Nat × Nat)} (h : MarksIn W B xs gs) (hl : gs.length = xs.length) {x : BalV} {p : Nat × Nat} (hr : RowE markE 55 W B (.slice (some ⟨p.1, 0, none⟩) (x.ms.length + 16) p.2) (x.ms ++ mk16)) : MarksIn W B (xs ++ [x]) (gs ++ [p]) := fun i y q hy hq => by
  rcases Nat.lt_or_ge i xs.length with c | c
  · rw [List.getElem?_append_left c] at hy
    rw [List.getElem?_append_left (by omega)] at hq
    exact h i y q hy hq
  · rw [List.getElem?_append_right c] at hy
    rw [List.getElem?_append_right (by omega)] at hq
    obtain ⟨e, rfl⟩ : i - xs.length = 0 ∧ x = y := by
      rcases e : i - xs.length with _ | k
      · rw [e] at hy; exact ⟨rfl, by simpa using hy⟩
      · rw [e] at hy; simp at hy
    rw [show i - gs.length = 0 by omega] at hq
    obtain rfl : p = q := by simpa using hq
    exact hr
theorem lentYs_snoc {xs : List BalV} {gs : List (Nat × Nat)} (x : BalV) (p : Nat × Nat) (h : gs.length = xs.length) : lentYs (xs ++ [x]) (gs ++ [p]) = lentYs xs gs ++ [lentY x p] := by
  unfold lentYs; rw [zip_snoc x p h, List.map_append]; rfl
theorem lentZs_snoc {xs : List BalV} {gs : List (Nat × Nat)} (x : BalV) (p : Nat × Nat) (h : gs.length = xs.length) : lentZs (xs ++ [x]) (gs ++ [p]) = lentZs xs gs ++ [lentZ xs.length x p] := by
  unfold lentZs
  rw [zip_snoc x p h, List.mapIdx_append]
  simp [h]
theorem MarksIn.congr {W W' : World} {B : Nat} {xs : List BalV} {gs : List (Nat × Nat)} (h : MarksIn W B xs gs) (hk : ∀ (k : Nat) (cs : Array Value), W.heap[k]? = some (Obj.cells cs 55 (0, 0)) → W'.heap[k]? = W.heap[k]?) : MarksIn W' B xs gs := fun i x p hx hp => (h i x p hx hp).congr fun k cs hc _ => hk k cs hc
theorem MarksIn.below {W W' : World} {B : Nat} {xs : List BalV} {gs : List (Nat × Nat)} (h : MarksIn W B xs gs) (hb : Below W.heap.size W W') : MarksIn W' B xs gs := h.congr fun k cs hc => hb.block k (lt_of_block hc)
def LentBal (W : World) (B : Nat) (v : Value) (xs : List BalV) : Prop := ∃ (gs : List (Nat × Nat)) (g cap : Nat), gs.length = xs.length ∧ v = .slice (some ⟨g, 0, none⟩) xs.length cap ∧
  RowE balE 42 W B (.slice (some ⟨g, 0, none⟩) (2 * xs.length + 1) cap) (lentYs xs gs ++ lentZs xs gs ++ [balEnd]) ∧ MarksIn W B xs gs
theorem LentBal.below {W W' : World} {B : Nat} {v : Value} {xs : List BalV} (h : LentBal W B v xs) (hb : Below W.heap.size W W') : LentBal W' B v xs := by
  obtain ⟨gs, g, cap, h1, h2, h3, h4⟩ := h
  exact ⟨gs, g, cap, h1, h2, h3.below hb, h4.below hb⟩
/-- an append to a row leaves rows of other elements, and rows that lie elsewhere -/
theorem grown_other {α β : Type} {E : Enc α} {F : Enc β} {T U : TypeId} {w w' : World} {B C : Nat} {v u : Value} {xs : List α} {ys : List β} (hv : RowE E T w B v xs) (hu : RowE F U w C u ys) (hg : w.grownBy w' v.ownBlock) (hne : T ≠ U ∨ ∀ q, v.ownBlock = some q → u.ownBlock ≠ some q) : RowE F U w' C u ys :=
  hu.congr fun k cs hc hk => hg.block k (lt_of_block hc) fun e => by
    rcases hne with hne | hne
    · obtain ⟨_, cs', hc'⟩ := hv.type e.symm
      rw [hc] at hc'
      cases hc'
      exact hne rfl
    · exact hne k e.symm hk
theorem marks_other {α : Type} {E : Enc α} {T : TypeId} {w w' : World} {B C : Nat} {v : Value} {xs : List α} {ys : List BalV} {gs : List (Nat × Nat)} (hv : RowE E T w B v xs) (hu : MarksIn w C ys gs) (hg : w.grownBy w' v.ownBlock) (hne : T ≠ 55) : MarksIn w' C ys gs :=
  fun i x p hx hp => grown_other hv (hu i x p hx hp) hg (.inl hne)
theorem rangeAt_two {W : World} {g o : Nat} {u v : Value} {r : List Value} (h : W.rangeAt g o (u :: v :: r)) : W.rangeAt g o [u, v] := fun j x hj => h j x (by
  rcases j with _ | _ | j
  · exact hj
  · exact hj
  · simp at hj)
theorem apart_push {α β : Type} {E : Enc α} {F : Enc β} {T U : TypeId} {w : World} {B C : Nat} {v v' u : Value} {xs : List α} {ys : List β} (hu : RowE F U w C u ys) (hne : ∀ q, v.ownBlock = some q → u.ownBlock ≠ some q) (h5 : v'.ownBlock = v.ownBlock ∨ ∀ q, v'.ownBlock = some q → w.heap.size ≤ q) : ∀ q, v'.ownBlock = some q → u.ownBlock ≠ some q := fun q hq hq2 => by
  rcases h5 with h5 | h5
  · exact hne q (h5 ▸ hq) hq2
  · obtain ⟨_, cs, hc⟩ := hu.type hq2
    have h1 := h5 q hq
    have h2 := lt_of_block hc
    omega
set_option maxRecDepth 100000 in
set_option maxHeartbeats 4000000 in
theorem lentBalances_any (v : Value) (xs : List BalV) (w : World) (h : BalsR w v xs) (hs : xs.length ≤ 1048576) :
    Calls Try.prog 5 #[v] w fun e w' => ∃ u, e = .returned u ∧ LentBal w' w.heap.size u xs ∧ Below w.heap.size w w' := by
  obtain ⟨ao, cap, rfl⟩ := h.1.slice
  have HR := Lib.hid h.1
  have HO := Lib.hid h.2
  clear h
  go_enter Try.func5, Try.ntmps5
  go_wp2_with fail
  go_loopw [3, 4, 5] (fun ov fv iv wr => ∃ (i : Nat) (gs : List (Nat × Nat)), i ≤ xs.length ∧ iv = .int .i64 i ∧ gs.length = i ∧ RowE balE 42 wr w.heap.size ov (lentYs (xs.take i) gs) ∧ RowE balE 42 wr w.heap.size fv (lentZs (xs.take i) gs) ∧
    (∀ q, ov.ownBlock = some q → fv.ownBlock ≠ some q) ∧ MarksIn wr w.heap.size (xs.take i) gs ∧ Below w.heap.size w wr) (fun _ _ iv _ => xs.length - (intOf iv).toNat)
  case atStart => exact ⟨0, [], by omega, rfl, rfl, RowE.nil _ _, RowE.nil _ _, by simp [Value.ownBlock], by intro i x p hx; simp at hx, Below.refl _ _⟩
  case round =>
    obtain ⟨i, gs, hi, rfl, hgl, hO, hF, hOF, hM, hW⟩ := hrel
    have HOV := Lib.hid hO
    have HFV := Lib.hid hF
    have HOF := Lib.hid hOF
    have HM := Lib.hid hM
    have HWB := Lib.hid hW
    have HGL := Lib.hid hgl
    clear hO hF hOF hM hgl
    by_cases hlt : i < xs.length
    · obtain ⟨x, hx⟩ : ∃ x, xs[i]? = some x := ⟨_, List.getElem?_eq_getElem hlt⟩
      obtain ⟨g, o, rfl, hr0⟩ := HR.out.at hx
      have hg0 : g < w.heap.size := rangeE_lt hr0
      have hr : wr.rangeAt g (o + i * balE.k) (balE.enc x) := fun j v hv => (hW.cell (p := ⟨g, o + i * balE.k + j, none⟩) hg0).trans (hr0 j v hv)
      clear hr0
      have hdl : decide ((i : Int) < xs.length) = true := decide_eq_true (by omega)
      have hox := HO.out x (List.mem_of_getElem? hx)
      have HMS := Lib.hid (hox.1.below hW)
      have HML := Lib.hid hox.2.2.2.1
      have HX := Lib.hid hx
      have KX := Lib.hid (fun (wz : World) (hz : Below wr.heap.size wr wz) => (show wz.rangeAt g (o + i * 4) (balE.enc x) from fun j v hv => (hz.cell (p := ⟨g, o + i * 4 + j, none⟩) (rangeE_lt hr)).trans (hr j v hv)))
      have k3 : wr.cell? ⟨g, o + i * 4 + 3, none⟩ = some x.mv := hr 3 x.mv rfl
      clear hr hox hx
      obtain ⟨a, b, avail, xao, xcap, ms⟩ := x
      simp only [BalV.mv] at k3 HMS HML
      go_wp2_with fail
      refine (fullMarks_any _ ms wr HMS.out (by have := HML.out; omega)).mono ?_
      rintro e w5 ⟨v5, rfl, hR5, hb5⟩
      obtain ⟨g5, c5, rfl, hc5, hm5⟩ := hR5.some (by rw [List.length_append, marksE_len]; omega)
      rw [show (ms ++ marksE (mkMarks 90) 16).length = ms.length + 16 by rw [List.length_append, marksE_len]] at hR5 hc5 ⊢
      have HR5 := Lib.hid (show RowE markE 55 w5 wr.heap.size (.slice (some ⟨g5, 0, none⟩) (ms.length + 16) c5) (ms ++ mk16) from hR5)
      have HO5 := Lib.hid (HOV.out.below hb5)
      have HF5 := Lib.hid (HFV.out.below hb5)
      have HM5 := Lib.hid (HM.out.below hb5)
      have HB5 := Lib.hid (HWB.out.trans (hb5.mono HWB.out.size))
      have KX5 := Lib.hid (fun (wz : World) (hz : Below w5.heap.size w5 wz) => KX.out wz (hb5.trans (hz.mono hb5.size)))
      have hszr := HWB.out.size
      have hsz := HB5.out.size
      have hsz5 := hb5.size
      unfold maxLen at hm5
      clear hR5 hb5 k3 HM HOV HFV HWB HMS KX hW
      -- the row of balances
      generalize hwA : w5.drew.alloc (.cells #[.int .i64 a, .int .i64 b, .int .i64 avail, .slice (some ⟨g5, 0, none⟩) ms.length c5] 42) = wA
      have hbA : Below w5.heap.size w5 wA := by rw [← hwA]; exact (Below.refl _ _).drew.alloc (Nat.le_refl _) _
      have hxA : wA.heap[w5.heap.size]? = some (.cells #[.int .i64 a, .int .i64 b, .int .i64 avail, .slice (some ⟨g5, 0, none⟩) ms.length c5] 42 (0, 0)) := by rw [← hwA]; exact heap_alloc_new w5.drew _
      have hll : (lentYs (xs.take i) gs).length = i := by rw [lentYs_len (by rw [HGL.out, List.length_take, Nat.min_eq_left hi]), List.length_take, Nat.min_eq_left hi]
      have hlz : (lentZs (xs.take i) gs).length = i := by rw [lentZs_len (by rw [HGL.out, List.length_take, Nat.min_eq_left hi]), List.length_take, Nat.min_eq_left hi]
      have hOA := HO5.out.below hbA
      have hFA := HF5.out.below hbA
      obtain ⟨v', w6, hrun, hR, hg, h5, _⟩ := hOA.push balTy (by have := hbA.size; omega) (lentY ⟨a, b, avail, xao, xcap, ms⟩ (g5, c5)) w5.heap.size 1 _ rfl hxA (by rw [hll]; omega) (by rw [hll]; omega)
      have HR6 := Lib.hid hR
      have HF6 := Lib.hid (grown_other hOA hFA hg (.inr HOF.out))
      have HM6 := Lib.hid (marks_other hOA (HM5.out.below hbA) hg (by decide))
      have HK6 := Lib.hid (grown_other hOA (HR5.out.below hbA) hg (.inl (by decide)))
      have hsA0 := hbA.size
      have KX6 := Lib.hid (show w6.rangeAt g (o + i * 4) [.int .i64 a, .int .i64 b, .int .i64 avail, .slice xao ms.length xcap] from fun j v hv => (cell_kept (hg.block g (by omega) (fun e => by have := (hOA.type e.symm).1; omega))).trans (KX5.out wA hbA j v hv))
      have HA6 := Lib.hid (apart_push (xs := lentYs (xs.take i) gs) (E := balE) (T := 42) (B := w.heap.size) hFA HOF.out h5)
      have HB6 := Lib.hid ((HB5.out.trans (hbA.mono hsz)).trans (hOA.grown hg (by have := hbA.size; omega) (Nat.le_refl _)))
      have hs6 := hg.size
      have hsA := hbA.size
      have HRUN := Lib.hid (by rw [← hwA] at hrun; exact hrun)
      clear HO5 HF5 HM5 HB5 HR5 hOA hFA hR hg h5 hrun hbA hxA HOF hsA hsA0 hwA
      go_wp2_with fail
      have hmc : ms.length ≤ c5 := by omega
      refine wp_region_till (k := 25) (S := fun w' => w'.rangeAt g (o + i * 4) [.int .i64 a, .int .i64 b, .int .i64 avail, .slice xao ms.length xcap]) (by kernel_rfl) ?_
      have hHeld : w5.drew.rangeAt g (o + i * 4) [.int .i64 a, .int .i64 b, .int .i64 avail, .slice xao ms.length xcap] := KX5.out _ (Below.refl _ _).drew
      (refine rt_yes 0 ?v1 (by simp only [List.getElem?_toArray, List.getElem?_cons_succ, List.getElem?_cons_zero]; rfl) (by kernel_rfl) (by kernel_rfl) (by kernel_rfl) (by kernel_rfl) (by exact fun _ _ _ h => h) (by kernel_rfl) (by exact fun _ => hHeld) ?y1 ?z1; case y1 => (intro w; go_simp; (try (rw [if_neg (by omega)])); (try with_reducible rfl)))
      (try simp only [Act.put, List.setIfInBounds_toArray, List.set_cons_zero, List.set_cons_succ])
      (refine rt_yes 1 ?v2 (by simp only [List.getElem?_toArray, List.getElem?_cons_succ, List.getElem?_cons_zero]; rfl) (by kernel_rfl) (by kernel_rfl) (by kernel_rfl) (by kernel_rfl) (by exact fun _ _ _ h => h) (by kernel_rfl) (by exact fun _ => hHeld) ?y2 ?z2; case y2 => (intro w; go_simp; (try (rw [if_neg (by omega)])); (try with_reducible rfl)))
      (try simp only [Act.put, List.setIfInBounds_toArray, List.set_cons_zero, List.set_cons_succ])
      (refine rt_yes 2 ?v3 (by simp only [List.getElem?_toArray, List.getElem?_cons_succ, List.getElem?_cons_zero]; rfl) (by kernel_rfl) (by kernel_rfl) (by kernel_rfl) (by kernel_rfl) (by exact fun _ _ _ h => h) (by kernel_rfl) (by exact fun _ => hHeld) ?y3 ?z3; case y3 => (intro w; go_simp; (try (rw [if_neg (by omega)])); (try with_reducible rfl)))
      (try simp only [Act.put, List.setIfInBounds_toArray, List.set_cons_zero, List.set_cons_succ])
      (refine rt_yes 3 ?v4 (by simp only [List.getElem?_toArray, List.getElem?_cons_succ, List.getElem?_cons_zero]; rfl) (by kernel_rfl) (by kernel_rfl) (by kernel_rfl) (by kernel_rfl) (by exact fun _ _ _ h => h) (by kernel_rfl) (by exact fun _ => hHeld) ?y4 ?z4; case y4 => (intro w; go_simp; (try (rw [if_neg (by omega)])); (try with_reducible rfl)))
      (try simp only [Act.put, List.setIfInBounds_toArray, List.set_cons_zero, List.set_cons_succ])
      (refine rt_yes 4 ?v5 (by simp only [List.getElem?_toArray, List.getElem?_cons_succ, List.getElem?_cons_zero]; rfl) (by kernel_rfl) (by kernel_rfl) (by kernel_rfl) (by kernel_rfl) (by exact fun _ _ _ h => h) (by kernel_rfl) (by exact fun _ => hHeld) ?y5 ?z5; case y5 => (intro w; go_simp; (try (rw [if_neg (by omega)])); (try with_reducible rfl)))
      (try simp only [Act.put, List.setIfInBounds_toArray, List.set_cons_zero, List.set_cons_succ])
      refine rt_load 5 _ (by simp only [List.getElem?_toArray, List.getElem?_cons_succ, List.getElem?_cons_zero]; rfl) (by kernel_rfl) (by kernel_rfl) (by kernel_rfl) (by kernel_rfl) (by kernel_rfl) (by kernel_rfl) (by exact fun _ _ _ h => h) (by kernel_rfl) hHeld (fun w' hS => (exec_load_mid (T := 34) (cs := [.int .i64 a, .int .i64 b]) (rangeAt_two hS) rfl rfl Try.underlying34 rfl (by kernel_rfl))) ?_
      (try simp only [Act.put, List.setIfInBounds_toArray, List.set_cons_zero, List.set_cons_succ])
      (refine rt_yes 6 ?v6 (by simp only [List.getElem?_toArray, List.getElem?_cons_succ, List.getElem?_cons_zero]; rfl) (by kernel_rfl) (by kernel_rfl) (by kernel_rfl) (by kernel_rfl) (by exact fun _ _ _ h => h) (by kernel_rfl) (by exact fun _ => hHeld) ?y6 ?z6; case y6 => (intro w; go_simp; (try (rw [if_neg (by omega)])); (try with_reducible rfl)))
      (try simp only [Act.put, List.setIfInBounds_toArray, List.set_cons_zero, List.set_cons_succ])
      (refine rt_yes 7 ?v7 (by simp only [List.getElem?_toArray, List.getElem?_cons_succ, List.getElem?_cons_zero]; rfl) (by kernel_rfl) (by kernel_rfl) (by kernel_rfl) (by kernel_rfl) (by exact fun _ _ _ h => h) (by kernel_rfl) (by exact fun _ => hHeld) ?y7 ?z7; case y7 => (intro w; go_simp; (try (rw [if_neg (by omega)])); (try with_reducible rfl)))
      (try simp only [Act.put, List.setIfInBounds_toArray, List.set_cons_zero, List.set_cons_succ])
      (refine rt_yes 8 ?v8 (by simp only [List.getElem?_toArray, List.getElem?_cons_succ, List.getElem?_cons_zero]; rfl) (by kernel_rfl) (by kernel_rfl) (by kernel_rfl) (by kernel_rfl) (by exact fun _ _ _ h => h) (by kernel_rfl) (by exact fun _ => hHeld) ?y8 ?z8; case y8 => (intro w; go_simp; (try (rw [if_neg (by omega)])); (try with_reducible rfl)))
      (try simp only [Act.put, List.setIfInBounds_toArray, List.set_cons_zero, List.set_cons_succ])
      (refine rt_yes 9 ?v9 (by simp only [List.getElem?_toArray, List.getElem?_cons_succ, List.getElem?_cons_zero]; rfl) (by kernel_rfl) (by kernel_rfl) (by kernel_rfl) (by kernel_rfl) (by exact fun _ _ _ h => h) (by kernel_rfl) (by exact fun _ => hHeld) ?y9 ?z9; case y9 => (intro w; go_simp; (try (rw [if_neg (by omega)])); (try with_reducible rfl)))
      (try simp only [Act.put, List.setIfInBounds_toArray, List.set_cons_zero, List.set_cons_succ])
      (refine rt_yes 10 ?v10 (by simp only [List.getElem?_toArray, List.getElem?_cons_succ, List.getElem?_cons_zero]; rfl) (by kernel_rfl) (by kernel_rfl) (by kernel_rfl) (by kernel_rfl) (by exact fun _ _ _ h => h) (by kernel_rfl) (by exact fun _ => hHeld) ?y10 ?z10; case y10 => (intro w; go_simp; (try (rw [if_neg (by omega)])); (try with_reducible rfl)))
      (try simp only [Act.put, List.setIfInBounds_toArray, List.set_cons_zero, List.set_cons_succ])
      refine rt_load 11 _ (by simp only [List.getElem?_toArray, List.getElem?_cons_succ, List.getElem?_cons_zero]; rfl) (by kernel_rfl) (by kernel_rfl) (by kernel_rfl) (by kernel_rfl) (by kernel_rfl) (by kernel_rfl) (by exact fun _ _ _ h => h) (by kernel_rfl) hHeld (fun w' hS => (exec_load_at (hS 2 (.int .i64 avail) rfl) rfl rfl (fun w => by kernel_rfl))) ?_
      (try simp only [Act.put, List.setIfInBounds_toArray, List.set_cons_zero, List.set_cons_succ])
      (refine rt_yes 12 ?v11 (by simp only [List.getElem?_toArray, List.getElem?_cons_succ, List.getElem?_cons_zero]; rfl) (by kernel_rfl) (by kernel_rfl) (by kernel_rfl) (by kernel_rfl) (by exact fun _ _ _ h => h) (by kernel_rfl) (by exact fun _ => hHeld) ?y11 ?z11; case y11 => (intro w; go_simp; (try (rw [if_neg (by omega)])); (try with_reducible rfl)))
      (try simp only [Act.put, List.setIfInBounds_toArray, List.set_cons_zero, List.set_cons_succ])
      (refine rt_yes 13 ?v12 (by simp only [List.getElem?_toArray, List.getElem?_cons_succ, List.getElem?_cons_zero]; rfl) (by kernel_rfl) (by kernel_rfl) (by kernel_rfl) (by kernel_rfl) (by exact fun _ _ _ h => h) (by kernel_rfl) (by exact fun _ => hHeld) ?y12 ?z12; case y12 => (intro w; go_simp; (try (rw [if_neg (by omega)])); (try with_reducible rfl)))
      (try simp only [Act.put, List.setIfInBounds_toArray, List.set_cons_zero, List.set_cons_succ])
      (refine rt_yes 14 ?v13 (by simp only [List.getElem?_toArray, List.getElem?_cons_succ, List.getElem?_cons_zero]; rfl) (by kernel_rfl) (by kernel_rfl) (by kernel_rfl) (by kernel_rfl) (by exact fun _ _ _ h => h) (by kernel_rfl) (by exact fun _ => hHeld) ?y13 ?z13; case y13 => (intro w; go_simp; (try (rw [if_neg (by omega)])); (try with_reducible rfl)))
      (try simp only [Act.put, List.setIfInBounds_toArray, List.set_cons_zero, List.set_cons_succ])
      (refine rt_yes 15 ?v14 (by simp only [List.getElem?_toArray, List.getElem?_cons_succ, List.getElem?_cons_zero]; rfl) (by kernel_rfl) (by kernel_rfl) (by kernel_rfl) (by kernel_rfl) (by exact fun _ _ _ h => h) (by kernel_rfl) (by exact fun _ => hHeld) ?y14 ?z14; case y14 => (intro w; go_simp; (try (rw [if_neg (by omega)])); (try with_reducible rfl)))
      (try simp only [Act.put, List.setIfInBounds_toArray, List.set_cons_zero, List.set_cons_succ])
      (refine rt_yes 16 ?v15 (by simp only [List.getElem?_toArray, List.getElem?_cons_succ, List.getElem?_cons_zero]; rfl) (by kernel_rfl) (by kernel_rfl) (by kernel_rfl) (by kernel_rfl) (by exact fun _ _ _ h => h) (by kernel_rfl) (by exact fun _ => hHeld) ?y15 ?z15; case y15 => (intro w; go_simp; (try (rw [if_neg (by omega)])); (try with_reducible rfl)))
      (try simp only [Act.put, List.setIfInBounds_toArray, List.set_cons_zero, List.set_cons_succ])
      (refine rt_yes 17 ?v16 (by simp only [List.getElem?_toArray, List.getElem?_cons_succ, List.getElem?_cons_zero]; rfl) (by kernel_rfl) (by kernel_rfl) (by kernel_rfl) (by kernel_rfl) (by exact fun _ _ _ h => h) (by kernel_rfl) (by exact fun _ => hHeld) ?y16 ?z16; case y16 => (intro w; go_simp; (try (rw [if_neg (by omega)])); (try with_reducible rfl)))
      (try simp only [Act.put, List.setIfInBounds_toArray, List.set_cons_zero, List.set_cons_succ])
      refine rt_load 18 _ (by simp only [List.getElem?_toArray, List.getElem?_cons_succ, List.getElem?_cons_zero]; rfl) (by kernel_rfl) (by kernel_rfl) (by kernel_rfl) (by kernel_rfl) (by kernel_rfl) (by kernel_rfl) (by exact fun _ _ _ h => h) (by kernel_rfl) hHeld (fun w' hS => (exec_load_at (hS 3 (.slice xao ms.length xcap) rfl) rfl rfl (fun w => by kernel_rfl))) ?_
      (try simp only [Act.put, List.setIfInBounds_toArray, List.set_cons_zero, List.set_cons_succ])
      (refine rt_yes 19 ?v17 (by simp only [List.getElem?_toArray, List.getElem?_cons_succ, List.getElem?_cons_zero]; rfl) (by kernel_rfl) (by kernel_rfl) (by kernel_rfl) (by kernel_rfl) (by exact fun _ _ _ h => h) (by kernel_rfl) (by exact fun _ => hHeld) ?y17 ?z17; case y17 => (intro w; go_simp; (try (rw [if_neg (by omega)])); (try with_reducible rfl)))
      (try simp only [Act.put, List.setIfInBounds_toArray, List.set_cons_zero, List.set_cons_succ])
      (refine rt_yes 20 ?v18 (by simp only [List.getElem?_toArray, List.getElem?_cons_succ, List.getElem?_cons_zero]; rfl) (by kernel_rfl) (by kernel_rfl) (by kernel_rfl) (by kernel_rfl) (by exact fun _ _ _ h => h) (by kernel_rfl) (by exact fun _ => hHeld) ?y18 ?z18; case y18 => (intro w; go_simp; (try (rw [if_neg (by omega)])); (try with_reducible rfl)))
      (try simp only [Act.put, List.setIfInBounds_toArray, List.set_cons_zero, List.set_cons_succ])
      (refine rt_yes 21 ?v19 (by simp only [List.getElem?_toArray, List.getElem?_cons_succ, List.getElem?_cons_zero]; rfl) (by kernel_rfl) (by kernel_rfl) (by kernel_rfl) (by kernel_rfl) (by exact fun _ _ _ h => h) (by kernel_rfl) (by exact fun _ => hHeld) ?y19 ?z19; case y19 => (intro w; go_simp; (try (rw [if_neg (by omega)])); (try with_reducible rfl)))
      (try simp only [Act.put, List.setIfInBounds_toArray, List.set_cons_zero, List.set_cons_succ])
      (refine rt_yes 22 ?v20 (by simp only [List.getElem?_toArray, List.getElem?_cons_succ, List.getElem?_cons_zero]; rfl) (by kernel_rfl) (by kernel_rfl) (by kernel_rfl) (by kernel_rfl) (by exact fun _ _ _ h => h) (by kernel_rfl) (by exact fun _ => hHeld) ?y20 ?z20; case y20 => (intro w; go_simp; (try (rw [if_neg (by omega)])); (try with_reducible rfl)))
      (try simp only [Act.put, List.setIfInBounds_toArray, List.set_cons_zero, List.set_cons_succ])
      refine rt_one 23 _ _ (by simp only [List.getElem?_toArray, List.getElem?_cons_succ, List.getElem?_cons_zero]; rfl) (by kernel_rfl) (by kernel_rfl) (by go_simp; first | exact ⟨rfl, rfl⟩ | rfl) (fun _ => (fun j v hv => (cell_kept (heap_alloc_old _ _ (show g < w5.drew.heap.size from (show g < w5.heap.size by omega)))).trans (hHeld j v hv))) ?_
      (try simp only [Act.put, List.setIfInBounds_toArray, List.set_cons_zero, List.set_cons_succ])
      refine rt_one 24 _ _ (by simp only [List.getElem?_toArray, List.getElem?_cons_succ, List.getElem?_cons_zero]; rfl) (by kernel_rfl) (by kernel_rfl) (exec_append rfl rfl rfl rfl HRUN.out) (fun _ => KX6.out) ?_
      (try simp only [Act.put, List.setIfInBounds_toArray, List.set_cons_zero, List.set_cons_succ])
      refine rt_one 25 _ _ (by simp only [List.getElem?_toArray, List.getElem?_cons_succ, List.getElem?_cons_zero]; rfl) (by kernel_rfl) (by kernel_rfl) (by go_simp; first | exact ⟨rfl, rfl⟩ | rfl) (till_past (by kernel_rfl)) ?_
      (try simp only [Act.put, List.setIfInBounds_toArray, List.set_cons_zero, List.set_cons_succ])
      refine rt_done (by kernel_rfl) ?_ _
      clear hHeld HRUN KX5 KX6
      generalize hwB : w6.alloc (.cells #[.int .i64 (-9), .int .i64 i, .int .i64 0, .slice (some ⟨g5, 0, none⟩) (ms.length + 16) c5] 42) = wB
      have hbB : Below w6.heap.size w6 wB := by rw [← hwB]; exact (Below.refl _ _).alloc (Nat.le_refl _) _
      have hxB : wB.heap[w6.heap.size]? = some (.cells #[.int .i64 (-9), .int .i64 i, .int .i64 0, .slice (some ⟨g5, 0, none⟩) (ms.length + 16) c5] 42 (0, 0)) := by rw [← hwB]; exact heap_alloc_new w6 _
      have hsw6 := HB6.out.size
      have hFB := HF6.out.below hbB
      have hRB := HR6.out.below hbB
      obtain ⟨f', w7, hrun, hR, hg, h5, _⟩ := hFB.push balTy (by have := hbB.size; omega) (lentZ i ⟨a, b, avail, xao, xcap, ms⟩ (g5, c5)) w6.heap.size 1 _ (by simp [lentZ, BalV.mv, mk16_len]) hxB (by rw [hlz]; omega) (by rw [hlz]; omega)
      have HR7 := Lib.hid (grown_other hFB hRB hg (.inr fun q h1 h2 => HA6.out q h2 h1))
      have HF7 := Lib.hid hR
      have HM7 := Lib.hid (marks_other hFB (HM6.out.below hbB) hg (by decide))
      have HK7 := Lib.hid (grown_other hFB (HK6.out.below hbB) hg (.inl (by decide)))
      have HA7 := Lib.hid (fun q (h1 : v'.ownBlock = some q) (h2 : f'.ownBlock = some q) => apart_push (xs := lentZs (xs.take i) gs) (E := balE) (T := 42) (B := w.heap.size) hRB (fun q h1 h2 => HA6.out q h2 h1) h5 q h2 h1)
      have HB7 := Lib.hid ((HB6.out.trans (hbB.mono (by omega))).trans (hFB.grown hg (by have := hbB.size; omega) (Nat.le_refl _)))
      have HRUN := Lib.hid (by rw [← hwB] at hrun; exact hrun)
      clear hwB HR6 HF6 HM6 HK6 HA6 HB6 hFB hRB hR hg h5 hrun hxB hbB
      go_wp2_with (refine wpList_val (w' := w7) f' (by kernel_rfl) (exec_append2 rfl rfl rfl rfl ?_) ?_; focus (exact HRUN.out))
      have htl : gs.length = (xs.take i).length := by rw [HGL.out, List.length_take, Nat.min_eq_left hi]
      have htk := take_snoc' HX.out
      refine ⟨⟨i + 1, gs ++ [(g5, c5)], by omega, by go_num, by rw [List.length_append, HGL.out]; rfl, ?_, ?_, HA7.out, ?_, HB7.out⟩, by simp [intOf]; omega⟩
      · rw [htk, lentYs_snoc _ _ htl]; exact HR7.out
      · rw [htk, lentZs_snoc _ _ htl, List.length_take, Nat.min_eq_left hi]; exact HF7.out
      · rw [htk]; exact HM7.out.snoc htl (HK7.out.low (by omega))
    · have hie : i = xs.length := by omega
      subst hie
      have hdl : decide ((xs.length : Int) < xs.length) = false := decide_eq_false (by omega)
      have hgl := HGL.out
      rw [List.take_length] at HOV HFV HM
      have hll : (lentYs xs gs).length = xs.length := lentYs_len hgl
      have hlz : (lentZs xs gs).length = xs.length := lentZs_len hgl
      have hO := HOV.out
      have hF := HFV.out
      have hsz := HWB.out.size
      obtain ⟨v', w6, hrun, hR, hg, h5, _⟩ := hO.pushAll balTy hsz (hF.reads (by rw [hlz]; omega)) (by rw [hll, hlz]; omega) (by rw [hll, hlz]; omega) (fun ao cap e => by rw [e]; exact append_none balTy hO ao cap)
      have HM6 := Lib.hid (marks_other hO HM.out hg (by decide))
      have HB6 := Lib.hid (HWB.out.trans (hO.grown hg hsz (Nat.le_refl _)))
      have HR6 := Lib.hid hR
      have HRUN := Lib.hid hrun
      have hs6 := hg.size
      clear hO hF hR hg h5 hrun HOV HFV HM HOF
      generalize hwB : w6.alloc (.cells #[.int .i64 (-8), .int .i64 0, .int .i64 0, .slice none 0 0] 42) = wB
      have hbB : Below w6.heap.size w6 wB := by rw [← hwB]; exact (Below.refl _ _).alloc (Nat.le_refl _) _
      have hxB : wB.heap[w6.heap.size]? = some (.cells #[.int .i64 (-8), .int .i64 0, .int .i64 0, .slice none 0 0] 42 (0, 0)) := by rw [← hwB]; exact heap_alloc_new w6 _
      have hRB := HR6.out.below hbB
      have hsB := hbB.size
      obtain ⟨u', w7, hrun2, hR2, hg2, _, _⟩ := hRB.push balTy (by omega) balEnd w6.heap.size 1 _ (by rfl) hxB (by rw [List.length_append, hll, hlz]; omega) (by rw [List.length_append, hll, hlz]; omega)
      have HM7 := Lib.hid (marks_other hRB (HM6.out.below hbB) hg2 (by decide))
      have HB7 := Lib.hid ((HB6.out.trans (hbB.mono (by omega))).trans (hRB.grown hg2 (by omega) (Nat.le_refl _)))
      have hlen : (lentYs xs gs ++ lentZs xs gs ++ [balEnd]).length = 2 * xs.length + 1 := by rw [List.length_append, List.length_append, hll, hlz]; simp; omega
      obtain ⟨g7, c7, rfl, hc7, hm7⟩ := hR2.some (by rw [hlen]; omega)
      rw [hlen] at hR2 hc7 hrun2
      unfold maxLen at hm7
      have hmc : xs.length ≤ c7 := by omega
      have HRUN2 := Lib.hid (by rw [← hwB] at hrun2; exact hrun2)
      have HR7 := Lib.hid hR2
      clear hRB hR2 hg2 hrun2 hxB hbB hsB HR6 HM6 HB6 hwB hsz hs6 hlen hc7
      go_wp2_with (first | (refine wpList_val (w' := w6) v' (by kernel_rfl) (exec_append2 rfl rfl rfl rfl ?_) ?_; focus (exact HRUN.out)) | (refine wpList_val (w' := w7) (.slice (some ⟨g7, 0, none⟩) (2 * xs.length + 1) c7) (by kernel_rfl) (exec_append2 rfl rfl rfl rfl ?_) ?_; focus (exact HRUN2.out)))
      go_ret
      exact ⟨_, rfl, ⟨gs, g7, c7, hgl, rfl, HR7.out, HM7.out⟩, HB7.out⟩
end Go.Proofs.Ytkggmhcdoalhoaa
