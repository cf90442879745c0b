/- the law ReportReconcile by contract. -/
import Derived.Test.YtkggmhcdoalhoaaRec
import Derived.Test.YtkggmhcdoalhoaaApartB
namespace Go.Proofs.Ytkggmhcdoalhoaa
set_option linter.unusedVariables false
set_option linter.unusedSimpArgs false
open Go.RowKit
attribute [local irreducible] Go.wpStill
theorem Wrote.under {w0 w w' : World} {S : Nat → Prop} (h : Wrote w w' S) (hb : Below w0.heap.size w0 w) (hS : ∀ q, S q → w0.heap.size ≤ q) : Below w0.heap.size w0 w' :=
  hb.trans ⟨h.os, h.tape, h.output, h.size, fun i hi => h.block i (Nat.lt_of_lt_of_le hi hb.size) (fun hs => by have := hS i hs; omega)⟩
theorem fam_two {w2 w3 w : World} {v1 v2 : Value} {l : List breakT} {B : Nat} (h1 : RowE breakE 36 w2 B v1 l) (h2 : RowE breakE 36 w3 w2.heap.size v2 l) (b2 : Below w2.heap.size w2 w) (b3 : Below w3.heap.size w3 w) (hl : l.length ≤ 2097152) :
    FamE breakE 36 w 2 (fun j => if j = 0 then v1 else v2) (fun j => if j = 0 then v1 else v2) (fun _ => l) (fun _ => l.length) := by
  have r1 := (h1.below b2).low (Nat.zero_le _)
  have r2 := (h2.below b3).low (Nat.zero_le _)
  have t1 : ∀ q, v1.ownBlock = some q → q < w2.heap.size := fun q hq => by
    obtain ⟨_, cs, hc⟩ := h1.type hq
    exact lt_of_block hc
  have t2 : ∀ q, v2.ownBlock = some q → w2.heap.size ≤ q ∧ q < w.heap.size := fun q hq => by
    obtain ⟨hb, cs, hc⟩ := h2.type hq
    have := lt_of_block hc
    have := b3.size
    exact ⟨hb, by omega⟩
  have hz := b2.size
  refine ⟨fun j hj => ?_, fun j hj => Nat.le_refl _, fun j hj => ?_, fun j q hj hq => ?_, fun j j' q hj hj' hq hq' => ?_⟩
  · split
    · exact r1
    · exact r2
  · rw [List.take_length]
    split
    · exact r1.head (by omega)
    · exact r2.head (by omega)
  · split at hq
    · have := t1 q hq; omega
    · exact (t2 q hq).2
  · simp only [or_self] at hq hq'
    split at hq
    · split at hq'
      · omega
      · have := t1 q hq; have := (t2 q hq').1; omega
    · split at hq'
      · have := t1 q hq'; have := (t2 q hq).1; omega
      · omega
theorem lastT_map (k : Int × Int) (l : List BalV) : lastT l k = (l.map fun y => (y.key, y.tot)).foldl (fun t p => if p.1 = k then p.2 else t) 0 := by
  unfold lastT; rw [List.foldl_map]
theorem keysR_map (l : List BalV) (out : List (Int × Int)) : keysR l out = (l.map fun y => (y.key, y.tot)).foldl (fun o p => insK p.1 o) out := by
  unfold keysR; rw [List.foldl_map]
theorem recon_same {xs xs' ys ys' : List BalV} (h1 : xs'.map (fun y => (y.key, y.tot)) = xs.map (fun y => (y.key, y.tot))) (h2 : ys'.map (fun y => (y.key, y.tot)) = ys.map (fun y => (y.key, y.tot))) : recon xs' ys' = recon xs ys := by
  have e1 : ∀ k, lastT xs' k = lastT xs k := fun k => by rw [lastT_map, h1, ← lastT_map]
  have e2 : ∀ k, lastT ys' k = lastT ys k := fun k => by rw [lastT_map, h2, ← lastT_map]
  have e3 : keysR ys' (keysR xs' []) = keysR ys (keysR xs []) := by rw [keysR_map, h2, ← keysR_map, keysR_map xs', h1, ← keysR_map]
  unfold recon recL
  rw [e3]
  simp only [e1, e2]
theorem recon_len (xs ys : List BalV) : (recon xs ys).length ≤ xs.length + ys.length := by
  have h1 := recL_len xs ys (keysR ys (keysR xs []))
  have h2 := keysR_len ys (keysR xs [])
  have h3 := keysR_len xs []
  simp at h3
  unfold recon
  omega
/-- what is lent, reconciled: once more what the document says -/
theorem recLent_any {W : World} {B C : Nat} {v u : Value} {xs ys : List BalV} (h : LentBal W B v xs) (hu : LentBal W C u ys) (hx : ∀ x ∈ xs, x.avail ≤ 9223372036854775807 ∧ (∀ m ∈ x.ms, m.2 ≤ 9223372036854775807) ∧ x.ms.length ≤ 8796093021952 ∧ keyGood x.key) (hy : ∀ x ∈ ys, x.avail ≤ 9223372036854775807 ∧ (∀ m ∈ x.ms, m.2 ≤ 9223372036854775807) ∧ x.ms.length ≤ 8796093021952 ∧ keyGood x.key) (hs : xs.length ≤ 1048576) (hs2 : ys.length ≤ 1048576) :
    Calls Try.prog 6 #[v, u] W fun e w' => ∃ v', e = .returned v' ∧ RowE breakE 36 w' W.heap.size v' (recon xs ys) ∧ Below W.heap.size W w' := by
  obtain ⟨xs', h1, h2⟩ := h.reads hs hx
  obtain ⟨ys', h3, h4⟩ := hu.reads hs2 hy
  have l1 : xs'.length = xs.length := by simpa using congrArg List.length h2
  have l2 : ys'.length = ys.length := by simpa using congrArg List.length h4
  rw [← recon_same h2 h4]
  exact reconcile_any v u xs' ys' W h1 h3 (by omega) (by omega)
set_option maxRecDepth 100000 in
set_option maxHeartbeats 4000000 in
theorem reportReconcile_any (v u : Value) (xs ys : List BalV) (w : World) (h : BalsR w v xs) (hu : BalsR w u ys) (hs : xs.length ≤ 1048576) (hs2 : ys.length ≤ 1048576) :
    Calls Try.prog 3 #[v, u] w (FixB true w) := by
  have hgx : ∀ x ∈ xs, x.avail ≤ 9223372036854775807 ∧ (∀ m ∈ x.ms, m.2 ≤ 9223372036854775807) ∧ x.ms.length ≤ 8796093021952 ∧ keyGood x.key := fun x hx => (h.2 x hx).2
  have hgy : ∀ x ∈ ys, x.avail ≤ 9223372036854775807 ∧ (∀ m ∈ x.ms, m.2 ≤ 9223372036854775807) ∧ x.ms.length ≤ 8796093021952 ∧ keyGood x.key := fun x hx => (hu.2 x hx).2
  have HGX := Lib.hid hgx
  have HGY := Lib.hid hgy
  have hrl := recon_len xs ys
  obtain ⟨ao, cap, rfl⟩ := h.1.slice
  obtain ⟨au, cu, rfl⟩ := hu.1.slice
  have HR := Lib.hid h
  have HU := Lib.hid hu
  clear h hu hgx hgy
  go_enter Try.func3, Try.ntmps3
  go_wp2_with fail
  refine (refReconcile_any _ _ xs ys w HR.out HU.out hs hs2).mono ?_
  rintro e w1 ⟨vr, rfl, hr, hb1⟩
  have HW := Lib.hid hr
  have HB1 := Lib.hid hb1
  clear hr hb1
  go_wp2_with fail
  refine (lentBalances_any _ xs w1 (HR.out.below HB1.out) hs).mono ?_
  rintro e w2 ⟨vx, rfl, hx, hb2⟩
  have HX := Lib.hid hx
  have HB2 := Lib.hid (HB1.out.trans (hb2.mono HB1.out.size))
  have HW2 := Lib.hid (HW.out.below hb2)
  clear hx hb2 HW HB1
  go_wp2_with fail
  refine (lentBalances_any _ ys w2 (HU.out.below HB2.out) hs2).mono ?_
  rintro e w3 ⟨vy, rfl, hy, hb3⟩
  have HY := Lib.hid hy
  have HX3 := Lib.hid (HX.out.below hb3)
  have HB3 := Lib.hid (HB2.out.trans (hb3.mono HB2.out.size))
  have HW3 := Lib.hid (HW2.out.below hb3)
  clear hy hb3 HX HB2 HW2
  go_wp2_with fail
  refine (recLent_any HX3.out HY.out HGX.out HGY.out hs hs2).mono ?_
  rintro e w4 ⟨v1, rfl, hR1, hb4⟩
  have HR1 := Lib.hid hR1
  have HX4 := Lib.hid (HX3.out.below hb4)
  have HY4 := Lib.hid (HY.out.below hb4)
  have HB4 := Lib.hid (HB3.out.trans (hb4.mono HB3.out.size))
  have HW4 := Lib.hid (HW3.out.below hb4)
  have hz4 : w.heap.size ≤ w3.heap.size := HB3.out.size
  clear hR1 hb4 HX3 HY HB3 HW3
  go_wp2_with fail
  refine (recLent_any HX4.out HY4.out HGX.out HGY.out hs hs2).mono ?_
  rintro e w5 ⟨v2, rfl, hR2, hb5⟩
  have HR2 := Lib.hid hR2
  have HX5 := Lib.hid (HX4.out.below hb5)
  have HY5 := Lib.hid (HY4.out.below hb5)
  have HB45 := Lib.hid hb5
  have HB5 := Lib.hid (HB4.out.trans (hb5.mono HB4.out.size))
  have HW5 := Lib.hid (HW4.out.below hb5)
  clear hR2 hb5 HX4 HY4 HW4
  generalize recon xs ys = l at *
  have hll : l.length ≤ 2097152 := by omega
  go_wp2_with fail
  refine (sameBreaks_any _ _ l w5 ((HR1.out.below HB45.out).reads (by omega)) HW5.out).mono ?_
  rintro e w6 ⟨rfl, hb6⟩
  have H56 := Lib.hid hb6
  clear hb6
  go_wp2_with fail
  refine (sameBreaks_any _ _ l w6 ((HR2.out.below H56.out).reads (by omega)) (HW5.out.below H56.out)).mono ?_
  rintro e w7 ⟨rfl, hb7⟩
  have H57 := Lib.hid (H56.out.trans (hb7.mono H56.out.size))
  clear hb7
  go_wp2_with fail
  refine (keptBalances_any _ _ xs _ w7 (HX5.out.below H57.out) ((HR.out.below HB5.out).below H57.out) hs).mono ?_
  rintro e w8 ⟨rfl, hb8⟩
  have H58 := Lib.hid (H57.out.trans (hb8.mono H57.out.size))
  clear hb8
  go_wp2_with fail
  refine (keptBalances_any _ _ ys _ w8 (HY5.out.below H58.out) ((HU.out.below HB5.out).below H58.out) hs2).mono ?_
  rintro e w9 ⟨rfl, hb9⟩
  have H59 := Lib.hid (H58.out.trans (hb9.mono H58.out.size))
  clear hb9 H58 H57 H56 HX5 HY5 HR HU HW5
  obtain ⟨a1, cp1, hv1⟩ := HR1.out.slice
  obtain ⟨a2, cp2, hv2⟩ := HR2.out.slice
  subst hv1
  subst hv2
  go_wp2_with fail
  have HB9 := Lib.hid (HB5.out.trans (H59.out.mono HB5.out.size))
  have b4 := Lib.hid (HB45.out.trans (H59.out.mono HB45.out.size))
  have hal := (Below.refl w9.heap.size w9).alloc (Nat.le_refl _) (.cells #[(Value.slice a1 l.length cp1), (Value.slice a2 l.length cp2)] 23)
  have hb4 := b4.out.trans (hal.mono b4.out.size)
  have hb5 := H59.out.trans (hal.mono H59.out.size)
  have hF := fam_two HR1.out HR2.out hb4 hb5 hll
  have hrow := heap_alloc_new w9 (.cells #[(Value.slice a1 l.length cp1), (Value.slice a2 l.length cp2)] 23)
  have hown : ∀ j q, j < 2 → (if j = 0 then (Value.slice a1 l.length cp1) else (Value.slice a2 l.length cp2)).ownBlock = some q → w.heap.size ≤ q ∧ q < w9.heap.size := fun j q hj hq => by
    have z1 := HB4.out.size
    have z2 := HB45.out.size
    have z3 := H59.out.size
    split at hq
    · obtain ⟨hb, cs, hc⟩ := HR1.out.type hq
      have := lt_of_block hc
      omega
    · obtain ⟨hb, cs, hc⟩ := HR2.out.type hq
      have := lt_of_block hc
      omega
  refine (apart_any w9.heap.size 2 2 (fun j => if j = 0 then (Value.slice a1 l.length cp1) else (Value.slice a2 l.length cp2)) (fun _ => l.length) (fun _ => l) (w9.alloc (.cells #[(Value.slice a1 l.length cp1), (Value.slice a2 l.length cp2)] 23)) (by decide) (fun j hj => ?_) (by simp) (fun j q hj hq => ?_) hF (fun j hj => rfl) (fun j hj => by omega)).mono ?_
  · rw [cell_of_row _ _ _ _ _ _ hrow]
    obtain rfl | rfl : j = 0 ∨ j = 1 := by omega
    · rfl
    · rfl
  · have := (hown j q hj hq).2; omega
  · rintro e wA ⟨rfl, hWr⟩
    have hfin := hWr.under (HB9.out.alloc HB9.out.size _) (fun q ⟨j, hj, hq⟩ => (hown j q hj hq).1)
    go_wp2_with fail
    go_ret
    exact ⟨rfl, hfin⟩
end Go.Proofs.Ytkggmhcdoalhoaa
