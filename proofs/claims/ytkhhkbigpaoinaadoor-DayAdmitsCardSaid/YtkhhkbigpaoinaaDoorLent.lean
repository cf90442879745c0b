/- custodykit's Full, Lent, KeptFull, Kept lists of legs and keys: by contract. -/
import Derived.Test.YtkhhkbigpaoinaaDoorRowE
namespace Go.Proofs.YtkhhkbigpaoinaaDoor
set_option linter.unusedVariables false
set_option linter.unusedSimpArgs false
open Go.RowKit
attribute [local irreducible] Go.wpStill

def RowP {α : Type} (E : Enc α) (T : TypeId) (w : World) (xs : List α) (e : Ending) (w' : World) : Prop := ∃ v, e = .returned v ∧ RowE E T w' w.heap.size v xs ∧ Below w.heap.size w w'
/-- a list that is lent: marks behind it -/
def LentV {α : Type} (E : Enc α) (T : TypeId) (w : World) (B : Nat) (v : Value) (xs ms : List α) : Prop := ∃ g cap, v = .slice (some ⟨g, 0, none⟩) xs.length cap ∧ RowE E T w B (.slice (some ⟨g, 0, none⟩) (xs ++ ms).length cap) (xs ++ ms)
theorem LentV.kept {α : Type} {E : Enc α} {T : TypeId} {w w' : World} {B : Nat} {v : Value} {xs ms : List α} (a : LentV E T w B v xs ms) (hk : ∀ k, k < w.heap.size → w'.heap[k]? = w.heap[k]?) : LentV E T w' B v xs ms := by
  obtain ⟨g, cap, hv, hr⟩ := a
  exact ⟨g, cap, hv, hr.kept hk⟩
theorem LentV.below {α : Type} {E : Enc α} {T : TypeId} {w w' : World} {B : Nat} {v : Value} {xs ms : List α} (a : LentV E T w B v xs ms) (hb : Below w.heap.size w w') : LentV E T w' B v xs ms := a.kept hb.block
def LentP {α : Type} (E : Enc α) (T : TypeId) (w : World) (xs ms : List α) (e : Ending) (w' : World) : Prop := ∃ v, e = .returned v ∧ LentV E T w' w.heap.size v xs ms ∧ Below w.heap.size w w'
def FixB (b : Bool) (w : World) (e : Ending) (w' : World) : Prop := e = .returned (.bool b) ∧ Below w.heap.size w w'
def marksE {α : Type} (mk : Int → α) (n : Nat) : List α := (List.range n).map fun i : Nat => mk i
theorem marksE_len {α : Type} (mk : Int → α) (n : Nat) : (marksE mk n).length = n := by simp [marksE]
theorem marksE_succ {α : Type} (mk : Int → α) (n : Nat) : marksE mk (n + 1) = marksE mk n ++ [mk n] := by simp [marksE, List.range_succ]
theorem marksE_at {α : Type} (mk : Int → α) (n i : Nat) (h : i < n) : (marksE mk n)[i]? = some (mk i) := by simp [marksE, h]
theorem take_snoc' {α : Type} {l : List α} {i : Nat} {x : α} (h : l[i]? = some x) : l.take (i + 1) = l.take i ++ [x] := by rw [List.take_add_one, h]; rfl

attribute [local irreducible] marksE
abbrev legT := Int × Int × Int × Int × Int
abbrev legE : Enc legT := ⟨fun x => [.int .i64 x.1, .int .i64 x.2.1, .int .i64 x.2.2.1, .int .i64 x.2.2.2.1, .int .i64 x.2.2.2.2], 5, by decide, fun x => rfl, fun x => all_one rfl⟩
def legL (x : legT) : List Int := [x.1, x.2.1, x.2.2.1, x.2.2.2.1, x.2.2.2.2]
theorem legL_inj {x y : legT} : legL x = legL y ↔ x = y := by
  obtain ⟨a, b, c, d, e⟩ := x
  simp only [legL, List.cons.injEq, Prod.ext_iff, and_true]
theorem legTy : ElT Tryd.prog legE 106 22 40 := by
  refine ⟨Tryd.underlying22, ?_⟩
  have : (Tryd.prog.info? 106).map (fun i => (i.zero.map (fun z => z.cells.size), i.size, i.bytes)) = some (some 5, 5, 40) := by kernel_rfl
  obtain ⟨i, h1, h2⟩ := Option.map_eq_some_iff.1 this
  simp at h2
  obtain ⟨⟨z, hz, hz2⟩, h3, h4⟩ := h2
  exact ⟨i, z, h1, hz, hz2, h3, h4⟩
theorem eqLegs (x y : legT) (w : World) : (Op.equalIn 10000 106 (.agg (legE.enc x).toArray) (.agg (legE.enc y).toArray)).run Tryd.prog w = .ok (decide (x = y)) w := by
  have h := eqStruct_ints (P := Tryd.prog) w 106 5 (legL x) (legL y) (by kernel_rfl) (by kernel_rfl) (by kernel_rfl) rfl rfl
  rw [decide_eq_decide.2 (legL_inj (x := x) (y := y))] at h
  exact h
def mkLegs (k i : Int) : legT := (-10 - k, i, 0, 0, 0)
set_option maxRecDepth 100000 in
theorem markLegs_any (i : Int) (w : World) :
    Calls Tryd.prog 48 #[.int .i64 90, .int .i64 i] w fun e w' => e = .returned (.agg (legE.enc (mkLegs 90 i)).toArray) ∧ Below w.heap.size w w' := by
  go_enter Tryd.func48, Tryd.ntmps48
  go_wp2_with fail
  exact bodyPost_ret (v := .agg (legE.enc (mkLegs 90 i)).toArray) (results_cell_row rfl _ _ w.heap.size 106 _ (0, 0) _ rfl (heap_alloc_new w _) Tryd.underlying106 rfl (by kernel_rfl)) rfl ⟨rfl, (Below.refl _ _).alloc (Nat.le_refl _) _⟩
set_option maxRecDepth 100000 in
set_option maxHeartbeats 2000000 in
theorem fullLegs_any (v : Value) (xs : List legT) (w : World) (h : ReadsE legE w v xs) (hs : (xs.length + 16) * 40 ≤ 140737488355328) :
    Calls Tryd.prog 31 #[v] w (RowP legE 106 w (xs ++ marksE (mkLegs 90) 16)) := by
  obtain ⟨ao, cap, rfl⟩ := h.slice
  have hn : xs.length ≤ 140737488355328 := by omega
  have HS := Lib.hid hs
  clear hs
  go_enter Tryd.func31, Tryd.ntmps31
  go_wp2_with fail
  go_loopw [3, 4] (fun ov iv wr => ∃ i : Nat, i ≤ xs.length ∧ iv = .int .i64 i ∧ RowE legE 106 wr w.heap.size ov (xs.take i) ∧ Below w.heap.size w wr) (fun _ iv _ => xs.length - (intOf iv).toNat)
  case atStart => exact ⟨0, by omega, rfl, RowE.nil _ _, Below.refl _ _⟩
  case round =>
    obtain ⟨i, hi, rfl, hO, hW⟩ := hrel
    by_cases hlt : i < xs.length
    · obtain ⟨x, hx⟩ : ∃ x, xs[i]? = some x := ⟨_, List.getElem?_eq_getElem hlt⟩
      obtain ⟨g, o, rfl, hc⟩ := (h.below hW).at hx
      have hO2 := hO.alloc (.cells (legE.enc x).toArray 106)
      obtain ⟨v', w', hrun, hR, hg, _⟩ := hO2.push legTy (by have := hW.size; simp; omega) x wr.heap.size 1 _ rfl (heap_alloc_new wr _) (by rw [List.length_take, Nat.min_eq_left hi]; have := HS.out; omega) (by rw [List.length_take]; omega)
      have hW2 := (hW.alloc hW.size (.cells (legE.enc x).toArray 106)).trans (hO2.grown hg (by have := hW.size; simp; omega) (Nat.le_refl _))
      rw [← take_snoc' hx] at hR
      have HC := Lib.hid hc
      have HR := Lib.hid hR
      clear hO hO2 hg hc hR hx
      obtain ⟨a, b, c, d, e⟩ := x
      go_wp2_with (first | (refine wpList_val (.agg #[.int .i64 a, .int .i64 b, .int .i64 c, .int .i64 d, .int .i64 e]) (by kernel_rfl) (exec_load_mid HC.out rfl rfl Tryd.underlying106 rfl (by kernel_rfl)) ?_) | (refine wpList_val (w' := w') v' (by kernel_rfl) (exec_append2 rfl rfl rfl rfl ?_) ?_; focus (exact hrun)))
      exact ⟨⟨i + 1, by omega, by go_num, HR.out, hW2⟩, by simp [intOf]; omega⟩
    · have hie : i = xs.length := by omega
      rw [hie, List.take_length] at hO
      clear hie
      have HO := Lib.hid hO
      clear hO
      go_wp2_with fail
      go_loopw [3, 5] (fun ov iv wr => ∃ i : Nat, i ≤ 16 ∧ iv = .int .i64 i ∧ RowE legE 106 wr w.heap.size ov (xs ++ marksE (mkLegs 90) i) ∧ Below w.heap.size w wr) (fun _ iv _ => 16 - (intOf iv).toNat)
      case atStart => exact ⟨0, by omega, rfl, by simpa [marksE] using HO.out, hW⟩
      case round =>
        clear HO hW
        clear hlt hi
        obtain ⟨i, hi, rfl, hO, hW⟩ := hrel
        by_cases hlt : i < 16
        · go_wp2_with fail
          refine (markLegs_any i wr).mono ?_
          rintro e w5 ⟨rfl, hb5⟩
          have hW5 := hW.trans (hb5.mono hW.size)
          have hms : marksE (mkLegs 90) (i + 1) = marksE (mkLegs 90) i ++ [mkLegs 90 i] := marksE_succ _ _
          have hml : (marksE (mkLegs 90) i).length = i := marksE_len _ _
          have hb12 : ((xs ++ marksE (mkLegs 90) i).length + 1) * 40 ≤ 140737488355328 ∧ (xs ++ marksE (mkLegs 90) i).length + 1 ≤ 4611686018427387904 := by
            have h3 : (xs ++ marksE (mkLegs 90) i).length = xs.length + i := by simp only [List.length_append, hml]
            have h5 := HS.out
            clear HS hml hms
            generalize (xs ++ marksE (mkLegs 90) i).length = z at h3 ⊢
            clear hi hn hO hW hb5 hW5 h
            omega
          obtain ⟨hb1, hb2⟩ := hb12
          have hd16 : decide ((i : Int) < 16) = true := decide_eq_true (by clear hml hms; omega)
          generalize mkLegs 90 (i : Int) = x at hms ⊢
          have hO2 := (hO.below hb5).alloc (.cells (legE.enc x).toArray 106)
          obtain ⟨v', w', hrun, hR, hg, _⟩ := hO2.push legTy (by have := hW5.size; simp; omega) x w5.heap.size 1 _ rfl (heap_alloc_new w5 _) hb1 hb2
          have hW2 := (hW5.alloc hW5.size (.cells (legE.enc x).toArray 106)).trans (hO2.grown hg (by have := hW5.size; simp; omega) (Nat.le_refl _))
          rw [List.append_assoc, ← hms] at hR
          have HR := Lib.hid hR
          clear hO hO2 hg hR hW hb5 hW5 hms hml
          obtain ⟨a, b, c, d, e⟩ := x
          go_wp2_with (refine wpList_val (w' := w') v' (by kernel_rfl) (exec_append2 rfl rfl rfl rfl ?_) ?_; focus (exact hrun))
          exact ⟨⟨i + 1, by omega, by go_num, HR.out, hW2⟩, by simp [intOf]; omega⟩
        · have hie : i = 16 := by omega
          rw [hie] at hO
          have HO := Lib.hid hO
          clear hO hie
          go_wp2_with fail
          go_ret
          exact ⟨_, rfl, HO.out, hW⟩
abbrev keyT := Int × Int
abbrev keyE : Enc keyT := ⟨fun x => [.int .i64 x.1, .int .i64 x.2], 2, by decide, fun x => rfl, fun x => all_one rfl⟩
def keyL (x : keyT) : List Int := [x.1, x.2]
theorem keyL_inj {x y : keyT} : keyL x = keyL y ↔ x = y := by
  obtain ⟨a, b⟩ := x
  simp only [keyL, List.cons.injEq, Prod.ext_iff, and_true]
theorem keyTy : ElT Tryd.prog keyE 109 23 16 := by
  refine ⟨Tryd.underlying23, ?_⟩
  have : (Tryd.prog.info? 109).map (fun i => (i.zero.map (fun z => z.cells.size), i.size, i.bytes)) = some (some 2, 2, 16) := by kernel_rfl
  obtain ⟨i, h1, h2⟩ := Option.map_eq_some_iff.1 this
  simp at h2
  obtain ⟨⟨z, hz, hz2⟩, h3, h4⟩ := h2
  exact ⟨i, z, h1, hz, hz2, h3, h4⟩
theorem eqKeys (x y : keyT) (w : World) : (Op.equalIn 10000 109 (.agg (keyE.enc x).toArray) (.agg (keyE.enc y).toArray)).run Tryd.prog w = .ok (decide (x = y)) w := by
  have h := eqStruct_ints (P := Tryd.prog) w 109 2 (keyL x) (keyL y) (by kernel_rfl) (by kernel_rfl) (by kernel_rfl) rfl rfl
  rw [decide_eq_decide.2 (keyL_inj (x := x) (y := y))] at h
  exact h
def mkKeys (k i : Int) : keyT := (-10 - k, i)
set_option maxRecDepth 100000 in
theorem markKeys_any (i : Int) (w : World) :
    Calls Tryd.prog 49 #[.int .i64 90, .int .i64 i] w fun e w' => e = .returned (.agg (keyE.enc (mkKeys 90 i)).toArray) ∧ Below w.heap.size w w' := by
  go_enter Tryd.func49, Tryd.ntmps49
  go_wp2_with fail
  exact bodyPost_ret (v := .agg (keyE.enc (mkKeys 90 i)).toArray) (results_cell_row rfl _ _ w.heap.size 109 _ (0, 0) _ rfl (heap_alloc_new w _) Tryd.underlying109 rfl (by kernel_rfl)) rfl ⟨rfl, (Below.refl _ _).alloc (Nat.le_refl _) _⟩
set_option maxRecDepth 100000 in
set_option maxHeartbeats 2000000 in
theorem fullKeys_any (v : Value) (xs : List keyT) (w : World) (h : ReadsE keyE w v xs) (hs : (xs.length + 16) * 16 ≤ 140737488355328) :
    Calls Tryd.prog 32 #[v] w (RowP keyE 109 w (xs ++ marksE (mkKeys 90) 16)) := by
  obtain ⟨ao, cap, rfl⟩ := h.slice
  have hn : xs.length ≤ 140737488355328 := by omega
  have HS := Lib.hid hs
  clear hs
  go_enter Tryd.func32, Tryd.ntmps32
  go_wp2_with fail
  go_loopw [3, 4] (fun ov iv wr => ∃ i : Nat, i ≤ xs.length ∧ iv = .int .i64 i ∧ RowE keyE 109 wr w.heap.size ov (xs.take i) ∧ Below w.heap.size w wr) (fun _ iv _ => xs.length - (intOf iv).toNat)
  case atStart => exact ⟨0, by omega, rfl, RowE.nil _ _, Below.refl _ _⟩
  case round =>
    obtain ⟨i, hi, rfl, hO, hW⟩ := hrel
    by_cases hlt : i < xs.length
    · obtain ⟨x, hx⟩ : ∃ x, xs[i]? = some x := ⟨_, List.getElem?_eq_getElem hlt⟩
      obtain ⟨g, o, rfl, hc⟩ := (h.below hW).at hx
      have hO2 := hO.alloc (.cells (keyE.enc x).toArray 109)
      obtain ⟨v', w', hrun, hR, hg, _⟩ := hO2.push keyTy (by have := hW.size; simp; omega) x wr.heap.size 1 _ rfl (heap_alloc_new wr _) (by rw [List.length_take, Nat.min_eq_left hi]; have := HS.out; omega) (by rw [List.length_take]; omega)
      have hW2 := (hW.alloc hW.size (.cells (keyE.enc x).toArray 109)).trans (hO2.grown hg (by have := hW.size; simp; omega) (Nat.le_refl _))
      rw [← take_snoc' hx] at hR
      have HC := Lib.hid hc
      have HR := Lib.hid hR
      clear hO hO2 hg hc hR hx
      obtain ⟨a, b⟩ := x
      go_wp2_with (first | (refine wpList_val (.agg #[.int .i64 a, .int .i64 b]) (by kernel_rfl) (exec_load_mid HC.out rfl rfl Tryd.underlying109 rfl (by kernel_rfl)) ?_) | (refine wpList_val (w' := w') v' (by kernel_rfl) (exec_append2 rfl rfl rfl rfl ?_) ?_; focus (exact hrun)))
      exact ⟨⟨i + 1, by omega, by go_num, HR.out, hW2⟩, by simp [intOf]; omega⟩
    · have hie : i = xs.length := by omega
      rw [hie, List.take_length] at hO
      clear hie
      have HO := Lib.hid hO
      clear hO
      go_wp2_with fail
      go_loopw [3, 5] (fun ov iv wr => ∃ i : Nat, i ≤ 16 ∧ iv = .int .i64 i ∧ RowE keyE 109 wr w.heap.size ov (xs ++ marksE (mkKeys 90) i) ∧ Below w.heap.size w wr) (fun _ iv _ => 16 - (intOf iv).toNat)
      case atStart => exact ⟨0, by omega, rfl, by simpa [marksE] using HO.out, hW⟩
      case round =>
        clear HO hW
        clear hlt hi
        obtain ⟨i, hi, rfl, hO, hW⟩ := hrel
        by_cases hlt : i < 16
        · go_wp2_with fail
          refine (markKeys_any i wr).mono ?_
          rintro e w5 ⟨rfl, hb5⟩
          have hW5 := hW.trans (hb5.mono hW.size)
          have hms : marksE (mkKeys 90) (i + 1) = marksE (mkKeys 90) i ++ [mkKeys 90 i] := marksE_succ _ _
          have hml : (marksE (mkKeys 90) i).length = i := marksE_len _ _
          have hb12 : ((xs ++ marksE (mkKeys 90) i).length + 1) * 16 ≤ 140737488355328 ∧ (xs ++ marksE (mkKeys 90) i).length + 1 ≤ 4611686018427387904 := by
            have h3 : (xs ++ marksE (mkKeys 90) i).length = xs.length + i := by simp only [List.length_append, hml]
            have h5 := HS.out
            clear HS hml hms
            generalize (xs ++ marksE (mkKeys 90) i).length = z at h3 ⊢
            clear hi hn hO hW hb5 hW5 h
            omega
          obtain ⟨hb1, hb2⟩ := hb12
          have hd16 : decide ((i : Int) < 16) = true := decide_eq_true (by clear hml hms; omega)
          generalize mkKeys 90 (i : Int) = x at hms ⊢
          have hO2 := (hO.below hb5).alloc (.cells (keyE.enc x).toArray 109)
          obtain ⟨v', w', hrun, hR, hg, _⟩ := hO2.push keyTy (by have := hW5.size; simp; omega) x w5.heap.size 1 _ rfl (heap_alloc_new w5 _) hb1 hb2
          have hW2 := (hW5.alloc hW5.size (.cells (keyE.enc x).toArray 109)).trans (hO2.grown hg (by have := hW5.size; simp; omega) (Nat.le_refl _))
          rw [List.append_assoc, ← hms] at hR
          have HR := Lib.hid hR
          clear hO hO2 hg hR hW hb5 hW5 hms hml
          obtain ⟨a, b⟩ := x
          go_wp2_with (refine wpList_val (w' := w') v' (by kernel_rfl) (exec_append2 rfl rfl rfl rfl ?_) ?_; focus (exact hrun))
          exact ⟨⟨i + 1, by omega, by go_num, HR.out, hW2⟩, by simp [intOf]; omega⟩
        · have hie : i = 16 := by omega
          rw [hie] at hO
          have HO := Lib.hid hO
          clear hO hie
          go_wp2_with fail
          go_ret
          exact ⟨_, rfl, HO.out, hW⟩
end Go.Proofs.YtkhhkbigpaoinaaDoor
