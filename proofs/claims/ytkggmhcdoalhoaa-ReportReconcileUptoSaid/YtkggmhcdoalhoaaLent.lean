/- custodykit's Full, Lent, KeptFull, Kept lists of legs and keys: by contract. -/
import Derived.Test.YtkggmhcdoalhoaaRowE
namespace Go.Proofs.Ytkggmhcdoalhoaa
set_option linter.unusedVariables false
set_option linter.unusedSimpArgs false
open Go.RowKit
attribute [local irreducible] Go.wpStill

def RowP {α : Type} (E : Enc α) (T : TypeId) (w : World) (xs : List α) (e : Ending) (w' : World) : Prop := ∃ v, e = .returned v ∧ RowE E T w' w.heap.size v xs ∧ Below w.heap.size w w'
/-- a list that is lent: marks behind it -/
def LentV {α : Type} (E : Enc α) (T : TypeId) (w : World) (B : Nat) (v : Value) (xs ms : List α) : Prop := ∃ g cap, v = .slice (some ⟨g, 0, none⟩) xs.length cap ∧ RowE E T w B (.slice (some ⟨g, 0, none⟩) (xs ++ ms).length cap) (xs ++ ms)
theorem LentV.kept {α : Type} {E : Enc α} {T : TypeId} {w w' : World} {B : Nat} {v : Value} {xs ms : List α} (a : LentV E T w B v xs ms) (hk : ∀ k, k < w.heap.size → w'.heap[k]? = w.heap[k]?) : LentV E T w' B v xs ms := by
  obtain ⟨g, cap, hv, hr⟩ := a
  exact ⟨g, cap, hv, hr.kept hk⟩
theorem LentV.below {α : Type} {E : Enc α} {T : TypeId} {w w' : World} {B : Nat} {v : Value} {xs ms : List α} (a : LentV E T w B v xs ms) (hb : Below w.heap.size w w') : LentV E T w' B v xs ms := a.kept hb.block
def LentP {α : Type} (E : Enc α) (T : TypeId) (w : World) (xs ms : List α) (e : Ending) (w' : World) : Prop := ∃ v, e = .returned v ∧ LentV E T w' w.heap.size v xs ms ∧ Below w.heap.size w w'
def FixB (b : Bool) (w : World) (e : Ending) (w' : World) : Prop := e = .returned (.bool b) ∧ Below w.heap.size w w'
def marksE {α : Type} (mk : Int → α) (n : Nat) : List α := (List.range n).map fun i : Nat => mk i
theorem marksE_len {α : Type} (mk : Int → α) (n : Nat) : (marksE mk n).length = n := by simp [marksE]
theorem marksE_succ {α : Type} (mk : Int → α) (n : Nat) : marksE mk (n + 1) = marksE mk n ++ [mk n] := by simp [marksE, List.range_succ]
theorem marksE_at {α : Type} (mk : Int → α) (n i : Nat) (h : i < n) : (marksE mk n)[i]? = some (mk i) := by simp [marksE, h]
theorem take_snoc' {α : Type} {l : List α} {i : Nat} {x : α} (h : l[i]? = some x) : l.take (i + 1) = l.take i ++ [x] := by rw [List.take_add_one, h]; rfl

attribute [local irreducible] marksE
abbrev legT := Int × Int × Int × Int × Int
abbrev legE : Enc legT := ⟨fun x => [.int .i64 x.1, .int .i64 x.2.1, .int .i64 x.2.2.1, .int .i64 x.2.2.2.1, .int .i64 x.2.2.2.2], 5, by decide, fun x => rfl, fun x => all_one rfl⟩
def legL (x : legT) : List Int := [x.1, x.2.1, x.2.2.1, x.2.2.2.1, x.2.2.2.2]
theorem legL_inj {x y : legT} : legL x = legL y ↔ x = y := by
  obtain ⟨a, b, c, d, e⟩ := x
  simp only [legL, List.cons.injEq, Prod.ext_iff, and_true]
def mkLegs (k i : Int) : legT := (-10 - k, i, 0, 0, 0)
abbrev keyT := Int × Int
abbrev keyE : Enc keyT := ⟨fun x => [.int .i64 x.1, .int .i64 x.2], 2, by decide, fun x => rfl, fun x => all_one rfl⟩
def keyL (x : keyT) : List Int := [x.1, x.2]
theorem keyL_inj {x y : keyT} : keyL x = keyL y ↔ x = y := by
  obtain ⟨a, b⟩ := x
  simp only [keyL, List.cons.injEq, Prod.ext_iff, and_true]
theorem keyTy : ElT Try.prog keyE 34 30 16 := by
  refine ⟨Try.underlying30, ?_⟩
  have : (Try.prog.info? 34).map (fun i => (i.zero.map (fun z => z.cells.size), i.size, i.bytes)) = some (some 2, 2, 16) := by kernel_rfl
  obtain ⟨i, h1, h2⟩ := Option.map_eq_some_iff.1 this
  simp at h2
  obtain ⟨⟨z, hz, hz2⟩, h3, h4⟩ := h2
  exact ⟨i, z, h1, hz, hz2, h3, h4⟩
theorem eqKeys (x y : keyT) (w : World) : (Op.equalIn 10000 34 (.agg (keyE.enc x).toArray) (.agg (keyE.enc y).toArray)).run Try.prog w = .ok (decide (x = y)) w := by
  have h := eqStruct_ints (P := Try.prog) w 34 2 (keyL x) (keyL y) (by kernel_rfl) (by kernel_rfl) (by kernel_rfl) rfl rfl
  rw [decide_eq_decide.2 (keyL_inj (x := x) (y := y))] at h
  exact h
def mkKeys (k i : Int) : keyT := (-10 - k, i)
abbrev markT := Int × Int
abbrev markE : Enc markT := ⟨fun x => [.int .i64 x.1, .int .i64 x.2], 2, by decide, fun x => rfl, fun x => all_one rfl⟩
def markL (x : markT) : List Int := [x.1, x.2]
theorem markL_inj {x y : markT} : markL x = markL y ↔ x = y := by
  obtain ⟨a, b⟩ := x
  simp only [markL, List.cons.injEq, Prod.ext_iff, and_true]
theorem markTy : ElT Try.prog markE 55 37 16 := by
  refine ⟨Try.underlying37, ?_⟩
  have : (Try.prog.info? 55).map (fun i => (i.zero.map (fun z => z.cells.size), i.size, i.bytes)) = some (some 2, 2, 16) := by kernel_rfl
  obtain ⟨i, h1, h2⟩ := Option.map_eq_some_iff.1 this
  simp at h2
  obtain ⟨⟨z, hz, hz2⟩, h3, h4⟩ := h2
  exact ⟨i, z, h1, hz, hz2, h3, h4⟩
theorem eqMarks (x y : markT) (w : World) : (Op.equalIn 10000 55 (.agg (markE.enc x).toArray) (.agg (markE.enc y).toArray)).run Try.prog w = .ok (decide (x = y)) w := by
  have h := eqStruct_ints (P := Try.prog) w 55 2 (markL x) (markL y) (by kernel_rfl) (by kernel_rfl) (by kernel_rfl) rfl rfl
  rw [decide_eq_decide.2 (markL_inj (x := x) (y := y))] at h
  exact h
def mkMarks (k i : Int) : markT := (-10 - k, i)
set_option maxRecDepth 100000 in
theorem markMarks_any (i : Int) (w : World) :
    Calls Try.prog 22 #[.int .i64 90, .int .i64 i] w fun e w' => e = .returned (.agg (markE.enc (mkMarks 90 i)).toArray) ∧ Below w.heap.size w w' := by
  go_enter Try.func22, Try.ntmps22
  go_wp2_with fail
  exact bodyPost_ret (v := .agg (markE.enc (mkMarks 90 i)).toArray) (results_cell_row rfl _ _ w.heap.size 55 _ (0, 0) _ rfl (heap_alloc_new w _) Try.underlying55 rfl (by kernel_rfl)) rfl ⟨rfl, (Below.refl _ _).alloc (Nat.le_refl _) _⟩
set_option maxRecDepth 100000 in
set_option maxHeartbeats 2000000 in
theorem fullMarks_any (v : Value) (xs : List markT) (w : World) (h : ReadsE markE w v xs) (hs : (xs.length + 16) * 16 ≤ 140737488355328) :
    Calls Try.prog 12 #[v] w (RowP markE 55 w (xs ++ marksE (mkMarks 90) 16)) := by
  obtain ⟨ao, cap, rfl⟩ := h.slice
  have hn : xs.length ≤ 140737488355328 := by omega
  have HS := Lib.hid hs
  clear hs
  go_enter Try.func12, Try.ntmps12
  go_wp2_with fail
  go_loopw [3, 4] (fun ov iv wr => ∃ i : Nat, i ≤ xs.length ∧ iv = .int .i64 i ∧ RowE markE 55 wr w.heap.size ov (xs.take i) ∧ Below w.heap.size w wr) (fun _ iv _ => xs.length - (intOf iv).toNat)
  case atStart => exact ⟨0, by omega, rfl, RowE.nil _ _, Below.refl _ _⟩
  case round =>
    obtain ⟨i, hi, rfl, hO, hW⟩ := hrel
    by_cases hlt : i < xs.length
    · obtain ⟨x, hx⟩ : ∃ x, xs[i]? = some x := ⟨_, List.getElem?_eq_getElem hlt⟩
      obtain ⟨g, o, rfl, hc⟩ := (h.below hW).at hx
      have hO2 := hO.alloc (.cells (markE.enc x).toArray 55)
      obtain ⟨v', w', hrun, hR, hg, _⟩ := hO2.push markTy (by have := hW.size; simp; omega) x wr.heap.size 1 _ rfl (heap_alloc_new wr _) (by rw [List.length_take, Nat.min_eq_left hi]; have := HS.out; omega) (by rw [List.length_take]; omega)
      have hW2 := (hW.alloc hW.size (.cells (markE.enc x).toArray 55)).trans (hO2.grown hg (by have := hW.size; simp; omega) (Nat.le_refl _))
      rw [← take_snoc' hx] at hR
      have HC := Lib.hid hc
      have HR := Lib.hid hR
      clear hO hO2 hg hc hR hx
      obtain ⟨a, b⟩ := x
      go_wp2_with (first | (refine wpList_val (.agg #[.int .i64 a, .int .i64 b]) (by kernel_rfl) (exec_load_mid HC.out rfl rfl Try.underlying55 rfl (by kernel_rfl)) ?_) | (refine wpList_val (w' := w') v' (by kernel_rfl) (exec_append2 rfl rfl rfl rfl ?_) ?_; focus (exact hrun)))
      exact ⟨⟨i + 1, by omega, by go_num, HR.out, hW2⟩, by simp [intOf]; omega⟩
    · have hie : i = xs.length := by omega
      rw [hie, List.take_length] at hO
      clear hie
      have HO := Lib.hid hO
      clear hO
      go_wp2_with fail
      go_loopw [3, 5] (fun ov iv wr => ∃ i : Nat, i ≤ 16 ∧ iv = .int .i64 i ∧ RowE markE 55 wr w.heap.size ov (xs ++ marksE (mkMarks 90) i) ∧ Below w.heap.size w wr) (fun _ iv _ => 16 - (intOf iv).toNat)
      case atStart => exact ⟨0, by omega, rfl, by simpa [marksE] using HO.out, hW⟩
      case round =>
        clear HO hW
        clear hlt hi
        obtain ⟨i, hi, rfl, hO, hW⟩ := hrel
        by_cases hlt : i < 16
        · go_wp2_with fail
          refine (markMarks_any i wr).mono ?_
          rintro e w5 ⟨rfl, hb5⟩
          have hW5 := hW.trans (hb5.mono hW.size)
          have hms : marksE (mkMarks 90) (i + 1) = marksE (mkMarks 90) i ++ [mkMarks 90 i] := marksE_succ _ _
          have hml : (marksE (mkMarks 90) i).length = i := marksE_len _ _
          have hb12 : ((xs ++ marksE (mkMarks 90) i).length + 1) * 16 ≤ 140737488355328 ∧ (xs ++ marksE (mkMarks 90) i).length + 1 ≤ 4611686018427387904 := by
            have h3 : (xs ++ marksE (mkMarks 90) i).length = xs.length + i := by simp only [List.length_append, hml]
            have h5 := HS.out
            clear HS hml hms
            generalize (xs ++ marksE (mkMarks 90) i).length = z at h3 ⊢
            clear hi hn hO hW hb5 hW5 h
            omega
          obtain ⟨hb1, hb2⟩ := hb12
          have hd16 : decide ((i : Int) < 16) = true := decide_eq_true (by clear hml hms; omega)
          generalize mkMarks 90 (i : Int) = x at hms ⊢
          have hO2 := (hO.below hb5).alloc (.cells (markE.enc x).toArray 55)
          obtain ⟨v', w', hrun, hR, hg, _⟩ := hO2.push markTy (by have := hW5.size; simp; omega) x w5.heap.size 1 _ rfl (heap_alloc_new w5 _) hb1 hb2
          have hW2 := (hW5.alloc hW5.size (.cells (markE.enc x).toArray 55)).trans (hO2.grown hg (by have := hW5.size; simp; omega) (Nat.le_refl _))
          rw [List.append_assoc, ← hms] at hR
          have HR := Lib.hid hR
          clear hO hO2 hg hR hW hb5 hW5 hms hml
          obtain ⟨a, b⟩ := x
          go_wp2_with (refine wpList_val (w' := w') v' (by kernel_rfl) (exec_append2 rfl rfl rfl rfl ?_) ?_; focus (exact hrun))
          exact ⟨⟨i + 1, by omega, by go_num, HR.out, hW2⟩, by simp [intOf]; omega⟩
        · have hie : i = 16 := by omega
          rw [hie] at hO
          have HO := Lib.hid hO
          clear hO hie
          go_wp2_with fail
          go_ret
          exact ⟨_, rfl, HO.out, hW⟩
end Go.Proofs.Ytkggmhcdoalhoaa
