/- custodykit's LentOp, KeptOp: by contract. -/
import Derived.Test.YtkhhkbigpaoinaaDoorKept
namespace Go.Proofs.YtkhhkbigpaoinaaDoor
set_option linter.unusedVariables false
set_option linter.unusedSimpArgs false
open Go.RowKit
attribute [local irreducible] Go.wpStill marksE

/-- an operation -/
structure OpV where
  code : Int
  account : Int
  asset : Int
  qty : Int
  name : Int
  id : Int
def opVal (o : OpV) (l p : Value) : Value := .agg #[.int .i64 o.code, .int .i64 o.account, .int .i64 o.asset, .int .i64 o.qty, .int .i64 o.name, .int .i64 o.id, l, p]
def LentOpP (w : World) (o : OpV) (ls : List legT) (ps : List keyT) (e : Ending) (w' : World) : Prop :=
  ∃ l p, e = .returned (opVal o l p) ∧ LentV legE 106 w' w.heap.size l ls (marksE (mkLegs 90) 16) ∧ LentV keyE 109 w' w.heap.size p ps (marksE (mkKeys 90) 16) ∧ Below w.heap.size w w'
theorem RowE.above {α : Type} {E : Enc α} {T : TypeId} {w w' : World} {B : Nat} {v : Value} {xs : List α} (a : RowE E T w B v xs) (hk : ∀ k, B ≤ k → k < w.heap.size → w'.heap[k]? = w.heap[k]?) : RowE E T w' B v xs :=
  a.congr fun k cs h hv => hk k (a.type hv).1 (lt_of_block h)
theorem LentV.above {α : Type} {E : Enc α} {T : TypeId} {w w' : World} {B : Nat} {v : Value} {xs ms : List α} (a : LentV E T w B v xs ms) (hk : ∀ k, B ≤ k → k < w.heap.size → w'.heap[k]? = w.heap[k]?) : LentV E T w' B v xs ms := by
  obtain ⟨g, cap, hv, hr⟩ := a
  exact ⟨g, cap, hv, hr.above hk⟩
theorem LentV.low {α : Type} {E : Enc α} {T : TypeId} {w : World} {B B' : Nat} {v : Value} {xs ms : List α} (a : LentV E T w B v xs ms) (h : B' ≤ B) : LentV E T w B' v xs ms := by
  obtain ⟨g, cap, hv, hr⟩ := a
  exact ⟨g, cap, hv, hr.low h⟩
set_option maxRecDepth 100000 in
set_option maxHeartbeats 2000000 in
theorem lentOp_any (o : OpV) (l p : Value) (ls : List legT) (ps : List keyT) (w : World) (hl : ReadsE legE w l ls) (hp : ReadsE keyE w p ps) (hs : (ls.length + 16) * 40 ≤ 140737488355328) (hs2 : (ps.length + 16) * 16 ≤ 140737488355328) :
    Calls Tryd.prog 5 #[opVal o l p] w (LentOpP w o ls ps) := by
  obtain ⟨o1, o2, o3, o4, o5, o6⟩ := o
  unfold opVal
  have HL := Lib.hid hl
  have HP := Lib.hid hp
  obtain ⟨al, cl, rfl⟩ := hl.slice
  obtain ⟨ap, cp, rfl⟩ := hp.slice
  clear hl hp
  go_enter Tryd.func5, Tryd.ntmps5
  go_wp2_with fail
  refine (lentLegs_any _ ls _ (HL.out.kept fun k hk => ?hk1) hs).mono ?_
  case hk1 => rw [heap_alloc_old _ _ (by simp; omega), heap_alloc_old _ _ (by simp; omega), heap_alloc_old _ _ hk]
  rintro e w1 ⟨v1, rfl, hV1, hB1⟩
  have hG1 : w1.heap[w.heap.size + 1]? = some (.cells #[.int .i64 0, .int .i64 0, .int .i64 0, .int .i64 0, .int .i64 0, .int .i64 0, .slice none 0 0, .slice none 0 0] 25 (0, 0)) := by
    rw [hB1.block _ (by simp), heap_alloc_old _ _ (by simp)]
    have := heap_alloc_new (w.alloc (.cells #[.int .i64 o1, .int .i64 o2, .int .i64 o3, .int .i64 o4, .int .i64 o5, .int .i64 o6, .slice al ls.length cl, .slice ap ps.length cp] 25)) (.cells #[.int .i64 0, .int .i64 0, .int .i64 0, .int .i64 0, .int .i64 0, .int .i64 0, .slice none 0 0, .slice none 0 0] 25)
    simpa using this
  have HG1 := Lib.hid hG1
  clear hG1
  obtain ⟨hc, hf⟩ := bcell hB1
  have hz : w.heap.size + 1 + 1 < w1.heap.size := by have := hB1.size; simp at this; omega
  obtain ⟨g1, c1, rfl, hR1⟩ := id hV1
  have HV1 := Lib.hid hV1
  clear hR1 hV1
  go_wp2_with fail
  have hb1 : Below w.heap.size w w1 := ((((Below.refl _ _).alloc (Nat.le_refl _) _).alloc (by simp) _).alloc (by simp; omega) _).trans (hB1.mono (by simp; omega))
  refine (lentKeys_any _ ps _ (HP.out.below (hb1.setCell (by simp; omega) _)) hs2).mono ?_
  rintro e w2 ⟨v2, rfl, hV2, hB2⟩
  obtain ⟨hc2, hf2⟩ := bcell hB2
  have hz2 : w.heap.size + 1 + 1 < w2.heap.size := by have := hB2.size; simp at this; omega
  obtain ⟨g2, c2, rfl, hR2⟩ := id hV2
  have HV2 := Lib.hid hV2
  clear hR2 hV2
  have hG2 : (w2.setCell ⟨w.heap.size + 1 + 1, 7, none⟩ (.slice (some ⟨g2, 0, none⟩) ps.length c2)).heap[w.heap.size + 1]? = some (.cells #[.int .i64 0, .int .i64 0, .int .i64 0, .int .i64 0, .int .i64 0, .int .i64 0, .slice none 0 0, .slice none 0 0] 25 (0, 0)) := by
    rw [heap_setCell_other _ _ _ _ (by simp), hB2.block _ (by simp; omega), heap_setCell_other _ _ _ _ (by simp)]
    exact HG1.out
  have HG2 := Lib.hid hG2
  have hb2 : Below w.heap.size w w2 := (hb1.setCell (p := ⟨w.heap.size + 1 + 1, 6, none⟩) (by simp; omega) (.slice (some ⟨g1, 0, none⟩) ls.length c1)).trans (hB2.mono (by simp; omega))
  have hL2 : LentV legE 106 w2 (w.heap.size + 3) (.slice (some ⟨g1, 0, none⟩) ls.length c1) ls (marksE (mkLegs 90) 16) := by
    refine (HV1.out.low (by simp)).above fun k h1 h2 => ?_
    rw [hB2.block _ (by simpa using h2), heap_setCell_other _ _ _ _ (by simp; omega)]
  have hK2 : LentV keyE 109 w2 (w.heap.size + 3) (.slice (some ⟨g2, 0, none⟩) ps.length c2) ps (marksE (mkKeys 90) 16) := HV2.out.low (by simp; omega)
  have HL2 := Lib.hid hL2
  have HK2 := Lib.hid hK2
  clear hL2 hK2 hG2
  go_wp2_with (refine wpList_store_any rfl 25 _ _ rfl (w.heap.size + 1) #[.int .i64 o1, .int .i64 o2, .int .i64 o3, .int .i64 o4, .int .i64 o5, .int .i64 o6, .slice (some ⟨g1, 0, none⟩) ls.length c1, .slice (some ⟨g2, 0, none⟩) ps.length c2] rfl rfl _ _ HG2.out (by kernel_rfl) rfl (by simp [Value.oneCell']) ?_; intro w3 h3 s3 bl3 ot3; have H3 := Lib.hid h3; have HBL := Lib.hid bl3; have HOT := Lib.hid ot3; clear h3 bl3 ot3)
  refine bodyPost_ret (v := .agg #[.int .i64 o1, .int .i64 o2, .int .i64 o3, .int .i64 o4, .int .i64 o5, .int .i64 o6, .slice (some ⟨g1, 0, none⟩) ls.length c1, .slice (some ⟨g2, 0, none⟩) ps.length c2]) (results_cell_row rfl _ _ (w.heap.size + 1) 25 _ (0, 0) _ rfl H3.out Tryd.underlying25 rfl (by kernel_rfl)) rfl ?_
  have hk3 : ∀ k, w.heap.size + 3 ≤ k → k < w2.heap.size → w3.heap[k]? = w2.heap[k]? := fun k h1 h2 => by
    rw [HOT.out k (by omega), heap_setCell_other _ _ _ _ (by simp; omega)]
  refine ⟨_, _, rfl, (HL2.out.above hk3).low (by omega), (HK2.out.above hk3).low (by omega), HBL.out _ _ (hb2.setCell (by simp; omega) _) (by omega)⟩
set_option maxRecDepth 100000 in
set_option maxHeartbeats 4000000 in
theorem keptOp_any (o : OpV) (l p l2 p2 : Value) (ls : List legT) (ps : List keyT) (B : Nat) (w : World) (hl : LentV legE 106 w B l ls (marksE (mkLegs 90) 16)) (hp : LentV keyE 109 w B p ps (marksE (mkKeys 90) 16)) (hl2 : ReadsE legE w l2 ls) (hp2 : ReadsE keyE w p2 ps) (h1 : ls.length + 16 < 4611686018427387904) (h2 : ps.length + 16 < 4611686018427387904) :
    Calls Tryd.prog 9 #[opVal o l p, opVal o l2 p2] w (FixB true w) := by
  obtain ⟨o1, o2, o3, o4, o5, o6⟩ := o
  unfold opVal
  have HL := Lib.hid hl
  have HP := Lib.hid hp
  have HL2 := Lib.hid hl2
  have HP2 := Lib.hid hp2
  obtain ⟨g1, c1, rfl, _⟩ := id hl
  obtain ⟨g2, c2, rfl, _⟩ := id hp
  obtain ⟨a3, c3, rfl⟩ := hl2.slice
  obtain ⟨a4, c4, rfl⟩ := hp2.slice
  clear hl hp hl2 hp2
  go_enter Tryd.func9, Tryd.ntmps9
  go_wp2_with fail
  have k0 : ∀ (x y : Obj) k, k < w.heap.size → ((w.alloc x).alloc y).heap[k]? = w.heap[k]? := fun x y k hk => by rw [heap_alloc_old _ _ (by simp; omega), heap_alloc_old _ _ hk]
  refine (keptLegs_any _ _ ls B _ h1 (HL.out.kept (k0 _ _)) (HL2.out.kept (k0 _ _))).mono ?_
  rintro e w1 ⟨rfl, hB1⟩
  have hb1 : Below w.heap.size w w1 := (((Below.refl _ _).alloc (Nat.le_refl _) _).alloc (by simp) _).trans (hB1.mono (by simp; omega))
  obtain ⟨hc, hf⟩ := bcell hB1
  clear k0
  go_wp2_with fail
  refine (keptKeys_any _ _ ps B _ h2 (HP.out.below hb1) (HP2.out.below hb1)).mono ?_
  rintro e w2 ⟨rfl, hB2⟩
  go_wp2_with fail
  go_ret
  exact ⟨rfl, hb1.trans (hB2.mono hb1.size)⟩
end Go.Proofs.YtkhhkbigpaoinaaDoor
