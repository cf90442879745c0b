/- An instruction taken out: by contract. -/
import Derived.Test.YtkhhkbigpaoinaaDayEnter
namespace Go.Proofs.Ytkhhkbigpaoinaa
set_option linter.unusedVariables false
set_option linter.unusedSimpArgs false
open Go.RowKit Go.Maps
attribute [local irreducible] Go.wpStill

theorem DayR.drop {w w2 : World} {B db cnt : Nat} {p : PlanV} {today : Int} {es : Int → Option EntV} (h7 : p.we.length = 7) (h6 : p.hs.length = 6) (hlow : B ≤ db) {cb mc mb : Nat} (hb : w.heap[db]? = some (.cells (p.bare.cells ++ #[.pointer (some ⟨cb, 0, none⟩), .int .i64 today, .map (some mb)]) 66 (0, 0)))
    (hc : CalAt w cb mc p.we p.fs) {bl : Int → Nat} (hbl : ∀ id e, es id = some e → w.heap[bl id]? = some (.cells (e.cells id) 76 (0, 0)) ∧ B ≤ bl id) (hinj : ∀ id id' e e', es id = some e → es id' = some e' → bl id = bl id' → id = id') (hne : mc ≠ mb) (hBm : B ≤ mb)
    (id : Int) (hm2 : MapAt keyD w2 mb cnt (updM (fun id => (es id).map fun _ => Value.pointer (some ⟨bl id, 0, none⟩)) id none)) (ht : w.mapTurned w2 mb) (hmap : ∃ x c, w.heap[mb]? = some (.map x c)) :
    DayR w2 B db p today cnt (updE es id none) ∧ Below B w w2 := by
  have hBw : B ≤ w.heap.size := Nat.le_of_lt (Nat.lt_of_le_of_lt hlow (lt_of_block hb))
  have hk : ∀ (k : Nat) (cs : Array Value) (T : TypeId), w.heap[k]? = some (Obj.cells cs T (0, 0)) → w2.heap[k]? = w.heap[k]? := fun k cs T hk => by
    refine turned_other ht (lt_of_block hk) fun e => ?_
    subst e
    obtain ⟨x, c, hx⟩ := hmap
    rw [hk] at hx
    cases hx
  refine ⟨⟨h7, h6, hlow, cb, mc, mb, (hk _ _ _ hb).trans hb, ?_, ⟨bl, hm2.same keyD fun x hx => ?_, fun x e' he => ?_, fun x x' e1 e2 he1 he2 hq => ?_⟩, hne, hBm⟩, turned_below ht hBm hBw⟩
  · obtain ⟨ccs, hccs⟩ := hc.ne
    exact hc.keep (hk _ _ _ hccs) (turned_other ht hc.lt.2 hne)
  · unfold updM updE
    by_cases hxi : x = id
    · simp [hxi]
    · simp [hxi]
  · unfold updE at he
    by_cases hxi : x = id
    · simp [hxi] at he
    · simp only [if_neg hxi] at he
      exact ⟨(hk _ _ _ (hbl x e' he).1).trans (hbl x e' he).1, (hbl x e' he).2⟩
  · unfold updE at he1 he2
    by_cases hxi : x = id
    · simp [hxi] at he1
    · by_cases hxi' : x' = id
      · simp [hxi'] at he2
      · simp only [if_neg hxi] at he1
        simp only [if_neg hxi'] at he2
        exact hinj x x' e1 e2 he1 he2 hq
def LeaveP (B db cnt : Nat) (p : PlanV) (today : Int) (es : Int → Option EntV) (id : Int) (w : World) (en : Ending) (w' : World) : Prop :=
  en = .returned (.bool (es id).isSome) ∧ Below B w w' ∧ DayR w' B db p today cnt (updE es id none)
set_option maxRecDepth 100000 in
set_option maxHeartbeats 4000000 in
theorem leave_any {B db cnt : Nat} {p : PlanV} {today : Int} {es : Int → Option EntV} (id : Int) (hid : (Lit.int .i64 id).wf = true) (w : World) (h : DayR w B db p today cnt es) :
    Calls Try.prog 17 #[.pointer (some ⟨db, 0, none⟩), .int .i64 id] w (LeaveP B db cnt p today es id w) := by
  obtain ⟨cb, mc, mb, hb, hc, ⟨bl, hm, hbl, hinj⟩, hne, hBm⟩ := h.parts
  obtain ⟨_, c18, _, _⟩ := DayR.cell18 h.we h.hs hb
  have HDROP := Lib.hid (fun (w2 : World) hm2 ht => DayR.drop h.we h.hs h.low hb hc hbl hinj hne hBm id (w2 := w2) (cnt := cnt) hm2 ht (hm.isMap keyD))
  have HM := Lib.hid hm
  have HG := Lib.hid (show keyD.good id from hid)
  clear h hb hc hbl hinj hne hm
  cases he : es id with
  | some e0 =>
    have HE := Lib.hid he
    have HV := Lib.hid (show (fun id => (es id).map fun _ => Value.pointer (some ⟨bl id, 0, none⟩)) id = some (.pointer (some ⟨bl id, 0, none⟩)) by simp [he])
    clear he
    go_enter Try.func17, Try.ntmps17
    go_wp2_with (first
      | (refine wpList_look_ok keyD rfl _ _ 64 rfl 73 Try.underlying64 (zeroP _) rfl HM.out id HG.out rfl _ HV.out ?_)
      | (refine wpList_dropM keyD rfl _ _ 64 rfl 73 Try.underlying64 rfl HM.out id HG.out rfl ?_; intro w6 hM6 hT6))
    go_ret
    obtain ⟨r1, r2⟩ := HDROP.out _ hM6 hT6
    exact ⟨by rw [HE.out]; rfl, r2, r1⟩
  | none =>
    have HE := Lib.hid he
    have HV := Lib.hid (show (fun id => (es id).map fun _ => Value.pointer (some ⟨bl id, 0, none⟩)) id = none by simp [he])
    clear he
    go_enter Try.func17, Try.ntmps17
    go_wp2_with (first
      | (refine wpList_look_ok keyD rfl _ _ 64 rfl 73 Try.underlying64 (zeroP _) rfl HM.out id HG.out rfl _ HV.out ?_)
      | (refine wpList_dropM keyD rfl _ _ 64 rfl 73 Try.underlying64 rfl HM.out id HG.out rfl ?_; intro w6 hM6 hT6))
    go_ret
    obtain ⟨r1, r2⟩ := HDROP.out _ hM6 hT6
    exact ⟨by rw [HE.out]; rfl, r2, r1⟩
end Go.Proofs.Ytkhhkbigpaoinaa
