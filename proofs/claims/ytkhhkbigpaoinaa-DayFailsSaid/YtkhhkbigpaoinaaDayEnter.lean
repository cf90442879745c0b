/- An instruction entered, and taken out: by contract. -/
import Derived.Test.YtkhhkbigpaoinaaDayPh
namespace Go.Proofs.Ytkhhkbigpaoinaa
set_option linter.unusedVariables false
set_option linter.unusedSimpArgs false
open Go.RowKit Go.Maps
attribute [local irreducible] Go.wpStill

def updE (es : Int → Option EntV) (id : Int) (e : Option EntV) : Int → Option EntV := fun x => if x = id then e else es x
def entOk (es : Int → Option EntV) (id settle value frm dst : Int) : Bool := decide (1 ≤ id) && decide (id ≤ 1099511627776) && dayB settle && decide (0 ≤ value) && decide (0 ≤ frm) && decide (0 ≤ dst) && decide (frm ≠ dst) && (es id).isNone
theorem zeroP (w : World) : (zeroValue 73).run Try.prog w = .ok (.pointer none) w := by kernel_rfl
theorem DayR.bound {w : World} {B db cnt : Nat} {p : PlanV} {today : Int} {es : Int → Option EntV} (h : DayR w B db p today cnt es) : B ≤ w.heap.size := Nat.le_of_lt (Nat.lt_of_le_of_lt h.low h.lt)
theorem DayR.below {w w' : World} {B db cnt : Nat} {p : PlanV} {today : Int} {es : Int → Option EntV} (h : DayR w B db p today cnt es) (hb : Below w.heap.size w w') : DayR w' B db p today cnt es := by
  obtain ⟨cb, mc, mb, h1, h2, ⟨bl, h3, h4, h5⟩, h6, h7⟩ := h.parts
  exact ⟨h.we, h.hs, h.low, cb, mc, mb, (hb.block _ (lt_of_block h1)).trans h1, h2.keep (hb.block _ h2.lt.1) (hb.block _ h2.lt.2), ⟨bl, h3.block keyD (hb.block _ (h3.lt keyD)), fun id e he => ⟨(hb.block _ (lt_of_block (h4 id e he).1)).trans (h4 id e he).1, (h4 id e he).2⟩, h5⟩, h6, h7⟩
theorem DayR.cell18 {w : World} {db : Nat} {p : PlanV} {today : Int} (h7 : p.we.length = 7) (h6 : p.hs.length = 6) {cb mb : Nat} (hb : w.heap[db]? = some (.cells (p.bare.cells ++ #[.pointer (some ⟨cb, 0, none⟩), .int .i64 today, .map (some mb)]) 66 (0, 0))) :
    w.cell? ⟨db, 16, none⟩ = some (.pointer (some ⟨cb, 0, none⟩)) ∧ w.cell? ⟨db, 18, none⟩ = some (.map (some mb)) ∧ w.cell? ⟨db, 14, none⟩ = some (.int .i64 p.keep) ∧ w.cell? ⟨db, 15, none⟩ = some (.int .i64 p.rate) := by
  rw [cell_of_row _ _ _ _ _ _ hb, cell_of_row _ _ _ _ _ _ hb, cell_of_row _ _ _ _ _ _ hb, cell_of_row _ _ _ _ _ _ hb]
  obtain ⟨we, fs, fv, hs, keep, rate⟩ := p
  match we, h7, hs, h6 with
  | [b0, b1, b2, b3, b4, b5, b6], _, [h0, h1, h2, h3, h4, h5], _ => exact ⟨rfl, rfl, rfl, rfl⟩
/-- the map stores another instruction, in a block of its own -/
theorem DayR.add {w w1 w2 : World} {B db cnt : Nat} {p : PlanV} {today : Int} {es : Int → Option EntV} (h7 : p.we.length = 7) (h6 : p.hs.length = 6) (hlow : B ≤ db) {cb mc mb : Nat} (hb : w.heap[db]? = some (.cells (p.bare.cells ++ #[.pointer (some ⟨cb, 0, none⟩), .int .i64 today, .map (some mb)]) 66 (0, 0)))
    (hc : CalAt w cb mc p.we p.fs) {bl : Int → Nat} (hbl : ∀ id e, es id = some e → w.heap[bl id]? = some (.cells (e.cells id) 76 (0, 0)) ∧ B ≤ bl id) (hinj : ∀ id id' e e', es id = some e → es id' = some e' → bl id = bl id' → id = id') (hne : mc ≠ mb) (hBm : B ≤ mb)
    (id : Int) (e : EntV) (hw1 : w1 = w.alloc (Obj.cells (e.cells id) 76))
    (hm2 : MapAt keyD w2 mb (cnt + 1) (updM (fun id => (es id).map fun _ => Value.pointer (some ⟨bl id, 0, none⟩)) id (some (.pointer (some ⟨w.heap.size, 0, none⟩))))) (ht : w1.mapTurned w2 mb) (hmap : ∃ x c, w.heap[mb]? = some (.map x c)) :
    DayR w2 B db p today (cnt + 1) (updE es id (some e)) ∧ Below B w w2 := by
  have hBw : B ≤ w.heap.size := Nat.le_of_lt (Nat.lt_of_le_of_lt hlow (lt_of_block hb))
  have hsz : w1.heap.size = w.heap.size + 1 := by rw [hw1]; simp
  have hk : ∀ (k : Nat) (cs : Array Value) (T : TypeId), w.heap[k]? = some (Obj.cells cs T (0, 0)) → w2.heap[k]? = w.heap[k]? := fun k cs T hk => by
    have hlt := lt_of_block hk
    refine (turned_other ht (by omega) fun e => ?_).trans (by rw [hw1]; exact heap_alloc_old _ _ hlt)
    subst e
    obtain ⟨x, c, hx⟩ := hmap
    rw [hk] at hx
    cases hx
  have hkm : ∀ k, k < w.heap.size → k ≠ mb → w2.heap[k]? = w.heap[k]? := fun k hk hne => (turned_other ht (by omega) hne).trans (by rw [hw1]; exact heap_alloc_old _ _ hk)
  have hmlt : mb < w.heap.size := by obtain ⟨x, c, hx⟩ := hmap; exact lt_of_block hx
  have hnew : w2.heap[w.heap.size]? = some (.cells (e.cells id) 76 (0, 0)) := (turned_other ht (by omega) (by omega)).trans (by rw [hw1]; exact heap_alloc_new _ _)
  refine ⟨⟨h7, h6, hlow, cb, mc, mb, (hk _ _ _ hb).trans hb, ?_, ⟨fun x => if x = id then w.heap.size else bl x, hm2.same keyD fun x hx => ?_, fun x e' he => ?_, fun x x' e1 e2 he1 he2 hq => ?_⟩, hne, hBm⟩, ?_⟩
  · obtain ⟨ccs, hccs⟩ := hc.ne
    exact hc.keep (hk _ _ _ hccs) (hkm _ hc.lt.2 hne)
  · unfold updM updE
    by_cases hxi : x = id
    · simp [hxi]
    · simp [hxi]
  · unfold updE at he
    by_cases hxi : x = id
    · subst hxi
      simp at he
      subst he
      simp only [if_true]
      exact ⟨hnew, hBw⟩
    · simp only [if_neg hxi] at he ⊢
      exact ⟨(hk _ _ _ (hbl x e' he).1).trans (hbl x e' he).1, (hbl x e' he).2⟩
  · unfold updE at he1 he2
    by_cases hxi : x = id
    · by_cases hxi' : x' = id
      · rw [hxi, hxi']
      · simp only [if_neg hxi'] at he2
        simp only [if_pos hxi, if_neg hxi'] at hq
        have := lt_of_block (hbl x' e2 he2).1
        omega
    · by_cases hxi' : x' = id
      · simp only [if_neg hxi] at he1
        simp only [if_neg hxi, if_pos hxi'] at hq
        have := lt_of_block (hbl x e1 he1).1
        omega
      · simp only [if_neg hxi] at he1
        simp only [if_neg hxi'] at he2
        simp only [if_neg hxi, if_neg hxi'] at hq
        exact hinj x x' e1 e2 he1 he2 hq
  · have h1 : Below B w w1 := by rw [hw1]; exact (Below.refl _ _).alloc hBw _
    exact h1.trans (turned_below ht hBm (by omega))
def EnterP (B db cnt : Nat) (p : PlanV) (today : Int) (es : Int → Option EntV) (ok : Bool) (id : Int) (e : EntV) (w : World) (en : Ending) (w' : World) : Prop :=
  ∃ v, en = .returned v ∧ ErrB v ok ∧ Below B w w' ∧ if ok = true then DayR w' B db p today (cnt + 1) (updE es id (some e)) else w = w'
set_option maxRecDepth 100000 in
set_option maxHeartbeats 4000000 in
theorem enter_any {B db cnt : Nat} {p : PlanV} {today : Int} {es : Int → Option EntV} (id settle value frm dst : Int) (w : World) (h : DayR w B db p today cnt es) (hcnt : cnt < 4000000000000) :
    Calls Try.prog 11 #[.pointer (some ⟨db, 0, none⟩), .int .i64 id, .int .i64 settle, .int .i64 value, .int .i64 frm, .int .i64 dst] w (EnterP B db cnt p today es (entOk es id settle value frm dst) id ⟨settle, value, frm, dst, 0⟩ w) := by
  have hBw := h.bound
  obtain ⟨cb, mc, mb, hb, hc, ⟨bl, hm, hbl, hinj⟩, hne, hBm⟩ := h.parts
  obtain ⟨_, c18, _, _⟩ := DayR.cell18 h.we h.hs hb
  have HADD := Lib.hid (fun (w1 w2 : World) (hw1 : w1 = w.alloc (Obj.cells (EntV.cells id ⟨settle, value, frm, dst, 0⟩) 76)) hm2 ht => DayR.add h.we h.hs h.low hb hc hbl hinj hne hBm id ⟨settle, value, frm, dst, 0⟩ (w1 := w1) (w2 := w2) (cnt := cnt) hw1 hm2 ht (hm.isMap keyD))
  have HM := Lib.hid hm
  clear h hb hc hbl hinj hne hm
  by_cases h1 : id < 1
  · have d1 : decide (id < 1) = true := decide_eq_true h1
    have HNO := Lib.hid (show entOk es id settle value frm dst = false by simp [entOk]; omega)
    clear h1
    go_enter Try.func11, Try.ntmps11
    go_wp2_with fail
    go_ret
    exact ⟨_, rfl, by rw [HNO.out]; exact .inr ⟨rfl, _, _, rfl⟩, Below.refl _ _, by rw [HNO.out]; rfl⟩
  have d1 : decide (id < 1) = false := decide_eq_false h1
  by_cases h2 : 1099511627776 < id
  · have d2 : decide (1099511627776 < id) = true := decide_eq_true h2
    have HNO := Lib.hid (show entOk es id settle value frm dst = false by simp [entOk]; omega)
    clear h1 h2
    go_enter Try.func11, Try.ntmps11
    go_wp2_with fail
    go_ret
    exact ⟨_, rfl, by rw [HNO.out]; exact .inr ⟨rfl, _, _, rfl⟩, Below.refl _ _, by rw [HNO.out]; rfl⟩
  have d2 : decide (1099511627776 < id) = false := decide_eq_false h2
  have HG := Lib.hid (show keyD.good id by show (Lit.int .i64 id).wf = true; simp [Lit.wf, IntKind.min, IntKind.max, IntKind.signed, IntKind.bits]; omega)
  have hE0 : entOk es id settle value frm dst = (dayB settle && decide (0 ≤ value) && decide (0 ≤ frm) && decide (0 ≤ dst) && decide (frm ≠ dst) && (es id).isNone) := by
    rw [entOk, decide_eq_true (show 1 ≤ id by omega), decide_eq_true (show id ≤ 1099511627776 by omega)]; rfl
  have HE0 := Lib.hid hE0
  have HWD := Lib.hid (weekdayP_any settle)
  clear h1 h2 hE0
  cases hd : dayB settle with
  | false =>
    rw [hd] at HWD
    have HNO := Lib.hid (show entOk es id settle value frm dst = false by rw [HE0.out, hd]; simp)
    clear hd
    go_enter Try.func11, Try.ntmps11
    go_wp2_with fail
    refine (HWD.out _).mono ?_
    rintro e w5 ⟨kd, ve, rfl, hE, rfl⟩
    rcases hE with ⟨hd, rfl⟩ | ⟨hd, t1, x1, rfl⟩
    · cases hd
    · clear hd
      go_wp2_with fail
      go_ret
      exact ⟨_, rfl, by rw [HNO.out]; exact .inr ⟨rfl, _, _, rfl⟩, Below.refl _ _, by rw [HNO.out]; rfl⟩
  | true =>
    rw [hd] at HWD
    have HE1 := Lib.hid (show entOk es id settle value frm dst = (decide (0 ≤ value) && decide (0 ≤ frm) && decide (0 ≤ dst) && decide (frm ≠ dst) && (es id).isNone) by rw [HE0.out, hd]; rfl)
    clear hd HE0
    by_cases h3 : value < 0
    · have d3 : decide (value < 0) = true := decide_eq_true h3
      have HNO := Lib.hid (show entOk es id settle value frm dst = false by rw [HE1.out]; simp; omega)
      clear h3
      go_enter Try.func11, Try.ntmps11
      go_wp2_with fail
      refine (HWD.out _).mono ?_
      rintro e w5 ⟨kd, ve, rfl, hE, rfl⟩
      rcases hE with ⟨_, rfl⟩ | ⟨hd, t1, x1, rfl⟩
      · go_wp2_with fail
        go_ret
        exact ⟨_, rfl, by rw [HNO.out]; exact .inr ⟨rfl, _, _, rfl⟩, Below.refl _ _, by rw [HNO.out]; rfl⟩
      · cases hd
    have d3 : decide (value < 0) = false := decide_eq_false h3
    by_cases h4 : frm < 0
    · have d4 : decide (frm < 0) = true := decide_eq_true h4
      have HNO := Lib.hid (show entOk es id settle value frm dst = false by rw [HE1.out]; simp; omega)
      clear h3 h4
      go_enter Try.func11, Try.ntmps11
      go_wp2_with fail
      refine (HWD.out _).mono ?_
      rintro e w5 ⟨kd, ve, rfl, hE, rfl⟩
      rcases hE with ⟨_, rfl⟩ | ⟨hd, t1, x1, rfl⟩
      · go_wp2_with fail
        go_ret
        exact ⟨_, rfl, by rw [HNO.out]; exact .inr ⟨rfl, _, _, rfl⟩, Below.refl _ _, by rw [HNO.out]; rfl⟩
      · cases hd
    have d4 : decide (frm < 0) = false := decide_eq_false h4
    by_cases h5 : dst < 0
    · have d5 : decide (dst < 0) = true := decide_eq_true h5
      have HNO := Lib.hid (show entOk es id settle value frm dst = false by rw [HE1.out]; simp; omega)
      clear h3 h4 h5
      go_enter Try.func11, Try.ntmps11
      go_wp2_with fail
      refine (HWD.out _).mono ?_
      rintro e w5 ⟨kd, ve, rfl, hE, rfl⟩
      rcases hE with ⟨_, rfl⟩ | ⟨hd, t1, x1, rfl⟩
      · go_wp2_with fail
        go_ret
        exact ⟨_, rfl, by rw [HNO.out]; exact .inr ⟨rfl, _, _, rfl⟩, Below.refl _ _, by rw [HNO.out]; rfl⟩
      · cases hd
    have d5 : decide (dst < 0) = false := decide_eq_false h5
    by_cases h6 : frm = dst
    · have d6 : (frm == dst) = true := by simp [h6]
      have HNO := Lib.hid (show entOk es id settle value frm dst = false by rw [HE1.out]; simp [h6])
      clear h3 h4 h5 h6
      go_enter Try.func11, Try.ntmps11
      go_wp2_with fail
      refine (HWD.out _).mono ?_
      rintro e w5 ⟨kd, ve, rfl, hE, rfl⟩
      rcases hE with ⟨_, rfl⟩ | ⟨hd, t1, x1, rfl⟩
      · go_wp2_with fail
        go_ret
        exact ⟨_, rfl, by rw [HNO.out]; exact .inr ⟨rfl, _, _, rfl⟩, Below.refl _ _, by rw [HNO.out]; rfl⟩
      · cases hd
    have d6 : (frm == dst) = false := by simp [h6]
    have HE2 := Lib.hid (show entOk es id settle value frm dst = (es id).isNone by rw [HE1.out, decide_eq_true (show 0 ≤ value by omega), decide_eq_true (show 0 ≤ frm by omega), decide_eq_true (show 0 ≤ dst by omega), decide_eq_true h6]; rfl)
    clear h3 h4 h5 h6
    cases he : es id with
    | some e0 =>
      have HNO := Lib.hid (show entOk es id settle value frm dst = false by rw [HE2.out, he]; rfl)
      have HV := Lib.hid (show (fun id => (es id).map fun _ => Value.pointer (some ⟨bl id, 0, none⟩)) id = some (.pointer (some ⟨bl id, 0, none⟩)) by simp [he])
      clear he
      go_enter Try.func11, Try.ntmps11
      go_wp2_with fail
      refine (HWD.out _).mono ?_
      rintro e w5 ⟨kd, ve, rfl, hE, rfl⟩
      rcases hE with ⟨_, rfl⟩ | ⟨hd, t1, x1, rfl⟩
      · go_wp2_with (refine wpList_look_ok keyD rfl _ _ 64 rfl 73 Try.underlying64 (zeroP _) rfl HM.out id HG.out rfl _ HV.out ?_)
        go_ret
        exact ⟨_, rfl, by rw [HNO.out]; exact .inr ⟨rfl, _, _, rfl⟩, Below.refl _ _, by rw [HNO.out]; rfl⟩
      · cases hd
    | none =>
      have HY := Lib.hid (show entOk es id settle value frm dst = true by rw [HE2.out, he]; rfl)
      have HV := Lib.hid (show (fun id => (es id).map fun _ => Value.pointer (some ⟨bl id, 0, none⟩)) id = none by simp [he])
      clear he
      have HMX := Lib.hid (HM.out.block keyD (heap_alloc_old w (Obj.cells (EntV.cells id ⟨settle, value, frm, dst, 0⟩) 76) (HM.out.lt keyD)))
      have c18b : (w.alloc (Obj.cells (EntV.cells id ⟨settle, value, frm, dst, 0⟩) 76)).cell? ⟨db, 18, none⟩ = some (.map (some mb)) := (cell_kept (heap_alloc_old _ _ (World.block_lt_of_cell? w _ c18))).trans c18
      go_enter Try.func11, Try.ntmps11
      go_wp2_with fail
      refine (HWD.out _).mono ?_
      rintro e w5 ⟨kd, ve, rfl, hE, rfl⟩
      rcases hE with ⟨_, rfl⟩ | ⟨hd, t1, x1, rfl⟩
      · go_wp2_with (first
          | (refine wpList_look_ok keyD rfl _ _ 64 rfl 73 Try.underlying64 (zeroP _) rfl HM.out id HG.out rfl _ HV.out ?_)
          | (refine wpList_storeM keyD rfl _ _ _ 64 rfl 73 Try.underlying64 rfl HMX.out (by unfold maxLen; omega) id HG.out rfl (.pointer (some ⟨w.heap.size, 0, none⟩)) rfl ?_; intro w6 hM6 hT6))
        go_ret
        obtain ⟨r1, r2⟩ := HADD.out _ _ rfl hM6 hT6
        exact ⟨_, rfl, by rw [HY.out]; exact .inl ⟨rfl, rfl⟩, r2, by rw [HY.out]; exact r1⟩
      · cases hd
end Go.Proofs.Ytkhhkbigpaoinaa
