/- A day in memory, its blocks named; an entry's count and the date written. -/
import Derived.Test.YtkhhkbigpaoinaaDayDue
namespace Go.Proofs.Ytkhhkbigpaoinaa
set_option linter.unusedVariables false
set_option linter.unusedSimpArgs false
open Go.RowKit Go.Maps

structure DayAt (w : World) (B db cb mc mb cnt : Nat) (bl : Int → Nat) (p : PlanV) (today : Int) (es : Int → Option EntV) : Prop where
  we : p.we.length = 7
  hs : p.hs.length = 6
  low : B ≤ db
  blk : w.heap[db]? = some (.cells (p.bare.cells ++ #[.pointer (some ⟨cb, 0, none⟩), .int .i64 today, .map (some mb)]) 66 (0, 0))
  cal : CalAt w cb mc p.we p.fs
  map : MapAt keyD w mb cnt (fun id => (es id).map fun _ => .pointer (some ⟨bl id, 0, none⟩))
  ent : ∀ id e, es id = some e → w.heap[bl id]? = some (.cells (e.cells id) 76 (0, 0)) ∧ B ≤ bl id
  inj : ∀ id id' e e', es id = some e → es id' = some e' → bl id = bl id' → id = id'
  ne : mc ≠ mb
  mlow : B ≤ mb
variable {w w' : World} {B db cb mc mb cnt : Nat} {bl : Int → Nat} {p : PlanV} {today : Int} {es : Int → Option EntV}
theorem DayAt.r (h : DayAt w B db cb mc mb cnt bl p today es) : DayR w B db p today cnt es := ⟨h.we, h.hs, h.low, cb, mc, mb, h.blk, h.cal, ⟨bl, h.map, h.ent, h.inj⟩, h.ne, h.mlow⟩
theorem DayR.at (h : DayR w B db p today cnt es) : ∃ cb mc mb bl, DayAt w B db cb mc mb cnt bl p today es := by
  obtain ⟨cb, mc, mb, h1, h2, ⟨bl, h3, h4, h5⟩, h6, h7⟩ := h.parts
  exact ⟨cb, mc, mb, bl, h.we, h.hs, h.low, h1, h2, h3, h4, h5, h6, h7⟩
theorem DayAt.keep (h : DayAt w B db cb mc mb cnt bl p today es) (hk : ∀ k, k < w.heap.size → w'.heap[k]? = w.heap[k]?) : DayAt w' B db cb mc mb cnt bl p today es :=
  ⟨h.we, h.hs, h.low, (hk _ (lt_of_block h.blk)).trans h.blk, h.cal.keep (hk _ h.cal.lt.1) (hk _ h.cal.lt.2), h.map.block keyD (hk _ (h.map.lt keyD)), fun id e he => ⟨(hk _ (lt_of_block (h.ent id e he).1)).trans (h.ent id e he).1, (h.ent id e he).2⟩, h.inj, h.ne, h.mlow⟩
theorem DayAt.below (h : DayAt w B db cb mc mb cnt bl p today es) (hb : Below w.heap.size w w') : DayAt w' B db cb mc mb cnt bl p today es := h.keep hb.block
/-- a row of other elements grows -/
theorem DayAt.grown {row : Option Nat} {T : TypeId} (h : DayAt w B db cb mc mb cnt bl p today es) (hg : w.grownBy w' row) (ht : ∀ q, row = some q → ∃ cs, w.heap[q]? = some (.cells cs T (0, 0))) (h1 : T ≠ 66) (h2 : T ≠ 79) (h3 : T ≠ 76) : DayAt w' B db cb mc mb cnt bl p today es := by
  have hc : ∀ (k : Nat) (cs : Array Value) (U : TypeId), w.heap[k]? = some (Obj.cells cs U (0, 0)) → T ≠ U → w'.heap[k]? = w.heap[k]? := fun k cs U hk hne => hg.block k (lt_of_block hk) (fun e => by
    obtain ⟨cs', hq⟩ := ht k e.symm
    rw [hk] at hq
    cases hq
    exact hne rfl)
  have hm : ∀ (k : Nat), (∃ x c, w.heap[k]? = some (Obj.map x c)) → w'.heap[k]? = w.heap[k]? := fun k hk => by
    obtain ⟨x, c, hk⟩ := hk
    exact hg.block k (lt_of_block hk) (fun e => by
      obtain ⟨cs', hq⟩ := ht k e.symm
      rw [hk] at hq
      cases hq)
  obtain ⟨ccs, hccs⟩ := h.cal.ne
  have hcm : ∃ x c, w.heap[mc]? = some (Obj.map x c) := by obtain ⟨_, n, _, _, hm⟩ := h.cal; exact hm.isMap keyD
  exact ⟨h.we, h.hs, h.low, (hc _ _ _ h.blk h1).trans h.blk, h.cal.keep (hc _ _ _ hccs h2) (hm _ hcm), h.map.block keyD (hm _ (h.map.isMap keyD)), fun id e he => ⟨(hc _ _ _ (h.ent id e he).1 h3).trans (h.ent id e he).1, (h.ent id e he).2⟩, h.inj, h.ne, h.mlow⟩
/-- an entry's count is written -/
theorem DayAt.fail (h : DayAt w B db cb mc mb cnt bl p today es) {id : Int} {e : EntV} (he : es id = some e) (f : Int) : DayAt (w.setCell ⟨bl id, 5, none⟩ (.int .i64 f)) B db cb mc mb cnt bl p today (updE es id (some { e with failed := f })) ∧ Below B w (w.setCell ⟨bl id, 5, none⟩ (.int .i64 f)) := by
  obtain ⟨hb, hB⟩ := h.ent id e he
  have hsame := heap_setCell_same w (bl id) 5 _ _ (.int .i64 f) hb
  have hoth : ∀ k, k ≠ bl id → (w.setCell ⟨bl id, 5, none⟩ (.int .i64 f)).heap[k]? = w.heap[k]? := fun k hk => Below.heap_setCell w ⟨bl id, 5, none⟩ (.int .i64 f) k hk
  have hdb : db ≠ bl id := fun q => by
    have := h.blk; rw [q, hb] at this
    injection this with this
    injection this with _ this
    exact absurd this (by decide)
  obtain ⟨ccs, hccs⟩ := h.cal.ne
  have hcb : cb ≠ bl id := fun q => by
    rw [q, hb] at hccs
    injection hccs with this
    injection this with _ this
    exact absurd this (by decide)
  have hmc : mc ≠ bl id := fun q => by
    obtain ⟨_, n, _, _, hm⟩ := h.cal
    obtain ⟨x, c, hx⟩ := hm.isMap keyD
    rw [q, hb] at hx
    cases hx
  have hmb : mb ≠ bl id := fun q => by
    obtain ⟨x, c, hx⟩ := h.map.isMap keyD
    rw [q, hb] at hx
    cases hx
  refine ⟨⟨h.we, h.hs, h.low, (hoth _ hdb).trans h.blk, h.cal.keep (hoth _ hcb) (hoth _ hmc), (h.map.block keyD (hoth _ hmb)).same keyD fun x _ => ?_, fun x e' hx => ?_, fun x x' e1 e2 h1 h2 hq => ?_, h.ne, h.mlow⟩, (Below.refl _ _).setCell (p := ⟨bl id, 5, none⟩) hB (.int .i64 f)⟩
  · unfold updE
    by_cases hxi : x = id
    · subst hxi; simp [he]
    · simp [hxi]
  · unfold updE at hx
    by_cases hxi : x = id
    · subst hxi
      simp at hx
      subst hx
      exact ⟨hsame, hB⟩
    · simp only [if_neg hxi] at hx
      exact ⟨(hoth _ fun q => hxi (h.inj x id e' e hx he q)).trans (h.ent x e' hx).1, (h.ent x e' hx).2⟩
  · have g1 : ∃ e0, es x = some e0 := by
      unfold updE at h1
      by_cases hxi : x = id
      · exact ⟨e, hxi ▸ he⟩
      · simp only [if_neg hxi] at h1; exact ⟨e1, h1⟩
    have g2 : ∃ e0, es x' = some e0 := by
      unfold updE at h2
      by_cases hxi : x' = id
      · exact ⟨e, hxi ▸ he⟩
      · simp only [if_neg hxi] at h2; exact ⟨e2, h2⟩
    obtain ⟨f1, g1⟩ := g1
    obtain ⟨f2, g2⟩ := g2
    exact h.inj x x' f1 f2 g1 g2 hq
/-- an entry is taken out of the map -/
theorem DayAt.drop (h : DayAt w B db cb mc mb cnt bl p today es) (id : Int) (hm2 : MapAt keyD w' mb cnt (updM (fun id => (es id).map fun _ => Value.pointer (some ⟨bl id, 0, none⟩)) id none)) (ht : w.mapTurned w' mb) : DayAt w' B db cb mc mb cnt bl p today (updE es id none) ∧ Below B w w' := by
  have hBw : B ≤ w.heap.size := Nat.le_of_lt (Nat.lt_of_le_of_lt h.low (lt_of_block h.blk))
  have hk : ∀ (k : Nat) (cs : Array Value) (T : TypeId), w.heap[k]? = some (Obj.cells cs T (0, 0)) → w'.heap[k]? = w.heap[k]? := fun k cs T hk => by
    refine turned_other ht (lt_of_block hk) fun e => ?_
    subst e
    obtain ⟨x, c, hx⟩ := h.map.isMap keyD
    rw [hk] at hx
    cases hx
  obtain ⟨ccs, hccs⟩ := h.cal.ne
  refine ⟨⟨h.we, h.hs, h.low, (hk _ _ _ h.blk).trans h.blk, h.cal.keep (hk _ _ _ hccs) (turned_other ht h.cal.lt.2 h.ne), hm2.same keyD fun x hx => ?_, fun x e' he => ?_, fun x x' e1 e2 he1 he2 hq => ?_, h.ne, h.mlow⟩, turned_below ht h.mlow hBw⟩
  · unfold updM updE
    by_cases hxi : x = id
    · simp [hxi]
    · simp [hxi]
  · unfold updE at he
    by_cases hxi : x = id
    · simp [hxi] at he
    · simp only [if_neg hxi] at he
      exact ⟨(hk _ _ _ (h.ent x e' he).1).trans (h.ent x e' he).1, (h.ent x e' he).2⟩
  · unfold updE at he1 he2
    by_cases hxi : x = id
    · simp [hxi] at he1
    · by_cases hxi' : x' = id
      · simp [hxi'] at he2
      · simp only [if_neg hxi] at he1
        simp only [if_neg hxi'] at he2
        exact h.inj x x' e1 e2 he1 he2 hq
/-- the date is written -/
theorem DayAt.date (h : DayAt w B db cb mc mb cnt bl p today es) (m : Int) : DayAt (w.setCell ⟨db, 17, none⟩ (.int .i64 m)) B db cb mc mb cnt bl p m es ∧ Below B w (w.setCell ⟨db, 17, none⟩ (.int .i64 m)) := by
  have hsame := heap_setCell_same w db 17 _ _ (.int .i64 m) h.blk
  have hoth : ∀ k, k ≠ db → (w.setCell ⟨db, 17, none⟩ (.int .i64 m)).heap[k]? = w.heap[k]? := fun k hk => Below.heap_setCell w ⟨db, 17, none⟩ (.int .i64 m) k hk
  have hcells : (p.bare.cells ++ (#[.pointer (some ⟨cb, 0, none⟩), .int .i64 today, .map (some mb)] : Array Value)).setIfInBounds 17 (.int .i64 m) = p.bare.cells ++ (#[.pointer (some ⟨cb, 0, none⟩), .int .i64 m, .map (some mb)] : Array Value) := by
    have h7 := h.we
    have h6 := h.hs
    clear h hsame hoth
    obtain ⟨we, fs, fv, hs, keep, rate⟩ := p
    match we, h7, hs, h6 with
    | [b0, b1, b2, b3, b4, b5, b6], _, [h0, h1, h2, h3, h4, h5], _ => rfl
  rw [hcells] at hsame
  obtain ⟨ccs, hccs⟩ := h.cal.ne
  have hcb : cb ≠ db := fun q => by
    rw [q, h.blk] at hccs
    injection hccs with this
    injection this with _ this
    exact absurd this (by decide)
  have hmc : mc ≠ db := fun q => by
    obtain ⟨_, n, _, _, hm⟩ := h.cal
    obtain ⟨x, c, hx⟩ := hm.isMap keyD
    rw [q, h.blk] at hx
    cases hx
  have hmb : mb ≠ db := fun q => by
    obtain ⟨x, c, hx⟩ := h.map.isMap keyD
    rw [q, h.blk] at hx
    cases hx
  exact ⟨⟨h.we, h.hs, h.low, hsame, h.cal.keep (hoth _ hcb) (hoth _ hmc), h.map.block keyD (hoth _ hmb), fun id e he => ⟨(hoth _ fun q => by
    have hb := (h.ent id e he).1
    rw [q, h.blk] at hb
    injection hb with hb
    injection hb with _ hb
    exact absurd hb (by decide)).trans (h.ent id e he).1, (h.ent id e he).2⟩, h.inj, h.ne, h.mlow⟩, (Below.refl _ _).setCell (p := ⟨db, 17, none⟩) h.low (.int .i64 m)⟩
end Go.Proofs.Ytkhhkbigpaoinaa
