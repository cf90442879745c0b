/- prio: Remove by contract. -/
import Derived.Test.YtffioombjejchaaPrioH
namespace Go.Proofs.Ytffioombjejchaa
set_option linter.unusedVariables false
set_option linter.unusedSimpArgs false
open Go.RowKit
attribute [local irreducible] Go.wpStill

theorem exec_load_mid {P : Program} {w : World} {a : Act} {o : Oper} {x : Operand} {b off : Nat} {cs : List Value} {T : TypeId} {d : TypeDesc} (hc : w.rangeAt b off cs) (ho : o.op = .load T x) (hx : a.eval x = .pointer (some ⟨b, off, none⟩)) (hu : P.underlying T = some d) (hd : d.isRow = true) (hi : (P.info? T).map (·.size) = some cs.length) : (execOp a.eval o).run P w = .ok (.value (.agg cs.toArray)) w := by
  unfold execOp
  simp only [ho, hx, Instr.loadAt, Instr.sureAddr, Sem.run_bind, Sem.run_pure, Result.andThen_ok, run_loadVar_mid w b off T cs d hc hu hd hi]
theorem rangeAt_of_row {w : World} {b : Nat} {cs : Array Value} {t : TypeId} {fr : Nat × Nat} (h : w.heap[b]? = some (.cells cs t fr)) (off : Nat) (l : List Value) (hl : ∀ j v, l[j]? = some v → cs[off + j]? = some v) : w.rangeAt b off l := fun j v hv => by
  rw [cell_of_row _ _ _ _ _ _ h]; exact hl j v hv
/-- a function that tells of a pair whether it is so -/
def Asks (v : Value) (p : Pair → Bool) (w0 : World) : Prop := ∃ f cap, v = .func (.func f) #[] cap ∧ (∀ args w, (callFunc f args).run Try.prog w = .ok (.enter f args) w) ∧ ∀ (w : World) (x : Pair), Below w0.heap.size w0 w → Calls Try.prog f (#[.agg #[.int .i64 x.1, .int .i64 x.2]] ++ cap) w (RetB (p x) w)
/-- the best one so far -/
def Best (fall : Bool) (p : Pair → Bool) (es : List (Pair × Int)) (k : Nat) (b : Option Nat) : Prop :=
  match b with
  | none => ∀ j, j < k → p (HP.at' es j).1 = false
  | some b => b < k ∧ p (HP.at' es b).1 = true ∧ ∀ j, j < k → p (HP.at' es j).1 = true → HP.le (aheadP fall) (HP.at' es b) (HP.at' es j)
def bestV (b : Option Nat) : Int := match b with | none => -1 | some b => b
theorem Best.skip {fall : Bool} {p : Pair → Bool} {es : List (Pair × Int)} {k : Nat} {b : Option Nat} (h : Best fall p es k b) (hk : p (HP.at' es k).1 = false) : Best fall p es (k + 1) b := by
  cases b with
  | none =>
    intro j hj
    by_cases e : j = k
    · subst e; exact hk
    · exact h j (by omega)
  | some b =>
    refine ⟨by have := h.1; omega, h.2.1, fun j hj hp => ?_⟩
    by_cases e : j = k
    · subst e; rw [hk] at hp; cases hp
    · exact h.2.2 j (by omega) hp
theorem Live.range {w : World} {h c g cap n : Nat} {fall : Bool} {es : List (Pair × Int)} {came : Int} (a : Live w h c fall es came (.slice (some ⟨g, 0, none⟩) n cap)) (i : Nat) (hi : i < es.length) : w.rangeAt g (i * 3) (encP (HP.at' es i)) := fun j v hv => by
  have hj : j < 3 := by have := (List.getElem?_eq_some_iff.1 hv).1; simpa [encP] using this
  rw [a.ent i hi j hj]; exact hv
theorem Best.first {fall : Bool} {p : Pair → Bool} {es : List (Pair × Int)} {k : Nat} (h : Best fall p es k none) (hk : p (HP.at' es k).1 = true) : Best fall p es (k + 1) (some k) :=
  ⟨by omega, hk, fun j hj hp => by
    by_cases e : j = k
    · subst e; exact aheadP_refl _ _
    · rw [h j (by omega)] at hp; cases hp⟩
theorem Best.better {fall : Bool} {p : Pair → Bool} {es : List (Pair × Int)} {k b : Nat} (h : Best fall p es k (some b)) (hk : p (HP.at' es k).1 = true) (ha : aheadP fall (HP.at' es k) (HP.at' es b) = true) : Best fall p es (k + 1) (some k) :=
  ⟨by omega, hk, fun j hj hp => by
    by_cases e : j = k
    · subst e; exact aheadP_refl _ _
    · exact (aheadP_ord fall).trans _ _ _ ((aheadP_ord fall).asym _ _ ha) (h.2.2 j (by omega) hp)⟩
theorem Best.stay {fall : Bool} {p : Pair → Bool} {es : List (Pair × Int)} {k b : Nat} (h : Best fall p es k (some b)) (ha : aheadP fall (HP.at' es k) (HP.at' es b) = false) : Best fall p es (k + 1) (some b) :=
  ⟨by have := h.1; omega, h.2.1, fun j hj hp => by
    by_cases e : j = k
    · subst e; exact ha
    · exact h.2.2 j (by omega) hp⟩
def RemovePost (w : World) (h c : Nat) (fall : Bool) (p : Pair → Bool) (es : List (Pair × Int)) (came : Int) (r : Option Nat) (e : Ending) (w' : World) : Prop :=
  (e = .returned (.tuple #[.agg #[.int .i64 0, .int .i64 0], .bool false]) ∧ (∀ j, j < es.length → p (HP.at' es j).1 = false) ∧ Below w.heap.size w w') ∨
  ∃ b es', b < es.length ∧ Best fall p es es.length (some b) ∧ e = .returned (.tuple #[.agg #[.int .i64 (HP.at' es b).1.1, .int .i64 (HP.at' es b).1.2], .bool true]) ∧ HeapAt w' h c fall es' came r ∧ es.Perm (HP.at' es b :: es') ∧ Tch w w' h r r

set_option maxRecDepth 100000 in
set_option maxHeartbeats 4000000 in
theorem remove_any (h c : Nat) (fall : Bool) (p : Pair → Bool) (isv : Value) (es : List (Pair × Int)) (came : Int) (r : Option Nat) (w : World) (hA : HeapAt w h c fall es came r) (hn : 0 < es.length) (hb : es.length ≤ 140737488351232) (hI : Asks isv p w) :
    Calls Try.prog 18 #[.pointer (some ⟨h, 0, none⟩), isv] w (RemovePost w h c fall p es came r) := by
  obtain ⟨sl, hr, hL, hH⟩ := hA
  obtain ⟨g, cap, rfl, hgh⟩ := hL.row hn
  subst hr
  obtain ⟨f, fcap, rfl, hcall, hT⟩ := hI
  have c1 : w.cell? ⟨h, 1, none⟩ = some (.slice (some ⟨g, 0, none⟩) es.length cap) := by rw [cell_of_row _ _ _ _ _ _ hL.2.1]; rfl
  obtain ⟨hg1, hg2⟩ := hL.glt
  have hhl := hL.hlt
  have hb1 : Below w.heap.size w (w.alloc (.cells #[.int .i64 0, .int .i64 0] 25)) := (Below.refl _ _).alloc (Nat.le_refl _) _
  have hb2 := heap_alloc_new w (.cells #[.int .i64 0, .int .i64 0] 25)
  have HB1 := Lib.hid hb1
  have HB2 := Lib.hid hb2
  have HH := Lib.hid hH
  have HT := Lib.hid hT
  clear hb1 hb2 hH hT
  go_enter Try.func18, Try.ntmps18
  go_wp2_with fail
  have hL1 := hL.below HB1.out
  have hsz1 : w.heap.size < (w.alloc (.cells #[.int .i64 0, .int .i64 0] 25)).heap.size := by simp
  generalize w.alloc (.cells #[.int .i64 0, .int .i64 0] 25) = w1 at HB1 HB2 hL1 hsz1 ⊢
  go_loopw [6, 15] (fun bv iv wr => ∃ (b : Option Nat) (k : Nat), k ≤ es.length ∧ iv = .int .i64 k ∧ bv = .int .i64 (bestV b) ∧ Best fall p es k b ∧ Below w1.heap.size w1 wr) (fun _ iv _ => es.length - (intOf iv).toNat)
  case atStart => exact ⟨none, 0, by omega, rfl, rfl, fun j hj => by omega, Below.refl _ _⟩
  case round =>
    obtain ⟨b, k, hk, rfl, rfl, hB, hW⟩ := hrel
    by_cases hlt : k < es.length
    · have hLr := hL1.below hW
      have e0 := hLr.ent k hlt 0 (by omega)
      have e1 := hLr.ent k hlt 1 (by omega)
      have e2 := hLr.ent k hlt 2 (by omega)
      simp only [encP, List.getElem?_cons_zero, List.getElem?_cons_succ, Nat.add_zero] at e0 e1 e2
      have HBEST := Lib.hid hB
      clear hB
      go_wp2_with fail
      have hW5 : Below w1.heap.size w1 (wr.alloc (.cells #[.int .i64 (HP.at' es k).1.1, .int .i64 (HP.at' es k).1.2, .int .i64 (HP.at' es k).2] 68)) := hW.alloc hW.size _
      have hR5 := heap_alloc_new wr (.cells #[.int .i64 (HP.at' es k).1.1, .int .i64 (HP.at' es k).1.2, .int .i64 (HP.at' es k).2] 68)
      generalize wr.alloc (.cells #[.int .i64 (HP.at' es k).1.1, .int .i64 (HP.at' es k).1.2, .int .i64 (HP.at' es k).2] 68) = w5 at hW5 hR5 ⊢
      generalize wr.heap.size = bx at hR5 ⊢
      have hh1 := hL1.hlt
      clear e0 e1 e2 hLr hW
      rename_i HK _
      cases hp1 : p (HP.at' es k).1
      · have HP1 := Lib.hid hp1
        clear hp1
        refine wp_region_held_drew (S := fun w' => Below w1.heap.size w1 w' ∧ w'.heap[bx]? = some (.cells #[.int .i64 (HP.at' es k).1.1, .int .i64 (HP.at' es k).1.2, .int .i64 (HP.at' es k).2] 68 (0, 0))) (by kernel_rfl) ⟨hW5.drew, hR5⟩ (fun hHeld => ?_)
        (refine rg_yes 0 ?v1 (by simp only [List.getElem?_toArray, List.getElem?_cons_succ, List.getElem?_cons_zero]; rfl) (by kernel_rfl) (by kernel_rfl) (by kernel_rfl) (by exact fun _ _ _ h => h) (by kernel_rfl) (by assumption) ?y1 ?z1; case y1 => (intro w hSw; (try dsimp only at hSw); go_simp; (try (rw [if_neg (by omega)])); (try with_reducible rfl)))
        (try simp only [Act.put, List.setIfInBounds_toArray, List.set_cons_zero, List.set_cons_succ])
        (refine rg_yes 1 ?v2 (by simp only [List.getElem?_toArray, List.getElem?_cons_succ, List.getElem?_cons_zero]; rfl) (by kernel_rfl) (by kernel_rfl) (by kernel_rfl) (by exact fun _ _ _ h => h) (by kernel_rfl) (by assumption) ?y2 ?z2; case y2 => (intro w hSw; (try dsimp only at hSw); go_simp; (try (rw [if_neg (by omega)])); (try with_reducible rfl)))
        (try simp only [Act.put, List.setIfInBounds_toArray, List.set_cons_zero, List.set_cons_succ])
        refine rg_yes 2 _ (by simp only [List.getElem?_toArray, List.getElem?_cons_succ, List.getElem?_cons_zero]; rfl) (by kernel_rfl) (by kernel_rfl) (by kernel_rfl) (by exact fun _ _ _ h => h) (by kernel_rfl) (by assumption) (by exact fun w' hS => (exec_load_mid (rangeAt_of_row hS.2 0 [.int .i64 (HP.at' es k).1.1, .int .i64 (HP.at' es k).1.2] (fun j v hv => by rcases j with _ | _ | j <;> simp at hv ⊢ <;> exact hv)) rfl rfl Try.underlying25 rfl (by kernel_rfl))) ?_
        (try simp only [Act.put, List.setIfInBounds_toArray, List.set_cons_zero, List.set_cons_succ])
        refine rg_call 3 _ _ (by simp only [List.getElem?_toArray, List.getElem?_cons_succ, List.getElem?_cons_zero]; rfl) (by kernel_rfl) (by kernel_rfl) (fun w => by go_simp; exact ⟨rfl, rfl⟩) ?_
        refine (HT.out _ (HP.at' es k).1 (HB1.out.trans (hHeld.1.mono (Nat.le_of_lt hsz1)))).mono ?_
        rintro e w6 ⟨rfl, hb6⟩
        refine ⟨_, rfl, ⟨hHeld.1.trans (hb6.mono hHeld.1.size), rowAt_below hHeld.2 hb6⟩, fun hHeld => ?_⟩
        rw [HP1.out]
        (try simp only [Act.put, List.setIfInBounds_toArray, List.set_cons_zero, List.set_cons_succ])
        (refine rg_yes 4 ?v3 (by simp only [List.getElem?_toArray, List.getElem?_cons_succ, List.getElem?_cons_zero]; rfl) (by kernel_rfl) (by kernel_rfl) (by kernel_rfl) (by exact fun _ _ _ h => h) (by kernel_rfl) (by assumption) ?y3 ?z3; case y3 => (intro w hSw; (try dsimp only at hSw); go_simp; (try (rw [if_neg (by omega)])); (try with_reducible rfl)))
        (try simp only [Act.put, List.setIfInBounds_toArray, List.set_cons_zero, List.set_cons_succ])
        (refine rg_no 5 (by simp only [List.getElem?_toArray, List.getElem?_cons_succ, List.getElem?_cons_zero]; rfl) (by kernel_rfl) (by kernel_rfl) (by kernel_rfl) (by exact fun _ _ _ h => h) (by kernel_rfl) (by assumption) ?_)
        (try simp only [Act.put, List.setIfInBounds_toArray, List.set_cons_zero, List.set_cons_succ])
        (refine rg_no 6 (by simp only [List.getElem?_toArray, List.getElem?_cons_succ, List.getElem?_cons_zero]; rfl) (by kernel_rfl) (by kernel_rfl) (by kernel_rfl) (by exact fun _ _ _ h => h) (by kernel_rfl) (by assumption) ?_)
        (try simp only [Act.put, List.setIfInBounds_toArray, List.set_cons_zero, List.set_cons_succ])
        (refine rg_no 7 (by simp only [List.getElem?_toArray, List.getElem?_cons_succ, List.getElem?_cons_zero]; rfl) (by kernel_rfl) (by kernel_rfl) (by kernel_rfl) (by exact fun _ _ _ h => h) (by kernel_rfl) (by assumption) ?_)
        (try simp only [Act.put, List.setIfInBounds_toArray, List.set_cons_zero, List.set_cons_succ])
        (refine rg_no 8 (by simp only [List.getElem?_toArray, List.getElem?_cons_succ, List.getElem?_cons_zero]; rfl) (by kernel_rfl) (by kernel_rfl) (by kernel_rfl) (by exact fun _ _ _ h => h) (by kernel_rfl) (by assumption) ?_)
        (try simp only [Act.put, List.setIfInBounds_toArray, List.set_cons_zero, List.set_cons_succ])
        (refine rg_no 9 (by simp only [List.getElem?_toArray, List.getElem?_cons_succ, List.getElem?_cons_zero]; rfl) (by kernel_rfl) (by kernel_rfl) (by kernel_rfl) (by exact fun _ _ _ h => h) (by kernel_rfl) (by assumption) ?_)
        (try simp only [Act.put, List.setIfInBounds_toArray, List.set_cons_zero, List.set_cons_succ])
        (refine rg_no 10 (by simp only [List.getElem?_toArray, List.getElem?_cons_succ, List.getElem?_cons_zero]; rfl) (by kernel_rfl) (by kernel_rfl) (by kernel_rfl) (by exact fun _ _ _ h => h) (by kernel_rfl) (by assumption) ?_)
        (try simp only [Act.put, List.setIfInBounds_toArray, List.set_cons_zero, List.set_cons_succ])
        (refine rg_no 11 (by simp only [List.getElem?_toArray, List.getElem?_cons_succ, List.getElem?_cons_zero]; rfl) (by kernel_rfl) (by kernel_rfl) (by kernel_rfl) (by exact fun _ _ _ h => h) (by kernel_rfl) (by assumption) ?_)
        (try simp only [Act.put, List.setIfInBounds_toArray, List.set_cons_zero, List.set_cons_succ])
        (refine rg_no 12 (by simp only [List.getElem?_toArray, List.getElem?_cons_succ, List.getElem?_cons_zero]; rfl) (by kernel_rfl) (by kernel_rfl) (by kernel_rfl) (by exact fun _ _ _ h => h) (by kernel_rfl) (by assumption) ?_)
        (try simp only [Act.put, List.setIfInBounds_toArray, List.set_cons_zero, List.set_cons_succ])
        (refine rg_no 13 (by simp only [List.getElem?_toArray, List.getElem?_cons_succ, List.getElem?_cons_zero]; rfl) (by kernel_rfl) (by kernel_rfl) (by kernel_rfl) (by exact fun _ _ _ h => h) (by kernel_rfl) (by assumption) ?_)
        (try simp only [Act.put, List.setIfInBounds_toArray, List.set_cons_zero, List.set_cons_succ])
        (refine rg_no 14 (by simp only [List.getElem?_toArray, List.getElem?_cons_succ, List.getElem?_cons_zero]; rfl) (by kernel_rfl) (by kernel_rfl) (by kernel_rfl) (by exact fun _ _ _ h => h) (by kernel_rfl) (by assumption) ?_)
        (try simp only [Act.put, List.setIfInBounds_toArray, List.set_cons_zero, List.set_cons_succ])
        (refine rg_no 15 (by simp only [List.getElem?_toArray, List.getElem?_cons_succ, List.getElem?_cons_zero]; rfl) (by kernel_rfl) (by kernel_rfl) (by kernel_rfl) (by exact fun _ _ _ h => h) (by kernel_rfl) (by assumption) ?_)
        (try simp only [Act.put, List.setIfInBounds_toArray, List.set_cons_zero, List.set_cons_succ])
        (refine rg_no 16 (by simp only [List.getElem?_toArray, List.getElem?_cons_succ, List.getElem?_cons_zero]; rfl) (by kernel_rfl) (by kernel_rfl) (by kernel_rfl) (by exact fun _ _ _ h => h) (by kernel_rfl) (by assumption) ?_)
        (try simp only [Act.put, List.setIfInBounds_toArray, List.set_cons_zero, List.set_cons_succ])
        (refine rg_no 17 (by simp only [List.getElem?_toArray, List.getElem?_cons_succ, List.getElem?_cons_zero]; rfl) (by kernel_rfl) (by kernel_rfl) (by kernel_rfl) (by exact fun _ _ _ h => h) (by kernel_rfl) (by assumption) ?_)
        (try simp only [Act.put, List.setIfInBounds_toArray, List.set_cons_zero, List.set_cons_succ])
        (refine rg_no 18 (by simp only [List.getElem?_toArray, List.getElem?_cons_succ, List.getElem?_cons_zero]; rfl) (by kernel_rfl) (by kernel_rfl) (by kernel_rfl) (by exact fun _ _ _ h => h) (by kernel_rfl) (by assumption) ?_)
        (try simp only [Act.put, List.setIfInBounds_toArray, List.set_cons_zero, List.set_cons_succ])
        (refine rg_no 19 (by simp only [List.getElem?_toArray, List.getElem?_cons_succ, List.getElem?_cons_zero]; rfl) (by kernel_rfl) (by kernel_rfl) (by kernel_rfl) (by exact fun _ _ _ h => h) (by kernel_rfl) (by assumption) ?_)
        (try simp only [Act.put, List.setIfInBounds_toArray, List.set_cons_zero, List.set_cons_succ])
        (refine rg_no 20 (by simp only [List.getElem?_toArray, List.getElem?_cons_succ, List.getElem?_cons_zero]; rfl) (by kernel_rfl) (by kernel_rfl) (by kernel_rfl) (by exact fun _ _ _ h => h) (by kernel_rfl) (by assumption) ?_)
        (try simp only [Act.put, List.setIfInBounds_toArray, List.set_cons_zero, List.set_cons_succ])
        (refine rg_no 21 (by simp only [List.getElem?_toArray, List.getElem?_cons_succ, List.getElem?_cons_zero]; rfl) (by kernel_rfl) (by kernel_rfl) (by kernel_rfl) (by exact fun _ _ _ h => h) (by kernel_rfl) (by assumption) ?_)
        (try simp only [Act.put, List.setIfInBounds_toArray, List.set_cons_zero, List.set_cons_succ])
        (refine rg_yes 22 ?v21 (by simp only [List.getElem?_toArray, List.getElem?_cons_succ, List.getElem?_cons_zero]; rfl) (by kernel_rfl) (by kernel_rfl) (by kernel_rfl) (by exact fun _ _ _ h => h) (by kernel_rfl) (by assumption) ?y21 ?z21; case y21 => (intro w hSw; (try dsimp only at hSw); go_simp; (try (rw [if_neg (by omega)])); (try with_reducible rfl)))
        (try simp only [Act.put, List.setIfInBounds_toArray, List.set_cons_zero, List.set_cons_succ])
        refine wpAnyH_done (by kernel_rfl) ?_ _
        go_wp2_with fail
        exact ⟨⟨b, k + 1, by omega, by go_num, rfl, HBEST.out.skip HP1.out, hHeld.1⟩, by simp [intOf]; omega⟩
      · have HP1 := Lib.hid hp1
        clear hp1
        cases b with
        | none =>
          simp only [bestV]
          refine wp_region_held_drew (S := fun w' => Below w1.heap.size w1 w' ∧ w'.heap[bx]? = some (.cells #[.int .i64 (HP.at' es k).1.1, .int .i64 (HP.at' es k).1.2, .int .i64 (HP.at' es k).2] 68 (0, 0))) (by kernel_rfl) ⟨hW5.drew, hR5⟩ (fun hHeld => ?_)
          (refine rg_yes 0 ?v22 (by simp only [List.getElem?_toArray, List.getElem?_cons_succ, List.getElem?_cons_zero]; rfl) (by kernel_rfl) (by kernel_rfl) (by kernel_rfl) (by exact fun _ _ _ h => h) (by kernel_rfl) (by assumption) ?y22 ?z22; case y22 => (intro w hSw; (try dsimp only at hSw); go_simp; (try (rw [if_neg (by omega)])); (try with_reducible rfl)))
          (try simp only [Act.put, List.setIfInBounds_toArray, List.set_cons_zero, List.set_cons_succ])
          (refine rg_yes 1 ?v23 (by simp only [List.getElem?_toArray, List.getElem?_cons_succ, List.getElem?_cons_zero]; rfl) (by kernel_rfl) (by kernel_rfl) (by kernel_rfl) (by exact fun _ _ _ h => h) (by kernel_rfl) (by assumption) ?y23 ?z23; case y23 => (intro w hSw; (try dsimp only at hSw); go_simp; (try (rw [if_neg (by omega)])); (try with_reducible rfl)))
          (try simp only [Act.put, List.setIfInBounds_toArray, List.set_cons_zero, List.set_cons_succ])
          refine rg_yes 2 _ (by simp only [List.getElem?_toArray, List.getElem?_cons_succ, List.getElem?_cons_zero]; rfl) (by kernel_rfl) (by kernel_rfl) (by kernel_rfl) (by exact fun _ _ _ h => h) (by kernel_rfl) (by assumption) (by exact fun w' hS => (exec_load_mid (rangeAt_of_row hS.2 0 [.int .i64 (HP.at' es k).1.1, .int .i64 (HP.at' es k).1.2] (fun j v hv => by rcases j with _ | _ | j <;> simp at hv ⊢ <;> exact hv)) rfl rfl Try.underlying25 rfl (by kernel_rfl))) ?_
          (try simp only [Act.put, List.setIfInBounds_toArray, List.set_cons_zero, List.set_cons_succ])
          refine rg_call 3 _ _ (by simp only [List.getElem?_toArray, List.getElem?_cons_succ, List.getElem?_cons_zero]; rfl) (by kernel_rfl) (by kernel_rfl) (fun w => by go_simp; exact ⟨rfl, rfl⟩) ?_
          refine (HT.out _ (HP.at' es k).1 (HB1.out.trans (hHeld.1.mono (Nat.le_of_lt hsz1)))).mono ?_
          rintro e w6 ⟨rfl, hb6⟩
          refine ⟨_, rfl, ⟨hHeld.1.trans (hb6.mono hHeld.1.size), rowAt_below hHeld.2 hb6⟩, fun hHeld => ?_⟩
          rw [HP1.out]
          (try simp only [Act.put, List.setIfInBounds_toArray, List.set_cons_zero, List.set_cons_succ])
          (refine rg_yes 4 ?v24 (by simp only [List.getElem?_toArray, List.getElem?_cons_succ, List.getElem?_cons_zero]; rfl) (by kernel_rfl) (by kernel_rfl) (by kernel_rfl) (by exact fun _ _ _ h => h) (by kernel_rfl) (by assumption) ?y24 ?z24; case y24 => (intro w hSw; (try dsimp only at hSw); go_simp; (try (rw [if_neg (by omega)])); (try with_reducible rfl)))
          (try simp only [Act.put, List.setIfInBounds_toArray, List.set_cons_zero, List.set_cons_succ])
          (refine rg_yes 5 ?v25 (by simp only [List.getElem?_toArray, List.getElem?_cons_succ, List.getElem?_cons_zero]; rfl) (by kernel_rfl) (by kernel_rfl) (by kernel_rfl) (by exact fun _ _ _ h => h) (by kernel_rfl) (by assumption) ?y25 ?z25; case y25 => (intro w hSw; (try dsimp only at hSw); go_simp; (try (rw [if_neg (by omega)])); (try with_reducible rfl)))
          (try simp only [Act.put, List.setIfInBounds_toArray, List.set_cons_zero, List.set_cons_succ])
          (refine rg_yes 6 ?v26 (by simp only [List.getElem?_toArray, List.getElem?_cons_succ, List.getElem?_cons_zero]; rfl) (by kernel_rfl) (by kernel_rfl) (by kernel_rfl) (by exact fun _ _ _ h => h) (by kernel_rfl) (by assumption) ?y26 ?z26; case y26 => (intro w hSw; (try dsimp only at hSw); go_simp; (try (rw [if_neg (by omega)])); (try with_reducible rfl)))
          (try simp only [Act.put, List.setIfInBounds_toArray, List.set_cons_zero, List.set_cons_succ])
          (refine rg_yes 7 ?v27 (by simp only [List.getElem?_toArray, List.getElem?_cons_succ, List.getElem?_cons_zero]; rfl) (by kernel_rfl) (by kernel_rfl) (by kernel_rfl) (by exact fun _ _ _ h => h) (by kernel_rfl) (by assumption) ?y27 ?z27; case y27 => (intro w hSw; (try dsimp only at hSw); go_simp; (try (rw [if_neg (by omega)])); (try with_reducible rfl)))
          (try simp only [Act.put, List.setIfInBounds_toArray, List.set_cons_zero, List.set_cons_succ])
          (refine rg_no 8 (by simp only [List.getElem?_toArray, List.getElem?_cons_succ, List.getElem?_cons_zero]; rfl) (by kernel_rfl) (by kernel_rfl) (by kernel_rfl) (by exact fun _ _ _ h => h) (by kernel_rfl) (by assumption) ?_)
          (try simp only [Act.put, List.setIfInBounds_toArray, List.set_cons_zero, List.set_cons_succ])
          (refine rg_no 9 (by simp only [List.getElem?_toArray, List.getElem?_cons_succ, List.getElem?_cons_zero]; rfl) (by kernel_rfl) (by kernel_rfl) (by kernel_rfl) (by exact fun _ _ _ h => h) (by kernel_rfl) (by assumption) ?_)
          (try simp only [Act.put, List.setIfInBounds_toArray, List.set_cons_zero, List.set_cons_succ])
          (refine rg_no 10 (by simp only [List.getElem?_toArray, List.getElem?_cons_succ, List.getElem?_cons_zero]; rfl) (by kernel_rfl) (by kernel_rfl) (by kernel_rfl) (by exact fun _ _ _ h => h) (by kernel_rfl) (by assumption) ?_)
          (try simp only [Act.put, List.setIfInBounds_toArray, List.set_cons_zero, List.set_cons_succ])
          (refine rg_no 11 (by simp only [List.getElem?_toArray, List.getElem?_cons_succ, List.getElem?_cons_zero]; rfl) (by kernel_rfl) (by kernel_rfl) (by kernel_rfl) (by exact fun _ _ _ h => h) (by kernel_rfl) (by assumption) ?_)
          (try simp only [Act.put, List.setIfInBounds_toArray, List.set_cons_zero, List.set_cons_succ])
          (refine rg_no 12 (by simp only [List.getElem?_toArray, List.getElem?_cons_succ, List.getElem?_cons_zero]; rfl) (by kernel_rfl) (by kernel_rfl) (by kernel_rfl) (by exact fun _ _ _ h => h) (by kernel_rfl) (by assumption) ?_)
          (try simp only [Act.put, List.setIfInBounds_toArray, List.set_cons_zero, List.set_cons_succ])
          (refine rg_no 13 (by simp only [List.getElem?_toArray, List.getElem?_cons_succ, List.getElem?_cons_zero]; rfl) (by kernel_rfl) (by kernel_rfl) (by kernel_rfl) (by exact fun _ _ _ h => h) (by kernel_rfl) (by assumption) ?_)
          (try simp only [Act.put, List.setIfInBounds_toArray, List.set_cons_zero, List.set_cons_succ])
          (refine rg_no 14 (by simp only [List.getElem?_toArray, List.getElem?_cons_succ, List.getElem?_cons_zero]; rfl) (by kernel_rfl) (by kernel_rfl) (by kernel_rfl) (by exact fun _ _ _ h => h) (by kernel_rfl) (by assumption) ?_)
          (try simp only [Act.put, List.setIfInBounds_toArray, List.set_cons_zero, List.set_cons_succ])
          (refine rg_no 15 (by simp only [List.getElem?_toArray, List.getElem?_cons_succ, List.getElem?_cons_zero]; rfl) (by kernel_rfl) (by kernel_rfl) (by kernel_rfl) (by exact fun _ _ _ h => h) (by kernel_rfl) (by assumption) ?_)
          (try simp only [Act.put, List.setIfInBounds_toArray, List.set_cons_zero, List.set_cons_succ])
          (refine rg_no 16 (by simp only [List.getElem?_toArray, List.getElem?_cons_succ, List.getElem?_cons_zero]; rfl) (by kernel_rfl) (by kernel_rfl) (by kernel_rfl) (by exact fun _ _ _ h => h) (by kernel_rfl) (by assumption) ?_)
          (try simp only [Act.put, List.setIfInBounds_toArray, List.set_cons_zero, List.set_cons_succ])
          (refine rg_no 17 (by simp only [List.getElem?_toArray, List.getElem?_cons_succ, List.getElem?_cons_zero]; rfl) (by kernel_rfl) (by kernel_rfl) (by kernel_rfl) (by exact fun _ _ _ h => h) (by kernel_rfl) (by assumption) ?_)
          (try simp only [Act.put, List.setIfInBounds_toArray, List.set_cons_zero, List.set_cons_succ])
          (refine rg_no 18 (by simp only [List.getElem?_toArray, List.getElem?_cons_succ, List.getElem?_cons_zero]; rfl) (by kernel_rfl) (by kernel_rfl) (by kernel_rfl) (by exact fun _ _ _ h => h) (by kernel_rfl) (by assumption) ?_)
          (try simp only [Act.put, List.setIfInBounds_toArray, List.set_cons_zero, List.set_cons_succ])
          (refine rg_no 19 (by simp only [List.getElem?_toArray, List.getElem?_cons_succ, List.getElem?_cons_zero]; rfl) (by kernel_rfl) (by kernel_rfl) (by kernel_rfl) (by exact fun _ _ _ h => h) (by kernel_rfl) (by assumption) ?_)
          (try simp only [Act.put, List.setIfInBounds_toArray, List.set_cons_zero, List.set_cons_succ])
          (refine rg_no 20 (by simp only [List.getElem?_toArray, List.getElem?_cons_succ, List.getElem?_cons_zero]; rfl) (by kernel_rfl) (by kernel_rfl) (by kernel_rfl) (by exact fun _ _ _ h => h) (by kernel_rfl) (by assumption) ?_)
          (try simp only [Act.put, List.setIfInBounds_toArray, List.set_cons_zero, List.set_cons_succ])
          (refine rg_yes 21 ?v41 (by simp only [List.getElem?_toArray, List.getElem?_cons_succ, List.getElem?_cons_zero]; rfl) (by kernel_rfl) (by kernel_rfl) (by kernel_rfl) (by exact fun _ _ _ h => h) (by kernel_rfl) (by assumption) ?y41 ?z41; case y41 => (intro w hSw; (try dsimp only at hSw); go_simp; (try (rw [if_neg (by omega)])); (try with_reducible rfl)))
          (try simp only [Act.put, List.setIfInBounds_toArray, List.set_cons_zero, List.set_cons_succ])
          (refine rg_yes 22 ?v42 (by simp only [List.getElem?_toArray, List.getElem?_cons_succ, List.getElem?_cons_zero]; rfl) (by kernel_rfl) (by kernel_rfl) (by kernel_rfl) (by exact fun _ _ _ h => h) (by kernel_rfl) (by assumption) ?y42 ?z42; case y42 => (intro w hSw; (try dsimp only at hSw); go_simp; (try (rw [if_neg (by omega)])); (try with_reducible rfl)))
          (try simp only [Act.put, List.setIfInBounds_toArray, List.set_cons_zero, List.set_cons_succ])
          refine wpAnyH_done (by kernel_rfl) ?_ _
          go_wp2_with fail
          exact ⟨⟨some k, k + 1, by omega, by go_num, rfl, HBEST.out.first HP1.out, hHeld.1⟩, by simp [intOf]; omega⟩
        | some b =>
          have hbk := HBEST.out.1
          have hbE : b < es.length := by omega
          simp only [bestV]
          cases ha : aheadP fall (HP.at' es k) (HP.at' es b)
          · have HA := Lib.hid ha
            clear ha
            refine wp_region_held_drew (S := fun w' => Below w1.heap.size w1 w' ∧ w'.heap[bx]? = some (.cells #[.int .i64 (HP.at' es k).1.1, .int .i64 (HP.at' es k).1.2, .int .i64 (HP.at' es k).2] 68 (0, 0))) (by kernel_rfl) ⟨hW5.drew, hR5⟩ (fun hHeld => ?_)
            (refine rg_yes 0 ?v43 (by simp only [List.getElem?_toArray, List.getElem?_cons_succ, List.getElem?_cons_zero]; rfl) (by kernel_rfl) (by kernel_rfl) (by kernel_rfl) (by exact fun _ _ _ h => h) (by kernel_rfl) (by assumption) ?y43 ?z43; case y43 => (intro w hSw; (try dsimp only at hSw); go_simp; (try (rw [if_neg (by omega)])); (try with_reducible rfl)))
            (try simp only [Act.put, List.setIfInBounds_toArray, List.set_cons_zero, List.set_cons_succ])
            (refine rg_yes 1 ?v44 (by simp only [List.getElem?_toArray, List.getElem?_cons_succ, List.getElem?_cons_zero]; rfl) (by kernel_rfl) (by kernel_rfl) (by kernel_rfl) (by exact fun _ _ _ h => h) (by kernel_rfl) (by assumption) ?y44 ?z44; case y44 => (intro w hSw; (try dsimp only at hSw); go_simp; (try (rw [if_neg (by omega)])); (try with_reducible rfl)))
            (try simp only [Act.put, List.setIfInBounds_toArray, List.set_cons_zero, List.set_cons_succ])
            refine rg_yes 2 _ (by simp only [List.getElem?_toArray, List.getElem?_cons_succ, List.getElem?_cons_zero]; rfl) (by kernel_rfl) (by kernel_rfl) (by kernel_rfl) (by exact fun _ _ _ h => h) (by kernel_rfl) (by assumption) (by exact fun w' hS => (exec_load_mid (rangeAt_of_row hS.2 0 [.int .i64 (HP.at' es k).1.1, .int .i64 (HP.at' es k).1.2] (fun j v hv => by rcases j with _ | _ | j <;> simp at hv ⊢ <;> exact hv)) rfl rfl Try.underlying25 rfl (by kernel_rfl))) ?_
            (try simp only [Act.put, List.setIfInBounds_toArray, List.set_cons_zero, List.set_cons_succ])
            refine rg_call 3 _ _ (by simp only [List.getElem?_toArray, List.getElem?_cons_succ, List.getElem?_cons_zero]; rfl) (by kernel_rfl) (by kernel_rfl) (fun w => by go_simp; exact ⟨rfl, rfl⟩) ?_
            refine (HT.out _ (HP.at' es k).1 (HB1.out.trans (hHeld.1.mono (Nat.le_of_lt hsz1)))).mono ?_
            rintro e w6 ⟨rfl, hb6⟩
            refine ⟨_, rfl, ⟨hHeld.1.trans (hb6.mono hHeld.1.size), rowAt_below hHeld.2 hb6⟩, fun hHeld => ?_⟩
            rw [HP1.out]
            (try simp only [Act.put, List.setIfInBounds_toArray, List.set_cons_zero, List.set_cons_succ])
            (refine rg_yes 4 ?v45 (by simp only [List.getElem?_toArray, List.getElem?_cons_succ, List.getElem?_cons_zero]; rfl) (by kernel_rfl) (by kernel_rfl) (by kernel_rfl) (by exact fun _ _ _ h => h) (by kernel_rfl) (by assumption) ?y45 ?z45; case y45 => (intro w hSw; (try dsimp only at hSw); go_simp; (try (rw [if_neg (by omega)])); (try with_reducible rfl)))
            (try simp only [Act.put, List.setIfInBounds_toArray, List.set_cons_zero, List.set_cons_succ])
            (refine rg_yes 5 ?v46 (by simp only [List.getElem?_toArray, List.getElem?_cons_succ, List.getElem?_cons_zero]; rfl) (by kernel_rfl) (by kernel_rfl) (by kernel_rfl) (by exact fun _ _ _ h => h) (by kernel_rfl) (by assumption) ?y46 ?z46; case y46 => (intro w hSw; (try dsimp only at hSw); go_simp; (try (rw [if_neg (by omega)])); (try with_reducible rfl)))
            (try simp only [Act.put, List.setIfInBounds_toArray, List.set_cons_zero, List.set_cons_succ])
            (refine rg_yes 6 ?v47 (by simp only [List.getElem?_toArray, List.getElem?_cons_succ, List.getElem?_cons_zero]; rfl) (by kernel_rfl) (by kernel_rfl) (by kernel_rfl) (by exact fun _ _ _ h => h) (by kernel_rfl) (by assumption) ?y47 ?z47; case y47 => (intro w hSw; (try dsimp only at hSw); go_simp; (try (rw [if_neg (by omega)])); (try with_reducible rfl)))
            (try simp only [Act.put, List.setIfInBounds_toArray, List.set_cons_zero, List.set_cons_succ])
            (refine rg_yes 7 ?v48 (by simp only [List.getElem?_toArray, List.getElem?_cons_succ, List.getElem?_cons_zero]; rfl) (by kernel_rfl) (by kernel_rfl) (by kernel_rfl) (by exact fun _ _ _ h => h) (by kernel_rfl) (by assumption) ?y48 ?z48; case y48 => (intro w hSw; (try dsimp only at hSw); go_simp; (try (rw [if_neg (by omega)])); (try with_reducible rfl)))
            (try simp only [Act.put, List.setIfInBounds_toArray, List.set_cons_zero, List.set_cons_succ])
            (refine rg_yes 8 ?v49 (by simp only [List.getElem?_toArray, List.getElem?_cons_succ, List.getElem?_cons_zero]; rfl) (by kernel_rfl) (by kernel_rfl) (by kernel_rfl) (by exact fun _ _ _ h => h) (by kernel_rfl) (by assumption) ?y49 ?z49; case y49 => (intro w hSw; (try dsimp only at hSw); go_simp; (try (rw [if_neg (by omega)])); (try with_reducible rfl)))
            (try simp only [Act.put, List.setIfInBounds_toArray, List.set_cons_zero, List.set_cons_succ])
            (refine rg_yes 9 ?v50 (by simp only [List.getElem?_toArray, List.getElem?_cons_succ, List.getElem?_cons_zero]; rfl) (by kernel_rfl) (by kernel_rfl) (by kernel_rfl) (by exact fun _ _ _ h => h) (by kernel_rfl) (by assumption) ?y50 ?z50; case y50 => (intro w hSw; (try dsimp only at hSw); go_simp; (try (rw [if_neg (by omega)])); (try with_reducible rfl)))
            (try simp only [Act.put, List.setIfInBounds_toArray, List.set_cons_zero, List.set_cons_succ])
            (refine rg_yes 10 ?v51 (by simp only [List.getElem?_toArray, List.getElem?_cons_succ, List.getElem?_cons_zero]; rfl) (by kernel_rfl) (by kernel_rfl) (by kernel_rfl) (by exact fun _ _ _ h => h) (by kernel_rfl) (by assumption) ?y51 ?z51; case y51 => (intro w hSw; (try dsimp only at hSw); go_simp; (try (rw [if_neg (by omega)])); (try with_reducible rfl)))
            (try simp only [Act.put, List.setIfInBounds_toArray, List.set_cons_zero, List.set_cons_succ])
            refine rg_yes 11 _ (by simp only [List.getElem?_toArray, List.getElem?_cons_succ, List.getElem?_cons_zero]; rfl) (by kernel_rfl) (by kernel_rfl) (by kernel_rfl) (by exact fun _ _ _ h => h) (by kernel_rfl) (by assumption) (by exact fun w' hS => (exec_load_one ((hS.1.block h hh1).trans hL1.2.1) rfl rfl rfl (fun w => by kernel_rfl))) ?_
            (try simp only [Act.put, List.setIfInBounds_toArray, List.set_cons_zero, List.set_cons_succ])
            refine rg_yes 12 _ (by simp only [List.getElem?_toArray, List.getElem?_cons_succ, List.getElem?_cons_zero]; rfl) (by kernel_rfl) (by kernel_rfl) (by kernel_rfl) (by exact fun _ _ _ h => h) (by kernel_rfl) (by assumption) (by exact fun w' hS => (exec_load_row hS.2 rfl rfl Try.underlying68 rfl (by kernel_rfl))) ?_
            (try simp only [Act.put, List.setIfInBounds_toArray, List.set_cons_zero, List.set_cons_succ])
            (refine rg_yes 13 ?v52 (by simp only [List.getElem?_toArray, List.getElem?_cons_succ, List.getElem?_cons_zero]; rfl) (by kernel_rfl) (by kernel_rfl) (by kernel_rfl) (by exact fun _ _ _ h => h) (by kernel_rfl) (by assumption) ?y52 ?z52; case y52 => (intro w hSw; (try dsimp only at hSw); go_simp; (try (rw [if_neg (by omega)])); (try with_reducible rfl)))
            (try simp only [Act.put, List.setIfInBounds_toArray, List.set_cons_zero, List.set_cons_succ])
            (refine rg_yes 14 ?v53 (by simp only [List.getElem?_toArray, List.getElem?_cons_succ, List.getElem?_cons_zero]; rfl) (by kernel_rfl) (by kernel_rfl) (by kernel_rfl) (by exact fun _ _ _ h => h) (by kernel_rfl) (by assumption) ?y53 ?z53; case y53 => (intro w hSw; (try dsimp only at hSw); go_simp; (try (rw [if_neg (by omega)])); (try with_reducible rfl)))
            (try simp only [Act.put, List.setIfInBounds_toArray, List.set_cons_zero, List.set_cons_succ])
            (refine rg_yes 15 ?v54 (by simp only [List.getElem?_toArray, List.getElem?_cons_succ, List.getElem?_cons_zero]; rfl) (by kernel_rfl) (by kernel_rfl) (by kernel_rfl) (by exact fun _ _ _ h => h) (by kernel_rfl) (by assumption) ?y54 ?z54; case y54 => (intro w hSw; (try dsimp only at hSw); go_simp; (try (rw [if_neg (by omega)])); (try with_reducible rfl)))
            (try simp only [Act.put, List.setIfInBounds_toArray, List.set_cons_zero, List.set_cons_succ])
            refine rg_yes 16 _ (by simp only [List.getElem?_toArray, List.getElem?_cons_succ, List.getElem?_cons_zero]; rfl) (by kernel_rfl) (by kernel_rfl) (by kernel_rfl) (by exact fun _ _ _ h => h) (by kernel_rfl) (by assumption) (by exact fun w' hS => (exec_load_one ((hS.1.block h hh1).trans hL1.2.1) rfl rfl rfl (fun w => by kernel_rfl))) ?_
            (try simp only [Act.put, List.setIfInBounds_toArray, List.set_cons_zero, List.set_cons_succ])
            (refine rg_yes 17 ?v55 (by simp only [List.getElem?_toArray, List.getElem?_cons_succ, List.getElem?_cons_zero]; rfl) (by kernel_rfl) (by kernel_rfl) (by kernel_rfl) (by exact fun _ _ _ h => h) (by kernel_rfl) (by assumption) ?y55 ?z55; case y55 => (intro w hSw; (try dsimp only at hSw); go_simp; (try (rw [if_neg (by omega)])); (try with_reducible rfl)))
            (try simp only [Act.put, List.setIfInBounds_toArray, List.set_cons_zero, List.set_cons_succ])
            (refine rg_yes 18 ?v56 (by simp only [List.getElem?_toArray, List.getElem?_cons_succ, List.getElem?_cons_zero]; rfl) (by kernel_rfl) (by kernel_rfl) (by kernel_rfl) (by exact fun _ _ _ h => h) (by kernel_rfl) (by assumption) ?y56 ?z56; case y56 => (intro w hSw; (try dsimp only at hSw); go_simp; (try (rw [if_neg (by omega)])); (try with_reducible rfl)))
            (try simp only [Act.put, List.setIfInBounds_toArray, List.set_cons_zero, List.set_cons_succ])
            refine rg_yes 19 _ (by simp only [List.getElem?_toArray, List.getElem?_cons_succ, List.getElem?_cons_zero]; rfl) (by kernel_rfl) (by kernel_rfl) (by kernel_rfl) (by exact fun _ _ _ h => h) (by kernel_rfl) (by assumption) (by exact fun w' hS => (exec_load_mid ((hL1.below hS.1).range b hbE) rfl rfl Try.underlying68 rfl (by kernel_rfl))) ?_
            (try simp only [Act.put, List.setIfInBounds_toArray, List.set_cons_zero, List.set_cons_succ])
            refine rg_call 20 _ _ (by simp only [List.getElem?_toArray, List.getElem?_cons_succ, List.getElem?_cons_zero]; rfl) (by kernel_rfl) (by kernel_rfl) (fun w => by go_simp; exact ⟨rfl, rfl⟩) ?_
            refine (ahead_any fall (HP.at' es k) (HP.at' es b) h c _ (hL1.below hHeld.1).1).mono ?_
            rintro e w7 ⟨rfl, hb7⟩
            refine ⟨_, rfl, ⟨hHeld.1.trans (hb7.mono hHeld.1.size), rowAt_below hHeld.2 hb7⟩, fun hHeld => ?_⟩
            rw [HA.out]
            (try simp only [Act.put, List.setIfInBounds_toArray, List.set_cons_zero, List.set_cons_succ])
            (refine rg_yes 21 ?v57 (by simp only [List.getElem?_toArray, List.getElem?_cons_succ, List.getElem?_cons_zero]; rfl) (by kernel_rfl) (by kernel_rfl) (by kernel_rfl) (by exact fun _ _ _ h => h) (by kernel_rfl) (by assumption) ?y57 ?z57; case y57 => (intro w hSw; (try dsimp only at hSw); go_simp; (try (rw [if_neg (by omega)])); (try with_reducible rfl)))
            (try simp only [Act.put, List.setIfInBounds_toArray, List.set_cons_zero, List.set_cons_succ])
            (refine rg_yes 22 ?v58 (by simp only [List.getElem?_toArray, List.getElem?_cons_succ, List.getElem?_cons_zero]; rfl) (by kernel_rfl) (by kernel_rfl) (by kernel_rfl) (by exact fun _ _ _ h => h) (by kernel_rfl) (by assumption) ?y58 ?z58; case y58 => (intro w hSw; (try dsimp only at hSw); go_simp; (try (rw [if_neg (by omega)])); (try with_reducible rfl)))
            (try simp only [Act.put, List.setIfInBounds_toArray, List.set_cons_zero, List.set_cons_succ])
            refine wpAnyH_done (by kernel_rfl) ?_ _
            go_wp2_with fail
            exact ⟨⟨some b, k + 1, by omega, by go_num, rfl, HBEST.out.stay HA.out, hHeld.1⟩, by simp [intOf]; omega⟩
          · have HA := Lib.hid ha
            clear ha
            refine wp_region_held_drew (S := fun w' => Below w1.heap.size w1 w' ∧ w'.heap[bx]? = some (.cells #[.int .i64 (HP.at' es k).1.1, .int .i64 (HP.at' es k).1.2, .int .i64 (HP.at' es k).2] 68 (0, 0))) (by kernel_rfl) ⟨hW5.drew, hR5⟩ (fun hHeld => ?_)
            (refine rg_yes 0 ?v59 (by simp only [List.getElem?_toArray, List.getElem?_cons_succ, List.getElem?_cons_zero]; rfl) (by kernel_rfl) (by kernel_rfl) (by kernel_rfl) (by exact fun _ _ _ h => h) (by kernel_rfl) (by assumption) ?y59 ?z59; case y59 => (intro w hSw; (try dsimp only at hSw); go_simp; (try (rw [if_neg (by omega)])); (try with_reducible rfl)))
            (try simp only [Act.put, List.setIfInBounds_toArray, List.set_cons_zero, List.set_cons_succ])
            (refine rg_yes 1 ?v60 (by simp only [List.getElem?_toArray, List.getElem?_cons_succ, List.getElem?_cons_zero]; rfl) (by kernel_rfl) (by kernel_rfl) (by kernel_rfl) (by exact fun _ _ _ h => h) (by kernel_rfl) (by assumption) ?y60 ?z60; case y60 => (intro w hSw; (try dsimp only at hSw); go_simp; (try (rw [if_neg (by omega)])); (try with_reducible rfl)))
            (try simp only [Act.put, List.setIfInBounds_toArray, List.set_cons_zero, List.set_cons_succ])
            refine rg_yes 2 _ (by simp only [List.getElem?_toArray, List.getElem?_cons_succ, List.getElem?_cons_zero]; rfl) (by kernel_rfl) (by kernel_rfl) (by kernel_rfl) (by exact fun _ _ _ h => h) (by kernel_rfl) (by assumption) (by exact fun w' hS => (exec_load_mid (rangeAt_of_row hS.2 0 [.int .i64 (HP.at' es k).1.1, .int .i64 (HP.at' es k).1.2] (fun j v hv => by rcases j with _ | _ | j <;> simp at hv ⊢ <;> exact hv)) rfl rfl Try.underlying25 rfl (by kernel_rfl))) ?_
            (try simp only [Act.put, List.setIfInBounds_toArray, List.set_cons_zero, List.set_cons_succ])
            refine rg_call 3 _ _ (by simp only [List.getElem?_toArray, List.getElem?_cons_succ, List.getElem?_cons_zero]; rfl) (by kernel_rfl) (by kernel_rfl) (fun w => by go_simp; exact ⟨rfl, rfl⟩) ?_
            refine (HT.out _ (HP.at' es k).1 (HB1.out.trans (hHeld.1.mono (Nat.le_of_lt hsz1)))).mono ?_
            rintro e w6 ⟨rfl, hb6⟩
            refine ⟨_, rfl, ⟨hHeld.1.trans (hb6.mono hHeld.1.size), rowAt_below hHeld.2 hb6⟩, fun hHeld => ?_⟩
            rw [HP1.out]
            (try simp only [Act.put, List.setIfInBounds_toArray, List.set_cons_zero, List.set_cons_succ])
            (refine rg_yes 4 ?v61 (by simp only [List.getElem?_toArray, List.getElem?_cons_succ, List.getElem?_cons_zero]; rfl) (by kernel_rfl) (by kernel_rfl) (by kernel_rfl) (by exact fun _ _ _ h => h) (by kernel_rfl) (by assumption) ?y61 ?z61; case y61 => (intro w hSw; (try dsimp only at hSw); go_simp; (try (rw [if_neg (by omega)])); (try with_reducible rfl)))
            (try simp only [Act.put, List.setIfInBounds_toArray, List.set_cons_zero, List.set_cons_succ])
            (refine rg_yes 5 ?v62 (by simp only [List.getElem?_toArray, List.getElem?_cons_succ, List.getElem?_cons_zero]; rfl) (by kernel_rfl) (by kernel_rfl) (by kernel_rfl) (by exact fun _ _ _ h => h) (by kernel_rfl) (by assumption) ?y62 ?z62; case y62 => (intro w hSw; (try dsimp only at hSw); go_simp; (try (rw [if_neg (by omega)])); (try with_reducible rfl)))
            (try simp only [Act.put, List.setIfInBounds_toArray, List.set_cons_zero, List.set_cons_succ])
            (refine rg_yes 6 ?v63 (by simp only [List.getElem?_toArray, List.getElem?_cons_succ, List.getElem?_cons_zero]; rfl) (by kernel_rfl) (by kernel_rfl) (by kernel_rfl) (by exact fun _ _ _ h => h) (by kernel_rfl) (by assumption) ?y63 ?z63; case y63 => (intro w hSw; (try dsimp only at hSw); go_simp; (try (rw [if_neg (by omega)])); (try with_reducible rfl)))
            (try simp only [Act.put, List.setIfInBounds_toArray, List.set_cons_zero, List.set_cons_succ])
            (refine rg_yes 7 ?v64 (by simp only [List.getElem?_toArray, List.getElem?_cons_succ, List.getElem?_cons_zero]; rfl) (by kernel_rfl) (by kernel_rfl) (by kernel_rfl) (by exact fun _ _ _ h => h) (by kernel_rfl) (by assumption) ?y64 ?z64; case y64 => (intro w hSw; (try dsimp only at hSw); go_simp; (try (rw [if_neg (by omega)])); (try with_reducible rfl)))
            (try simp only [Act.put, List.setIfInBounds_toArray, List.set_cons_zero, List.set_cons_succ])
            (refine rg_yes 8 ?v65 (by simp only [List.getElem?_toArray, List.getElem?_cons_succ, List.getElem?_cons_zero]; rfl) (by kernel_rfl) (by kernel_rfl) (by kernel_rfl) (by exact fun _ _ _ h => h) (by kernel_rfl) (by assumption) ?y65 ?z65; case y65 => (intro w hSw; (try dsimp only at hSw); go_simp; (try (rw [if_neg (by omega)])); (try with_reducible rfl)))
            (try simp only [Act.put, List.setIfInBounds_toArray, List.set_cons_zero, List.set_cons_succ])
            (refine rg_yes 9 ?v66 (by simp only [List.getElem?_toArray, List.getElem?_cons_succ, List.getElem?_cons_zero]; rfl) (by kernel_rfl) (by kernel_rfl) (by kernel_rfl) (by exact fun _ _ _ h => h) (by kernel_rfl) (by assumption) ?y66 ?z66; case y66 => (intro w hSw; (try dsimp only at hSw); go_simp; (try (rw [if_neg (by omega)])); (try with_reducible rfl)))
            (try simp only [Act.put, List.setIfInBounds_toArray, List.set_cons_zero, List.set_cons_succ])
            (refine rg_yes 10 ?v67 (by simp only [List.getElem?_toArray, List.getElem?_cons_succ, List.getElem?_cons_zero]; rfl) (by kernel_rfl) (by kernel_rfl) (by kernel_rfl) (by exact fun _ _ _ h => h) (by kernel_rfl) (by assumption) ?y67 ?z67; case y67 => (intro w hSw; (try dsimp only at hSw); go_simp; (try (rw [if_neg (by omega)])); (try with_reducible rfl)))
            (try simp only [Act.put, List.setIfInBounds_toArray, List.set_cons_zero, List.set_cons_succ])
            refine rg_yes 11 _ (by simp only [List.getElem?_toArray, List.getElem?_cons_succ, List.getElem?_cons_zero]; rfl) (by kernel_rfl) (by kernel_rfl) (by kernel_rfl) (by exact fun _ _ _ h => h) (by kernel_rfl) (by assumption) (by exact fun w' hS => (exec_load_one ((hS.1.block h hh1).trans hL1.2.1) rfl rfl rfl (fun w => by kernel_rfl))) ?_
            (try simp only [Act.put, List.setIfInBounds_toArray, List.set_cons_zero, List.set_cons_succ])
            refine rg_yes 12 _ (by simp only [List.getElem?_toArray, List.getElem?_cons_succ, List.getElem?_cons_zero]; rfl) (by kernel_rfl) (by kernel_rfl) (by kernel_rfl) (by exact fun _ _ _ h => h) (by kernel_rfl) (by assumption) (by exact fun w' hS => (exec_load_row hS.2 rfl rfl Try.underlying68 rfl (by kernel_rfl))) ?_
            (try simp only [Act.put, List.setIfInBounds_toArray, List.set_cons_zero, List.set_cons_succ])
            (refine rg_yes 13 ?v68 (by simp only [List.getElem?_toArray, List.getElem?_cons_succ, List.getElem?_cons_zero]; rfl) (by kernel_rfl) (by kernel_rfl) (by kernel_rfl) (by exact fun _ _ _ h => h) (by kernel_rfl) (by assumption) ?y68 ?z68; case y68 => (intro w hSw; (try dsimp only at hSw); go_simp; (try (rw [if_neg (by omega)])); (try with_reducible rfl)))
            (try simp only [Act.put, List.setIfInBounds_toArray, List.set_cons_zero, List.set_cons_succ])
            (refine rg_yes 14 ?v69 (by simp only [List.getElem?_toArray, List.getElem?_cons_succ, List.getElem?_cons_zero]; rfl) (by kernel_rfl) (by kernel_rfl) (by kernel_rfl) (by exact fun _ _ _ h => h) (by kernel_rfl) (by assumption) ?y69 ?z69; case y69 => (intro w hSw; (try dsimp only at hSw); go_simp; (try (rw [if_neg (by omega)])); (try with_reducible rfl)))
            (try simp only [Act.put, List.setIfInBounds_toArray, List.set_cons_zero, List.set_cons_succ])
            (refine rg_yes 15 ?v70 (by simp only [List.getElem?_toArray, List.getElem?_cons_succ, List.getElem?_cons_zero]; rfl) (by kernel_rfl) (by kernel_rfl) (by kernel_rfl) (by exact fun _ _ _ h => h) (by kernel_rfl) (by assumption) ?y70 ?z70; case y70 => (intro w hSw; (try dsimp only at hSw); go_simp; (try (rw [if_neg (by omega)])); (try with_reducible rfl)))
            (try simp only [Act.put, List.setIfInBounds_toArray, List.set_cons_zero, List.set_cons_succ])
            refine rg_yes 16 _ (by simp only [List.getElem?_toArray, List.getElem?_cons_succ, List.getElem?_cons_zero]; rfl) (by kernel_rfl) (by kernel_rfl) (by kernel_rfl) (by exact fun _ _ _ h => h) (by kernel_rfl) (by assumption) (by exact fun w' hS => (exec_load_one ((hS.1.block h hh1).trans hL1.2.1) rfl rfl rfl (fun w => by kernel_rfl))) ?_
            (try simp only [Act.put, List.setIfInBounds_toArray, List.set_cons_zero, List.set_cons_succ])
            (refine rg_yes 17 ?v71 (by simp only [List.getElem?_toArray, List.getElem?_cons_succ, List.getElem?_cons_zero]; rfl) (by kernel_rfl) (by kernel_rfl) (by kernel_rfl) (by exact fun _ _ _ h => h) (by kernel_rfl) (by assumption) ?y71 ?z71; case y71 => (intro w hSw; (try dsimp only at hSw); go_simp; (try (rw [if_neg (by omega)])); (try with_reducible rfl)))
            (try simp only [Act.put, List.setIfInBounds_toArray, List.set_cons_zero, List.set_cons_succ])
            (refine rg_yes 18 ?v72 (by simp only [List.getElem?_toArray, List.getElem?_cons_succ, List.getElem?_cons_zero]; rfl) (by kernel_rfl) (by kernel_rfl) (by kernel_rfl) (by exact fun _ _ _ h => h) (by kernel_rfl) (by assumption) ?y72 ?z72; case y72 => (intro w hSw; (try dsimp only at hSw); go_simp; (try (rw [if_neg (by omega)])); (try with_reducible rfl)))
            (try simp only [Act.put, List.setIfInBounds_toArray, List.set_cons_zero, List.set_cons_succ])
            refine rg_yes 19 _ (by simp only [List.getElem?_toArray, List.getElem?_cons_succ, List.getElem?_cons_zero]; rfl) (by kernel_rfl) (by kernel_rfl) (by kernel_rfl) (by exact fun _ _ _ h => h) (by kernel_rfl) (by assumption) (by exact fun w' hS => (exec_load_mid ((hL1.below hS.1).range b hbE) rfl rfl Try.underlying68 rfl (by kernel_rfl))) ?_
            (try simp only [Act.put, List.setIfInBounds_toArray, List.set_cons_zero, List.set_cons_succ])
            refine rg_call 20 _ _ (by simp only [List.getElem?_toArray, List.getElem?_cons_succ, List.getElem?_cons_zero]; rfl) (by kernel_rfl) (by kernel_rfl) (fun w => by go_simp; exact ⟨rfl, rfl⟩) ?_
            refine (ahead_any fall (HP.at' es k) (HP.at' es b) h c _ (hL1.below hHeld.1).1).mono ?_
            rintro e w7 ⟨rfl, hb7⟩
            refine ⟨_, rfl, ⟨hHeld.1.trans (hb7.mono hHeld.1.size), rowAt_below hHeld.2 hb7⟩, fun hHeld => ?_⟩
            rw [HA.out]
            (try simp only [Act.put, List.setIfInBounds_toArray, List.set_cons_zero, List.set_cons_succ])
            (refine rg_yes 21 ?v73 (by simp only [List.getElem?_toArray, List.getElem?_cons_succ, List.getElem?_cons_zero]; rfl) (by kernel_rfl) (by kernel_rfl) (by kernel_rfl) (by exact fun _ _ _ h => h) (by kernel_rfl) (by assumption) ?y73 ?z73; case y73 => (intro w hSw; (try dsimp only at hSw); go_simp; (try (rw [if_neg (by omega)])); (try with_reducible rfl)))
            (try simp only [Act.put, List.setIfInBounds_toArray, List.set_cons_zero, List.set_cons_succ])
            (refine rg_yes 22 ?v74 (by simp only [List.getElem?_toArray, List.getElem?_cons_succ, List.getElem?_cons_zero]; rfl) (by kernel_rfl) (by kernel_rfl) (by kernel_rfl) (by exact fun _ _ _ h => h) (by kernel_rfl) (by assumption) ?y74 ?z74; case y74 => (intro w hSw; (try dsimp only at hSw); go_simp; (try (rw [if_neg (by omega)])); (try with_reducible rfl)))
            (try simp only [Act.put, List.setIfInBounds_toArray, List.set_cons_zero, List.set_cons_succ])
            refine wpAnyH_done (by kernel_rfl) ?_ _
            go_wp2_with fail
            exact ⟨⟨some k, k + 1, by omega, by go_num, rfl, HBEST.out.better HP1.out HA.out, hHeld.1⟩, by simp [intOf]; omega⟩
    · have hBE : Best fall p es es.length b := by rw [show es.length = k by omega]; exact hB
      have HBEST := Lib.hid hBE
      clear hB hBE
      have hge : decide (k < es.length) = false := by simp; omega
      have hLr := hL1.below hW
      have hrow := rowAt_below HB2.out hW
      cases b with
      | none =>
        simp only [bestV]
        go_wp2_with (first
          | (refine wpList_store_any rfl 25 _ _ rfl w.heap.size _ rfl rfl 25 _ ((heap_alloc_old wr _ (lt_of_block hrow)).trans hrow) (by kernel_rfl) rfl (by simp [Value.oneCell']) ?_; intro w8 hr8 hs8 hbl8 hot8))
        have hbl := hbl8 w.heap.size w ((HB1.out.trans (hW.mono (Nat.le_of_lt hsz1))).alloc (Nat.le_trans HB1.out.size hW.size) _) (Nat.le_refl _)
        exact bodyPost_ret (v := .tuple #[.agg #[.int .i64 0, .int .i64 0], .bool false]) (results_cell_row_tmp (fn := Try.f18) (p := 4) (u := 5) rfl _ _ w.heap.size 25 _ (0, 0) _ rfl hr8 Try.underlying25 rfl (by kernel_rfl)) rfl (.inl ⟨rfl, HBEST.out, hbl⟩)
      | some b =>
        have hbl := HBEST.out.1
        simp only [bestV]
        go_wp2_with fail
        refine (take_any h c g cap es.length fall es came b _ hLr hbl rfl hb HH.out).mono ?_
        rintro e w2 ⟨es2, rfl, hL2, hP2, hH2, hT2⟩
        have hr2 := hT2.other hrow (by omega) (fun e => by simp at e; omega)
        go_wp2_with (refine wpList_store_any rfl 25 _ _ rfl w.heap.size _ rfl rfl 25 _ hr2 (by kernel_rfl) rfl (by simp [Value.oneCell']) ?_; intro w3 hr3 hs3 hbl3 hot3)
        have hTw : Tch w wr h (some g) (some g) := (Tch.of_below HB1.out h _).trans (Tch.of_below hW h _)
        refine bodyPost_ret (v := .tuple #[.agg #[.int .i64 (HP.at' es b).1.1, .int .i64 (HP.at' es b).1.2], .bool true]) (results_cell_row_tmp (fn := Try.f18) (p := 4) (u := 5) rfl _ _ w.heap.size 25 _ (0, 0) _ rfl hr3 Try.underlying25 rfl (by kernel_rfl)) rfl (.inr ⟨b, es2, hbl, HBEST.out, rfl, ⟨.slice (some ⟨g, 0, none⟩) es2.length cap, rfl, hL2.touch hot3 hhl (fun e => by simp [Value.ownBlock] at e; omega), hH2⟩, hP2, (hTw.trans hT2).store_new (Nat.le_refl _) hs3 hbl3 hot3⟩)
end Go.Proofs.Ytffioombjejchaa
