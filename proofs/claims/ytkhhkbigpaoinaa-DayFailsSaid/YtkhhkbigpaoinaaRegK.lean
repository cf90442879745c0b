/- a region that draws its order and ends in a store: a condition on the world that holds till operation k has come up. -/
import Derived.Test.YtkhhkbigpaoinaaReg
namespace Go.Proofs.Ytkhhkbigpaoinaa
set_option linter.unusedVariables false
set_option linter.unusedSimpArgs false
open Go.RowKit

section
variable {P : Program} {md : Region.Mode} {ops : Array Oper} {Q : Exit → Act → World → Prop} {S : World → Prop} {k : Nat}
/-- S holds as long as k has not come up -/
def TillK (S : World → Prop) (k : Nat) (listed : Array Bool) (w : World) : Prop := listed.getD k true = false → S w
/-- whatever comes up next, till k has come up S holds behind it -/
def wpTill (P : Program) (md : Region.Mode) (ops : Array Oper) (Q : Exit → Act → World → Prop) (S : World → Prop) (k : Nat) : Nat → Array Bool → Act → World → Prop
  | 0, listed, a, w => Region.ready md ops listed = [] ∧ Q .normal a w
  | f + 1, listed, a, w => (Region.ready md ops listed = [] → Q .normal a w) ∧
    ∀ i ∈ Region.ready md ops listed, wpOp P ops Q i (fun a' w' => TillK S k (listed.setIfInBounds i true) w' ∧ wpTill P md ops Q S k f (listed.setIfInBounds i true) a' w') a w
theorem wpAny_of_till : ∀ (f : Nat) (listed : Array Bool) (a : Act) (w : World), wpTill P md ops Q S k f listed a w → wpAny P md ops Q f listed a w
  | 0, _, _, _, h => h
  | f + 1, _, _, _, h => ⟨h.1, fun i hi => wpOp_mono (fun a' w' h' => wpAny_of_till f _ a' w' h'.2) (h.2 i hi)⟩
theorem unlisted_both {listed : Array Bool} {i : Nat} (h : listed.getD i true = false) : listed.getD i false = false := by
  by_cases hl : i < listed.size
  · simp [hl] at h ⊢; exact h
  · simp [hl] at h
/-- an operation that yields under T, whatever may come ahead of it: c is what is known of the list till then -/
theorem TillK.other {S : World → Prop} {k i : Nat} {listed : Array Bool} {w : World} (h : TillK S k listed w) (hik : i ≠ k) : TillK S k (listed.setIfInBounds i true) w := fun hk => h (by rw [getD_set_ne true hik] at hk; exact hk)
theorem TillK.back {S : World → Prop} {k i : Nat} {listed : Array Bool} {w : World} (h : TillK S k (listed.setIfInBounds i true) w) (hik : i ≠ k) : TillK S k listed w := fun hk => h (by rw [getD_set_ne true hik]; exact hk)
theorem till_first {i : Nat} {oi : Oper} {v : Value} {T : World → Prop} {c : Array Bool → Prop} (hik : i ≠ k) (hi : ops[i]? = some oi) (hsel : ∀ (j : Nat) (o : Oper) cs b, ops[j]? = some o → o.op ≠ .select cs b)
    (hQ : ∀ c a w, Q (.panic c) (a.put oi.dst v) w → Q (.panic c) a w)
    (hT : ∀ l w, c l → TillK S k l w → T w) (hc : ∀ l j, i ∈ Region.ready md ops l → j ∈ Region.ready md ops l → j ≠ i → c l → c (l.setIfInBounds j true)) :
    ∀ (f : Nat) (listed : Array Bool) (a : Act) (w : World),
      (∀ j oj, ops[j]? = some oj → j ≠ i → listed.getD j true = false → (∀ e ∈ oj.after, Region.binds md e = true → e.on ≠ i) → oi.apart ops oj = true) →
      i ∈ Region.ready md ops listed → YieldsIf P ops T oi v a → c listed → TillK S k listed w →
      wpTill P md ops Q S k f (listed.setIfInBounds i true) (a.put oi.dst v) w → wpTill P md ops Q S k (f + 1) listed a w := by
  intro f
  induction f with
  | zero =>
    intro listed a w _ hr hy hcl hS H
    refine ⟨fun h => (by rw [h] at hr; cases hr), fun j hj => ?_⟩
    by_cases hji : j = i
    · subst hji
      exact hy.wpOp hi (hT _ _ hcl hS) ⟨hS.other hik, H⟩
    · have := ready_mono hj hji
      rw [H.1] at this
      cases this
  | succ f ih =>
    intro listed a w hfree hr hy hcl hS H
    refine ⟨fun h => (by rw [h] at hr; cases hr), fun j hj => ?_⟩
    by_cases hji : j = i
    · subst hji
      exact hy.wpOp hi (hT _ _ hcl hS) ⟨hS.other hik, H⟩
    · have h1 := H.2 j (ready_mono hj hji)
      obtain ⟨hjun, oj, hoj, hall⟩ := mem_ready.1 hj
      have hiun := unlisted_both (mem_ready.1 hr).1
      have hnot : ∀ e ∈ oj.after, Region.binds md e = true → e.on ≠ i := fun e he hb heq => by
        have h2 := hall e he hb
        rw [heq, hiun] at h2
        cases h2
      have h2 := wpOp_putIf hoj (hfree j oj hoj hji hjun hnot) (fun cs b => hsel i oi cs b hi) (fun cs b => hsel j oj cs b hoj) hQ hy h1
      have hcj := hc listed j hr hj hji hcl
      refine wpOp_mono (fun a' w' h3 => ?_) h2
      obtain ⟨hy', hSj, hW⟩ := h3
      rw [Array.setIfInBounds_comm _ _ (Ne.symm hji)] at hSj
      have hSj' := hSj.back hik
      refine ⟨hSj', ih (listed.setIfInBounds j true) a' w' (fun l ol hl hli hun hno => hfree l ol hl hli (by
        by_cases hjl : j = l
        · subst hjl; exact hjun
        · rw [getD_set_ne true hjl] at hun; exact hun) hno) (ready_mono hr (Ne.symm hji)) hy' hcj hSj' ?_⟩
      rw [Array.setIfInBounds_comm _ _ hji]
      exact hW
/-- the beginning -/
theorem wp_region_till {id : Nat} {a : Act} {w : World} (hm : P.follows .mixedOrders = true) (h : wpTill P .any ops Q S k ops.size (Array.replicate ops.size false) a w.drew) : (Code.region id ops true).wp P Q a w :=
  wp_region_any hm (wpAny_of_till _ _ _ _ h)
/-- a load: k waits for it -/
theorem rt_load {oi : Oper} (i : Nat) (v : Value) {fuel : Nat} {listed : Array Bool} {a : Act} {w : World} (hi : ops[i]? = some oi) (hik : (i != k) = true)
    (hs : Region.noSelect ops = true) (hf : Region.free md ops listed i = true) (hr : (Region.ready md ops listed).contains i = true) (hku : listed.getD k true = false)
    (hwait : (match ops[k]? with | some o => o.after.any fun e => Region.binds md e && e.on == i | none => false) = true)
    (hQ : ∀ c a w, Q (.panic c) (a.put oi.dst v) w → Q (.panic c) a w) (hw : Region.wanted oi (yielded ops a.tmps) = true) (hS : S w) (hy : ∀ w, S w → (execOp a.eval oi).run P w = .ok (.value v) w)
    (h : wpTill P md ops Q S k fuel (listed.setIfInBounds i true) (a.put oi.dst v) w) : wpTill P md ops Q S k (fuel + 1) listed a w := by
  refine till_first (T := S) (c := fun l => l.getD k true = false) (by simpa using hik) hi (Region.noSelect_spec hs) hQ (fun l w hl hS => hS hl) (fun l j hir hj hji hl => ?_) fuel listed a w (Region.free_spec hi hf) (by simpa using hr) (.inl ⟨hw, hy⟩) hku (fun _ => hS) h
  have hjk : j ≠ k := fun e => by
    subst e
    obtain ⟨_, o, ho, hall⟩ := mem_ready.1 hj
    rw [ho] at hwait
    obtain ⟨e, he, hb⟩ := Array.any_eq_true'.1 hwait
    simp only [Bool.and_eq_true, beq_iff_eq] at hb
    have h1 := hall e he hb.1
    rw [hb.2, unlisted_both (mem_ready.1 hir).1] at h1
    cases h1
  rw [getD_set_ne true hjk]
  exact hl
/-- an operation that yields in whatever world -/
theorem rt_yes {oi : Oper} (i : Nat) (v : Value) {fuel : Nat} {listed : Array Bool} {a : Act} {w : World} (hi : ops[i]? = some oi) (hik : (i != k) = true)
    (hs : Region.noSelect ops = true) (hf : Region.free md ops listed i = true) (hr : (Region.ready md ops listed).contains i = true)
    (hQ : ∀ c a w, Q (.panic c) (a.put oi.dst v) w → Q (.panic c) a w) (hw : Region.wanted oi (yielded ops a.tmps) = true) (hS : TillK S k listed w) (hy : ∀ w, (execOp a.eval oi).run P w = .ok (.value v) w)
    (h : wpTill P md ops Q S k fuel (listed.setIfInBounds i true) (a.put oi.dst v) w) : wpTill P md ops Q S k (fuel + 1) listed a w :=
  till_first (T := fun _ => True) (c := fun _ => True) (by simpa using hik) hi (Region.noSelect_spec hs) hQ (fun _ _ _ _ => trivial) (fun _ _ _ _ _ _ => trivial) fuel listed a w (Region.free_spec hi hf) (by simpa using hr) (.inl ⟨hw, fun w _ => hy w⟩) trivial hS h
theorem rt_no {oi : Oper} (i : Nat) {fuel : Nat} {listed : Array Bool} {a : Act} {w : World} (hi : ops[i]? = some oi) (hik : (i != k) = true)
    (hs : Region.noSelect ops = true) (hf : Region.free md ops listed i = true) (hr : (Region.ready md ops listed).contains i = true)
    (hQ : ∀ c a w, Q (.panic c) (a.put oi.dst undef) w → Q (.panic c) a w) (hw : Region.wanted oi (yielded ops a.tmps) = false) (hS : TillK S k listed w)
    (h : wpTill P md ops Q S k fuel (listed.setIfInBounds i true) (a.put oi.dst undef) w) : wpTill P md ops Q S k (fuel + 1) listed a w :=
  till_first (T := fun _ => True) (c := fun _ => True) (by simpa using hik) hi (Region.noSelect_spec hs) hQ (fun _ _ _ _ => trivial) (fun _ _ _ _ _ _ => trivial) fuel listed a w (Region.free_spec hi hf) (by simpa using hr) (.inr ⟨hw, rfl⟩) trivial hS h
/-- the one operation that may come up -/
theorem rt_wp {oi : Oper} (i : Nat) {fuel : Nat} {listed : Array Bool} {a : Act} {w : World} (hi : ops[i]? = some oi)
    (hr : Region.ready md ops listed = [i]) (hw : Region.wanted oi (yielded ops a.tmps) = true)
    (h : Oper.wp P oi a w (fun a' w' => TillK S k (listed.setIfInBounds i true) w' ∧ wpTill P md ops Q S k fuel (listed.setIfInBounds i true) a' w') Q) : wpTill P md ops Q S k (fuel + 1) listed a w := by
  refine ⟨fun h0 => (by rw [hr] at h0; cases h0), fun j hj => ?_⟩
  rw [hr] at hj
  obtain rfl : j = i := by simpa using hj
  unfold Go.wpOp
  simp only [hi, hw, if_true]
  exact .inl h
theorem rt_one {oi : Oper} (i : Nat) (v : Value) {fuel : Nat} {listed : Array Bool} {a : Act} {w : World} (w' : World) (hi : ops[i]? = some oi)
    (hr : Region.ready md ops listed = [i]) (hw : Region.wanted oi (yielded ops a.tmps) = true) (hex : (execOp a.eval oi).run P w = .ok (.value v) w')
    (hS : TillK S k (listed.setIfInBounds i true) w') (h : wpTill P md ops Q S k fuel (listed.setIfInBounds i true) (a.put oi.dst v) w') : wpTill P md ops Q S k (fuel + 1) listed a w := by
  refine rt_wp i hi hr hw ?_
  unfold Oper.wp
  rw [hex]
  exact ⟨hS, h⟩
/-- a store, the one operation that may come up -/
theorem rt_skip {oi : Oper} (i : Nat) {fuel : Nat} {listed : Array Bool} {a : Act} {w : World} (w' : World) (hi : ops[i]? = some oi)
    (hr : Region.ready md ops listed = [i]) (hw : Region.wanted oi (yielded ops a.tmps) = true) (hex : (execOp a.eval oi).run P w = .ok .skip w')
    (hS : TillK S k (listed.setIfInBounds i true) w') (h : wpTill P md ops Q S k fuel (listed.setIfInBounds i true) (a.put oi.dst undef) w') : wpTill P md ops Q S k (fuel + 1) listed a w := by
  refine rt_wp i hi hr hw ?_
  unfold Oper.wp
  rw [hex]
  exact ⟨hS, h⟩
theorem till_past {listed : Array Bool} {w : World} (h : listed.getD k true = true) : TillK S k listed w := fun h' => by rw [h] at h'; cases h'
theorem rt_done {listed : Array Bool} {a : Act} {w : World} (hr : Region.ready md ops listed = []) (h : Q .normal a w) : ∀ fuel, wpTill P md ops Q S k fuel listed a w
  | 0 => ⟨hr, h⟩
  | _ + 1 => ⟨fun _ => h, by rw [hr]; simp⟩
end
end Go.Proofs.Ytkhhkbigpaoinaa
