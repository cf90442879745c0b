/- An instruction that stays: how often it fails, in plain Lean. -/
import Derived.Test.YtkhhkbigpaoinaaDayCloseP
import Derived.Laws.BitsLemmas
namespace Go.Proofs.Ytkhhkbigpaoinaa
set_option linter.unusedVariables false
set_option linter.unusedSimpArgs false
open Go.RowKit Go.Maps

theorem and_most (n : Int) : 0 ≤ bits .and .i64 n 9223372036854775807 ∧ bits .and .i64 n 9223372036854775807 ≤ 9223372036854775807 := by
  have hm : (BitVec.ofInt 64 9223372036854775807).toNat = 2 ^ 63 - 1 := by decide
  have key : (BitVec.ofInt 64 n &&& BitVec.ofInt 64 9223372036854775807).toNat = (n % ((2 ^ 64 : Nat) : Int)).toNat % 2 ^ 63 := by
    rw [BitVec.toNat_and, BitVec.toNat_ofInt, hm, Nat.and_two_pow_sub_one_eq_mod]
  have hb : bits .and .i64 n 9223372036854775807 = IntKind.i64.wrap ((BitVec.ofInt 64 n &&& BitVec.ofInt 64 9223372036854775807).toNat : Nat) := rfl
  rw [hb, key, IntKind.wrap_i64]
  omega
def amtF (rate value : Int) : Int := ((value.toNat * rate.toNat / 1000000 : Nat) : Int)
theorem amtF_le {rate value : Int} (hv : 0 ≤ value) (h0 : 0 ≤ rate) (h1 : rate ≤ 1000000) : 0 ≤ amtF rate value ∧ amtF rate value ≤ value := by
  unfold amtF
  refine ⟨by omega, ?_⟩
  have h2 : value.toNat * rate.toNat ≤ value.toNat * 1000000 := Nat.mul_le_mul_left _ (by omega)
  have h3 : value.toNat * rate.toNat / 1000000 ≤ value.toNat := Nat.div_le_of_le_mul (by rw [Nat.mul_comm 1000000]; exact h2)
  omega
/-- the one that stays has failed so often -/
structure OneF (keep settle value id : Int) (es : Int → Option EntV) (failed : Int) : Prop where
  f0 : 0 ≤ failed
  f1 : failed ≤ keep
  here : es id = if failed < keep then some ⟨settle, value, 4, 9, failed⟩ else none
  ok : EntsOk keep es
def wantF (keep settle today failed : Int) : Int := if settle ≤ today ∧ failed < keep then 1 else 0
def lastF (keep settle today failed : Int) : Int := if wantF keep settle today failed = 1 ∧ failed + 1 = keep then 1 else 0
def timesN (l : List penT) (id : Int) : Nat := l.countP fun x => decide (x.1 = id)
theorem timesN_snoc {l : List penT} {i : Nat} {x : penT} (h : l[i]? = some x) (id : Int) : timesN (l.take (i + 1)) id = timesN (l.take i) id + if x.1 = id then 1 else 0 := by
  unfold timesN
  rw [List.take_add_one, h, List.countP_append]
  by_cases c : x.1 = id <;> simp [c]
theorem count_snoc {l : List Int} {i : Nat} {x : Int} (h : l[i]? = some x) (id : Int) : (l.take (i + 1)).count id = (l.take i).count id + if x = id then 1 else 0 := by
  rw [List.take_add_one, h, List.count_append]
  by_cases c : x = id <;> simp [c]
theorem owedL_count (rate : Int) (es : Int → Option EntV) (id : Int) : ∀ ds : List Int, ds.Nodup → timesN (owedL rate es ds) id = if id ∈ ds ∧ (es id).isSome = true then 1 else 0 := by
  intro ds
  induction ds with
  | nil => intro _; simp [owedL, timesN]
  | cons d ds ih =>
    intro hn
    rw [List.nodup_cons] at hn
    have ih := ih hn.2
    unfold owedL timesN at ih ⊢
    rw [List.filterMap_cons]
    cases hd : es d with
    | none =>
      simp only [Option.map_none]
      rw [ih]
      by_cases c : id = d
      · subst c; simp [hd]
      · simp [c]
    | some e =>
      simp only [Option.map_some, List.countP_cons]
      rw [ih]
      by_cases c : id = d
      · subst c; simp [hd, hn.1, pen]
      · have c' : ¬ d = id := fun q => c q.symm
        simp [c, c', pen]
theorem owedL_mem {rate : Int} {es : Int → Option EntV} {ds : List Int} {x : penT} (h : x ∈ owedL rate es ds) : ∃ e, es x.1 = some e ∧ x = pen rate x.1 e := by
  obtain ⟨d, hd, hx⟩ := List.mem_filterMap.1 h
  obtain ⟨e, he, rfl⟩ := Option.map_eq_some_iff.1 hx
  exact ⟨e, he, rfl⟩
theorem goneL_count (keep : Int) (es : Int → Option EntV) (id : Int) (ds : List Int) (hn : ds.Nodup) : (goneL keep es ds).count id = if id ∈ ds ∧ (match es id with | some e => decide (keep ≤ e.failed + 1) | none => false) = true then 1 else 0 := by
  unfold goneL
  by_cases c : id ∈ ds ∧ (match es id with | some e => decide (keep ≤ e.failed + 1) | none => false) = true
  · rw [if_pos c]
    exact (List.Nodup.count (hn.filter _)).trans (if_pos (List.mem_filter.2 c))
  · rw [if_neg c]
    exact List.count_eq_zero.2 fun q => c (List.mem_filter.1 q)
theorem closeE_at (keep : Int) (id : Int) : ∀ (ds : List Int) (es : Int → Option EntV), ds.Nodup → id ∈ ds → closeE keep es ds id = stepE keep es id id := by
  intro ds
  induction ds with
  | nil => intro es _ h; simp at h
  | cons d ds ih =>
    intro es hn hm
    rw [List.nodup_cons] at hn
    show closeE keep (stepE keep es d) ds id = _
    by_cases c : id = d
    · subst c; rw [closeE_other _ _ _ _ hn.1]
    · rw [ih _ hn.2 (by simpa [c] using hm)]
      have hes : stepE keep es d id = es id := by
        cases hd : es d with
        | some e => rw [stepE_some hd]; split <;> simp [updE, c]
        | none => rw [stepE_none hd]
      cases hi : es id with
      | none => rw [stepE_none (hes.trans hi), stepE_none hi, hes]
      | some e => rw [stepE_some (hes.trans hi), stepE_some hi]; split <;> simp [updE]
theorem DueL.nodup {es : Int → Option EntV} {today : Int} {ds : List Int} (h : DueL es today ds) : ds.Nodup := by
  have := h.1
  rw [List.pairwise_map] at this
  exact this.imp fun {a b} hab q => by subst q; exact befK_irr _ hab
theorem OneF.due {keep settle value id failed today : Int} {es : Int → Option EntV} {ds : List Int} (h : OneF keep settle value id es failed) (hd : DueL es today ds) (hg : keyD.good id) : id ∈ ds ↔ settle ≤ today ∧ failed < keep := by
  rw [hd.2]
  constructor
  · rintro ⟨_, e, he, hs⟩
    rw [h.here] at he
    by_cases c : failed < keep
    · rw [if_pos c] at he; cases he; exact ⟨hs, c⟩
    · rw [if_neg c] at he; cases he
  · rintro ⟨hs, c⟩
    exact ⟨hg, _, by rw [h.here, if_pos c], hs⟩
theorem OneF.times {keep settle value id failed today : Int} {es : Int → Option EntV} {ds : List Int} (h : OneF keep settle value id es failed) (hd : DueL es today ds) (hg : keyD.good id) (rate : Int) : (timesN (owedL rate es ds) id : Int) = wantF keep settle today failed := by
  rw [owedL_count _ _ _ _ hd.nodup]
  unfold wantF
  by_cases c : settle ≤ today ∧ failed < keep
  · rw [if_pos c, if_pos ⟨(h.due hd hg).2 c, by rw [h.here, if_pos c.2]; rfl⟩]; rfl
  · rw [if_neg c, if_neg (fun q => c ((h.due hd hg).1 q.1))]; rfl
theorem OneF.gone {keep settle value id failed today : Int} {es : Int → Option EntV} {ds : List Int} (h : OneF keep settle value id es failed) (hd : DueL es today ds) (hg : keyD.good id) : ((goneL keep es ds).count id : Int) = lastF keep settle today failed := by
  rw [goneL_count _ _ _ _ hd.nodup]
  unfold lastF wantF
  by_cases c : settle ≤ today ∧ failed < keep
  · have hm := (h.due hd hg).2 c
    rw [h.here, if_pos c.2, if_pos c]
    have := h.f1
    by_cases k : failed + 1 = keep
    · simp [hm, k]
    · have : ¬ keep ≤ failed + 1 := by omega
      simp [hm, k, this]
  · rw [if_neg (fun q => c ((h.due hd hg).1 q.1)), if_neg c]; simp
theorem OneF.owed {keep settle value id failed : Int} {es : Int → Option EntV} {ds : List Int} (h : OneF keep settle value id es failed) {rate : Int} {x : penT} (hx : x ∈ owedL rate es ds) (hi : x.1 = id) : x = (id, 4, 9, amtF rate value) := by
  obtain ⟨e, he, hp⟩ := owedL_mem hx
  rw [hi, h.here] at he
  by_cases c : failed < keep
  · rw [if_pos c] at he; cases he; rw [hp, hi]; rfl
  · rw [if_neg c] at he; cases he
theorem OneF.close {keep settle value id failed today : Int} {es : Int → Option EntV} {ds : List Int} (h : OneF keep settle value id es failed) (hd : DueL es today ds) (hg : keyD.good id) : OneF keep settle value id (closeE keep es ds) (failed + wantF keep settle today failed) := by
  have hdue := h.due hd hg
  have h0 := h.f0
  have h1 := h.f1
  by_cases c : settle ≤ today ∧ failed < keep
  · have hw : wantF keep settle today failed = 1 := if_pos c
    have hs : stepE keep es id = if keep ≤ failed + 1 then updE es id none else updE es id (some ⟨settle, value, 4, 9, failed + 1⟩) := by
      have he : es id = some ⟨settle, value, 4, 9, failed⟩ := by rw [h.here, if_pos c.2]
      rw [stepE_some he]
    refine ⟨by omega, by omega, ?_, h.ok.close ds⟩
    rw [closeE_at _ _ _ _ hd.nodup (hdue.2 c), hs, hw]
    by_cases k : keep ≤ failed + 1
    · rw [if_pos k, if_neg (by omega)]; simp [updE]
    · rw [if_neg k, if_pos (by omega)]; simp [updE]
  · have hw : wantF keep settle today failed = 0 := if_neg c
    rw [hw, Int.add_zero]
    exact ⟨h0, h1, by rw [closeE_other _ _ _ _ (fun q => c (hdue.1 q))]; exact h.here, h.ok.close ds⟩
/-- it is entered; others are -/
theorem OneF.first {keep settle value id : Int} {es : Int → Option EntV} (hk : 1 ≤ keep) (h0 : 0 ≤ value) (h1 : value ≤ 9223372036854775807) (hok : EntsOk keep es) : OneF keep settle value id (updE es id (some ⟨settle, value, 4, 9, 0⟩)) 0 :=
  ⟨by omega, by omega, by rw [if_pos (by omega)]; simp [updE], fun x e he => by
    unfold updE at he
    by_cases hx : x = id
    · rw [if_pos hx] at he; cases he; exact ⟨h0, h1, by show (0 : Int) ≤ 0; omega, by show (0 : Int) < keep; omega⟩
    · rw [if_neg hx] at he; exact hok x e he⟩
theorem OneF.other {keep settle value id failed : Int} {es : Int → Option EntV} (h : OneF keep settle value id es failed) (hk : 1 ≤ keep) {x s v f t : Int} (hne : x ≠ id) (h0 : 0 ≤ v) (h1 : v ≤ 9223372036854775807) : OneF keep settle value id (updE es x (some ⟨s, v, f, t, 0⟩)) failed :=
  ⟨h.f0, h.f1, by
    have hq : id ≠ x := fun q => hne q.symm
    rw [← h.here]; simp [updE, hq], fun y e he => by
    unfold updE at he
    by_cases hx : y = x
    · rw [if_pos hx] at he; cases he; exact ⟨h0, h1, by show (0 : Int) ≤ 0; omega, by show (0 : Int) < keep; omega⟩
    · rw [if_neg hx] at he; exact h.ok y e he⟩
end Go.Proofs.Ytkhhkbigpaoinaa
