/- a binary heap in a list: what up and down keep, in plain Lean; no program in sight. -/
import Derived.Test.YtffioombjejchaaBase
namespace Go.Proofs.Ytffioombjejchaa
set_option linter.unusedVariables false
set_option linter.unusedSimpArgs false

namespace HP
variable {E : Type} [Inhabited E]
/-- the element at a place -/
def at' (l : List E) (i : Nat) : E := l.getD i default
/-- two elements exchanged -/
def swap (l : List E) (i j : Nat) : List E := (l.set i (at' l j)).set j (at' l i)
theorem swap_length (l : List E) (i j : Nat) : (swap l i j).length = l.length := by simp [swap]
theorem at_get {l : List E} {i : Nat} (h : i < l.length) : at' l i = l[i] := by
  unfold at'; rw [List.getD_eq_getElem?_getD, List.getElem?_eq_getElem h]; rfl
theorem swap_perm {l : List E} {i j : Nat} (hi : i < l.length) (hj : j < l.length) : (swap l i j).Perm l := by
  unfold swap; rw [at_get hi, at_get hj]; exact List.set_set_perm hi hj
theorem at_set {l : List E} {i : Nat} (e : E) (k : Nat) (h : i < l.length) : at' (l.set i e) k = if k = i then e else at' l k := by
  unfold at'
  rw [List.getD_eq_getElem?_getD, List.getElem?_set, List.getD_eq_getElem?_getD]
  by_cases e1 : k = i
  · subst e1; simp [h]
  · rw [if_neg (fun x => e1 x.symm), if_neg e1]
theorem at_swap {l : List E} {i j : Nat} (hi : i < l.length) (hj : j < l.length) (k : Nat) : at' (swap l i j) k = if k = j then at' l i else if k = i then at' l j else at' l k := by
  unfold swap
  rw [at_set _ _ (by simpa using hj), at_set _ _ hi]

variable (lt : E → E → Bool)
/-- a is not behind b -/
def le (a b : E) : Prop := lt b a = false
structure Ord : Prop where
  trans : ∀ a b c, le lt a b → le lt b c → le lt a c
  asym : ∀ a b, lt a b = true → le lt a b
variable {lt}
/-- the edge above place j -/
def Edge (lt : E → E → Bool) (l : List E) (j : Nat) : Prop := le lt (at' l ((j - 1) / 2)) (at' l j)
/-- a heap -/
def HO (lt : E → E → Bool) (l : List E) : Prop := ∀ j, 0 < j → j < l.length → Edge lt l j
/-- what stands below place i is not ahead of what stands above it -/
def Over (lt : E → E → Bool) (l : List E) (i : Nat) : Prop := ∀ j, (j - 1) / 2 = i → 0 < j → j < l.length → 0 < i → le lt (at' l ((i - 1) / 2)) (at' l j)
/-- all edges but those that meet place i -/
def Loose (lt : E → E → Bool) (l : List E) (i : Nat) : Prop := (∀ j, 0 < j → j < l.length → j ≠ i → (j - 1) / 2 ≠ i → Edge lt l j) ∧ Over lt l i
/-- all edges but the one above place i -/
def Rising (lt : E → E → Bool) (l : List E) (i : Nat) : Prop := (∀ j, 0 < j → j < l.length → j ≠ i → Edge lt l j) ∧ Over lt l i
/-- all edges but those below place i -/
def Sinking (lt : E → E → Bool) (l : List E) (i : Nat) : Prop := (∀ j, 0 < j → j < l.length → (j - 1) / 2 ≠ i → Edge lt l j) ∧ Over lt l i

theorem up_step (ho : Ord lt) {l : List E} {i : Nat} (hi : 0 < i) (hl : i < l.length) (h : Loose lt l i) (hlt : lt (at' l i) (at' l ((i - 1) / 2)) = true) : Rising lt (swap l i ((i - 1) / 2)) ((i - 1) / 2) := by
  have hp : (i - 1) / 2 < l.length := by omega
  have hne : (i - 1) / 2 ≠ i := by omega
  generalize hpe : (i - 1) / 2 = p at *
  refine ⟨fun j h0 hj hjp => ?_, fun j hjp h0 hj hp0 => ?_⟩
  · rw [swap_length] at hj
    unfold Edge
    rw [at_swap hl hp, at_swap hl hp]
    by_cases e1 : (j - 1) / 2 = p
    · rw [if_pos e1, if_neg hjp]
      by_cases e2 : j = i
      · rw [if_pos e2]; exact ho.asym _ _ hlt
      · rw [if_neg e2]
        have h1 := h.1 j h0 hj e2 (by omega)
        unfold Edge at h1
        rw [e1] at h1
        exact ho.trans _ _ _ (ho.asym _ _ hlt) h1
    · rw [if_neg e1, if_neg hjp]
      by_cases e3 : (j - 1) / 2 = i
      · rw [if_pos e3, if_neg (by omega)]
        have := h.2 j e3 h0 hj hi
        rwa [hpe] at this
      · rw [if_neg e3]
        by_cases e2 : j = i
        · subst e2; exact absurd hpe e1
        · rw [if_neg e2]
          exact h.1 j h0 hj e2 e3
  · rw [swap_length] at hj
    rw [at_swap hl hp, at_swap hl hp, if_neg (by omega), if_neg (by omega), if_neg (by omega)]
    have h2 := h.1 p hp0 hp hne (by omega)
    unfold Edge at h2
    by_cases e2 : j = i
    · rw [if_pos e2]; exact h2
    · rw [if_neg e2]
      have h1 := h.1 j h0 hj e2 (by omega)
      unfold Edge at h1
      rw [hjp] at h1
      exact ho.trans _ _ _ h2 h1
theorem Rising.loose {l : List E} {i : Nat} (h : Rising lt l i) : Loose lt l i := ⟨fun j a b c _ => h.1 j a b c, h.2⟩
/-- up comes to its end: where it stands the edge above is right, or there is none -/
theorem rising_ho {l : List E} {i : Nat} (h : Rising lt l i) (hi : i = 0 ∨ Edge lt l i) : HO lt l := fun j h0 hj => by
  by_cases e : j = i
  · subst e
    rcases hi with hi | hi
    · omega
    · exact hi
  · exact h.1 j h0 hj e
theorem loose_sinking {l : List E} {i : Nat} (h : Loose lt l i) (hi : i = 0 ∨ Edge lt l i) : Sinking lt l i := ⟨fun j h0 hj hjp => by
  by_cases e : j = i
  · subst e
    rcases hi with hi | hi
    · omega
    · exact hi
  · exact h.1 j h0 hj e hjp, h.2⟩
theorem HO.over (ho : Ord lt) {l : List E} (h : HO lt l) (i : Nat) (hi : i < l.length) : Over lt l i := fun j hj h0 hl hi0 => by
  have h1 := h i hi0 hi
  have h2 := h j h0 hl
  unfold Edge at h1 h2
  rw [hj] at h2
  exact ho.trans _ _ _ h1 h2
theorem HO.sinking (ho : Ord lt) {l : List E} (h : HO lt l) (i : Nat) (hi : i < l.length) : Sinking lt l i := ⟨fun j h0 hj _ => h j h0 hj, h.over ho i hi⟩
theorem down_step (ho : Ord lt) {l : List E} {i c : Nat} (hc : c = 2 * i + 1 ∨ c = 2 * i + 2) (hl : c < l.length) (h : Sinking lt l i) (hlt : lt (at' l c) (at' l i) = true)
    (hmin : ∀ j, (j - 1) / 2 = i → 0 < j → j < l.length → le lt (at' l c) (at' l j)) : Sinking lt (swap l i c) c := by
  have hil : i < l.length := by omega
  refine ⟨fun j h0 hj hjc => ?_, fun j hjc h0 hj hc0 => ?_⟩
  · rw [swap_length] at hj
    unfold Edge
    rw [at_swap hil hl, at_swap hil hl, if_neg hjc]
    by_cases e1 : (j - 1) / 2 = i
    · rw [if_pos e1]
      by_cases e2 : j = c
      · rw [if_pos e2]; exact ho.asym _ _ hlt
      · rw [if_neg e2, if_neg (by omega)]
        exact hmin j e1 h0 hj
    · rw [if_neg e1, if_neg (by omega)]
      by_cases e3 : j = i
      · rw [if_pos e3]
        have h1 := h.2 c (by omega) (by omega) hl (by omega)
        rwa [← e3] at h1
      · rw [if_neg e3]
        exact h.1 j h0 hj e1
  · rw [swap_length] at hj
    have : (c - 1) / 2 = i := by omega
    rw [at_swap hil hl, at_swap hil hl, this, if_neg (by omega), if_pos rfl, if_neg (by omega), if_neg (by omega)]
    have h1 := h.1 j h0 hj (by omega)
    unfold Edge at h1
    rwa [hjc] at h1
theorem sinking_ho {l : List E} {i : Nat} (h : Sinking lt l i) (hi : ∀ j, (j - 1) / 2 = i → 0 < j → j < l.length → Edge lt l j) : HO lt l := fun j h0 hj => by
  by_cases e : (j - 1) / 2 = i
  · exact hi j e h0 hj
  · exact h.1 j h0 hj e
/-- the first of a heap is not behind any -/
theorem HO.first (ho : Ord lt) {l : List E} (h : HO lt l) (hr : ∀ a, le lt a a) : ∀ (n j : Nat), j ≤ n → j < l.length → le lt (at' l 0) (at' l j) := by
  intro n
  induction n with
  | zero =>
    intro j hj hl
    obtain rfl : j = 0 := Nat.le_zero.1 hj
    exact hr _
  | succ n ih =>
    intro j hj hl
    by_cases e : j = 0
    · subst e; exact hr _
    · exact ho.trans _ _ _ (ih ((j - 1) / 2) (by omega) (by omega)) (h j (by omega) hl)
theorem HO.push {l : List E} (h : HO lt l) (e : E) : Rising lt (l ++ [e]) l.length := by
  refine ⟨fun j h0 hj hjn => ?_, fun j hj h0 hl h0' => ?_⟩
  · have hjl : j < l.length := by simp at hj; omega
    have h1 := h j h0 hjl
    unfold Edge at h1 ⊢
    have e1 : ∀ k, k < l.length → at' (l ++ [e]) k = at' l k := fun k hk => by
      unfold at'; rw [List.getD_eq_getElem?_getD, List.getElem?_append_left hk, ← List.getD_eq_getElem?_getD]
    rw [e1 _ hjl, e1 _ (by omega)]
    exact h1
  · simp at hl; omega
/-- what a heap is when its last takes the place i and the list is cut by one -/
def cut (l : List E) (i : Nat) : List E := (l.set i (at' l (l.length - 1))).take (l.length - 1)
theorem cut_length (l : List E) (i : Nat) : (cut l i).length = l.length - 1 := by simp [cut]
theorem at_cut {l : List E} {i k : Nat} (hi : i < l.length) (hk : k < l.length - 1) : at' (cut l i) k = if k = i then at' l (l.length - 1) else at' l k := by
  have : at' (cut l i) k = at' (l.set i (at' l (l.length - 1))) k := by
    unfold at' cut
    rw [List.getD_eq_getElem?_getD, List.getElem?_take_of_lt hk, ← List.getD_eq_getElem?_getD]
    rfl
  rw [this, at_set _ _ hi]
theorem HO.cut (ho : Ord lt) {l : List E} (h : HO lt l) {i : Nat} (hi : i < l.length - 1) : Loose lt (HP.cut l i) i := by
  refine ⟨fun j h0 hj hji hjp => ?_, fun j hj h0 hl h0' => ?_⟩
  · rw [cut_length] at hj
    unfold Edge
    rw [at_cut (by omega) hj, at_cut (by omega) (by omega), if_neg hji, if_neg hjp]
    exact h j h0 (by omega)
  · rw [cut_length] at hl
    rw [at_cut (by omega) hl, at_cut (by omega) (by omega), if_neg (by omega), if_neg (by omega)]
    exact h.over ho i (by omega) j hj h0 (by omega) h0'
theorem HO.cut_last {l : List E} (h : HO lt l) (hl : 0 < l.length) : HO lt (HP.cut l (l.length - 1)) := fun j h0 hj => by
  rw [cut_length] at hj
  unfold Edge
  rw [at_cut (by omega) hj, at_cut (by omega) (by omega), if_neg (by omega), if_neg (by omega)]
  exact h j h0 (by omega)
theorem cut_perm {l : List E} {i : Nat} (hi : i < l.length) : l.Perm (at' l i :: cut l i) := by
  have hl : 0 < l.length := by omega
  have e : swap l i (l.length - 1) = cut l i ++ [at' l i] := by
    apply List.ext_getElem?
    intro k
    by_cases hk : k < l.length - 1
    · rw [List.getElem?_append_left (by rw [cut_length]; exact hk)]
      unfold swap cut
      rw [List.getElem?_take_of_lt hk, List.getElem?_set, if_neg (by omega)]
    · by_cases hk2 : k = l.length - 1
      · subst hk2
        rw [List.getElem?_append_right (by rw [cut_length]; exact Nat.le_refl _), cut_length]
        unfold swap
        rw [List.getElem?_set, if_pos rfl, if_pos (by simp; omega)]
        simp
      · rw [List.getElem?_eq_none (by rw [swap_length]; omega), List.getElem?_eq_none (by simp [cut_length]; omega)]
  have h1 := swap_perm (l := l) (i := i) (j := l.length - 1) hi (by omega)
  rw [e] at h1
  exact h1.symm.trans (List.perm_append_singleton _ _)
end HP
end Go.Proofs.Ytffioombjejchaa
