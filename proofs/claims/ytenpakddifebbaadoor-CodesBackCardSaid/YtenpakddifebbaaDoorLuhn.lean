/- the plain law of the Luhn digits: one wrong digit is seen, two turned about but 0 and 9. No program in sight. -/
import Derived.Test.YtenpakddifebbaaDoorCodesPut
namespace Go.Proofs.YtenpakddifebbaaDoor
set_option linter.unusedVariables false
set_option linter.unusedSimpArgs false

def par : Bool → Nat → Bool
  | t, 0 => t
  | t, n + 1 => par (!t) n
theorem lsum_append (u v : List Int) : ∀ t, lsum (u ++ v) t = lsum u t + lsum v (par t u.length) := by
  induction u with
  | nil => intro t; simp [lsum, par]
  | cons d u ih => intro t; simp only [List.cons_append, lsum, ih, List.length_cons, par]; omega
theorem luhn_one_int (p q : List Int) (d e : Int) (hd : 0 ≤ d ∧ d ≤ 9) (he : 0 ≤ e ∧ e ≤ 9) (h : lsum (p ++ d :: q).reverse false % 10 = lsum (p ++ e :: q).reverse false % 10) : d = e := by
  have e1 : ∀ x, (p ++ x :: q).reverse = q.reverse ++ x :: p.reverse := by intro x; simp
  rw [e1, e1, lsum_append, lsum_append] at h
  simp only [lsum] at h
  generalize par false q.reverse.length = t at h
  cases t
  · simp only [Bool.false_eq_true, if_false] at h; omega
  · simp only [if_true, dbl] at h; omega
theorem luhn_two_int (p q : List Int) (d e : Int) (hd : 0 ≤ d ∧ d ≤ 9) (he : 0 ≤ e ∧ e ≤ 9) (h : lsum (p ++ d :: e :: q).reverse false % 10 = lsum (p ++ e :: d :: q).reverse false % 10) : d = e ∨ (d = 0 ∧ e = 9) ∨ (d = 9 ∧ e = 0) := by
  have e1 : ∀ x y, (p ++ x :: y :: q).reverse = q.reverse ++ y :: x :: p.reverse := by intro x y; simp
  rw [e1, e1, lsum_append, lsum_append] at h
  simp only [lsum] at h
  generalize par false q.reverse.length = t at h
  cases t
  · simp only [Bool.false_eq_true, Bool.not_false, if_false, if_true, dbl] at h; omega
  · simp only [Bool.not_true, Bool.false_eq_true, if_false, if_true, dbl] at h; omega

def isDig (c : UInt8) : Prop := 48 ≤ c.toNat ∧ c.toNat ≤ 57
theorem split_at (L : List UInt8) (i : Nat) (hi : i < L.length) : L = L.take i ++ L[i] :: L.drop (i + 1) := by
  rw [← List.drop_eq_getElem_cons hi, List.take_append_drop]
theorem set_split (L : List UInt8) (i : Nat) (y : UInt8) (hi : i < L.length) : L.set i y = L.take i ++ y :: L.drop (i + 1) := by
  rw [List.set_eq_take_append_cons_drop, if_pos hi]
theorem spread_cat (a b : List UInt8) : spread (a ++ b) = spread a ++ spread b := by simp [spread]
theorem spread_dig (x : UInt8) (b : List UInt8) (h : isDig x) : spread (x :: b) = ((x.toNat : Int) - 48) :: spread b := by
  have := h.2
  simp [spread, signDigits, this]
theorem luhn_as_lsum (L : List UInt8) (h : ∀ c ∈ L, isSign c = true) : (luhnOf (spread L)).1 = lsum (spread L).reverse false % 10 := (luhn_lsum _ (spread_digits _ h)).symm
theorem toNat_ne {x y : UInt8} (h : x ≠ y) : x.toNat ≠ y.toNat := fun e => h (UInt8.toNat_inj.1 e)
theorem sign_set (L : List UInt8) (i : Nat) (y : UInt8) (h : ∀ c ∈ L, isSign c = true) (hy : isDig y) : ∀ c ∈ L.set i y, isSign c = true := by
  intro c hc
  rcases List.mem_or_eq_of_mem_set hc with hc | rfl
  · exact h c hc
  · exact isSign_digit hy.1 hy.2
theorem luhn_one (L : List UInt8) (i : Nat) (y : UInt8) (hi : i < L.length) (hsig : ∀ c ∈ L, isSign c = true) (hx : isDig L[i]) (hy : isDig y) (hne : L[i] ≠ y) (h0 : (luhnOf (spread L)).1 = 0) :
    (luhnOf (spread (L.set i y))).1 ≠ 0 := by
  intro h1
  rw [luhn_as_lsum _ (sign_set L i y hsig hy), set_split L i y hi, spread_cat, spread_dig _ _ hy] at h1
  have e : spread L = spread (L.take i) ++ ((L[i].toNat : Int) - 48) :: spread (L.drop (i + 1)) := by
    conv => lhs; rw [split_at L i hi]
    rw [spread_cat, spread_dig _ _ hx]
  rw [luhn_as_lsum _ hsig, e] at h0
  have h2 := luhn_one_int _ _ _ _ (by have := hx; unfold isDig at this; omega) (by have := hy; unfold isDig at this; omega) (h0.trans h1.symm)
  have := toNat_ne hne
  omega

def turnL (L : List UInt8) (i : Nat) : List UInt8 := (L.set i (L.getD (i + 1) 0)).set (i + 1) (L.getD i 0)
theorem turnL_split (L : List UInt8) (i : Nat) (hi : i + 1 < L.length) : L = L.take i ++ L[i] :: L[i+1] :: L.drop (i + 2) ∧ turnL L i = L.take i ++ L[i+1] :: L[i] :: L.drop (i + 2) := by
  have e1 : L = L.take i ++ L[i] :: L[i+1] :: L.drop (i + 2) := by
    conv => lhs; rw [split_at L i (by omega), List.drop_eq_getElem_cons (by omega : i + 1 < L.length)]
  refine ⟨e1, ?_⟩
  have g0 : L.getD i 0 = L[i] := by rw [List.getD_eq_getElem?_getD, List.getElem?_eq_getElem (by omega)]; rfl
  have g1 : L.getD (i + 1) 0 = L[i+1] := by rw [List.getD_eq_getElem?_getD, List.getElem?_eq_getElem hi]; rfl
  unfold turnL
  rw [g0, g1]
  apply List.ext_getElem?
  intro k
  rw [List.getElem?_set, List.getElem?_set]
  simp only [List.length_set, List.getElem?_append, List.length_take, List.getElem?_take, Nat.min_eq_left (by omega : i ≤ L.length)]
  by_cases hk : i + 1 = k
  · subst hk
    have : ¬ i + 1 < i := by omega
    simp [hi, this]
  · rw [if_neg hk]
    by_cases hk2 : i = k
    · subst hk2
      have : i < L.length := by omega
      simp [this]
    · rw [if_neg hk2]
      by_cases hk3 : k < i
      · simp [hk3]
      · rw [if_neg hk3]
        obtain ⟨m, rfl⟩ : ∃ m, k = i + m + 2 := ⟨k - i - 2, by omega⟩
        have : i + m + 2 - i = m + 2 := by omega
        rw [this]
        simp only [List.getElem?_cons_succ, List.getElem?_drop]
        congr 1
        omega
theorem luhn_two (L : List UInt8) (i : Nat) (hi : i + 1 < L.length) (hsig : ∀ c ∈ L, isSign c = true) (hx : isDig L[i]) (hy : isDig L[i+1]) (hne : L[i] ≠ L[i+1])
    (h9 : ¬ (L[i].toNat + L[i+1].toNat = 105 ∧ (L[i].toNat = 48 ∨ L[i].toNat = 57))) (h0 : (luhnOf (spread L)).1 = 0) : (luhnOf (spread (turnL L i))).1 ≠ 0 := by
  obtain ⟨e1, e2⟩ := turnL_split L i hi
  have hsig2 : ∀ c ∈ turnL L i, isSign c = true := by
    intro c hc
    rw [e2] at hc
    apply hsig
    rw [e1]
    simp only [List.mem_append, List.mem_cons] at hc ⊢
    rcases hc with h | h | h | h
    · exact .inl h
    · exact .inr (.inr (.inl h))
    · exact .inr (.inl h)
    · exact .inr (.inr (.inr h))
  intro h1
  rw [luhn_as_lsum _ hsig2, e2, spread_cat, spread_dig _ _ hy, spread_dig _ _ hx] at h1
  have e : spread L = spread (L.take i) ++ ((L[i].toNat : Int) - 48) :: ((L[i+1].toNat : Int) - 48) :: spread (L.drop (i + 2)) := by
    conv => lhs; rw [e1]
    rw [spread_cat, spread_dig _ _ hx, spread_dig _ _ hy]
  rw [luhn_as_lsum _ hsig, e] at h0
  have h2 := luhn_two_int _ _ _ _ (by have := hx; unfold isDig at this; omega) (by have := hy; unfold isDig at this; omega) (h0.trans h1.symm)
  have := toNat_ne hne
  omega

theorem isB_digit {x y : UInt8} {f : Int} (hx : isDig x) (hy : isDig y) (h : isB x.toNat f = true) : isB y.toNat f = true := by
  unfold isDig at *
  unfold isB at *
  simp only [Bool.or_eq_true, Bool.and_eq_true, decide_eq_true_eq, bne_iff_ne, ne_eq] at *
  omega
theorem hasR_set (L f : List UInt8) (i : Nat) (y : UInt8) (hi : i < L.length) (hx : isDig L[i]) (hy : isDig y) (h : (hasR L f).1 = 0) : hasR (L.set i y) f = (0, none) := by
  obtain ⟨hl, hf⟩ := hasR_fits h
  refine hasR_ok _ _ (by simpa using hl) (fun j hj => ?_)
  have hj' : j < L.length := by simpa using hj
  have := hf j hj'
  by_cases e : i = j
  · subst e
    rw [List.getD_eq_getElem?_getD, List.getElem?_set_self hj']
    rw [List.getD_eq_getElem?_getD, List.getElem?_eq_getElem hj'] at this
    exact isB_digit hx hy this
  · rw [List.getD_eq_getElem?_getD, List.getElem?_set_ne e, ← List.getD_eq_getElem?_getD]
    exact this
theorem isinR_one (L : List UInt8) (i : Nat) (y : UInt8) (hi : i < L.length) (hx : isDig L[i]) (hy : isDig y) (hne : L[i] ≠ y) (h : isinR L = (0, none)) : isinR (L.set i y) = (7, none) := by
  unfold isinR at h
  split at h
  · rename_i h1
    split at h
    · rename_i h2
      unfold isinR
      rw [hasR_set L _ i y hi hx hy h1, if_pos rfl, if_neg (luhn_one L i y hi (hasR_signs h1) hx hy hne h2)]
    · cases h
  · rename_i h1
    rw [h] at h1
    exact absurd rfl h1
theorem isinR_two (L : List UInt8) (i : Nat) (hi : i + 1 < L.length) (hx : isDig L[i]) (hy : isDig L[i+1]) (hne : L[i] ≠ L[i+1])
    (h9 : ¬ (L[i].toNat + L[i+1].toNat = 105 ∧ (L[i].toNat = 48 ∨ L[i].toNat = 57))) (h : isinR L = (0, none)) : isinR (turnL L i) = (7, none) := by
  unfold isinR at h
  split at h
  · rename_i h1
    split at h
    · rename_i h2
      have g0 : L.getD i 0 = L[i] := by rw [List.getD_eq_getElem?_getD, List.getElem?_eq_getElem (by omega)]; rfl
      have g1 : L.getD (i + 1) 0 = L[i+1] := by rw [List.getD_eq_getElem?_getD, List.getElem?_eq_getElem hi]; rfl
      have hs1 := hasR_set L formIsin i L[i+1] (by omega) hx hy h1
      have hs2 : hasR (turnL L i) formIsin = (0, none) := by
        unfold turnL
        rw [g0, g1]
        refine hasR_set _ _ _ _ (by simpa using hi) ?_ hx (by rw [hs1])
        rw [List.getElem_set_ne (by omega)]
        exact hy
      unfold isinR
      rw [hs2, if_pos rfl, if_neg (luhn_two L i hi (hasR_signs h1) hx hy hne h9 h2)]
    · cases h
  · rename_i h1
    rw [h] at h1
    exact absurd rfl h1
/-- a head that is taken, and its digit: an ISIN -/
theorem isinR_head (H : List UInt8) (h : (hasR H formHead).1 = 0) : isinR (H ++ [UInt8.ofNat (isinDigitR H).toNat]) = (0, none) ∧ 48 ≤ isinDigitR H ∧ isinDigitR H ≤ 57 := by
  have hd : isinDigitR H = 48 + (10 - (luhnOf (spread (H ++ [48]))).1) % 10 := by unfold isinDigitR; rw [if_pos h]
  have hb := (luhnOf_bd (spread H)).2
  have hr : 48 ≤ isinDigitR H ∧ isinDigitR H ≤ 57 := by omega
  have hn : ((UInt8.ofNat (isinDigitR H).toNat).toNat : Int) = isinDigitR H := by simp; omega
  obtain ⟨hl, hf⟩ := hasR_fits h
  have h11 : H.length = 11 := by simpa [formHead] using hl
  have hfit : hasR (H ++ [UInt8.ofNat (isinDigitR H).toNat]) formIsin = (0, none) := by
    refine hasR_ok _ _ (by simp [h11, formIsin]) (fun j hj => ?_)
    by_cases hjl : j < 11
    · have := hf j (by omega)
      rw [show (H ++ [UInt8.ofNat (isinDigitR H).toNat]).getD j 0 = H.getD j 0 from by rw [List.getD_eq_getElem?_getD, List.getElem?_append_left (by omega), ← List.getD_eq_getElem?_getD]]
      have e : formIsin.getD j 0 = formHead.getD j 0 := by
        have : ∀ j : Fin 11, formIsin.getD j 0 = formHead.getD j 0 := by decide
        exact this ⟨j, hjl⟩
      rw [e]
      exact this
    · have hj11 : j = 11 := by simp at hj; omega
      subst hj11
      rw [show (H ++ [UInt8.ofNat (isinDigitR H).toNat]).getD 11 0 = UInt8.ofNat (isinDigitR H).toNat from by rw [List.getD_eq_getElem?_getD, List.getElem?_append_right (by omega), h11]; rfl]
      show isB (UInt8.ofNat (isinDigitR H).toNat).toNat 68 = true
      rw [hn]
      simp [isB]
      omega
  have h48 := luhn_digit H 48 (by decide) (by decide)
  have hz := luhn_digit H (UInt8.ofNat (isinDigitR H).toNat) (by omega) (by omega)
  refine ⟨?_, hr⟩
  unfold isinR
  rw [hfit, if_pos rfl, if_pos ?_]
  rw [hz, hn]
  have e48 : ((48 : UInt8).toNat : Int) = 48 := rfl
  rw [e48] at h48
  omega
end Go.Proofs.YtenpakddifebbaaDoor
