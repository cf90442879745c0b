/- the plain law of the remainder modulo 97: one wrong sign of a sort is seen, two of a sort turned about. No program in sight. -/
import Derived.Test.YtenpakddifebbaaDoorLuhn
import Derived.Test.YtenpakddifebbaaDoorLeiRef
namespace Go.Proofs.YtenpakddifebbaaDoor
set_option linter.unusedVariables false
set_option linter.unusedSimpArgs false

def remF (r : Int) (ds : List Int) : Int := ds.foldl (fun r d => (r * 10 + d) % 97) r
theorem remOf_append (p q : List Int) : remOf (p ++ q) = remF (remOf p) q := by simp [remOf, remF, List.foldl_append]
theorem remF_append (r : Int) (p q : List Int) : remF r (p ++ q) = remF (remF r p) q := by simp [remF, List.foldl_append]
theorem remF_inj (q : List Int) : ∀ r s : Int, remF r q = remF s q → r % 97 = s % 97 := by
  induction q with
  | nil => intro r s h; exact congrArg (· % 97) h
  | cons d q ih => intro r s h; have h2 : (r * 10 + d) % 97 % 97 = (s * 10 + d) % 97 % 97 := ih _ _ h; omega
theorem remF_cons (r d : Int) (q : List Int) : remF r (d :: q) = remF ((r * 10 + d) % 97) q := rfl
theorem remF_four (r a b c d : Int) (q : List Int) : remF r (a :: b :: c :: d :: q) = remF ((r * 10000 + (10 * a + b) * 100 + (10 * c + d)) % 97) q := by
  have e : ((((r * 10 + a) % 97 * 10 + b) % 97 * 10 + c) % 97 * 10 + d) % 97 = (r * 10000 + (10 * a + b) * 100 + (10 * c + d)) % 97 := by omega
  rw [← e]
  rfl
theorem cap_val (x : Int) : 10 * ((x - 65) / 10 + 1) + (x - 65) % 10 = x - 55 := by omega
theorem remF_bd (q : List Int) (r : Int) (h : 0 ≤ r ∧ r ≤ 96) : 0 ≤ remF r q ∧ remF r q ≤ 96 := by
  induction q generalizing r with
  | nil => exact h
  | cons d q ih => exact ih ((r * 10 + d) % 97) (by omega)

def isCap (c : UInt8) : Prop := 65 ≤ c.toNat ∧ c.toNat ≤ 90
/-- two signs of one sort -/
def oneSort (x y : UInt8) : Prop := (isDig x ∧ isDig y) ∨ (isCap x ∧ isCap y)
theorem spread_cap (x : UInt8) (b : List UInt8) (h : isCap x) : spread (x :: b) = (((x.toNat : Int) - 65) / 10 + 1) :: (((x.toNat : Int) - 65) % 10) :: spread b := by
  have : ¬ x.toNat ≤ 57 := by unfold isCap at h; omega
  simp [spread, signDigits, this]
theorem rem_one (L : List UInt8) (i : Nat) (y : UInt8) (hi : i < L.length) (hs : oneSort L[i] y) (hne : L[i] ≠ y) : remOf (spread (L.set i y)) ≠ remOf (spread L) := by
  intro h
  have hn := toNat_ne hne
  have e : spread L = spread (L.take i ++ L[i] :: L.drop (i + 1)) := by rw [← split_at L i hi]
  rw [e, set_split L i y hi, spread_cat, spread_cat, remOf_append, remOf_append] at h
  have hb := remOf_bd (spread (L.take i))
  generalize remOf (spread (L.take i)) = R at h hb
  generalize L[i] = x at *
  rcases hs with ⟨h1, h2⟩ | ⟨h1, h2⟩
  · rw [spread_dig _ _ h1, spread_dig _ _ h2] at h
    simp only [remF_cons] at h
    have := remF_inj _ _ _ h
    unfold isDig at h1 h2
    omega
  · rw [spread_cap _ _ h1, spread_cap _ _ h2] at h
    simp only [remF_cons] at h
    have := remF_inj _ _ _ h
    unfold isCap at h1 h2
    omega
theorem rem_two (L : List UInt8) (i : Nat) (hi : i + 1 < L.length) (hs : oneSort L[i] L[i+1]) (hne : L[i] ≠ L[i+1]) : remOf (spread (turnL L i)) ≠ remOf (spread L) := by
  intro h
  have hn := toNat_ne hne
  obtain ⟨e1, e2⟩ := turnL_split L i hi
  have e : spread L = spread (L.take i ++ L[i] :: L[i+1] :: L.drop (i + 2)) := by rw [← e1]
  rw [e, e2, spread_cat, spread_cat, remOf_append, remOf_append] at h
  have hb := remOf_bd (spread (L.take i))
  generalize remOf (spread (L.take i)) = R at h hb
  clear e e1 e2
  generalize L[i] = x at *
  generalize L[i+1] = y at *
  rcases hs with ⟨h1, h2⟩ | ⟨h1, h2⟩
  · rw [spread_dig _ _ h2, spread_dig _ _ h1, spread_dig _ _ h1, spread_dig _ _ h2] at h
    simp only [remF_cons] at h
    have := remF_inj _ _ _ h
    unfold isDig at h1 h2
    omega
  · rw [spread_cap _ _ h2, spread_cap _ _ h1, spread_cap _ _ h1, spread_cap _ _ h2, remF_four, remF_four, cap_val, cap_val] at h
    have h3 := remF_inj _ _ _ h
    unfold isCap at h1 h2
    clear h hi hne
    omega

/-- what is taken has the remainder 1 -/
theorem rem_check (H : List UInt8) (D : List UInt8) (hD : D = digits2 H) : remOf (spread (H ++ D)) = 1 := by
  have hb := remOf_bd (spread (H ++ [48, 48]))
  have e48 : spread (H ++ [48, 48]) = spread H ++ [0, 0] := by rw [spread_cat]; rfl
  rw [e48, remOf_append] at hb
  have hr := remOf_bd (spread H)
  subst hD
  unfold digits2
  rw [e48, remOf_append]
  simp only
  generalize hRdef : remOf (spread H) = R at *
  have eR : remF R [0, 0] = (R * 10 + 0) % 97 * 10 % 97 := by simp [remF]
  rw [eR] at hb ⊢
  obtain ⟨n, hn⟩ : ∃ n : Nat, 98 - (R * 10 + 0) % 97 * 10 % 97 = n := ⟨(98 - (R * 10 + 0) % 97 * 10 % 97).toNat, by omega⟩
  rw [hn, Int.toNat_natCast, spread_cat, remOf_append, hRdef]
  have hnn : n ≤ 98 := by omega
  have m1 : (48 + n / 10) % 256 = 48 + n / 10 := Nat.mod_eq_of_lt (by omega)
  have m2 : (48 + n % 10) % 256 = 48 + n % 10 := Nat.mod_eq_of_lt (by omega)
  have t1 : (UInt8.ofNat (48 + n / 10)).toNat = 48 + n / 10 := by rw [UInt8.toNat_ofNat']; exact m1
  have t2 : (UInt8.ofNat (48 + n % 10)).toNat = 48 + n % 10 := by rw [UInt8.toNat_ofNat']; exact m2
  have d1 : isDig (UInt8.ofNat (48 + n / 10)) := by unfold isDig; rw [t1]; omega
  have d2 : isDig (UInt8.ofNat (48 + n % 10)) := by unfold isDig; rw [t2]; omega
  have v1 : ((UInt8.ofNat (48 + n / 10)).toNat : Int) = 48 + (n : Int) / 10 := by rw [t1]; omega
  have v2 : ((UInt8.ofNat (48 + n % 10)).toNat : Int) = 48 + (n : Int) % 10 := by rw [t2]; omega
  rw [spread_dig _ _ d1, spread_dig _ _ d2, v1, v2]
  have e0 : spread ([] : List UInt8) = [] := rfl
  rw [e0]
  simp only [remF_cons]
  show ((R * 10 + (48 + (n : Int) / 10 - 48)) % 97 * 10 + (48 + (n : Int) % 10 - 48)) % 97 = 1
  omega

theorem isB_sort {x y : UInt8} {f : Int} (hs : oneSort x y) (h : isB x.toNat f = true) : isB y.toNat f = true := by
  unfold oneSort isDig isCap at hs
  unfold isB at *
  simp only [Bool.or_eq_true, Bool.and_eq_true, decide_eq_true_eq, bne_iff_ne, ne_eq] at *
  omega
theorem hasR_sort (L f : List UInt8) (i : Nat) (y : UInt8) (hi : i < L.length) (hs : oneSort L[i] y) (h : (hasR L f).1 = 0) : hasR (L.set i y) f = (0, none) := by
  obtain ⟨hl, hf⟩ := hasR_fits h
  refine hasR_ok _ _ (by simpa using hl) (fun j hj => ?_)
  have hj' : j < L.length := by simpa using hj
  have := hf j hj'
  by_cases e : i = j
  · subst e
    rw [List.getD_eq_getElem?_getD, List.getElem?_set_self hj']
    rw [List.getD_eq_getElem?_getD, List.getElem?_eq_getElem hj'] at this
    exact isB_sort hs this
  · rw [List.getD_eq_getElem?_getD, List.getElem?_set_ne e, ← List.getD_eq_getElem?_getD]
    exact this
theorem oneSort_symm {x y : UInt8} (h : oneSort x y) : oneSort y x := h.imp And.symm And.symm
theorem leiR_rem {L : List UInt8} (h : leiR L = (0, none)) : (hasR L formLei).1 = 0 ∧ remOf (spread L) = 1 := by
  unfold leiR at h
  split at h
  · rename_i h1
    split at h
    · rename_i h2
      refine ⟨h1, ?_⟩
      have := rem_check (L.take 18) (L.drop 18) h2
      rwa [List.take_append_drop] at this
    · cases h
  · rename_i h1
    rw [h] at h1
    exact absurd rfl h1
theorem leiR_bad {L : List UInt8} (h1 : hasR L formLei = (0, none)) (h : remOf (spread L) ≠ 1) : leiR L = (7, none) := by
  unfold leiR
  rw [h1, if_pos rfl, if_neg ?_]
  intro h2
  have := rem_check (L.take 18) (L.drop 18) h2
  rw [List.take_append_drop] at this
  exact h this
theorem leiR_one (L : List UInt8) (i : Nat) (y : UInt8) (hi : i < L.length) (hs : oneSort L[i] y) (hne : L[i] ≠ y) (h : leiR L = (0, none)) : leiR (L.set i y) = (7, none) := by
  obtain ⟨h1, h2⟩ := leiR_rem h
  refine leiR_bad (hasR_sort L _ i y hi hs h1) ?_
  rw [← h2]
  exact rem_one L i y hi hs hne
theorem leiR_two (L : List UInt8) (i : Nat) (hi : i + 1 < L.length) (hs : oneSort L[i] L[i+1]) (hne : L[i] ≠ L[i+1]) (h : leiR L = (0, none)) : leiR (turnL L i) = (7, none) := by
  obtain ⟨h1, h2⟩ := leiR_rem h
  have g0 : L.getD i 0 = L[i] := by rw [List.getD_eq_getElem?_getD, List.getElem?_eq_getElem (by omega)]; rfl
  have g1 : L.getD (i + 1) 0 = L[i+1] := by rw [List.getD_eq_getElem?_getD, List.getElem?_eq_getElem hi]; rfl
  have hs1 := hasR_sort L formLei i L[i+1] (by omega) hs h1
  refine leiR_bad ?_ ?_
  · unfold turnL
    rw [g0, g1]
    refine hasR_sort _ _ _ _ (by simpa using hi) ?_ (by rw [hs1])
    rw [List.getElem_set_ne (by omega)]
    exact oneSort_symm hs
  · rw [← h2]
    exact rem_two L i hi hs hne
/-- a head that is taken, and its two digits: an LEI -/
theorem leiR_head (H : List UInt8) (h : (hasR H formLeiHead).1 = 0) : leiR (H ++ digits2 H) = (0, none) ∧ ∀ c ∈ digits2 H, isDig c := by
  obtain ⟨hl, hf⟩ := hasR_fits h
  have h18 : H.length = 18 := by simpa [formLeiHead] using hl
  have hb := remOf_bd (spread (H ++ [48, 48]))
  have hd : ∀ c ∈ digits2 H, isDig c := by
    intro c hc
    unfold digits2 at hc
    generalize remOf (spread (H ++ [48, 48])) = q at *
    obtain ⟨n, hn⟩ : ∃ n : Nat, 98 - q = n := ⟨(98 - q).toNat, by omega⟩
    simp only [hn, Int.toNat_natCast, List.mem_cons, List.not_mem_nil, or_false] at hc
    have hnn : n ≤ 98 := by omega
    have m1 : (48 + n / 10) % 256 = 48 + n / 10 := Nat.mod_eq_of_lt (by omega)
    have m2 : (48 + n % 10) % 256 = 48 + n % 10 := Nat.mod_eq_of_lt (by omega)
    unfold isDig
    rcases hc with rfl | rfl
    · rw [UInt8.toNat_ofNat', m1]; omega
    · rw [UInt8.toNat_ofNat', m2]; omega
  have hlen : (digits2 H).length = 2 := rfl
  refine ⟨?_, hd⟩
  have hfit : hasR (H ++ digits2 H) formLei = (0, none) := by
    refine hasR_ok _ _ (by simp [h18, hlen, formLei]) (fun j hj => ?_)
    by_cases hjl : j < 18
    · have := hf j (by omega)
      rw [show (H ++ digits2 H).getD j 0 = H.getD j 0 from by rw [List.getD_eq_getElem?_getD, List.getElem?_append_left (by omega), ← List.getD_eq_getElem?_getD]]
      have e : formLei.getD j 0 = formLeiHead.getD j 0 := by
        have : ∀ j : Fin 18, formLei.getD j 0 = formLeiHead.getD j 0 := by decide
        exact this ⟨j, hjl⟩
      rw [e]
      exact this
    · have hj2 : j < 20 := by simp [h18, hlen] at hj; omega
      have e : formLei.getD j 0 = 68 := by
        have : ∀ j : Fin 20, 18 ≤ j.val → formLei.getD j.val 0 = 68 := by decide
        exact this ⟨j, hj2⟩ (by simpa using hjl)
      have hc : (H ++ digits2 H).getD j 0 ∈ digits2 H := by
        rw [List.getD_eq_getElem?_getD, List.getElem?_append_right (by omega), List.getElem?_eq_getElem (by rw [hlen]; omega)]
        simp
      have := hd _ hc
      rw [e]
      unfold isDig at this
      generalize (H ++ digits2 H).getD j 0 = x at this ⊢
      show isB x.toNat 68 = true
      simp only [isB, Bool.or_eq_true, Bool.and_eq_true, decide_eq_true_eq, bne_iff_ne, ne_eq]
      omega
  unfold leiR
  rw [hfit, if_pos rfl, if_pos ?_]
  rw [← h18, List.drop_left, List.take_left]
end Go.Proofs.YtenpakddifebbaaDoor
