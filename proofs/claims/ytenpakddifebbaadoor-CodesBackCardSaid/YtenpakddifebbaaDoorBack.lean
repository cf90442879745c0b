/- the plain law of CodesBack: of a head just one digit, just one pair of digits is taken. No program in sight. -/
import Derived.Test.YtenpakddifebbaaDoorMod97
namespace Go.Proofs.YtenpakddifebbaaDoor
set_option linter.unusedVariables false
set_option linter.unusedSimpArgs false

theorem hasR_iff {s f : List UInt8} : (hasR s f).1 = 0 ↔ s.length = f.length ∧ ∀ j, j < s.length → isB (s.getD j 0).toNat (f.getD j 0).toNat = true :=
  ⟨hasR_fits, fun ⟨h1, h2⟩ => by rw [hasR_ok s f h1 h2]⟩
theorem getD_left {α : Type} [Inhabited α] (a b : List α) (j : Nat) (d : α) (h : j < a.length) : (a ++ b).getD j d = a.getD j d := by
  rw [List.getD_eq_getElem?_getD, List.getElem?_append_left h, ← List.getD_eq_getElem?_getD]
theorem getD_right {α : Type} [Inhabited α] (a b : List α) (j : Nat) (d : α) : (a ++ b).getD (a.length + j) d = b.getD j d := by
  rw [List.getD_eq_getElem?_getD, List.getElem?_append_right (by omega), ← List.getD_eq_getElem?_getD]
  congr 1
  omega
theorem hasR_cat (H D F G : List UInt8) (hD : D.length = G.length) (hfit : ∀ j, j < D.length → isB (D.getD j 0).toNat (G.getD j 0).toNat = true) : (hasR (H ++ D) (F ++ G)).1 = 0 ↔ (hasR H F).1 = 0 := by
  rw [hasR_iff, hasR_iff]
  constructor
  · rintro ⟨h1, h2⟩
    have hl : H.length = F.length := by simp at h1; omega
    refine ⟨hl, fun j hj => ?_⟩
    have := h2 j (by simp; omega)
    rw [getD_left _ _ _ _ hj, getD_left _ _ _ _ (by omega)] at this
    exact this
  · rintro ⟨h1, h2⟩
    refine ⟨by simp; omega, fun j hj => ?_⟩
    by_cases hjl : j < H.length
    · rw [getD_left _ _ _ _ hjl, getD_left _ _ _ _ (by omega)]
      exact h2 j hjl
    · obtain ⟨k, rfl⟩ : ∃ k, j = H.length + k := ⟨j - H.length, by omega⟩
      rw [getD_right]
      rw [h1, getD_right]
      exact hfit k (by simp at hj; omega)
theorem isB_dig {c : UInt8} (h : isDig c) : isB c.toNat 68 = true := by
  unfold isDig at h
  simp only [isB, Bool.or_eq_true, Bool.and_eq_true, decide_eq_true_eq, bne_iff_ne, ne_eq]
  omega
/-- just one digit is taken behind a head -/
theorem isin_back (H : List UInt8) (c : UInt8) (hc : isDig c) : (isinR (H ++ [c])).1 = 0 ↔ ((hasR H formHead).1 = 0 ∧ (c.toNat : Int) = isinDigitR H) := by
  have hcat : (hasR (H ++ [c]) formIsin).1 = 0 ↔ (hasR H formHead).1 = 0 :=
    hasR_cat H [c] formHead [68] rfl (fun j hj => by
      have : j = 0 := by simpa using hj
      subst this
      exact isB_dig hc)
  by_cases h : (hasR H formHead).1 = 0
  · have h48 := luhn_digit H 48 (by decide) (by decide)
    have hz := luhn_digit H c hc.1 hc.2
    have hd : isinDigitR H = 48 + (10 - (luhnOf (spread (H ++ [48]))).1) % 10 := by unfold isinDigitR; rw [if_pos h]
    have hb := (luhnOf_bd (spread H)).2
    have e48 : ((48 : UInt8).toNat : Int) = 48 := rfl
    rw [e48] at h48
    have hiff : (luhnOf (spread (H ++ [c]))).1 = 0 ↔ (c.toNat : Int) = isinDigitR H := by
      have := hc
      unfold isDig at this
      rw [hz, hd, h48]
      omega
    unfold isinR
    rw [if_pos (hcat.2 h)]
    constructor
    · intro hh
      split at hh
      · rename_i h2; exact ⟨h, hiff.1 h2⟩
      · cases hh
    · rintro ⟨_, h2⟩
      rw [if_pos (hiff.2 h2)]
  · have hn : ¬ (hasR (H ++ [c]) formIsin).1 = 0 := fun x => h (hcat.1 x)
    unfold isinR
    rw [if_neg hn]
    exact ⟨fun x => absurd x hn, fun x => absurd x.1 h⟩
/-- just one pair of digits is taken behind a head -/
theorem lei_back (H : List UInt8) (a b : UInt8) (ha : isDig a) (hb : isDig b) : (leiR (H ++ [a, b])).1 = 0 ↔ ((hasR H formLeiHead).1 = 0 ∧ [a, b] = digits2 H) := by
  have hcat : (hasR (H ++ [a, b]) formLei).1 = 0 ↔ (hasR H formLeiHead).1 = 0 :=
    hasR_cat H [a, b] formLeiHead [68, 68] rfl (fun j hj => by
      have : j = 0 ∨ j = 1 := by simp at hj; omega
      rcases this with rfl | rfl
      · exact isB_dig ha
      · exact isB_dig hb)
  by_cases h : (hasR H formLeiHead).1 = 0
  · have h18 : H.length = 18 := by simpa [formLeiHead] using (hasR_fits h).1
    have ed : (H ++ [a, b]).drop 18 = [a, b] := by rw [← h18, List.drop_left]
    have et : (H ++ [a, b]).take 18 = H := by rw [← h18, List.take_left]
    unfold leiR
    rw [if_pos (hcat.2 h), ed, et]
    constructor
    · intro hh
      split at hh
      · rename_i h2; exact ⟨h, h2⟩
      · cases hh
    · rintro ⟨_, h2⟩
      rw [if_pos h2]
  · have hn : ¬ (hasR (H ++ [a, b]) formLei).1 = 0 := fun x => h (hcat.1 x)
    unfold leiR
    rw [if_neg hn]
    exact ⟨fun x => absurd x hn, fun x => absurd x.1 h⟩
end Go.Proofs.YtenpakddifebbaaDoor
