/- prio: the law PrioPlay by contract. -/
import Derived.Test.YtffioombjejchaaPrioX
import Derived.Test.YtffioombjejchaaApartTwos
namespace Go.Proofs.Ytffioombjejchaa
set_option linter.unusedVariables false
set_option linter.unusedSimpArgs false
open Go.RowKit
attribute [local irreducible] Go.wpStill

theorem eqTrip (p q : StepT) (w : World) : (Op.equalIn 10000 64 (.agg #[.int .i64 p.1, .int .i64 p.2.1, .int .i64 p.2.2]) (.agg #[.int .i64 q.1, .int .i64 q.2.1, .int .i64 q.2.2])).run Try.prog w = .ok (decide (p = q)) w := by
  obtain ⟨i, hi⟩ : ∃ i, Try.prog.info? 3 = some i := Option.isSome_iff_exists.1 (by kernel_rfl)
  rw [run_equalIn_array w 9999 _ _ Try.underlying64 hi]
  have hc : Try.prog.cellsOf 3 = 1 := by kernel_rfl
  have he : Try.prog.plainKey 3 = true := by kernel_rfl
  have e0 := run_part_plain (P := Try.prog) w he (off := 0) (xs := #[.int .i64 p.1, .int .i64 p.2.1, .int .i64 p.2.2]) (v := .int .i64 p.1) rfl
  have e1 := run_part_plain (P := Try.prog) w he (off := 1) (xs := #[.int .i64 p.1, .int .i64 p.2.1, .int .i64 p.2.2]) (v := .int .i64 p.2.1) rfl
  have e2 := run_part_plain (P := Try.prog) w he (off := 2) (xs := #[.int .i64 p.1, .int .i64 p.2.1, .int .i64 p.2.2]) (v := .int .i64 p.2.2) rfl
  have f0 := run_part_plain (P := Try.prog) w he (off := 0) (xs := #[.int .i64 q.1, .int .i64 q.2.1, .int .i64 q.2.2]) (v := .int .i64 q.1) rfl
  have f1 := run_part_plain (P := Try.prog) w he (off := 1) (xs := #[.int .i64 q.1, .int .i64 q.2.1, .int .i64 q.2.2]) (v := .int .i64 q.2.1) rfl
  have f2 := run_part_plain (P := Try.prog) w he (off := 2) (xs := #[.int .i64 q.1, .int .i64 q.2.1, .int .i64 q.2.2]) (v := .int .i64 q.2.2) rfl
  have g : ∀ a b : Int, (Op.equalIn 9999 3 (.int .i64 a) (.int .i64 b)).run Try.prog w = .ok (a == b) w := fun a b => run_equalIn_int w 9998 _ _ _ _ _ Try.underlying3
  have hl : List.range 3 = [0, 1, 2] := rfl
  rw [hl]
  obtain ⟨p0, p1, p2⟩ := p
  obtain ⟨q0, q1, q2⟩ := q
  simp only at e0 e1 e2 f0 f1 f2 ⊢
  simp only [Op.eqItems, hc, Nat.zero_mul, Nat.one_mul, Nat.mul_one, Sem.run_bind, e0, e1, e2, f0, f1, f2, g, Result.andThen_ok]
  by_cases h0 : p0 = q0
  · subst h0
    by_cases h1 : p1 = q1
    · subst h1
      by_cases h2 : p2 = q2
      · subst h2
        simp [e1, e2, f1, f2, g, Sem.run_bind, Result.andThen_ok]
      · simp [e1, e2, f1, f2, g, h2, Sem.run_bind, Result.andThen_ok]
    · simp [e1, e2, f1, f2, g, h1, Sem.run_bind, Result.andThen_ok]
  · simp [h0]
def flat3 (xs : List StepT) : List Value := xs.flatMap fun x => [.int .i64 x.1, .int .i64 x.2.1, .int .i64 x.2.2]
theorem flat3_length (xs : List StepT) : (flat3 xs).length = xs.length * 3 := by
  induction xs with
  | nil => rfl
  | cons x xs ih => simp only [flat3, List.flatMap_cons, List.length_append, List.length_cons] at *; rw [ih]; simp; omega
theorem flat3_at (xs : List StepT) (m : Nat) : (flat3 xs)[m]? = (xs[m / 3]?).bind fun x => [Value.int .i64 x.1, .int .i64 x.2.1, .int .i64 x.2.2][m % 3]? := by
  induction xs generalizing m with
  | nil => simp [flat3]
  | cons x xs ih =>
    have e1 : flat3 (x :: xs) = .int .i64 x.1 :: .int .i64 x.2.1 :: .int .i64 x.2.2 :: flat3 xs := rfl
    rw [e1]
    rcases m with _ | _ | _ | m
    · rfl
    · rfl
    · rfl
    · simp only [List.getElem?_cons_succ]
      rw [ih, show (m + 1 + 1 + 1) / 3 = m / 3 + 1 by omega, show (m + 1 + 1 + 1) % 3 = m % 3 by omega, List.getElem?_cons_succ]
theorem flat3_one {xs : List StepT} : ∀ u ∈ flat3 xs, u.oneCell' = true := by
  intro u hu
  simp only [flat3, List.mem_flatMap] at hu
  obtain ⟨e, _, hu⟩ := hu
  simp at hu
  rcases hu with rfl | rfl | rfl <;> rfl
theorem info3 : ∃ i, Try.prog.info? 64 = some i ∧ i.zero = some (.agg #[.int .i64 0, .int .i64 0, .int .i64 0]) ∧ i.size = 3 ∧ i.bytes = 24 := by
  have : (Try.prog.info? 64).map (fun i => (i.zero, i.size, i.bytes)) = some (some (.agg #[.int .i64 0, .int .i64 0, .int .i64 0]), 3, 24) := by kernel_rfl
  obtain ⟨i, h1, h2⟩ := Option.map_eq_some_iff.1 this
  simp at h2
  exact ⟨i, h1, h2.1, h2.2.1, h2.2.2⟩
theorem own_readsS {w : World} {B : Nat} {v : Value} {xs : List StepT} (h : w.ownsRow B 64 3 v xs.length (flat3 xs)) (hl : xs.length * 24 ≤ 140737488351232) : ReadsS w v xs := by
  refine ⟨hl, ?_⟩
  rcases h.2 with ⟨rfl, h0⟩ | ⟨g, cap, cur, rfl, hg, hh, hn, hm, hs, ht⟩
  · exact ⟨none, 0, by rw [h0], fun i p hp => by rw [List.length_eq_zero_iff.1 h0] at hp; simp at hp⟩
  · refine ⟨_, cap, rfl, fun i x hx => ⟨g, 0, rfl, fun j v hv => ?_⟩⟩
    have hi := (List.getElem?_eq_some_iff.1 hx).1
    have hj : j < 3 := by have := (List.getElem?_eq_some_iff.1 hv).1; simpa using this
    have h1 := flat3_at xs (i * 3 + j)
    rw [show (i * 3 + j) / 3 = i by omega, show (i * 3 + j) % 3 = j by omega, hx] at h1
    simp only [Option.bind_some] at h1
    rw [hv, ← ht, List.getElem?_take_of_lt (by omega)] at h1
    rw [cell_of_row _ _ _ _ _ _ hh, Nat.zero_add]
    simpa using h1
/-- the steps copied: append([][3]int{}, v...) -/
theorem copy_steps {w : World} {v : Value} {xs : List StepT} (a : ReadsS w v xs) (b : Nat) (hb : w.heap[b]? = some (.cells #[] 64 (0, 0))) :
    ∃ v' w2, (Builtin.append_ #[62, 62] 62 #[.slice (some ⟨b, 0, none⟩) 0 0, v]).run Try.prog w = .ok v' w2 ∧ ReadsS w2 v' xs ∧ w.grownBy w2 none := by
  obtain ⟨i0, hi1, hi2, hi3, hi4⟩ := info3
  obtain ⟨hl, ao, cap, rfl, hr⟩ := a
  by_cases h0 : xs.length = 0
  · have he := List.length_eq_zero_iff.1 h0
    subst he
    cases ao with
    | none =>
      refine ⟨.slice (some ⟨b, 0, none⟩) 0 0, w, by go_simp, ⟨by simp, _, _, rfl, fun i x hx => by simp at hx⟩, ⟨rfl, rfl, rfl, Nat.le_refl _, fun _ _ _ => rfl⟩⟩
    | some ad =>
      have hr := run_append_room (P := Try.prog) w 62 62 64 i0 Try.underlying62 hi1 b 0 0 #[] hb ad 0 cap [] (by simp) (fun j u hu => by simp at hu) (fun u hu => by simp at hu) (by omega) (by simp)
      have hsr := setRow_heap w b #[] #[] _ _ hb
      refine ⟨_, _, hr, ⟨by simp, _, _, rfl, fun i x hx => by simp at hx⟩, ⟨rfl, rfl, rfl, by simp, fun k hk _ => ?_⟩⟩
      by_cases hkb : k = b
      · subst hkb; simp at hsr ⊢; rw [hsr, hb]
      · exact setRow_other w b k _ hkb
  · obtain ⟨g, o, rfl⟩ : ∃ g o, ao = some ⟨g, o, none⟩ := by
      obtain ⟨g, o, h, _⟩ := hr 0 (xs[0]'(by omega)) (List.getElem?_eq_getElem _)
      exact ⟨g, o, h⟩
    obtain ⟨v', w2, hrun, ho, hg⟩ := run_append_arg_grows (P := Try.prog) w 62 62 64 i0 _ 3 24 Try.underlying62 hi1 hi2 hi3 hi4 rfl (by omega) ⟨b, 0, none⟩ 0 0 [] rfl (fun j u hu => by simp at hu) ⟨g, o, none⟩ xs.length cap (flat3 xs) (flat3_length xs) (fun j u hu => by
      have hadd : (⟨g, o, none⟩ : Addr).add j = ⟨g, o + j, none⟩ := by unfold Addr.add; split <;> simp_all
      rw [flat3_at] at hu
      obtain ⟨x, hx, hu⟩ := Option.bind_eq_some_iff.1 hu
      obtain ⟨g', o', hg', hc⟩ := hr _ x hx
      injection hg' with hg'
      injection hg' with hg1 hg2
      subst hg1
      subst hg2
      have := hc _ _ hu
      rw [hadd]
      rw [show o + j / 3 * 3 + j % 3 = o + j by omega] at this
      exact this) (by omega) (by unfold maxLen; omega) (by omega)
    refine ⟨v', w2, hrun, own_readsS (B := w.heap.size) (by simpa using ho) hl, hg⟩
end Go.Proofs.Ytffioombjejchaa
