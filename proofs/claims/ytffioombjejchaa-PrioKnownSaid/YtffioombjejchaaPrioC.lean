/- prio: a heap of pairs in memory; up by contract. -/
import Derived.Test.YtffioombjejchaaPrioB
import Derived.StillTailTactics
import Derived.LoopTactic
namespace Go.Proofs.Ytffioombjejchaa
set_option linter.unusedVariables false
set_option linter.unusedSimpArgs false
open Go.RowKit

theorem flatP_length (es : List (Pair × Int)) : (flatP es).length = es.length * 3 := by
  induction es with
  | nil => rfl
  | cons e es ih => simp only [flatP, List.flatMap_cons, List.length_append, List.length_cons] at *; rw [ih]; simp [encP]; omega
theorem flatP_append (a b : List (Pair × Int)) : flatP (a ++ b) = flatP a ++ flatP b := by simp [flatP]
theorem flatP_one (e : Pair × Int) : flatP [e] = encP e := by simp [flatP]
theorem flatP_at (es : List (Pair × Int)) (i : Nat) (h : i < es.length) (j : Nat) (hj : j < 3) : (flatP es)[i * 3 + j]? = (encP (HP.at' es i))[j]? := by
  have e1 : es = es.take i ++ HP.at' es i :: es.drop (i + 1) := by
    rw [HP.at_get h, ← List.drop_eq_getElem_cons h, List.take_append_drop]
  have e2 : flatP es = flatP (es.take i) ++ (encP (HP.at' es i) ++ flatP (es.drop (i + 1))) := by
    conv => lhs; rw [e1]
    rw [flatP_append]
    congr 1
  rw [e2, List.getElem?_append_right (by rw [flatP_length, List.length_take]; have := Nat.min_eq_left (Nat.le_of_lt h); omega)]
  rw [flatP_length, List.length_take, Nat.min_eq_left (Nat.le_of_lt h), List.getElem?_append_left (by simp [encP]; omega)]
  congr 1
  omega
theorem flatP_set (es : List (Pair × Int)) (i : Nat) (e : Pair × Int) (h : i < es.length) : flatP (es.set i e) = (flatP es).take (i * 3) ++ encP e ++ (flatP es).drop (i * 3 + 3) := by
  have e1 : es = es.take i ++ (es[i] :: es.drop (i + 1)) := by rw [← List.drop_eq_getElem_cons h, List.take_append_drop]
  have hl : (es.take i).length = i := by rw [List.length_take]; omega
  have hf : (flatP (es.take i)).length = i * 3 := by rw [flatP_length, hl]
  have e2 : flatP es = flatP (es.take i) ++ (encP es[i] ++ flatP (es.drop (i + 1))) := by
    conv => lhs; rw [e1]
    rw [flatP_append]
    congr 1
  rw [List.set_eq_take_append_cons_drop, if_pos h, flatP_append, e2]
  rw [List.take_left' hf]
  have e3 : flatP (e :: es.drop (i + 1)) = encP e ++ flatP (es.drop (i + 1)) := by simp [flatP]
  have e4 : (flatP (es.take i) ++ (encP es[i] ++ flatP (es.drop (i + 1)))).drop (i * 3 + 3) = flatP (es.drop (i + 1)) := by
    rw [List.drop_append, hf, List.drop_eq_nil_of_le (by rw [hf]; omega), List.nil_append, List.drop_append, List.drop_eq_nil_of_le (by simp [encP]), List.nil_append]
    simp [encP]
  rw [e3, e4, List.append_assoc]

/-- two blocks of unlike types are two -/
theorem row_ne {w : World} {g k : Nat} {cs ds : Array Value} {t : TypeId} {fr : Nat × Nat} (h1 : w.heap[g]? = some (.cells cs t fr)) (h2 : w.heap[k]? = some (.cells ds 68 (0, 0))) (ht : t ≠ 68) : g = k → False := fun e => by
  subst e
  rw [h1] at h2
  injection h2 with h2
  injection h2 with _ h2
  exact ht h2
/-- a heap of pairs stands at h: its order at c, its entries in the row sl -/
def Live (w : World) (h c : Nat) (fall : Bool) (es : List (Pair × Int)) (came : Int) (sl : Value) : Prop :=
  LessAt w h c fall ∧ w.heap[h]? = some (.cells #[.func (.func 40) #[] #[.pointer (some ⟨c, 0, none⟩)], sl, .int .i64 came] 72 (0, 0)) ∧ w.ownsRow 0 68 3 sl es.length (flatP es)
theorem Live.row {w : World} {h c : Nat} {fall : Bool} {es : List (Pair × Int)} {came : Int} {sl : Value} (a : Live w h c fall es came sl) (hn : 0 < es.length) : ∃ g cap, sl = .slice (some ⟨g, 0, none⟩) es.length cap ∧ h ≠ g := by
  rcases a.2.2.2 with ⟨_, h0⟩ | ⟨g, cap, cur, rfl, hg, hh, _⟩
  · omega
  · exact ⟨g, cap, rfl, row_ne a.2.1 hh (by decide)⟩
theorem Live.ent {w : World} {h c g cap n : Nat} {fall : Bool} {es : List (Pair × Int)} {came : Int} (a : Live w h c fall es came (.slice (some ⟨g, 0, none⟩) n cap)) (i : Nat) (hi : i < es.length) (j : Nat) (hj : j < 3) : w.cell? ⟨g, i * 3 + j, none⟩ = (encP (HP.at' es i))[j]? := by
  rcases a.2.2.2 with ⟨h1, _⟩ | ⟨g', cap', cur, h1, hg, hh, _, _, hs, ht⟩
  · cases h1
  · injection h1 with h1 h2 h3
    injection h1 with h1
    injection h1 with h1
    subst h1
    rw [cell_of_row _ _ _ _ _ _ hh, ← flatP_at es i hi j hj, ← ht, List.getElem?_take_of_lt (by omega)]
    simp
/-- the blocks below h, h itself and the row unturned: the heap stands -/
theorem Live.kept {w w' : World} {h c : Nat} {fall : Bool} {es : List (Pair × Int)} {came : Int} {sl : Value} (a : Live w h c fall es came sl) (hk : ∀ k, k < w.heap.size → w'.heap[k]? = w.heap[k]?) : Live w' h c fall es came sl := by
  refine ⟨a.1.kept fun k hk' v t _ hv => hk k (lt_of_block hv), (hk h (lt_of_block a.2.1)).trans a.2.1, a.2.2.1, ?_⟩
  rcases a.2.2.2 with h1 | ⟨g', cap', cur, h1, hg, hh, hr⟩
  · exact .inl h1
  · exact .inr ⟨g', cap', cur, h1, hg, (hk g' (lt_of_block hh)).trans hh, hr⟩
theorem Live.below {w w' : World} {h c : Nat} {fall : Bool} {es : List (Pair × Int)} {came : Int} {sl : Value} (a : Live w h c fall es came sl) (hb : Below w.heap.size w w') : Live w' h c fall es came sl := a.kept hb.block
/-- an entry stored -/
theorem Live.store {w : World} {h c g cap n : Nat} {fall : Bool} {es : List (Pair × Int)} {came : Int} (a : Live w h c fall es came (.slice (some ⟨g, 0, none⟩) n cap)) (i : Nat) (hi : i < es.length) (e : Pair × Int) :
    ∃ w', (storeVar 68 ⟨g, i * 3, none⟩ (.agg #[.int .i64 e.1.1, .int .i64 e.1.2, .int .i64 e.2])).run Try.prog w = .ok () w' ∧ Live w' h c fall (es.set i e) came (.slice (some ⟨g, 0, none⟩) n cap) ∧ Tch w w' h (some g) (some g) ∧ w'.heap.size = w.heap.size := by
  rcases a.2.2.2 with ⟨h1, _⟩ | ⟨g', cap', cur, h1, hg, hh, hn, hm, hs, ht⟩
  · cases h1
  · injection h1 with h1 h2 h3
    injection h1 with h1
    injection h1 with h1
    subst h1
    subst h2
    subst h3
    have hlen : (encP e).length = 3 := rfl
    have hst := run_storeCells_at Try.prog g (i * 3) 68 (encP e) 0 cur w hh (by rw [hs, hlen]; omega) (by intro v hv; simp [encP] at hv; rcases hv with rfl | rfl | rfl <;> rfl)
    simp only [Nat.add_zero, hlen] at hst
    obtain ⟨inf, hinf, hsz⟩ : ∃ inf, Try.prog.info? 68 = some inf ∧ inf.size = 3 := by
      have : (Try.prog.info? 68).map (·.size) = some 3 := by kernel_rfl
      obtain ⟨inf, h1, h2⟩ := Option.map_eq_some_iff.1 this
      exact ⟨inf, h1, h2⟩
    have hne : h ≠ g := row_ne a.2.1 hh (by decide)
    refine ⟨w.setRow g ((cur.toList.take (i * 3)) ++ encP e ++ cur.toList.drop (i * 3 + 3)).toArray, ?_, ⟨a.1.kept fun k hk v t ht hv => setRow_other w g k _ (row_ne hv hh ht), ?_, ?_, .inr ⟨g, cap, _, by rw [List.length_set], hg, setRow_heap _ _ _ _ _ _ hh, ?_, hm, ?_, ?_⟩⟩, Tch.setRow_r h g _, by simp⟩
    · have hst2 : (storeCells ⟨g, i * 3, none⟩ [.int .i64 e.1.1, .int .i64 e.1.2, .int .i64 e.2]).run Try.prog w = .ok () _ := hst
      simp [storeVar, sizeOf, typeInfo, hinf, Value.cells, hsz, hst2]
    · rw [setRow_other w g h _ hne]; exact a.2.1
    · rw [flatP_length, List.length_set]
    · rw [List.length_set]; exact hn
    · have : (flatP es).length ≤ cur.toList.length := by rw [← ht]; exact List.length_take_le' _ _
      rw [flatP_length] at this
      simp [hlen]
      simp at this
      omega
    · rw [List.length_set]
      have h3 : i * 3 + 3 ≤ es.length * 3 := by omega
      have h4 : es.length * 3 ≤ cur.toList.length := by simp; rw [hs]; exact Nat.mul_le_mul_right 3 hn
      rw [flatP_set es i e hi, ← ht]
      simp only [List.take_take, List.drop_take]
      rw [Nat.min_eq_left (by omega)]
      rw [List.take_append, List.take_of_length_le (by simp [hlen]; omega)]
      congr 1
      simp [hlen]
      rw [show es.length * 3 - (min (i * 3) cur.size + 3) = es.length * 3 - (i * 3 + 3) from by simp at h4; omega]
theorem Live.free {w : World} {h c g cap n : Nat} {fall : Bool} {es : List (Pair × Int)} {came : Int} (a : Live w h c fall es came (.slice (some ⟨g, 0, none⟩) n cap)) (o : Nat) : w.frozen? ⟨g, o, none⟩ = false := by
  rcases a.2.2.2 with ⟨h1, _⟩ | ⟨g', cap', cur, h1, hg, hh, _⟩
  · cases h1
  · injection h1 with h1 h2 h3
    injection h1 with h1
    injection h1 with h1
    subst h1
    simp [World.frozen?, hh]
theorem Live.put {w : World} {h c g cap n : Nat} {fall : Bool} {es : List (Pair × Int)} {came : Int} (a : Live w h c fall es came (.slice (some ⟨g, 0, none⟩) n cap)) (i : Nat) (hi : i < es.length) (e : Pair × Int) :
    Live (((w.setCell ⟨g, i * 3, none⟩ (.int .i64 e.1.1)).setCell ⟨g, i * 3 + 1, none⟩ (.int .i64 e.1.2)).setCell ⟨g, i * 3 + 2, none⟩ (.int .i64 e.2)) h c fall (es.set i e) came (.slice (some ⟨g, 0, none⟩) n cap) ∧ Tch w (((w.setCell ⟨g, i * 3, none⟩ (.int .i64 e.1.1)).setCell ⟨g, i * 3 + 1, none⟩ (.int .i64 e.1.2)).setCell ⟨g, i * 3 + 2, none⟩ (.int .i64 e.2)) h (some g) (some g) := by
  obtain ⟨w', h1, h2, h3, h4⟩ := a.store i hi e
  have e0 := a.ent i hi 0 (by omega)
  have e1 := a.ent i hi 1 (by omega)
  have e2 := a.ent i hi 2 (by omega)
  simp only [encP, List.getElem?_cons_zero, List.getElem?_cons_succ, Nat.add_zero] at e0 e1 e2
  have z := a.free
  have hr : (storeVar 68 ⟨g, i * 3, none⟩ (.agg #[.int .i64 e.1.1, .int .i64 e.1.2, .int .i64 e.2])).run Try.prog w = .ok () (((w.setCell ⟨g, i * 3, none⟩ (.int .i64 e.1.1)).setCell ⟨g, i * 3 + 1, none⟩ (.int .i64 e.1.2)).setCell ⟨g, i * 3 + 2, none⟩ (.int .i64 e.2)) := by
    go_simp
  rw [hr] at h1
  injection h1 with _ h1
  rw [h1]
  exact ⟨h2, h3⟩
end Go.Proofs.Ytffioombjejchaa
