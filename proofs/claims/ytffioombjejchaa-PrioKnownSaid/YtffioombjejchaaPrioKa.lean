/- prio: rows of steps of one's own; blocks that read as steps, as pairs, as texts. -/
import Derived.Test.YtffioombjejchaaPrioZ
import Derived.Test.YtffioombjejchaaStP
namespace Go.Proofs.Ytffioombjejchaa
set_option linter.unusedVariables false
set_option linter.unusedSimpArgs false
open Go.RowKit

theorem flat3_append (xs ys : List StepT) : flat3 (xs ++ ys) = flat3 xs ++ flat3 ys := by simp [flat3]
theorem addr_add0 (b j : Nat) : (⟨b, 0, none⟩ : Addr).add j = ⟨b, j, none⟩ := by unfold Addr.add; split <;> simp_all
/-- more steps behind a row -/
theorem push_steps {w : World} {B : Nat} {v : Value} {xs : List StepT} (a : w.ownsRow B 64 3 v xs.length (flat3 xs)) (hB : B ≤ w.heap.size) (ys : List StepT) (b cc : Nat) (cs : Array Value) (hcs : cs = (flat3 ys).toArray) (hx : w.heap[b]? = some (.cells cs 64 (0, 0))) (hl : (xs.length + ys.length) * 24 ≤ 140737488355328) :
    ∃ v' w', (Builtin.append_ #[62, 62] 62 #[v, .slice (some ⟨b, 0, none⟩) ys.length cc]).run Try.prog w = .ok v' w' ∧ w'.ownsRow B 64 3 v' (xs ++ ys).length (flat3 (xs ++ ys)) ∧ w.grownBy w' v.ownBlock := by
  subst hcs
  obtain ⟨i0, hi1, hi2, hi3, hi4⟩ := info3
  obtain ⟨v', w', hr, ho, hg, _⟩ := append_own (P := Try.prog) w B 62 62 64 i0 _ 3 24 Try.underlying62 hi1 hi2 hi3 hi4 rfl (by omega) v xs.length (flat3 xs) a ⟨b, 0, none⟩ ys.length cc (flat3 ys) (flat3_length ys) (fun j u hj => by
    rw [addr_add0, cell_of_row _ _ _ _ _ _ hx]
    simpa using hj) flat3_one (by unfold maxLen; omega) hl hB
  refine ⟨v', w', hr, ?_, hg⟩
  rw [flat3_append, List.length_append]
  exact ho
/-- a block that reads as steps -/
theorem block_steps {w : World} {b cap : Nat} {cs : Array Value} (xs : List StepT) (n : Nat) (hn : n = xs.length) (hcs : cs = (flat3 xs).toArray) (hx : w.heap[b]? = some (.cells cs 64 (0, 0))) (hl : xs.length * 24 ≤ 140737488351232) : ReadsS w (.slice (some ⟨b, 0, none⟩) n cap) xs := by
  subst hn
  subst hcs
  refine ⟨hl, _, cap, rfl, fun i x hi => ⟨b, 0, rfl, fun j v hv => ?_⟩⟩
  have hj : j < 3 := by have := (List.getElem?_eq_some_iff.1 hv).1; simpa using this
  have h1 := flat3_at xs (i * 3 + j)
  rw [show (i * 3 + j) / 3 = i by omega, show (i * 3 + j) % 3 = j by omega, hi] at h1
  simp only [Option.bind_some] at h1
  rw [cell_of_row _ _ _ _ _ _ hx, Nat.zero_add]
  simpa [hv] using h1
/-- a block that reads as pairs -/
theorem block_twos {w : World} {b cap : Nat} {cs : Array Value} (ps : List Pair) (n : Nat) (hn : n = ps.length) (hcs : cs = (flatT ps).toArray) (hx : w.heap[b]? = some (.cells cs 25 (0, 0))) (hl : ps.length < 4611686018427387904) : ReadsT w (.slice (some ⟨b, 0, none⟩) n cap) ps := by
  subst hn
  subst hcs
  refine ⟨hl, _, cap, rfl, fun i p hp => ⟨b, rfl, fun j v hv => ?_⟩⟩
  obtain ⟨h1, h2⟩ := flatT_at ps i p hp
  rw [cell_of_row _ _ _ _ _ _ hx]
  rcases j with _ | _ | j <;> simp at hv h1 h2 ⊢
  · rw [← hv]; exact h1
  · rw [← hv]; exact h2
/-- a block that reads as texts -/
theorem block_texts {w : World} {b cap : Nat} {cs : Array Value} (ls : List ByteArray) (n : Nat) (hn : n = ls.length) (hcs : cs = (St.flatT ls).toArray) (hx : w.heap[b]? = some (.cells cs 9 (0, 0))) (hl : ls.length < 4611686018427387904) : St.ReadsX w (.slice (some ⟨b, 0, none⟩) n cap) ls := by
  subst hn
  subst hcs
  refine ⟨hl, _, cap, rfl, fun i s hs => ⟨b, 0, rfl, ?_⟩⟩
  have h1 := St.flatT_get ls i
  rw [hs] at h1
  rw [cell_of_row _ _ _ _ _ _ hx, Nat.zero_add]
  simpa using h1
/-- the steps as they grow, in a world that only grows -/
structure Grows (w wr : World) (B : Nat) (v : Value) (xs : List StepT) : Prop where
  own : wr.ownsRow B 64 3 v xs.length (flat3 xs)
  bel : Below B w wr
  sz : B ≤ wr.heap.size
theorem Grows.below {w wr wz : World} {B : Nat} {v : Value} {xs : List StepT} (a : Grows w wr B v xs) (hb : Below wr.heap.size wr wz) : Grows w wz B v xs :=
  ⟨World.ownsRow_congr a.own fun k hk => by
    obtain ⟨cs, hc⟩ := own_type a.own hk
    exact hb.block k (lt_of_block hc), a.bel.trans (hb.mono a.sz), Nat.le_trans a.sz hb.size⟩
theorem Grows.slice {w wr : World} {B : Nat} {v : Value} {xs : List StepT} (a : Grows w wr B v xs) : ∃ b c, v = .slice b xs.length c := by
  rcases a.own.2 with ⟨rfl, h0⟩ | ⟨g, cap, cur, rfl, _⟩
  · exact ⟨none, 0, by rw [h0]⟩
  · exact ⟨_, _, rfl⟩
theorem Grows.push {w wr : World} {B : Nat} {v : Value} {xs : List StepT} (a : Grows w wr B v xs) (ys : List StepT) (cc n : Nat) (hn : n = ys.length) (cs : Array Value) (hcs : cs = (flat3 ys).toArray) (hl : (xs.length + ys.length) * 24 ≤ 140737488355328) :
    ∃ v' w', (Builtin.append_ #[62, 62] 62 #[v, .slice (some ⟨wr.heap.size, 0, none⟩) n cc]).run Try.prog (wr.alloc (.cells cs 64)) = .ok v' w' ∧ Grows w w' B v' (xs ++ ys) := by
  subst hn
  have h1 := World.ownsRow_congr (w' := wr.alloc (.cells cs 64)) a.own fun k hk => by
    obtain ⟨cs, hc⟩ := own_type a.own hk
    exact heap_alloc_old _ _ (lt_of_block hc)
  obtain ⟨v', w', hr, ho, hg⟩ := push_steps h1 (by have := a.sz; simp; omega) ys wr.heap.size cc cs hcs (heap_alloc_new wr _) hl
  refine ⟨v', w', hr, ho, (a.bel.alloc a.sz _).trans (grown_below hg (by have := a.sz; simp; omega) fun k hk => St.own_ge a.own hk), ?_⟩
  have := hg.size
  have := a.sz
  simp at *
  omega
def unlike : List Int := [1, 2, 3, 7, 100, 1099511627776]
theorem unlike_pos (i : Nat) (n : Int) (h : unlike[i]? = some n) : 0 < n := by
  unfold unlike at h
  rcases i with _ | _ | _ | _ | _ | _ | i <;> simp at h <;> omega
def ex1 : List StepT := [(1, 5, 1), (1, 5, 2), (3, 2, 0), (2, 0, 0), (4, 0, 0), (3, 9, 0), (7, 0, 0), (-1, 0, 0), (5, 0, 0)]
def an1 : List Pair := [(5, 1), (5, 2), (5, 2), (5, 1), (1, 0), (-1, -1), (-1, -1), (-1, -1), (-1, -1)]
theorem ex1_play : (playS false ex1 9).1 = an1 := by decide +kernel
def ex2 : List StepT := [(1, 3, 1), (1, 5, 2), (1, 5, 3), (0, 0, 0), (0, 0, 0), (0, 0, 0), (0, 0, 0)]
def an2 : List Pair := [(3, 1), (5, 2), (5, 3), (5, 2), (5, 3), (3, 1), (-1, -1)]
theorem ex2_play : (playS true ex2 7).1 = an2 := by decide +kernel
end Go.Proofs.Ytffioombjejchaa
