/- prio: heaps beside other blocks; a row of pairs that is cut; the function that NeverPassed asks. -/
import Derived.Test.YtffioombjejchaaPrioO
namespace Go.Proofs.Ytffioombjejchaa
set_option linter.unusedVariables false
set_option linter.unusedSimpArgs false
open Go.RowKit

/-- a block of another type stands behind what a heap does -/
theorem HeapP.other {w w' : World} {h c n k : Nat} {fall : Bool} {ps : List Pair} {r r' : Option Nat} (a : HeapP w h c fall ps n r) (T : Tch w w' h r r') {cs : Array Value} {t : TypeId} {fr : Nat × Nat} (hk : w.heap[k]? = some (.cells cs t fr)) (h1 : t ≠ 72) (h2 : t ≠ 68) : w'.heap[k]? = some (.cells cs t fr) := by
  obtain ⟨es, L, ⟨sl, hr, hL, _⟩, _⟩ := a
  rw [T.block k (lt_of_block hk) (fun e => ?_) (fun e => ?_)]
  · exact hk
  · subst e
    rw [hL.2.1] at hk
    injection hk with hk
    injection hk with _ hk
    exact h1 hk.symm
  · obtain ⟨ds, hd⟩ := own_type hL.2.2 (hr.trans e.symm)
    rw [hk] at hd
    injection hd with hd
    injection hd with _ hd
    exact h2 hd
theorem HeapP.grown {w w' : World} {h c n : Nat} {fall : Bool} {ps : List Pair} {r row : Option Nat} (a : HeapP w h c fall ps n r) (hg : w.grownBy w' row) (hrow : ∀ g, row = some g → ∃ cs, w.heap[g]? = some (.cells cs 25 (0, 0))) : HeapP w' h c fall ps n r := by
  obtain ⟨es, L, hA, hr⟩ := a
  exact ⟨es, L, hA.grown hg hrow, hr⟩
theorem put2 {w : World} {b : Nat} {t : TypeId} {x y u v : Value} (h : w.heap[b]? = some (.cells #[x, y] t (0, 0))) : ((w.setCell ⟨b, 0, none⟩ u).setCell ⟨b, 1, none⟩ v).heap[b]? = some (.cells #[u, v] t (0, 0)) ∧ w.grownBy ((w.setCell ⟨b, 0, none⟩ u).setCell ⟨b, 1, none⟩ v) (some b) := by
  have h1 := heap_setCell_same w b 0 #[x, y] t u h
  have h2 := heap_setCell_same _ b 1 _ t v h1
  refine ⟨h2, rfl, rfl, rfl, by simp, fun k hk hne => ?_⟩
  have hne : k ≠ b := fun e => hne (by rw [e])
  rw [heap_setCell_other _ _ _ _ hne, heap_setCell_other _ _ _ _ hne]

/-- a row of pairs of one's own, its block at B or above; it may have been cut -/
def RowT (w : World) (B : Nat) (v : Value) (ps : List Pair) : Prop :=
  (v = .slice none 0 0 ∧ ps = []) ∨ ∃ g cap cur, v = .slice (some ⟨g, 0, none⟩) ps.length cap ∧ B ≤ g ∧ w.heap[g]? = some (.cells cur 25 (0, 0)) ∧ ps.length ≤ cap ∧ cap ≤ maxLen ∧ cap * 2 ≤ cur.size ∧ cur.toList.take (ps.length * 2) = flatT ps
theorem RowT.of_own {w : World} {B n : Nat} {v : Value} {ps : List Pair} (h : w.ownsRow B 25 2 v n (flatT ps)) (hn : n = ps.length) : RowT w B v ps := by
  subst hn
  rcases h.2 with ⟨rfl, h0⟩ | ⟨g, cap, cur, rfl, hg, hh, hn, hm, hs, ht⟩
  · exact .inl ⟨rfl, List.length_eq_zero_iff.1 h0⟩
  · exact .inr ⟨g, cap, cur, rfl, hg, hh, hn, hm, by omega, ht⟩
theorem RowT.congr {w w' : World} {B : Nat} {v : Value} {ps : List Pair} (a : RowT w B v ps) (hk : ∀ k cs, w.heap[k]? = some (.cells cs 25 (0, 0)) → v.ownBlock = some k → w'.heap[k]? = w.heap[k]?) : RowT w' B v ps := by
  rcases a with h1 | ⟨g, cap, cur, rfl, hg, hh, hr⟩
  · exact .inl h1
  · exact .inr ⟨g, cap, cur, rfl, hg, (hk g _ hh rfl).trans hh, hr⟩
theorem RowT.kept {w w' : World} {B : Nat} {v : Value} {ps : List Pair} (a : RowT w B v ps) (hk : ∀ k, k < w.heap.size → w'.heap[k]? = w.heap[k]?) : RowT w' B v ps := a.congr fun k cs h _ => hk k (lt_of_block h)
theorem RowT.below {w w' : World} {B : Nat} {v : Value} {ps : List Pair} (a : RowT w B v ps) (hb : Below w.heap.size w w') : RowT w' B v ps := a.kept hb.block
theorem RowT.beside {w w' : World} {B h c n : Nat} {fall : Bool} {ps qs : List Pair} {r r' : Option Nat} {v : Value} (a : RowT w B v qs) (hA : HeapP w h c fall ps n r) (T : Tch w w' h r r') : RowT w' B v qs := a.congr fun k cs hk _ => (hA.other T hk (by decide) (by decide)).trans hk.symm
theorem RowT.type {w : World} {B : Nat} {v : Value} {ps : List Pair} (a : RowT w B v ps) {g : Nat} (hg : v.ownBlock = some g) : B ≤ g ∧ ∃ cs, w.heap[g]? = some (.cells cs 25 (0, 0)) := by
  rcases a with ⟨rfl, _⟩ | ⟨g', cap, cur, rfl, hB, hh, _⟩
  · cases hg
  · injection hg with hg
    exact ⟨hg ▸ hB, cur, hg ▸ hh⟩
theorem RowT.reads {w : World} {B : Nat} {v : Value} {ps : List Pair} (a : RowT w B v ps) (hl : ps.length < 4611686018427387904) : ReadsT w v ps := by
  refine ⟨hl, ?_⟩
  rcases a with ⟨rfl, rfl⟩ | ⟨g, cap, cur, rfl, hg, hh, hn, hm, hs, ht⟩
  · exact ⟨none, 0, rfl, fun i p hp => by simp at hp⟩
  · refine ⟨_, cap, rfl, fun i p hp => ⟨g, rfl, fun j v hv => ?_⟩⟩
    have hi := (List.getElem?_eq_some_iff.1 hp).1
    obtain ⟨h1, h2⟩ := flatT_at ps i p hp
    rw [← ht] at h1 h2
    rw [List.getElem?_take_of_lt (by omega)] at h1 h2
    rw [cell_of_row _ _ _ _ _ _ hh]
    rcases j with _ | _ | j <;> simp at hv h1 h2 ⊢
    · rw [← hv]; exact h1
    · rw [← hv]; exact h2
theorem RowT.len {w : World} {B : Nat} {v : Value} {ps : List Pair} (a : RowT w B v ps) : sliceLen v = ps.length := by
  rcases a with ⟨rfl, rfl⟩ | ⟨g, cap, cur, rfl, _⟩ <;> rfl
theorem flatT_one {l : List Pair} : ∀ u ∈ flatT l, u.oneCell' = true := by
  intro u hu
  simp only [flatT, List.mem_flatMap] at hu
  obtain ⟨e, _, hu⟩ := hu
  simp at hu
  rcases hu with rfl | rfl <;> rfl
theorem grown_below {w w' : World} {row : Option Nat} {B : Nat} (hg : w.grownBy w' row) (hB : B ≤ w.heap.size) (hr : ∀ k, row = some k → B ≤ k) : Below B w w' :=
  ⟨hg.os, hg.tape, hg.output, hg.size, fun k hk => hg.block k (by omega) (fun e => by have := hr k e.symm; omega)⟩
/-- one more pair behind a row -/
theorem RowT.push {w : World} {B : Nat} {v : Value} {ps : List Pair} (a : RowT w B v ps) (hB : B ≤ w.heap.size) (x : Pair) (b cc : Nat) (hx : w.heap[b]? = some (.cells #[.int .i64 x.1, .int .i64 x.2] 25 (0, 0))) (hl : (ps.length + 1) * 16 ≤ 140737488355328) :
    ∃ v' w', (Builtin.append_ #[29, 29] 29 #[v, .slice (some ⟨b, 0, none⟩) 1 cc]).run Try.prog w = .ok v' w' ∧ RowT w' B v' (ps ++ [x]) ∧ w.grownBy w' v.ownBlock := by
  obtain ⟨i0, hi1, hi2, hi3, hi4⟩ := infoT
  have hnews : ∀ j u, (flatT [x])[j]? = some u → w.cell? ((⟨b, 0, none⟩ : Addr).add j) = some u := by
    intro j u hu
    have hadd : (⟨b, 0, none⟩ : Addr).add j = ⟨b, j, none⟩ := by unfold Addr.add; split <;> simp_all
    rw [hadd, cell_of_row _ _ _ _ _ _ hx]
    rcases j with _ | _ | j <;> simp [flatT] at hu ⊢ <;> exact hu
  have hf : flatT (ps ++ [x]) = flatT ps ++ flatT [x] := by simp [flatT]
  have grow : ∀ cap g, cap < ps.length + 1 → (∀ j u, (flatT ps)[j]? = some u → w.cell? ((⟨g, 0, none⟩ : Addr).add j) = some u) → ∀ row, ∃ v' w', (Builtin.append_ #[29, 29] 29 #[.slice (some ⟨g, 0, none⟩) ps.length cap, .slice (some ⟨b, 0, none⟩) 1 cc]).run Try.prog w = .ok v' w' ∧ RowT w' B v' (ps ++ [x]) ∧ w.grownBy w' row := by
    intro cap g hcap hc row
    obtain ⟨v', w', hr, ho, hg⟩ := run_append_arg_grows (P := Try.prog) w 29 29 25 i0 _ 2 16 Try.underlying29 hi1 hi2 hi3 hi4 rfl (by omega) ⟨g, 0, none⟩ ps.length cap (flatT ps) (flatT_length ps) hc ⟨b, 0, none⟩ 1 cc (flatT [x]) rfl hnews hcap (by unfold maxLen; omega) hl
    refine ⟨v', w', hr, ?_, ⟨hg.os, hg.tape, hg.output, hg.size, fun k hk _ => hg.block k hk (by simp)⟩⟩
    have := RowT.of_own (ps := ps ++ [x]) (by rw [hf]; exact ho) (by simp)
    rcases this with h1 | ⟨g', cap', cur, h1, h2, h3⟩
    · exact .inl h1
    · exact .inr ⟨g', cap', cur, h1, by omega, h3⟩
  rcases a with ⟨rfl, rfl⟩ | ⟨g, cap, cur, rfl, hg, hh, hn, hm, hs, ht⟩
  · obtain ⟨v', w', hr, ho, hg, _⟩ := run_append_own (P := Try.prog) w B 29 29 25 i0 _ 2 16 Try.underlying29 hi1 hi2 hi3 hi4 rfl (by omega) (.slice none 0 0) 0 [] ⟨rfl, .inl ⟨rfl, rfl⟩⟩ ⟨b, 0, none⟩ 1 cc (flatT [x]) rfl hnews (fun u hu => flatT_one u hu) (by unfold maxLen; omega) (by omega) hB
    exact ⟨v', w', hr, RowT.of_own (ps := [] ++ [x]) (by simpa using ho) rfl, hg⟩
  · by_cases hc : ps.length + 1 ≤ cap
    · have hr := run_append_room (P := Try.prog) w 29 29 25 i0 Try.underlying29 hi1 g ps.length cap cur hh ⟨b, 0, none⟩ 1 cc (flatT [x]) (by rw [hi3]; rfl) hnews (fun u hu => flatT_one u hu) hc (by rw [hi3]; simp [flatT]; omega)
      refine ⟨_, _, hr, .inr ⟨g, cap, _, by simp, hg, setRow_heap _ _ _ _ _ _ hh, by simpa using hc, hm, ?_, ?_⟩, ⟨rfl, rfl, rfl, by simp, fun k _ hne => setRow_other w g k _ (fun e => hne (by rw [e]; rfl))⟩⟩
      · simp [hi3, flatT]
        have : cur.toList.length = cur.size := by simp
        omega
      · rw [hi3, hf, ← ht]
        have h4 : (ps.length + 1) * 2 ≤ cur.toList.length := by simp; omega
        have h5 : (flatT [x]).length = 2 := rfl
        simp only [List.length_append, List.length_cons, List.length_nil, List.append_assoc]
        rw [List.take_append, List.take_of_length_le (by simp; omega)]
        congr 1
        rw [List.take_append, List.take_of_length_le (by simp only [List.length_take, h5]; omega)]
        simp only [List.length_take, h5]
        rw [show (ps.length + (0 + 1)) * 2 - min (ps.length * 2) cur.toList.length - 2 = 0 from by omega]
        simp
    · exact grow cap g (by omega) (fun j u hu => by
        have hadd : (⟨g, 0, none⟩ : Addr).add j = ⟨g, j, none⟩ := by unfold Addr.add; split <;> simp_all
        rw [hadd, cell_of_row _ _ _ _ _ _ hh]
        rw [← ht, List.getElem?_take] at hu
        split at hu
        · simpa using hu
        · cases hu) _
theorem flatT_drop (ps : List Pair) (i : Nat) : flatT (ps.drop i) = (flatT ps).drop (i * 2) := by
  induction ps generalizing i with
  | nil => simp [flatT]
  | cons p ps ih => cases i with
    | zero => simp
    | succ i =>
      have : flatT (p :: ps) = .int .i64 p.1 :: .int .i64 p.2 :: flatT ps := rfl
      rw [this, List.drop_succ_cons, ih, show (i + 1) * 2 = i * 2 + 1 + 1 from by omega]
      rfl
theorem flatT_take (ps : List Pair) (i : Nat) : flatT (ps.take i) = (flatT ps).take (i * 2) := by
  induction ps generalizing i with
  | nil => simp [flatT]
  | cons p ps ih => cases i with
    | zero => simp [flatT]
    | succ i =>
      have : flatT (p :: ps) = .int .i64 p.1 :: .int .i64 p.2 :: flatT ps := rfl
      rw [this, show (i + 1) * 2 = i * 2 + 1 + 1 from by omega, List.take_succ_cons, List.take_succ_cons, List.take_succ_cons, ← ih]
      rfl
/-- a pair cut out of a row: append(v[:at:at], v[at+1:]...) -/
theorem RowT.cut {w : World} {B : Nat} {ps : List Pair} {v : Value} (a : RowT w B v ps) (hB : B ≤ w.heap.size) (at_ : Nat) (hat : at_ < ps.length) (hl : ps.length * 16 ≤ 140737488355328) :
    ∃ g cap, v = .slice (some ⟨g, 0, none⟩) ps.length cap ∧ ps.length ≤ cap ∧ cap ≤ maxLen ∧ ∃ v' w', (Builtin.append_ #[29, 29] 29 #[sliced (some ⟨g, 0, none⟩) 0 at_ at_ 2, sliced (some ⟨g, 0, none⟩) (at_ + 1) ps.length cap 2]).run Try.prog w = .ok v' w' ∧ RowT w' B v' (ps.eraseIdx at_) ∧ w.grownBy w' none := by
  obtain ⟨i0, hi1, hi2, hi3, hi4⟩ := infoT
  rcases a with ⟨rfl, rfl⟩ | ⟨g, cap, cur, rfl, hg, hh, hn, hm, hs, ht⟩
  · simp at hat
  · refine ⟨g, cap, rfl, hn, hm, ?_⟩
    have he : ps.eraseIdx at_ = ps.take at_ ++ ps.drop (at_ + 1) := List.eraseIdx_eq_take_drop_succ _ _
    have hf : flatT (ps.eraseIdx at_) = flatT (ps.take at_) ++ flatT (ps.drop (at_ + 1)) := by rw [he]; simp [flatT]
    have hlt : (ps.take at_).length = at_ := by rw [List.length_take]; omega
    have hcell : ∀ j u, (flatT ps)[j]? = some u → w.cell? ⟨g, j, none⟩ = some u := fun j u hu => by
      rw [cell_of_row _ _ _ _ _ _ hh]
      rw [← ht, List.getElem?_take] at hu
      split at hu
      · simpa using hu
      · cases hu
    have hadd : ∀ o j, (⟨g, o, none⟩ : Addr).add j = ⟨g, o + j, none⟩ := fun o j => by unfold Addr.add; split <;> simp_all
    have e1 : sliced (some ⟨g, 0, none⟩) 0 at_ at_ 2 = .slice (some ⟨g, 0, none⟩) at_ at_ := by
      simp [sliced, hadd]
    rw [e1]
    have hold : ∀ j u, (flatT (ps.take at_))[j]? = some u → w.cell? ((⟨g, 0, none⟩ : Addr).add j) = some u := fun j u hu => by
      rw [hadd, Nat.zero_add]
      rw [flatT_take, List.getElem?_take] at hu
      split at hu
      · exact hcell j u hu
      · cases hu
    by_cases hlast : at_ + 1 = ps.length
    · have hd : ps.drop (at_ + 1) = [] := by rw [hlast]; simp
      obtain ⟨ao, hao⟩ : ∃ ao, sliced (some ⟨g, 0, none⟩) (at_ + 1) ps.length cap 2 = .slice (some ao) 0 (cap - (at_ + 1)) := by
        unfold sliced
        split
        · exact ⟨_, by rw [hlast, Nat.sub_self]⟩
        · exact ⟨_, by rw [hlast, Nat.sub_self]; rfl⟩
      rw [hao]
      have hr := run_append_room (P := Try.prog) w 29 29 25 i0 Try.underlying29 hi1 g at_ at_ cur hh ao 0 (cap - (at_ + 1)) [] (by simp) (fun j u hu => by simp at hu) (fun u hu => by simp at hu) (by omega) (by rw [hi3]; simp; omega)
      have hsame : ((cur.toList.take (at_ * i0.size) ++ [] ++ cur.toList.drop (at_ * i0.size + ([] : List Value).length)).toArray) = cur := by simp
      rw [hsame] at hr
      have hsr := setRow_heap w g cur cur _ _ hh
      refine ⟨_, _, hr, .inr ⟨g, at_, cur, by rw [he, hd, List.append_nil, hlt]; simp, hg, hsr, by rw [he, hd, List.append_nil, hlt]; omega, by omega, by omega, ?_⟩, ⟨rfl, rfl, rfl, by simp, fun k hk _ => ?_⟩⟩
      · rw [hf, hd, he, hd, List.append_nil, hlt]
        rw [flatT_take, ← ht, List.take_take, Nat.min_eq_left (by omega)]
        simp [flatT]
      · by_cases hkg : k = g
        · subst hkg; rw [hsr, hh]
        · exact setRow_other w g k _ hkg
    · have e2 : sliced (some ⟨g, 0, none⟩) (at_ + 1) ps.length cap 2 = .slice (some ⟨g, (at_ + 1) * 2, none⟩) (ps.length - (at_ + 1)) (cap - (at_ + 1)) := by
        unfold sliced
        rw [if_neg (by omega)]
        simp only [Option.map_some, hadd, Nat.zero_add]
      rw [e2]
      obtain ⟨v', w', hr, ho, hg2⟩ := run_append_arg_grows (P := Try.prog) w 29 29 25 i0 _ 2 16 Try.underlying29 hi1 hi2 hi3 hi4 rfl (by omega) ⟨g, 0, none⟩ at_ at_ (flatT (ps.take at_)) (by rw [flatT_length, hlt]) hold ⟨g, (at_ + 1) * 2, none⟩ (ps.length - (at_ + 1)) (cap - (at_ + 1)) (flatT (ps.drop (at_ + 1))) (by rw [flatT_length, List.length_drop])
        (fun j u hu => by rw [hadd]; rw [flatT_drop, List.getElem?_drop] at hu; exact hcell _ _ hu) (by omega) (by unfold maxLen; omega) (by omega)
      refine ⟨v', w', hr, ?_, hg2⟩
      have := RowT.of_own (ps := ps.eraseIdx at_) (by rw [hf]; exact ho) (by rw [List.length_eraseIdx_of_lt hat]; omega)
      rcases this with h1 | ⟨g', cap', cur', h1, h2, h3⟩
      · exact .inl h1
      · exact .inr ⟨g', cap', cur', h1, by omega, h3⟩

/-! ### the function that NeverPassed asks -/
def askN (kind least : Int) (q : Pair) : Bool := decide (kind ≠ 3) || decide (least ≤ q.1)
set_option maxRecDepth 100000 in
theorem np1_any (b6 b7 : Nat) (on kind a b least : Int) (x : Pair) (w : World) (hX : w.heap[b6]? = some (.cells #[.int .i64 on, .int .i64 kind, .int .i64 a, .int .i64 b] 35 (0, 0))) (hY : w.heap[b7]? = some (.cells #[.int .i64 least] 3 (0, 0))) :
    Calls Try.prog 37 #[.agg #[.int .i64 x.1, .int .i64 x.2], .pointer (some ⟨b6, 0, none⟩), .pointer (some ⟨b7, 0, none⟩)] w (RetB (askN kind least x) w) := by
  have c1 : w.cell? ⟨b6, 1, none⟩ = some (.int .i64 kind) := by rw [cell_of_row _ _ _ _ _ _ hX]; rfl
  have c2 : w.cell? ⟨b7, 0, none⟩ = some (.int .i64 least) := by rw [cell_of_row _ _ _ _ _ _ hY]; rfl
  have l1 := lt_of_block hX
  have l2 := lt_of_block hY
  clear hX hY
  by_cases hk : kind = 3
  · subst hk
    by_cases hl : least ≤ x.1
    · have ha : askN 3 least x = true := by simp [askN, hl]
      rw [ha]
      clear ha
      go_enter Try.func37, Try.ntmps37
      go_wp2_with fail
      go_ret
      exact ⟨rfl, (Below.refl _ _).alloc (Nat.le_refl _) _⟩
    · have ha : askN 3 least x = false := by simp [askN, hl]
      rw [ha]
      clear ha
      go_enter Try.func37, Try.ntmps37
      go_wp2_with fail
      go_ret
      exact ⟨rfl, (Below.refl _ _).alloc (Nat.le_refl _) _⟩
  · have ha : askN kind least x = true := by simp [askN, hk]
    rw [ha]
    clear ha
    go_enter Try.func37, Try.ntmps37
    go_wp2_with fail
    go_ret
    exact ⟨rfl, (Below.refl _ _).alloc (Nat.le_refl _) _⟩
theorem asks_np (b6 b7 : Nat) (on kind a b least : Int) (w : World) (hX : w.heap[b6]? = some (.cells #[.int .i64 on, .int .i64 kind, .int .i64 a, .int .i64 b] 35 (0, 0))) (hY : w.heap[b7]? = some (.cells #[.int .i64 least] 3 (0, 0))) :
    Asks (.func (.func 37) #[] #[.pointer (some ⟨b6, 0, none⟩), .pointer (some ⟨b7, 0, none⟩)]) (askN kind least) w :=
  ⟨_, _, rfl, fun args w => by go_simp, fun w' x hb => np1_any b6 b7 on kind a b least x w' (rowAt_below hX hb) (rowAt_below hY hb)⟩
end Go.Proofs.Ytffioombjejchaa
