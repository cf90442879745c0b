/- prio: the pairs of a heap in the order of their coming, in plain Lean: the first, what is left, all in order. -/
import Derived.Test.YtffioombjejchaaPrioN
import Derived.Test.YtffioombjejchaaStM
namespace Go.Proofs.Ytffioombjejchaa.St
set_option linter.unusedVariables false
set_option linter.unusedSimpArgs false

open Go.RowKit
namespace PP
/-- the place of the first one among the first k that p lets in -/
def best (fall : Bool) (p : Str → Bool) (ps : List Str) : Nat → Option Nat
  | 0 => none
  | k + 1 => match best fall p ps k with
    | none => if p (ps.getD k default) then some k else none
    | some b => if p (ps.getD k default) && lessP fall (ps.getD k default) (ps.getD b default) then some k else some b
def first (fall : Bool) (p : Str → Bool) (ps : List Str) : Option Nat := best fall p ps ps.length
def all (_ : Str) : Bool := true
theorem best_lt {fall : Bool} {p : Str → Bool} {ps : List Str} : ∀ {k b : Nat}, best fall p ps k = some b → b < k ∧ p (ps.getD b default) = true := by
  intro k
  induction k with
  | zero => intro b h; cases h
  | succ k ih =>
    intro b h
    unfold best at h
    cases hb : best fall p ps k with
    | none =>
      rw [hb] at h
      simp only at h
      by_cases hp : p (ps.getD k default) = true
      · rw [if_pos hp] at h; injection h with h; subst h; exact ⟨by omega, hp⟩
      · rw [if_neg hp] at h; cases h
    | some b' =>
      rw [hb] at h
      simp only at h
      have := ih hb
      by_cases hp : (p (ps.getD k default) && lessP fall (ps.getD k default) (ps.getD b' default)) = true
      · rw [if_pos hp] at h; injection h with h; subst h
        simp only [Bool.and_eq_true] at hp
        exact ⟨by omega, hp.1⟩
      · rw [if_neg hp] at h; injection h with h; subst h; exact ⟨by omega, this.2⟩
theorem best_none {fall : Bool} {p : Str → Bool} {ps : List Str} : ∀ {k : Nat}, best fall p ps k = none → ∀ j, j < k → p (ps.getD j default) = false := by
  intro k
  induction k with
  | zero => intro _ j hj; omega
  | succ k ih =>
    intro h j hj
    unfold best at h
    cases hb : best fall p ps k with
    | none =>
      rw [hb] at h
      simp only at h
      by_cases hp : p (ps.getD k default) = true
      · rw [if_pos hp] at h; cases h
      · by_cases e : j = k
        · subst e; simpa using hp
        · exact ih hb j (by omega)
    | some b' =>
      rw [hb] at h
      simp only at h
      split at h <;> cases h
/-- entries by their coming -/
def Came (L : List (Str × Int)) : Prop := ∀ i j, i < j → j < L.length → (HP.at' L i).2 < (HP.at' L j).2
theorem map_at (L : List (Str × Int)) (i : Nat) : (L.map (·.1)).getD i default = (HP.at' L i).1 := by
  unfold HP.at'
  rw [List.getD_eq_getElem?_getD, List.getD_eq_getElem?_getD, List.getElem?_map]
  cases L[i]? <;> rfl
theorem lessP_asym {fall : Bool} {a b : Str} (h : lessP fall a b = true) : lessP fall b a = false := by
  unfold lessP at *
  cases fall <;> simp at h ⊢ <;> omega
theorem lessP_trans {fall : Bool} {a b c : Str} (h1 : lessP fall b a = false) (h2 : lessP fall c b = false) : lessP fall c a = false := by
  unfold lessP at *
  cases fall <;> simp at h1 h2 ⊢ <;> omega
/-- the best is not behind any: by the keys; and ahead of those that came before it -/
theorem best_le {fall : Bool} {p : Str → Bool} {ps : List Str} : ∀ {k b : Nat}, best fall p ps k = some b → ∀ j, j < k → p (ps.getD j default) = true → lessP fall (ps.getD j default) (ps.getD b default) = false ∧ (j < b → lessP fall (ps.getD b default) (ps.getD j default) = true) := by
  intro k
  induction k with
  | zero => intro b h; cases h
  | succ k ih =>
    intro b h j hj hp
    unfold best at h
    cases hb : best fall p ps k with
    | none =>
      rw [hb] at h
      simp only at h
      by_cases hpk : p (ps.getD k default) = true
      · rw [if_pos hpk] at h; injection h with h; subst h
        by_cases e : j = k
        · subst e
          refine ⟨?_, fun h => by omega⟩
          cases hq : lessP fall (ps.getD j default) (ps.getD j default)
          · rfl
          · rw [lessP_asym hq] at hq; cases hq
        · rw [best_none hb j (by omega)] at hp; cases hp
      · rw [if_neg hpk] at h; cases h
    | some b' =>
      rw [hb] at h
      simp only at h
      have hi := ih hb
      have hlt := best_lt hb
      by_cases hpk : (p (ps.getD k default) && lessP fall (ps.getD k default) (ps.getD b' default)) = true
      · rw [if_pos hpk] at h; injection h with h; subst h
        simp only [Bool.and_eq_true] at hpk
        by_cases e : j = k
        · subst e
          refine ⟨?_, fun h => by omega⟩
          cases hq : lessP fall (ps.getD j default) (ps.getD j default)
          · rfl
          · rw [lessP_asym hq] at hq; cases hq
        · have h1 := (hi j (by omega) hp).1
          refine ⟨lessP_trans (lessP_asym hpk.2) h1, fun _ => ?_⟩
          cases hq : lessP fall (ps.getD k default) (ps.getD j default)
          · have := lessP_trans h1 hq; rw [hpk.2] at this; cases this
          · rfl
      · rw [if_neg hpk] at h; injection h with h; subst h
        by_cases e : j = k
        · subst e
          rw [hp, Bool.true_and] at hpk
          exact ⟨by simpa using hpk, fun h => by omega⟩
        · exact hi j (by omega) hp
theorem first_le {fall : Bool} {p : Str → Bool} {L : List (Str × Int)} (hC : Came L) {b : Nat} (h : first fall p (L.map (·.1)) = some b) : b < L.length ∧ p (HP.at' L b).1 = true ∧ ∀ j, j < L.length → p (HP.at' L j).1 = true → HP.le (aheadP fall) (HP.at' L b) (HP.at' L j) := by
  unfold first at h
  rw [List.length_map] at h
  have h1 := best_lt h
  rw [map_at] at h1
  refine ⟨h1.1, h1.2, fun j hj hp => ?_⟩
  have h2 := best_le h j hj (by rw [map_at]; exact hp)
  rw [map_at, map_at] at h2
  unfold HP.le aheadP
  rw [h2.1, Bool.false_or]
  by_cases e : j < b
  · rw [h2.2 e]; simp
  · have : ¬ (HP.at' L j).2 < (HP.at' L b).2 := by
      by_cases e1 : j = b
      · subst e1; omega
      · have := hC b j (by omega) hj; omega
    simp [this]
theorem ahead_one {fall : Bool} {a b : Str × Int} (h1 : HP.le (aheadP fall) a b) (h2 : HP.le (aheadP fall) b a) : a.2 = b.2 := by
  unfold HP.le aheadP lessP at h1 h2
  cases fall <;> simp at h1 h2 <;> omega
theorem Came.one {L : List (Str × Int)} (hC : Came L) {i j : Nat} (hi : i < L.length) (hj : j < L.length) (h : (HP.at' L i).2 = (HP.at' L j).2) : i = j := by
  rcases Nat.lt_trichotomy i j with e | e | e
  · have := hC i j e hj; omega
  · exact e
  · have := hC j i e hi; omega
/-- whoever is not behind any that is let in, is the first -/
theorem first_is {fall : Bool} {p : Str → Bool} {L : List (Str × Int)} (hC : Came L) {m : Str × Int} (hm : m ∈ L) (hp : p m.1 = true) (hle : ∀ x, x ∈ L → p x.1 = true → HP.le (aheadP fall) m x) :
    ∃ b, first fall p (L.map (·.1)) = some b ∧ b < L.length ∧ HP.at' L b = m := by
  obtain ⟨i, hi, hm'⟩ := List.mem_iff_getElem.1 hm
  have him : HP.at' L i = m := by rw [HP.at_get hi, hm']
  cases hb : first fall p (L.map (·.1)) with
  | none =>
    have := best_none hb i (by rw [List.length_map]; exact hi)
    rw [map_at, him, hp] at this
    cases this
  | some b =>
    have h1 := first_le hC hb
    have h2 := h1.2.2 i hi (by rw [him]; exact hp)
    rw [him] at h2
    have h3 := hle (HP.at' L b) (by rw [HP.at_get h1.1]; exact List.getElem_mem _) h1.2.1
    have := hC.one hi h1.1 (by rw [him]; exact (ahead_one h3 h2))
    subst this
    exact ⟨i, rfl, hi, him⟩
theorem first_none {fall : Bool} {p : Str → Bool} {L : List (Str × Int)} (h : ∀ x, x ∈ L → p x.1 = false) : first fall p (L.map (·.1)) = none := by
  cases hb : first fall p (L.map (·.1)) with
  | none => rfl
  | some b =>
    have h1 := best_lt hb
    rw [map_at, List.length_map] at h1
    rw [h _ (by rw [HP.at_get h1.1]; exact List.getElem_mem _)] at h1
    cases h1.2
theorem Came.snoc {L : List (Str × Int)} (hC : Came L) (e : Str × Int) (h : ∀ x, x ∈ L → x.2 < e.2) : Came (L ++ [e]) := by
  intro i j hij hj
  have hl : (L ++ [e]).length = L.length + 1 := by simp
  rw [hl] at hj
  have h1 : ∀ k, k < L.length → HP.at' (L ++ [e]) k = HP.at' L k := fun k hk => by rw [HP.at_get (by simp; omega), HP.at_get hk, List.getElem_append_left hk]
  by_cases e1 : j = L.length
  · subst e1
    rw [h1 i (by omega)]
    have : HP.at' (L ++ [e]) L.length = e := by rw [HP.at_get (by simp)]; simp
    rw [this]
    exact h _ (by rw [HP.at_get (by omega)]; exact List.getElem_mem _)
  · rw [h1 i (by omega), h1 j (by omega)]
    exact hC i j hij (by omega)
theorem at_erase {L : List (Str × Int)} {b k : Nat} (hk : k < L.length - 1) : HP.at' (L.eraseIdx b) k = if k < b then HP.at' L k else HP.at' L (k + 1) := by
  unfold HP.at'
  simp only [List.getD_eq_getElem?_getD, List.getElem?_eraseIdx]
  split <;> rfl
theorem Came.erase {L : List (Str × Int)} (hC : Came L) {b : Nat} (hb : b < L.length) : Came (L.eraseIdx b) := by
  intro i j hij hj
  rw [List.length_eraseIdx_of_lt hb] at hj
  rw [at_erase (by omega), at_erase hj]
  split <;> split
  · exact hC i j hij (by omega)
  · exact hC i (j + 1) (by omega) (by omega)
  · omega
  · exact hC (i + 1) (j + 1) (by omega) (by omega)
/-- all, by the order -/
def sort (fall : Bool) : Nat → List Str → List Str
  | 0, _ => []
  | n + 1, ps => match first fall all ps with
    | none => []
    | some b => ps.getD b default :: sort fall n (ps.eraseIdx b)
def sorted (fall : Bool) (ps : List Str) : List Str := sort fall ps.length ps
theorem erase_perm {E : Type} (L : List E) (b : Nat) (h : b < L.length) : (L[b] :: L.eraseIdx b).Perm L := by
  induction L generalizing b with
  | nil => simp at h
  | cons a L ih => cases b with
    | zero => exact .refl _
    | succ b =>
      simp only [List.getElem_cons_succ, List.eraseIdx_cons_succ]
      exact (List.Perm.swap _ _ _).trans ((ih b (by simpa using h)).cons a)
theorem map_erase (L : List (Str × Int)) (b : Nat) : (L.map (·.1)).eraseIdx b = (L.eraseIdx b).map (·.1) := by
  induction L generalizing b with
  | nil => rfl
  | cons a L ih => cases b with
    | zero => rfl
    | succ b => simp [ih]
theorem sort_is {fall : Bool} : ∀ (L1 L : List (Str × Int)), Came L → L1.Perm L → InOrder fall L1 → sort fall L1.length (L.map (·.1)) = L1.map (·.1) := by
  intro L1
  induction L1 with
  | nil => intro L _ _ _; rfl
  | cons m L1 ih =>
    intro L hC hP hO
    have hm : m ∈ L := hP.mem_iff.1 (by simp)
    obtain ⟨b, hb, hbl, hbm⟩ := first_is (p := all) hC hm rfl (fun x hx _ => by
      rcases List.mem_cons.1 (hP.mem_iff.2 hx) with rfl | hx
      · exact aheadP_refl _ _
      · exact hO.1 x hx)
    show sort fall (L1.length + 1) (L.map (·.1)) = _
    unfold sort
    rw [hb]
    simp only [List.map_cons]
    rw [map_at, hbm, map_erase]
    congr 1
    refine ih (L.eraseIdx b) (hC.erase hbl) ?_ hO.2
    have h1 : (L[b] :: L.eraseIdx b).Perm L := erase_perm L b hbl
    rw [← HP.at_get hbl, hbm] at h1
    exact (List.perm_cons m).1 (hP.trans h1.symm)
theorem sorted_is {fall : Bool} {L1 L : List (Str × Int)} (hC : Came L) (hP : L1.Perm L) (hO : InOrder fall L1) : L1.map (·.1) = sorted fall (L.map (·.1)) := by
  unfold sorted
  rw [← sort_is L1 L hC hP hO, List.length_map, hP.length_eq]
end PP

/-- a heap of pairs that came in this order; n have come -/
def HeapP (w : World) (h c : Nat) (fall : Bool) (ps : List Str) (n : Nat) (r : Option Nat) : Prop :=
  ∃ es L, HeapAt w h c fall es n r ∧ es.Perm L ∧ PP.Came L ∧ (∀ x, x ∈ L → 0 ≤ x.2 ∧ x.2 < n) ∧ L.map (·.1) = ps
theorem came_count : ∀ (n : Nat) (L : List (Str × Int)), PP.Came L → (∀ x, x ∈ L → 0 ≤ x.2 ∧ x.2 < n) → L.length ≤ n := by
  intro n
  induction n with
  | zero =>
    intro L _ h
    cases L with
    | nil => simp
    | cons a L => have := h a (by simp); omega
  | succ n ih =>
    intro L hC h
    by_cases h0 : L.length = 0
    · omega
    · have hl : L.length - 1 < L.length := by omega
      have := ih (L.eraseIdx (L.length - 1)) (hC.erase hl) (fun x hx => by
        obtain ⟨i, hi, rfl⟩ := List.mem_iff_getElem.1 hx
        have hi' := hi
        rw [List.length_eraseIdx_of_lt hl] at hi
        rw [← HP.at_get hi', PP.at_erase hi, if_pos hi]
        have h1 := hC i (L.length - 1) hi hl
        have h2 := h (HP.at' L i) (by rw [HP.at_get (by omega)]; exact List.getElem_mem _)
        have h3 := h (HP.at' L (L.length - 1)) (by rw [HP.at_get hl]; exact List.getElem_mem _)
        omega)
      rw [List.length_eraseIdx_of_lt hl] at this
      omega
theorem HeapP.count {w : World} {h c n : Nat} {fall : Bool} {ps : List Str} {r : Option Nat} (a : HeapP w h c fall ps n r) : ps.length ≤ n := by
  obtain ⟨es, L, _, _, hC, hn, rfl⟩ := a
  rw [List.length_map]
  exact came_count n L hC hn
theorem HeapP.kept {w w' : World} {h c n : Nat} {fall : Bool} {ps : List Str} {r : Option Nat} (a : HeapP w h c fall ps n r) (hk : ∀ k, k < w.heap.size → w'.heap[k]? = w.heap[k]?) : HeapP w' h c fall ps n r := by
  obtain ⟨es, L, hA, hr⟩ := a
  exact ⟨es, L, hA.kept hk, hr⟩
theorem HeapP.below {w w' : World} {h c n : Nat} {fall : Bool} {ps : List Str} {r : Option Nat} (a : HeapP w h c fall ps n r) (hb : Below w.heap.size w w') : HeapP w' h c fall ps n r := a.kept hb.block
def zeroP : Value := .string ByteArray.empty
def pairV (x : Str) : Value := .string x
theorem pushP (h c n : Nat) (fall : Bool) (ps : List Str) (r : Option Nat) (x : Str) (w : World) (hA : HeapP w h c fall ps n r) (hb : (n + 1) * 24 ≤ 140737488355328) :
    Calls Try.prog 29 #[.pointer (some ⟨h, 0, none⟩), pairV x] w fun e w' => ∃ r', e = .returned (.tuple #[]) ∧ HeapP w' h c fall (ps ++ [x]) (n + 1) r' ∧ Tch w w' h r r' := by
  obtain ⟨es, L, hE, hP, hC, hn, rfl⟩ := id hA
  have hc := hA.count
  rw [List.length_map, ← hP.length_eq] at hc
  refine (push_any h c fall es n r x w hE (by omega) (by omega) (by omega)).mono ?_
  rintro e w' ⟨es', r', rfl, hA', hP', hT⟩
  refine ⟨r', rfl, ⟨es', L ++ [(x, (n : Int))], by rw [Int.natCast_add]; exact hA', hP'.trans (hP.append_right _), hC.snoc _ (fun y hy => (hn y hy).2), fun y hy => ?_, by simp⟩, hT⟩
  rcases List.mem_append.1 hy with hy | hy
  · have := hn y hy; omega
  · simp at hy; subst hy; simp only; omega
/-- what Pop and Remove answer, and what is left -/
def TookP (w : World) (h c n : Nat) (fall : Bool) (ps : List Str) (r : Option Nat) (o : Option Nat) (e : Ending) (w' : World) : Prop :=
  match o with
  | none => e = .returned (.tuple #[zeroP, .bool false]) ∧ Below w.heap.size w w'
  | some b => e = .returned (.tuple #[pairV (ps.getD b default), .bool true]) ∧ HeapP w' h c fall (ps.eraseIdx b) n r ∧ Tch w w' h r r
theorem took {w' : World} {h c n b : Nat} {fall : Bool} {es es2 L : List (Str × Int)} {r : Option Nat} {m : Str × Int} (hP : es.Perm L) (hC : PP.Came L) (hn : ∀ x, x ∈ L → 0 ≤ x.2 ∧ x.2 < (n : Int)) (hE : HeapAt w' h c fall es2 n r) (hp : es.Perm (m :: es2)) (hb : b < L.length) (hm : HP.at' L b = m) : HeapP w' h c fall ((L.map (·.1)).eraseIdx b) n r := by
  refine ⟨es2, L.eraseIdx b, hE, ?_, hC.erase hb, fun x hx => hn x (List.mem_of_mem_eraseIdx hx), (PP.map_erase L b).symm⟩
  have h1 : (L[b] :: L.eraseIdx b).Perm L := PP.erase_perm L b hb
  rw [← HP.at_get hb, hm] at h1
  exact (List.perm_cons m).1 (hp.symm.trans (hP.trans h1.symm))
theorem popP (h c n : Nat) (fall : Bool) (ps : List Str) (r : Option Nat) (w : World) (hA : HeapP w h c fall ps n r) (hb : n ≤ 140737488351232) :
    Calls Try.prog 34 #[.pointer (some ⟨h, 0, none⟩)] w (TookP w h c n fall ps r (PP.first fall PP.all ps)) := by
  obtain ⟨es, L, hE, hP, hC, hn, rfl⟩ := id hA
  have hc := hA.count
  rw [List.length_map, ← hP.length_eq] at hc
  by_cases h0 : 0 < es.length
  · refine (pop_some h c fall es n r w hE h0 (by omega)).mono ?_
    rintro e w' ⟨es2, rfl, hA', hP', hT⟩
    obtain ⟨_, _, _, hH⟩ := hE
    obtain ⟨b, hb1, hbl, hbm⟩ := PP.first_is (fall := fall) (p := PP.all) hC (m := HP.at' es 0) (hP.mem_iff.1 (by rw [HP.at_get h0]; exact List.getElem_mem _)) rfl (fun x hx _ => by
      obtain ⟨j, hj, rfl⟩ := List.mem_iff_getElem.1 (hP.mem_iff.2 hx)
      have := hH.first (aheadP_ord fall) (aheadP_refl fall) j j (Nat.le_refl j) hj
      rwa [HP.at_get hj] at this)
    rw [hb1]
    refine ⟨?_, took hP hC hn hA' hP' hbl hbm, hT⟩
    rw [PP.map_at, hbm]; rfl
  · have he : es = [] := List.length_eq_zero_iff.1 (by omega)
    subst he
    have hL0 : L = [] := List.nil_perm.1 hP
    subst hL0
    refine (pop_none h c fall n r w hE).mono ?_
    rintro e w' ⟨rfl, hb'⟩
    exact ⟨rfl, hb'⟩
theorem peekP (h c n : Nat) (fall : Bool) (ps : List Str) (r : Option Nat) (w : World) (hA : HeapP w h c fall ps n r) (hb : n ≤ 140737488351232) :
    Calls Try.prog 33 #[.pointer (some ⟨h, 0, none⟩)] w fun e w' => e = .returned (match PP.first fall PP.all ps with | none => .tuple #[zeroP, .bool false] | some b => .tuple #[pairV (ps.getD b default), .bool true]) ∧ Below w.heap.size w w' := by
  obtain ⟨es, L, hE, hP, hC, hn, rfl⟩ := id hA
  have hc := hA.count
  rw [List.length_map, ← hP.length_eq] at hc
  by_cases h0 : 0 < es.length
  · refine (peek_some h c fall es n r w hE h0 (by omega)).mono ?_
    rintro e w' ⟨rfl, hb'⟩
    obtain ⟨_, _, _, hH⟩ := hE
    obtain ⟨b, hb1, hbl, hbm⟩ := PP.first_is (fall := fall) (p := PP.all) hC (m := HP.at' es 0) (hP.mem_iff.1 (by rw [HP.at_get h0]; exact List.getElem_mem _)) rfl (fun x hx _ => by
      obtain ⟨j, hj, rfl⟩ := List.mem_iff_getElem.1 (hP.mem_iff.2 hx)
      have := hH.first (aheadP_ord fall) (aheadP_refl fall) j j (Nat.le_refl j) hj
      rwa [HP.at_get hj] at this)
    rw [hb1]
    refine ⟨?_, hb'⟩
    simp only
    rw [PP.map_at, hbm]; rfl
  · have he : es = [] := List.length_eq_zero_iff.1 (by omega)
    subst he
    have hL0 : L = [] := List.nil_perm.1 hP
    subst hL0
    exact peek_none h c fall n r w hE
theorem removeP (h c n : Nat) (fall : Bool) (p : Str → Bool) (isv : Value) (ps : List Str) (r : Option Nat) (w : World) (hA : HeapP w h c fall ps n r) (hb : n ≤ 140737488351232) (hI : Asks isv p w) :
    Calls Try.prog 35 #[.pointer (some ⟨h, 0, none⟩), isv] w (TookP w h c n fall ps r (PP.first fall p ps)) := by
  obtain ⟨es, L, hE, hP, hC, hn, rfl⟩ := id hA
  have hc := hA.count
  rw [List.length_map, ← hP.length_eq] at hc
  by_cases h0 : 0 < es.length
  · refine (remove_any h c fall p isv es n r w hE h0 (by omega) hI).mono ?_
    rintro e w' (⟨rfl, hno, hb'⟩ | ⟨b', es2, hb1, hB, rfl, hA', hP', hT⟩)
    · rw [PP.first_none (fun x hx => by
        obtain ⟨j, hj, rfl⟩ := List.mem_iff_getElem.1 (hP.mem_iff.2 hx)
        rw [← HP.at_get hj]; exact hno j hj)]
      exact ⟨rfl, hb'⟩
    · obtain ⟨b, hb2, hbl, hbm⟩ := PP.first_is (fall := fall) (p := p) hC (m := HP.at' es b') (hP.mem_iff.1 (by rw [HP.at_get hb1]; exact List.getElem_mem _)) hB.2.1 (fun x hx hpx => by
        obtain ⟨j, hj, rfl⟩ := List.mem_iff_getElem.1 (hP.mem_iff.2 hx)
        have := hB.2.2 j hj (by rw [HP.at_get hj]; exact hpx)
        rwa [HP.at_get hj] at this)
      rw [hb2]
      refine ⟨?_, took hP hC hn hA' hP' hbl hbm, hT⟩
      rw [PP.map_at, hbm]; rfl
  · have he : es = [] := List.length_eq_zero_iff.1 (by omega)
    subst he
    have hL0 : L = [] := List.nil_perm.1 hP
    subst hL0
    refine (remove_none h c fall isv n r w hE).mono ?_
    rintro e w' ⟨rfl, hb'⟩
    exact ⟨rfl, hb'⟩
theorem lenP (h c n : Nat) (fall : Bool) (ps : List Str) (r : Option Nat) (w : World) (hA : HeapP w h c fall ps n r) (hb : n ≤ 140737488351232) :
    Calls Try.prog 31 #[.pointer (some ⟨h, 0, none⟩)] w fun e w' => e = .returned (.int .i64 ps.length) ∧ w = w' := by
  obtain ⟨es, L, hE, hP, hC, hn, rfl⟩ := id hA
  have hc := hA.count
  rw [List.length_map, ← hP.length_eq] at hc
  have := len_any h c fall es n r w hE (by omega)
  rw [List.length_map, ← hP.length_eq]
  exact this
def SortedP (w : World) (fall : Bool) (ps : List Str) (e : Ending) (w' : World) : Prop :=
  ∃ v, e = .returned v ∧ w'.ownsRow w.heap.size 9 1 v (PP.sorted fall ps).length (flatT (PP.sorted fall ps)) ∧ Below w.heap.size w w'
theorem sortedP (h c n : Nat) (fall : Bool) (ps : List Str) (r : Option Nat) (w : World) (hA : HeapP w h c fall ps n r) (hb : n * 24 ≤ 140737488351232) :
    Calls Try.prog 30 #[.pointer (some ⟨h, 0, none⟩)] w (SortedP w fall ps) := by
  obtain ⟨es, L, hE, hP, hC, hn, rfl⟩ := id hA
  have hc := hA.count
  rw [List.length_map, ← hP.length_eq] at hc
  refine (sorted_any h c fall es n r w hE (by omega)).mono ?_
  rintro e w' ⟨v, L1, rfl, hown, hB, hP1, hO⟩
  rw [PP.sorted_is hC (hP1.trans hP) hO] at hown
  exact ⟨v, rfl, hown, hB⟩
theorem newP (v : Value) (fall : Bool) (w : World) (hv : LessV v) :
    Calls Try.prog 27 #[v] w fun e w' => e = .returned (.pointer (some ⟨w.heap.size + 1, 0, none⟩)) ∧ HeapP w' (w.heap.size + 1) w.heap.size fall [] 0 none ∧ Below w.heap.size w w' ∧ w'.heap.size = w.heap.size + 2 := by
  refine (new_any v fall w hv).mono ?_
  rintro e w' ⟨rfl, hA, hB, hs⟩
  exact ⟨rfl, ⟨[], [], hA, .refl _, fun i j _ hj => by simp at hj, ⟨fun x hx => by simp at hx, rfl⟩⟩, hB, hs⟩
end Go.Proofs.Ytffioombjejchaa.St
