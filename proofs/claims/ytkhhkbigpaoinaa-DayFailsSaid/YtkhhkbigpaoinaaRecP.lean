/- Positions' totals, rising keys, differences between two lists of balances: plain law, no program in sight. -/
import Derived.Test.YtkhhkbigpaoinaaBase
namespace Go.Proofs.Ytkhhkbigpaoinaa
set_option linter.unusedVariables false

/-- the first mark, counted from i on, whose name does not rise, is too great, or which holds less than 1 -/
def chkN : Int → Int → List (Int × Int) → Option Int
  | _, _, [] => none
  | last, i, m :: r => if last < m.1 ∧ m.1 ≤ 65536 ∧ 1 ≤ m.2 then chkN m.1 (i + 1) r else some i
/-- the first mark at which the sum is too great -/
def chkS : Int → Int → List (Int × Int) → Option Int
  | _, _, [] => none
  | s, i, m :: r => if s ≤ 9223372036854775807 - m.2 then chkS (s + m.2) (i + 1) r else some i
def sumM (ms : List (Int × Int)) : Int := (ms.map (·.2)).sum
/-- what is wrong with a position, and where -/
def chkM (avail : Int) (ms : List (Int × Int)) : Int × Int :=
  if avail < 0 then (1, -1) else if 8 < ms.length then (5, 8) else
  match chkN 0 0 ms with
  | some i => (1, i)
  | none => match chkS avail 0 ms with
    | some i => (9, i)
    | none => (0, 0)
def totM (avail : Int) (ms : List (Int × Int)) : Int := if (chkM avail ms).1 = 0 then avail + sumM ms else 0
theorem sumM_cons (m : Int × Int) (ms : List (Int × Int)) : sumM (m :: ms) = m.2 + sumM ms := by simp [sumM]
theorem chkN_right : ∀ (ms : List (Int × Int)) (last i : Int), chkN last i ms = none → ∀ m ∈ ms, 1 ≤ m.2
  | [], _, _, _, m, hm => by simp at hm
  | x :: r, last, i, h, m, hm => by
    unfold chkN at h
    split at h
    · rename_i hc
      rcases List.mem_cons.1 hm with rfl | hm
      · exact hc.2.2
      · exact chkN_right r _ _ h m hm
    · cases h
theorem chkN_yes {last i : Int} {m : Int × Int} {r : List (Int × Int)} (h : last < m.1 ∧ m.1 ≤ 65536 ∧ 1 ≤ m.2) : chkN last i (m :: r) = chkN m.1 (i + 1) r := by rw [chkN, if_pos h]
theorem chkN_no {last i : Int} {m : Int × Int} {r : List (Int × Int)} (h : ¬ (last < m.1 ∧ m.1 ≤ 65536 ∧ 1 ≤ m.2)) : chkN last i (m :: r) = some i := by rw [chkN, if_neg h]
theorem chkS_yes {s i : Int} {m : Int × Int} {r : List (Int × Int)} (h : s ≤ 9223372036854775807 - m.2) : chkS s i (m :: r) = chkS (s + m.2) (i + 1) r := by rw [chkS, if_pos h]
theorem chkS_no {s i : Int} {m : Int × Int} {r : List (Int × Int)} (h : ¬ s ≤ 9223372036854775807 - m.2) : chkS s i (m :: r) = some i := by rw [chkS, if_neg h]
theorem sumM_nonneg {ms : List (Int × Int)} (h : ∀ m ∈ ms, 1 ≤ m.2) : 0 ≤ sumM ms := by
  induction ms with
  | nil => simp [sumM]
  | cons m r ih =>
    rw [sumM_cons]
    have h1 := h m (by simp)
    have h2 := ih fun m hm => h m (by simp [hm])
    omega
theorem chkS_le : ∀ (ms : List (Int × Int)) (s i : Int), s ≤ 9223372036854775807 → chkS s i ms = none → s + sumM ms ≤ 9223372036854775807
  | [], s, i, hs, h => by simpa [sumM] using hs
  | m :: r, s, i, hs, h => by
    by_cases c : s ≤ 9223372036854775807 - m.2
    · rw [chkS_yes c] at h
      have := chkS_le r _ _ (by omega) h
      rw [sumM_cons]; omega
    · rw [chkS_no c] at h; cases h
/-- a position that is right: nothing below 0, the sum an amount -/
theorem chk_right {avail : Int} {ms : List (Int × Int)} (h : (chkM avail ms).1 = 0) : 0 ≤ avail ∧ (∀ m ∈ ms, 1 ≤ m.2) ∧ (avail ≤ 9223372036854775807 → avail + sumM ms ≤ 9223372036854775807) := by
  unfold chkM at h
  split at h
  · cases h
  · rename_i h0
    split at h
    · cases h
    · split at h
      · cases h
      · rename_i hn
        split at h
        · cases h
        · rename_i hs
          exact ⟨by omega, chkN_right ms _ _ hn, fun ha => chkS_le ms _ _ ha hs⟩
/-- a balance: its key, what is free, its marks; where its marks' list lies -/
structure BalV where
  a : Int
  b : Int
  avail : Int
  ao : Option Addr
  cap : Nat
  ms : List (Int × Int)
def BalV.mv (x : BalV) : Value := .slice x.ao x.ms.length x.cap
def BalV.key (x : BalV) : Int × Int := (x.a, x.b)
def BalV.tot (x : BalV) : Int := totM x.avail x.ms
def befK (x y : Int × Int) : Bool := decide (x.1 < y.1) || (decide (x.1 = y.1) && decide (x.2 < y.2))
theorem befK_irr (x : Int × Int) : ¬ befK x x = true := by simp [befK]
theorem befK_tr {x y z : Int × Int} (h : befK x y = true) (k : befK y z = true) : befK x z = true := by
  simp [befK] at *; omega
theorem befK_tot {x y : Int × Int} (h : x ≠ y) : befK x y = true ∨ befK y x = true := by
  obtain ⟨a, b⟩ := x; obtain ⟨c, d⟩ := y
  simp [befK] at *
  omega
theorem rise_ext : ∀ (l m : List (Int × Int)), l.Pairwise (fun x y => befK x y = true) → m.Pairwise (fun x y => befK x y = true) → (∀ x, x ∈ l ↔ x ∈ m) → l = m
  | [], m, _, _, h => by
    cases m with
    | nil => rfl
    | cons b m => exact absurd ((h b).2 (by simp)) (by simp)
  | a :: l, [], _, _, h => absurd ((h a).1 (by simp)) (by simp)
  | a :: l, b :: m, hl, hm, h => by
    obtain ⟨l1, l2⟩ := List.pairwise_cons.1 hl
    obtain ⟨m1, m2⟩ := List.pairwise_cons.1 hm
    have hab : a = b := by
      by_cases e : a = b
      · exact e
      · have h1 : befK b a = true := by
          rcases List.mem_cons.1 ((h a).1 (by simp)) with e' | e'
          · exact absurd e' e
          · exact m1 a e'
        have h2 : befK a b = true := by
          rcases List.mem_cons.1 ((h b).2 (by simp)) with e' | e'
          · exact absurd e'.symm e
          · exact l1 b e'
        exact absurd (befK_tr h1 h2) (befK_irr b)
    subst hab
    congr 1
    refine rise_ext l m l2 m2 fun x => ⟨fun hx => ?_, fun hx => ?_⟩
    · rcases List.mem_cons.1 ((h x).1 (List.mem_cons_of_mem _ hx)) with e | e
      · exact absurd (e ▸ l1 x hx) (befK_irr a)
      · exact e
    · rcases List.mem_cons.1 ((h x).2 (List.mem_cons_of_mem _ hx)) with e | e
      · exact absurd (e ▸ m1 x hx) (befK_irr a)
      · exact e
/-- a key into a rising list, once -/
def insK (k : Int × Int) : List (Int × Int) → List (Int × Int)
  | [] => [k]
  | o :: r => if befK o k = true then o :: insK k r else if o = k then o :: r else k :: o :: r
theorem mem_insK (k x : Int × Int) : ∀ l : List (Int × Int), x ∈ insK k l ↔ x = k ∨ x ∈ l
  | [] => by simp [insK]
  | o :: r => by
    unfold insK
    by_cases h : befK o k = true
    · simp only [h, if_true, List.mem_cons, mem_insK k x r]
      constructor
      · rintro (h | h | h)
        · exact .inr (.inl h)
        · exact .inl h
        · exact .inr (.inr h)
      · rintro (h | h | h)
        · exact .inr (.inl h)
        · exact .inl h
        · exact .inr (.inr h)
    · rw [if_neg h]
      by_cases e : o = k
      · subst e; simp
      · simp [e]
theorem rise_insK (k : Int × Int) : ∀ l : List (Int × Int), l.Pairwise (fun x y => befK x y = true) → (insK k l).Pairwise (fun x y => befK x y = true)
  | [], _ => by simp [insK]
  | o :: r, h => by
    obtain ⟨h1, h2⟩ := List.pairwise_cons.1 h
    unfold insK
    by_cases hb : befK o k = true
    · rw [if_pos hb]
      refine List.pairwise_cons.2 ⟨fun y hy => ?_, rise_insK k r h2⟩
      rcases (mem_insK k y r).1 hy with rfl | hy
      · exact hb
      · exact h1 y hy
    · rw [if_neg hb]
      by_cases e : o = k
      · rw [if_pos e]; exact h
      · rw [if_neg e]
        have hk : befK k o = true := (befK_tot e).resolve_left hb
        refine List.pairwise_cons.2 ⟨fun y hy => ?_, h⟩
        rcases List.mem_cons.1 hy with rfl | hy
        · exact hk
        · exact befK_tr hk (h1 y hy)
def keysR (l : List BalV) (out : List (Int × Int)) : List (Int × Int) := l.foldl (fun o x => insK x.key o) out
theorem mem_keysR (x : Int × Int) : ∀ (l : List BalV) (out : List (Int × Int)), x ∈ keysR l out ↔ (∃ y ∈ l, y.key = x) ∨ x ∈ out
  | [], out => by simp [keysR]
  | y :: l, out => by
    show x ∈ keysR l (insK y.key out) ↔ _
    rw [mem_keysR x l, mem_insK]
    simp only [List.mem_cons, exists_eq_or_imp]
    constructor
    · rintro (h | h | h)
      · exact .inl (.inr h)
      · exact .inl (.inl h.symm)
      · exact .inr h
    · rintro ((h | h) | h)
      · exact .inr (.inl h.symm)
      · exact .inl h
      · exact .inr (.inr h)
theorem rise_keysR : ∀ (l : List BalV) (out : List (Int × Int)), out.Pairwise (fun x y => befK x y = true) → (keysR l out).Pairwise (fun x y => befK x y = true)
  | [], _, h => h
  | y :: l, out, h => rise_keysR l (insK y.key out) (rise_insK _ _ h)
/-- the total of the last balance of a key -/
def lastT (l : List BalV) (k : Int × Int) : Int := l.foldl (fun t x => if x.key = k then x.tot else t) 0
theorem lastT_snoc (l : List BalV) (x : BalV) (k : Int × Int) : lastT (l ++ [x]) k = if x.key = k then x.tot else lastT l k := by simp [lastT, List.foldl_append]
theorem lastT_none (k : Int × Int) : ∀ (l : List BalV), (¬ ∃ y ∈ l, y.key = k) → lastT l k = 0 := by
  intro l h
  have : ∀ (l : List BalV) (t : Int), (¬ ∃ y ∈ l, y.key = k) → l.foldl (fun t x => if x.key = k then x.tot else t) t = t := by
    intro l
    induction l with
    | nil => intro t _; rfl
    | cons y l ih =>
      intro t h
      rw [List.foldl_cons, if_neg (fun e => h ⟨y, by simp, e⟩)]
      exact ih t (fun ⟨z, hz, e⟩ => h ⟨z, by simp [hz], e⟩)
  exact this l 0 h
abbrev breakV := Int × Int × Int × Int
/-- the differences at these keys -/
def recL (ours theirs : List BalV) (ks : List (Int × Int)) : List breakV := (ks.filter fun k => decide (lastT ours k ≠ lastT theirs k)).map fun k => (k.1, k.2, lastT ours k, lastT theirs k)
def recon (ours theirs : List BalV) : List breakV := recL ours theirs (keysR theirs (keysR ours []))
theorem recL_snoc (ours theirs : List BalV) (ks : List (Int × Int)) (k : Int × Int) : recL ours theirs (ks ++ [k]) = if lastT ours k = lastT theirs k then recL ours theirs ks else recL ours theirs ks ++ [(k.1, k.2, lastT ours k, lastT theirs k)] := by
  unfold recL
  rw [List.filter_append, List.map_append]
  by_cases h : lastT ours k = lastT theirs k <;> simp [h]
/-- keys that rise and are just those of the two lists give the differences -/
theorem recon_of (ours theirs : List BalV) (ks : List (Int × Int)) (h : ks.Pairwise (fun x y => befK x y = true)) (hm : ∀ x, x ∈ ks ↔ (∃ y ∈ ours, y.key = x) ∨ ∃ y ∈ theirs, y.key = x) : recL ours theirs ks = recon ours theirs := by
  unfold recon
  rw [rise_ext ks (keysR theirs (keysR ours [])) h (rise_keysR _ _ (rise_keysR _ _ List.Pairwise.nil)) fun x => by
    rw [hm, mem_keysR, mem_keysR]
    constructor
    · rintro (h | h)
      · exact .inr (.inl h)
      · exact .inl h
    · rintro (h | h | h)
      · exact .inr h
      · exact .inl h
      · cases h]
end Go.Proofs.Ytkhhkbigpaoinaa
