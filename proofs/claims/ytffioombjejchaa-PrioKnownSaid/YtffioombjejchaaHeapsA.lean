/- prio: two heaps and two of the document's rows beside one another, in plain Lean. -/
import Derived.Test.YtffioombjejchaaPrioSo
import Derived.Test.YtffioombjejchaaApartTwos
namespace Go.Proofs.Ytffioombjejchaa
set_option linter.unusedVariables false
set_option linter.unusedSimpArgs false
open Go.RowKit

def upd {α : Type} (f : Nat → α) (n : Nat) (v : α) : Nat → α := fun j => if j = n then v else f j
theorem upd_same {α : Type} (f : Nat → α) (n : Nat) (v : α) : upd f n v n = v := if_pos rfl
theorem upd_other {α : Type} (f : Nat → α) {n j : Nat} (v : α) (h : j ≠ n) : upd f n v j = f j := if_neg h
/-- the heap stands where just rows of pairs, the document's rows and the like turn -/
theorem HeapP.keptT {w w' : World} {h c n : Nat} {fall : Bool} {ps : List Pair} {r : Option Nat} (a : HeapP w h c fall ps n r) (key : ∀ (k : Nat) (cs : Array Value) (t : TypeId), w.heap[k]? = some (.cells cs t (0, 0)) → t ≠ 25 → t ≠ 31 → t ≠ 29 → w'.heap[k]? = w.heap[k]?) : HeapP w' h c fall ps n r := by
  obtain ⟨es, L, ⟨sl, hr, hL, hH⟩, hrest⟩ := a
  refine ⟨es, L, ⟨sl, hr, ⟨⟨hL.1.1, ?_⟩, (key h _ _ hL.2.1 (by decide) (by decide) (by decide)).trans hL.2.1, hL.2.2.1, ?_⟩, hH⟩, hrest⟩
  · rcases hL.1.2 with ⟨h1, h2⟩ | ⟨h1, h2⟩ | ⟨c2, h0, h1, h2⟩
    · exact .inl ⟨(key c _ _ h1 (by decide) (by decide) (by decide)).trans h1, h2⟩
    · exact .inr (.inl ⟨(key c _ _ h1 (by decide) (by decide) (by decide)).trans h1, h2⟩)
    · exact .inr (.inr ⟨c2, h0, (key c _ _ h1 (by decide) (by decide) (by decide)).trans h1, (key c2 _ _ h2 (by decide) (by decide) (by decide)).trans h2⟩)
  · rcases hL.2.2.2 with h1 | ⟨g, cap, cur, h1, hb, hh, hr'⟩
    · exact .inl h1
    · exact .inr ⟨g, cap, cur, h1, hb, (key g _ _ hh (by decide) (by decide) (by decide)).trans hh, hr'⟩
/-- a heap stands behind what another heap does -/
theorem HeapP.apart {w w' : World} {h c n h2 c2 n2 : Nat} {fall f2 : Bool} {ps ps2 : List Pair} {r r' r2 : Option Nat} (a : HeapP w h2 c2 f2 ps2 n2 r2) (A : HeapP w h c fall ps n r) (T : Tch w w' h r r') (hne : h2 ≠ h) (hr : ∀ q, r = some q → r2 = some q → False) : HeapP w' h2 c2 f2 ps2 n2 r2 := by
  obtain ⟨es, L, ⟨sl, hsl, hL, hH⟩, hrest⟩ := a
  obtain ⟨es', L', ⟨sl', hsl', hL', _⟩, _⟩ := id A
  have hent : ∀ q, r = some q → ∃ cs, w.heap[q]? = some (.cells cs 68 (0, 0)) := fun q hq => own_type hL'.2.2 (hsl'.trans hq)
  refine ⟨es, L, ⟨sl, hsl, ⟨hL.1.kept fun k hk v t ht hv => T.block k (lt_of_block hv) (fun e => ?_) (fun e => ?_), ?_, ?_⟩, hH⟩, hrest⟩
  · subst e
    rw [hL'.2.1] at hv
    injection hv with hv
    injection hv with hv
    have := congrArg Array.size hv
    simp at this
  · obtain ⟨cs, hc⟩ := hent k e.symm
    rw [hv] at hc
    injection hc with hc
    injection hc with _ hc
    exact ht hc
  · refine (T.block h2 (lt_of_block hL.2.1) hne (fun e => ?_)).trans hL.2.1
    obtain ⟨cs, hc⟩ := hent h2 e.symm
    exact row_ne hL.2.1 hc (by decide) rfl
  · refine World.ownsRow_congr hL.2.2 fun k hk => ?_
    obtain ⟨cs, hc⟩ := own_type hL.2.2 hk
    refine T.block k (lt_of_block hc) (fun e => ?_) (fun e => hr k e.symm (hsl.symm.trans hk))
    subst e
    exact row_ne hL'.2.1 hc (by decide) rfl
theorem RowR.other {w w' : World} {h k : Nat} {fall : Bool} {ps : List Pair} {g g' : Option Nat} (a : RowR w h fall ps g) (T : Tch w w' h g g') {cs : Array Value} {t : TypeId} {fr : Nat × Nat} (hk : w.heap[k]? = some (.cells cs t fr)) (h1 : t ≠ 31) (h2 : t ≠ 25) : w'.heap[k]? = some (.cells cs t fr) := by
  have hlt := lt_of_block hk
  rw [T.block k hlt (fun e => ?_) (fun e => ?_)]
  · exact hk
  · obtain ⟨sl, _, hh, _⟩ := a
    subst e
    rw [hh] at hk
    injection hk with hk
    injection hk with _ hk
    exact h1 hk.symm
  · obtain ⟨_, _, ds, hd⟩ := a.glt e.symm
    rw [hk] at hd
    injection hd with hd
    injection hd with _ hd
    exact h2 hd
/-- what is taken, whether any is, what is left -/
def takeF (fall : Bool) (p : Pair → Bool) (ps : List Pair) : Pair × Bool × List Pair := match PP.first fall p ps with
  | none => ((0, 0), false, ps)
  | some b => (ps.getD b default, true, ps.eraseIdx b)
def peekF (fall : Bool) (ps : List Pair) : Pair × Bool := match PP.first fall PP.all ps with
  | none => ((0, 0), false)
  | some b => (ps.getD b default, true)
theorem tookH {w w' : World} {h c n : Nat} {fall : Bool} {ps : List Pair} {r : Option Nat} {p : Pair → Bool} {e : Ending} (hA : HeapP w h c fall ps n r) (hT : TookP w h c n fall ps r (PP.first fall p ps) e w') :
    e = .returned (.tuple #[pairV (takeF fall p ps).1, .bool (takeF fall p ps).2.1]) ∧ HeapP w' h c fall (takeF fall p ps).2.2 n r ∧ Tch w w' h r r := by
  unfold takeF
  cases ho : PP.first fall p ps with
  | none =>
    rw [ho] at hT
    obtain ⟨rfl, hB⟩ := hT
    exact ⟨rfl, hA.below hB, Tch.of_below hB _ _⟩
  | some b => rw [ho] at hT; exact hT
theorem tookRow {w w' : World} {h : Nat} {fall : Bool} {ps : List Pair} {g : Option Nat} {p : Pair → Bool} {e : Ending} (hR : RowR w h fall ps g) (hT : TookR w h fall ps g (PP.first fall p ps) e w') :
    e = .returned (.tuple #[pairV (takeF fall p ps).1, .bool (takeF fall p ps).2.1]) ∧ ∃ g', RowR w' h fall (takeF fall p ps).2.2 g' ∧ Tch w w' h g g' := by
  unfold takeF
  cases ho : PP.first fall p ps with
  | none =>
    rw [ho] at hT
    obtain ⟨rfl, hB⟩ := hT
    exact ⟨rfl, g, hR.below hB, Tch.of_below hB _ _⟩
  | some b =>
    rw [ho] at hT
    obtain ⟨he, g', h1, h2, _⟩ := hT
    exact ⟨he, g', h1, h2⟩
def dirOf (n : Nat) : Bool := decide (n = 1)
/-- two heaps at H, two rows at Q, N lists told in the row tv -/
structure TwoH (w0 w : World) (B : Nat) (H c Q : Nat → Nat) (pH pR : Nat → List Pair) (m : Nat → Nat) (rr gg : Nat → Option Nat) (N : Nat) (TF : Nat → Value) (TC : Nat → List Pair) (tv : Value) : Prop where
  hp : ∀ n, n < 2 → HeapP w (H n) (c n) (dirOf n) (pH n) (m n) (rr n)
  rp : ∀ n, n < 2 → RowR w (Q n) (dirOf n) (pR n) (gg n)
  hh : ∀ n n', n < 2 → n' < 2 → H n = H n' → n = n'
  qq : ∀ n n', n < 2 → n' < 2 → Q n = Q n' → n = n'
  dr : ∀ n n' q, n < 2 → n' < 2 → rr n = some q → rr n' = some q → n = n'
  dg : ∀ n n' q, n < 2 → n' < 2 → gg n = some q → gg n' = some q → n = n'
  tl : ∀ j, j < N → RowT w B (TF j) (TC j)
  tt : ∀ j j' q, j < N → j' < N → (TF j).ownBlock = some q → (TF j').ownBlock = some q → j = j'
  tg : ∀ j n q, j < N → n < 2 → (TF j).ownBlock = some q → gg n = some q → False
  tr : w.ownsRow B 29 1 tv N ((List.range N).map TF)
  lo : ∀ n, n < 2 → B ≤ H n ∧ B ≤ Q n ∧ (∀ q, rr n = some q → B ≤ q) ∧ (∀ q, gg n = some q → B ≤ q)
  bl : Below B w0 w
  sz : B ≤ w.heap.size
theorem ownL_keep {w w' : World} {B N : Nat} {tv : Value} {xs : List Value} (h : w.ownsRow B 29 1 tv N xs) (hk : ∀ (q : Nat) (cs : Array Value), w.heap[q]? = some (.cells cs 29 (0, 0)) → w'.heap[q]? = w.heap[q]?) : w'.ownsRow B 29 1 tv N xs :=
  World.ownsRow_congr h fun q hq => by
    obtain ⟨cs, hc⟩ := own_type h hq
    exact hk q cs hc
section
variable {w0 w w' : World} {B : Nat} {H c Q : Nat → Nat} {pH pR : Nat → List Pair} {m : Nat → Nat} {rr gg : Nat → Option Nat} {N : Nat} {TF : Nat → Value} {TC : Nat → List Pair} {tv : Value}
theorem TwoH.below (a : TwoH w0 w B H c Q pH pR m rr gg N TF TC tv) (hb : Below w.heap.size w w') : TwoH w0 w' B H c Q pH pR m rr gg N TF TC tv :=
  ⟨fun n hn => (a.hp n hn).below hb, fun n hn => (a.rp n hn).below hb, a.hh, a.qq, a.dr, a.dg, fun j hj => (a.tl j hj).below hb, a.tt, a.tg, ownL_keep a.tr fun q cs hc => hb.block q (lt_of_block hc), a.lo, a.bl.trans (hb.mono a.sz), Nat.le_trans a.sz hb.size⟩
theorem TwoH.alloc (a : TwoH w0 w B H c Q pH pR m rr gg N TF TC tv) (o : Obj) : TwoH w0 (w.alloc o) B H c Q pH pR m rr gg N TF TC tv := a.below ((Below.refl _ _).alloc (Nat.le_refl _) o)
/-- a heap has done something -/
theorem TwoH.heap (a : TwoH w0 w B H c Q pH pR m rr gg N TF TC tv) {n m' : Nat} {ps' : List Pair} {r' : Option Nat} (hn : n < 2) (hA : HeapP w' (H n) (c n) (dirOf n) ps' m' r') (T : Tch w w' (H n) (rr n) r') :
    TwoH w0 w' B H c Q (upd pH n ps') pR (upd m n m') (upd rr n r') gg N TF TC tv := by
  have hr' : ∀ q, r' = some q → rr n = some q ∨ w.heap.size ≤ q := fun q hq => by
    rcases T.row with h1 | h1
    · exact .inl (h1 ▸ hq)
    · exact .inr (h1 q hq)
  have hrl : ∀ j q, j < 2 → rr j = some q → q < w.heap.size := fun j q hj h => by
    obtain ⟨es, L, ⟨sl, hsl, hL, _⟩, _⟩ := a.hp j hj
    obtain ⟨cs, hc⟩ := own_type hL.2.2 (hsl.trans h)
    exact lt_of_block hc
  refine ⟨fun j hj => ?_, fun j hj => (a.rp j hj).beside (a.hp n hn) T, a.hh, a.qq, fun j j' q hj hj' h h' => ?_, a.dg, fun j hj => (a.tl j hj).beside (a.hp n hn) T, a.tt, a.tg, ownL_keep a.tr fun q cs hc => ((a.hp n hn).other T hc (by decide) (by decide)).trans hc.symm, fun j hj => ⟨(a.lo j hj).1, (a.lo j hj).2.1, fun q hq => ?_, (a.lo j hj).2.2.2⟩, a.bl.trans (T.below a.sz (a.lo n hn).1 (a.lo n hn).2.2.1), Nat.le_trans a.sz T.size⟩
  · by_cases e : j = n
    · subst e; rw [upd_same, upd_same, upd_same]; exact hA
    · rw [upd_other _ _ e, upd_other _ _ e, upd_other _ _ e]
      exact (a.hp j hj).apart (a.hp n hn) T (fun h => e (a.hh j n hj hn h)) (fun q h1 h2 => e (a.dr j n q hj hn h2 h1))
  · by_cases e : j = n <;> by_cases e' : j' = n
    · omega
    · subst e
      rw [upd_same] at h
      rw [upd_other _ _ e'] at h'
      rcases hr' q h with h1 | h1
      · exact a.dr j j' q hj hj' h1 h'
      · have := hrl j' q hj' h'; omega
    · subst e'
      rw [upd_same] at h'
      rw [upd_other _ _ e] at h
      rcases hr' q h' with h1 | h1
      · exact a.dr j j' q hj hj' h h1
      · have := hrl j q hj h; omega
    · rw [upd_other _ _ e] at h
      rw [upd_other _ _ e'] at h'
      exact a.dr j j' q hj hj' h h'
  · by_cases e : j = n
    · subst e
      rw [upd_same] at hq
      rcases hr' q hq with h1 | h1
      · exact (a.lo j hj).2.2.1 q h1
      · have := a.sz; omega
    · rw [upd_other _ _ e] at hq
      exact (a.lo j hj).2.2.1 q hq
/-- a row has done something -/
theorem TwoH.row (a : TwoH w0 w B H c Q pH pR m rr gg N TF TC tv) {n : Nat} {ps' : List Pair} {g' : Option Nat} (hn : n < 2) (hR : RowR w' (Q n) (dirOf n) ps' g') (T : Tch w w' (Q n) (gg n) g') :
    TwoH w0 w' B H c Q pH (upd pR n ps') m rr (upd gg n g') N TF TC tv := by
  have hg' : ∀ q, g' = some q → gg n = some q ∨ w.heap.size ≤ q := fun q hq => by
    rcases T.row with h1 | h1
    · exact .inl (h1 ▸ hq)
    · exact .inr (h1 q hq)
  have hgl : ∀ j q, j < 2 → gg j = some q → q < w.heap.size := fun j q hj h => ((a.rp j hj).glt h).1
  have htl : ∀ j q, j < N → (TF j).ownBlock = some q → q < w.heap.size := fun j q hj h => by
    obtain ⟨_, cs, hc⟩ := (a.tl j hj).type h
    exact lt_of_block hc
  refine ⟨fun j hj => (a.hp j hj).keptT fun k cs t hk h1 h2 _ => ((a.rp n hn).other T hk h2 h1).trans hk.symm, fun j hj => ?_, a.hh, a.qq, a.dr, fun j j' q hj hj' h h' => ?_, fun j hj => ?_, a.tt, fun j j' q hj hj' h h' => ?_, ownL_keep a.tr fun q cs hc => ((a.rp n hn).other T hc (by decide) (by decide)).trans hc.symm, fun j hj => ⟨(a.lo j hj).1, (a.lo j hj).2.1, (a.lo j hj).2.2.1, fun q hq => ?_⟩, a.bl.trans (T.below a.sz (a.lo n hn).2.1 (a.lo n hn).2.2.2), Nat.le_trans a.sz T.size⟩
  · by_cases e : j = n
    · subst e; rw [upd_same, upd_same]; exact hR
    · rw [upd_other _ _ e, upd_other _ _ e]
      obtain ⟨sl, h1, h2, h3⟩ := a.rp j hj
      refine ⟨sl, h1, (T.block (Q j) (lt_of_block h2) (fun h => e (a.qq j n hj hn h)) (fun h => ?_)).trans h2, h3.congr fun k cs hk ho => T.block k (lt_of_block hk) (fun h => ?_) (fun h => e (a.dg j n k hj hn (h1.symm.trans ho) h.symm))⟩
      · obtain ⟨_, _, ds, hd⟩ := (a.rp n hn).glt h.symm
        rw [h2] at hd
        injection hd with hd
        injection hd with _ hd
        exact absurd hd (by decide)
      · obtain ⟨sl', _, h2', _⟩ := a.rp n hn
        rw [← h, hk] at h2'
        injection h2' with h2'
        injection h2' with _ h2'
        exact absurd h2' (by decide)
  · by_cases e : j = n <;> by_cases e' : j' = n
    · omega
    · subst e
      rw [upd_same] at h
      rw [upd_other _ _ e'] at h'
      rcases hg' q h with h1 | h1
      · exact a.dg j j' q hj hj' h1 h'
      · have := hgl j' q hj' h'; omega
    · subst e'
      rw [upd_same] at h'
      rw [upd_other _ _ e] at h
      rcases hg' q h' with h1 | h1
      · exact a.dg j j' q hj hj' h h1
      · have := hgl j q hj h; omega
    · rw [upd_other _ _ e] at h
      rw [upd_other _ _ e'] at h'
      exact a.dg j j' q hj hj' h h'
  · exact (a.tl j hj).congr fun k cs hk ho => T.block k (lt_of_block hk) (fun h => RowT.ne_row (a.rp n hn) (a.tl j hj) (h ▸ ho)) (fun h => a.tg j n k hj hn ho h.symm)
  · by_cases e : j' = n
    · subst e
      rw [upd_same] at h'
      rcases hg' q h' with h1 | h1
      · exact a.tg j j' q hj hj' h h1
      · have := htl j q hj h; omega
    · rw [upd_other _ _ e] at h'
      exact a.tg j j' q hj hj' h h'
  · by_cases e : j = n
    · subst e
      rw [upd_same] at hq
      rcases hg' q hq with h1 | h1
      · exact (a.lo j hj).2.2.2 q h1
      · have := a.sz; omega
    · rw [upd_other _ _ e] at hq
      exact (a.lo j hj).2.2.2 q hq
/-- a row of pairs that is nobody's has turned -/
theorem TwoH.store (a : TwoH w0 w B H c Q pH pR m rr gg N TF TC tv) {b : Nat} {cs0 : Array Value} (hb0 : w.heap[b]? = some (.cells cs0 25 (0, 0))) (hB : B ≤ b) (hg : w.grownBy w' (some b)) (h1 : ∀ n, n < 2 → gg n = some b → False) (h2 : ∀ j, j < N → (TF j).ownBlock = some b → False) :
    TwoH w0 w' B H c Q pH pR m rr gg N TF TC tv := by
  have key : ∀ (k : Nat) (cs : Array Value) (t : TypeId), w.heap[k]? = some (.cells cs t (0, 0)) → t ≠ 25 → w'.heap[k]? = w.heap[k]? := fun k cs t hk ht => hg.block k (lt_of_block hk) fun e => by
    injection e with e
    subst e
    rw [hk] at hb0
    injection hb0 with hb0
    injection hb0 with _ hb0
    exact ht hb0
  refine ⟨fun j hj => (a.hp j hj).keptT fun k cs t hk h1 _ _ => key k cs t hk h1, fun j hj => ?_, a.hh, a.qq, a.dr, a.dg, fun j hj => (a.tl j hj).congr fun k cs hk ho => hg.block k (lt_of_block hk) (fun e => h2 j hj (ho.trans e)), a.tt, a.tg, ownL_keep a.tr fun q cs hc => key q cs _ hc (by decide), a.lo, a.bl.trans (grown_below hg a.sz (fun k hk => by injection hk with hk; omega)), Nat.le_trans a.sz hg.size⟩
  obtain ⟨sl, e1, e2, e3⟩ := a.rp j hj
  exact ⟨sl, e1, (key _ _ _ e2 (by decide)).trans e2, e3.congr fun k cs hk ho => hg.block k (lt_of_block hk) (fun e => h1 j hj ((e1.symm.trans ho).trans e))⟩
/-- one more list is told -/
theorem TwoH.tell (a : TwoH w0 w B H c Q pH pR m rr gg N TF TC tv) {v tv' : Value} {ps : List Pair} (hv : RowT w B v ps) (h1 : ∀ n q, n < 2 → v.ownBlock = some q → gg n = some q → False) (h2 : ∀ j q, j < N → v.ownBlock = some q → (TF j).ownBlock = some q → False) (hg : w.grownBy w' tv.ownBlock) (hr : w'.ownsRow B 29 1 tv' (N + 1) ((List.range N).map TF ++ [v])) :
    TwoH w0 w' B H c Q pH pR m rr gg (N + 1) (upd TF N v) (upd TC N ps) tv' := by
  have key : ∀ (k : Nat) (cs : Array Value) (t : TypeId), w.heap[k]? = some (.cells cs t (0, 0)) → t ≠ 29 → w'.heap[k]? = w.heap[k]? := fun k cs t hk ht => hg.block k (lt_of_block hk) fun e => by
    obtain ⟨ds, hd⟩ := own_type a.tr e.symm
    rw [hk] at hd
    injection hd with hd
    injection hd with _ hd
    exact ht hd
  refine ⟨fun j hj => ?_, fun j hj => ?_, a.hh, a.qq, a.dr, a.dg, fun j hj => ?_, fun j j' q hj hj' h h' => ?_, fun j n q hj hn h h' => ?_, ?_, a.lo, a.bl.trans (grown_below hg a.sz (fun k hk => (a.tr.lt k hk).1)), Nat.le_trans a.sz hg.size⟩
  · exact (a.hp j hj).keptT fun k cs t hk _ _ h3 => key k cs t hk h3
  · obtain ⟨sl, e1, e2, e3⟩ := a.rp j hj
    exact ⟨sl, e1, (key _ _ _ e2 (by decide)).trans e2, e3.congr fun k cs hk ho => key k cs _ hk (by decide)⟩
  · by_cases e : j = N
    · subst e; rw [upd_same, upd_same]; exact hv.congr fun k cs hk ho => key k cs _ hk (by decide)
    · rw [upd_other _ _ e, upd_other _ _ e]
      exact (a.tl j (by omega)).congr fun k cs hk ho => key k cs _ hk (by decide)
  · by_cases e : j = N <;> by_cases e' : j' = N
    · omega
    · subst e; rw [upd_same] at h; rw [upd_other _ _ e'] at h'; exact (h2 j' q (by omega) h h').elim
    · subst e'; rw [upd_same] at h'; rw [upd_other _ _ e] at h; exact (h2 j q (by omega) h' h).elim
    · rw [upd_other _ _ e] at h; rw [upd_other _ _ e'] at h'; exact a.tt j j' q (by omega) (by omega) h h'
  · by_cases e : j = N
    · subst e; rw [upd_same] at h; exact h1 n q hn h h'
    · rw [upd_other _ _ e] at h; exact a.tg j n q (by omega) hn h h'
  · rw [List.range_succ, List.map_append, List.map_congr_left (g := TF) (fun j hj => upd_other _ _ (by have := List.mem_range.1 hj; omega))]
    simp only [List.map_cons, List.map_nil, upd_same]
    exact hr
/-- the lists told anew -/
theorem TwoH.retell (a : TwoH w0 w B H c Q pH pR m rr gg N TF TC tv) {tv' : Value} {N' : Nat} {TF' : Nat → Value} {TC' : Nat → List Pair} (htl : ∀ j, j < N' → RowT w B (TF' j) (TC' j))
    (htt : ∀ j j' q, j < N' → j' < N' → (TF' j).ownBlock = some q → (TF' j').ownBlock = some q → j = j') (htg : ∀ j n q, j < N' → n < 2 → (TF' j).ownBlock = some q → gg n = some q → False)
    (hg : w.grownBy w' tv.ownBlock) (hr : w'.ownsRow B 29 1 tv' N' ((List.range N').map TF')) : TwoH w0 w' B H c Q pH pR m rr gg N' TF' TC' tv' := by
  have key : ∀ (k : Nat) (cs : Array Value) (t : TypeId), w.heap[k]? = some (.cells cs t (0, 0)) → t ≠ 29 → w'.heap[k]? = w.heap[k]? := fun k cs t hk ht => hg.block k (lt_of_block hk) fun e => by
    obtain ⟨ds, hd⟩ := own_type a.tr e.symm
    rw [hk] at hd
    injection hd with hd
    injection hd with _ hd
    exact ht hd
  refine ⟨fun j hj => (a.hp j hj).keptT fun k cs t hk _ _ h3 => key k cs t hk h3, fun j hj => ?_, a.hh, a.qq, a.dr, a.dg, fun j hj => (htl j hj).congr fun k cs hk ho => key k cs _ hk (by decide), htt, htg, hr, a.lo, a.bl.trans (grown_below hg a.sz (fun k hk => (a.tr.lt k hk).1)), Nat.le_trans a.sz hg.size⟩
  obtain ⟨sl, e1, e2, e3⟩ := a.rp j hj
  exact ⟨sl, e1, (key _ _ _ e2 (by decide)).trans e2, e3.congr fun k cs hk ho => key k cs _ hk (by decide)⟩
/-- two more lists are told -/
theorem TwoH.tell2 (a : TwoH w0 w B H c Q pH pR m rr gg N TF TC tv) {v v' tv' : Value} {ps ps' : List Pair} {s : Nat} (hv : RowT w B v ps) (hv' : RowT w B v' ps') (hs : ∀ q, v.ownBlock = some q → s ≤ q) (hs' : ∀ q, v'.ownBlock = some q → s ≤ q) (hvv : ∀ q, v.ownBlock = some q → v'.ownBlock = some q → False)
    (hgs : ∀ n q, n < 2 → gg n = some q → q < s) (hts : ∀ j q, j < N → (TF j).ownBlock = some q → q < s) (hg : w.grownBy w' tv.ownBlock) (hr : w'.ownsRow B 29 1 tv' (N + 2) ((List.range N).map TF ++ [v, v'])) :
    TwoH w0 w' B H c Q pH pR m rr gg (N + 2) (upd (upd TF N v) (N + 1) v') (upd (upd TC N ps) (N + 1) ps') tv' := by
  have f0 : ∀ j, j < N → upd (upd TF N v) (N + 1) v' j = TF j := fun j hj => by rw [upd_other _ _ (by omega), upd_other _ _ (by omega)]
  have f1 : upd (upd TF N v) (N + 1) v' N = v := by rw [upd_other _ _ (by omega), upd_same]
  have f2 : upd (upd TF N v) (N + 1) v' (N + 1) = v' := upd_same _ _ _
  have g0 : ∀ j, j < N → upd (upd TC N ps) (N + 1) ps' j = TC j := fun j hj => by rw [upd_other _ _ (by omega), upd_other _ _ (by omega)]
  have g1 : upd (upd TC N ps) (N + 1) ps' N = ps := by rw [upd_other _ _ (by omega), upd_same]
  have g2 : upd (upd TC N ps) (N + 1) ps' (N + 1) = ps' := upd_same _ _ _
  have h3 : ∀ j, j < N + 2 → j < N ∨ j = N ∨ j = N + 1 := fun j hj => by omega
  refine a.retell (fun j hj => ?_) (fun j j' q hj hj' h h' => ?_) (fun j n q hj hn h h' => ?_) hg ?_
  · rcases h3 j hj with e | rfl | rfl
    · rw [f0 j e, g0 j e]; exact a.tl j e
    · rw [f1, g1]; exact hv
    · rw [f2, g2]; exact hv'
  · rcases h3 j hj with e | rfl | rfl <;> rcases h3 j' hj' with e' | rfl | rfl
    · rw [f0 j e] at h; rw [f0 j' e'] at h'; exact a.tt j j' q e e' h h'
    · rw [f0 j e] at h; rw [f1] at h'; have := hts j q e h; have := hs q h'; omega
    · rw [f0 j e] at h; rw [f2] at h'; have := hts j q e h; have := hs' q h'; omega
    · rw [f1] at h; rw [f0 j' e'] at h'; have := hts j' q e' h'; have := hs q h; omega
    · rfl
    · rw [f1] at h; rw [f2] at h'; exact (hvv q h h').elim
    · rw [f2] at h; rw [f0 j' e'] at h'; have := hts j' q e' h'; have := hs' q h; omega
    · rw [f2] at h; rw [f1] at h'; exact (hvv q h' h).elim
    · rfl
  · have hq := hgs n q hn h'
    rcases h3 j hj with e | rfl | rfl
    · rw [f0 j e] at h; exact a.tg j n q e hn h h'
    · rw [f1] at h; have := hs q h; omega
    · rw [f2] at h; have := hs' q h; omega
  · rw [List.range_succ, List.range_succ, List.map_append, List.map_append, List.map_congr_left (g := TF) (fun j hj => f0 j (List.mem_range.1 hj))]
    simp only [List.map_cons, List.map_nil, f1, f2, List.append_assoc]
    exact hr
/-- what the lists told are to ApartTwos -/
theorem TwoH.fam (a : TwoH w0 w B H c Q pH pR m rr gg N TF TC tv) (hl : ∀ j, j < N → (TC j).length < 4611686018427387904) : Fam w N TF TF TC (fun j => (TC j).length) :=
  ⟨fun j hj => (a.tl j hj).low (Nat.zero_le _), fun j hj => Nat.le_refl _, fun j hj => (by rw [List.take_length]; exact (a.tl j hj).reads (hl j hj)), fun j q hj h => (by
    obtain ⟨_, cs, hc⟩ := (a.tl j hj).type h
    exact lt_of_block hc), fun j j' q hj hj' h h' => a.tt j j' q hj hj' (h.elim id id) (h'.elim id id)⟩
end
end Go.Proofs.Ytffioombjejchaa
