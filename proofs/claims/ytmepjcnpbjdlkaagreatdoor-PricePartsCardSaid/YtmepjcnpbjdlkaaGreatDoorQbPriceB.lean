/- texts of this claim, laid together: PriceB. -/
import Derived.Test.YtmepjcnpbjdlkaaGreatDoorQbShelf
import Derived.Test.YtmepjcnpbjdlkaaGreatDoorQbPriceA
/- price: the checks of each kind of securities; the document's flat, basis, term, Is: by contract. -/
namespace Go.Proofs.YtmepjcnpbjdlkaaGreatDoor
set_option linter.unusedVariables false
set_option linter.unusedSimpArgs false
open Go.RowKit
attribute [local irreducible] Go.wpStill

def flatB (s : SecV) : Bool := (s.face == 0) && (s.coupon == 0) && (s.per == 0) && (s.basis == 0) && (s.start == 0) && (s.finish == 0)
def eqN (s : SecV) : Int := if flatB s = true then 0 else 1
def billN (s : SecV) : Int := if s.face < 1 then 16 else if s.coupon ≠ 0 ∨ s.per ≠ 0 then 1 else termN s
def perB (n : Int) : Bool := (n == 1) || (n == 2) || (n == 4) || (n == 12)
def bondN (s : SecV) : Int := if s.face < 1 then 16 else if s.coupon < 0 ∨ 1000000 < s.coupon ∨ perB s.per = false then 1 else termN s

set_option maxRecDepth 100000 in
set_option maxHeartbeats 4000000 in
theorem equity_any (s : SecV) (w : World) : Calls Tryz.prog 212 #[.agg (secC s)] w (ErrR (eqN s) w) := by
  obtain ⟨c0, c1, c2, c3, c4, c5, c6, c7, c8, c9, c10, c11, kind, face, coupon, per, basis, start, finish, cur⟩ := s
  by_cases h0 : face = 0
  · have e0 : (face != 0) = false := by simp [h0]
    by_cases h1 : coupon = 0
    · have e1 : (coupon != 0) = false := by simp [h1]
      by_cases h2 : per = 0
      · have e2 : (per != 0) = false := by simp [h2]
        by_cases h3 : basis = 0
        · have e3 : (basis != 0) = false := by simp [h3]
          by_cases h4 : start = 0
          · have e4 : (start != 0) = false := by simp [h4]
            by_cases h5 : finish = 0
            · have e5 : (finish != 0) = false := by simp [h5]
              have hN : eqN ⟨c0, c1, c2, c3, c4, c5, c6, c7, c8, c9, c10, c11, kind, face, coupon, per, basis, start, finish, cur⟩ = 0 := by simp [eqN, flatB, h0, h1, h2, h3, h4, h5]
              rw [hN]
              clear hN
              go_enter Tryz.func212, Tryz.ntmps212
              go_wp2_with fail
              go_ret
              exact ⟨_, rfl, .nil, (Below.refl _ _).alloc (Nat.le_refl _) _⟩
            · have e5 : (finish != 0) = true := by simp [h5]
              have hN : eqN ⟨c0, c1, c2, c3, c4, c5, c6, c7, c8, c9, c10, c11, kind, face, coupon, per, basis, start, finish, cur⟩ = 1 := by simp [eqN, flatB, h0, h1, h2, h3, h4, h5]
              rw [hN]
              clear hN
              go_enter Tryz.func212, Tryz.ntmps212
              go_wp2_with fail
              go_ret
              exact ⟨_, rfl, errP_errno (by decide) (by decide), (Below.refl _ _).alloc (Nat.le_refl _) _⟩
          · have e4 : (start != 0) = true := by simp [h4]
            have hN : eqN ⟨c0, c1, c2, c3, c4, c5, c6, c7, c8, c9, c10, c11, kind, face, coupon, per, basis, start, finish, cur⟩ = 1 := by simp [eqN, flatB, h0, h1, h2, h3, h4]
            rw [hN]
            clear hN
            go_enter Tryz.func212, Tryz.ntmps212
            go_wp2_with fail
            go_ret
            exact ⟨_, rfl, errP_errno (by decide) (by decide), (Below.refl _ _).alloc (Nat.le_refl _) _⟩
        · have e3 : (basis != 0) = true := by simp [h3]
          have hN : eqN ⟨c0, c1, c2, c3, c4, c5, c6, c7, c8, c9, c10, c11, kind, face, coupon, per, basis, start, finish, cur⟩ = 1 := by simp [eqN, flatB, h0, h1, h2, h3]
          rw [hN]
          clear hN
          go_enter Tryz.func212, Tryz.ntmps212
          go_wp2_with fail
          go_ret
          exact ⟨_, rfl, errP_errno (by decide) (by decide), (Below.refl _ _).alloc (Nat.le_refl _) _⟩
      · have e2 : (per != 0) = true := by simp [h2]
        have hN : eqN ⟨c0, c1, c2, c3, c4, c5, c6, c7, c8, c9, c10, c11, kind, face, coupon, per, basis, start, finish, cur⟩ = 1 := by simp [eqN, flatB, h0, h1, h2]
        rw [hN]
        clear hN
        go_enter Tryz.func212, Tryz.ntmps212
        go_wp2_with fail
        go_ret
        exact ⟨_, rfl, errP_errno (by decide) (by decide), (Below.refl _ _).alloc (Nat.le_refl _) _⟩
    · have e1 : (coupon != 0) = true := by simp [h1]
      have hN : eqN ⟨c0, c1, c2, c3, c4, c5, c6, c7, c8, c9, c10, c11, kind, face, coupon, per, basis, start, finish, cur⟩ = 1 := by simp [eqN, flatB, h0, h1]
      rw [hN]
      clear hN
      go_enter Tryz.func212, Tryz.ntmps212
      go_wp2_with fail
      go_ret
      exact ⟨_, rfl, errP_errno (by decide) (by decide), (Below.refl _ _).alloc (Nat.le_refl _) _⟩
  · have e0 : (face != 0) = true := by simp [h0]
    have hN : eqN ⟨c0, c1, c2, c3, c4, c5, c6, c7, c8, c9, c10, c11, kind, face, coupon, per, basis, start, finish, cur⟩ = 1 := by simp [eqN, flatB, h0]
    rw [hN]
    clear hN
    go_enter Tryz.func212, Tryz.ntmps212
    go_wp2_with fail
    go_ret
    exact ⟨_, rfl, errP_errno (by decide) (by decide), (Below.refl _ _).alloc (Nat.le_refl _) _⟩
def FlatP (b : Bool) (w : World) (e : Ending) (w' : World) : Prop := e = .returned (.bool b) ∧ Below w.heap.size w w'
set_option maxRecDepth 100000 in
set_option maxHeartbeats 4000000 in
theorem flat_any (s : SecV) (w : World) : Calls Tryz.prog 86 #[.agg (secC s)] w (FlatP (flatB s) w) := by
  obtain ⟨c0, c1, c2, c3, c4, c5, c6, c7, c8, c9, c10, c11, kind, face, coupon, per, basis, start, finish, cur⟩ := s
  by_cases h0 : face = 0
  · have e0 : (face == 0) = true := by simp [h0]
    by_cases h1 : coupon = 0
    · have e1 : (coupon == 0) = true := by simp [h1]
      by_cases h2 : per = 0
      · have e2 : (per == 0) = true := by simp [h2]
        by_cases h3 : basis = 0
        · have e3 : (basis == 0) = true := by simp [h3]
          by_cases h4 : start = 0
          · have e4 : (start == 0) = true := by simp [h4]
            by_cases h5 : finish = 0
            · have e5 : (finish == 0) = true := by simp [h5]
              have hN : flatB ⟨c0, c1, c2, c3, c4, c5, c6, c7, c8, c9, c10, c11, kind, face, coupon, per, basis, start, finish, cur⟩ = true := by simp [flatB, h0, h1, h2, h3, h4, h5]
              rw [hN]
              clear hN
              go_enter Tryz.func86, Tryz.ntmps86
              go_wp2_with fail
              go_ret
              exact ⟨rfl, (Below.refl _ _).alloc (Nat.le_refl _) _⟩
            · have e5 : (finish == 0) = false := by simp [h5]
              have hN : flatB ⟨c0, c1, c2, c3, c4, c5, c6, c7, c8, c9, c10, c11, kind, face, coupon, per, basis, start, finish, cur⟩ = false := by simp [flatB, h0, h1, h2, h3, h4, h5]
              rw [hN]
              clear hN
              go_enter Tryz.func86, Tryz.ntmps86
              go_wp2_with fail
              go_ret
              exact ⟨rfl, (Below.refl _ _).alloc (Nat.le_refl _) _⟩
          · have e4 : (start == 0) = false := by simp [h4]
            have hN : flatB ⟨c0, c1, c2, c3, c4, c5, c6, c7, c8, c9, c10, c11, kind, face, coupon, per, basis, start, finish, cur⟩ = false := by simp [flatB, h0, h1, h2, h3, h4]
            rw [hN]
            clear hN
            go_enter Tryz.func86, Tryz.ntmps86
            go_wp2_with fail
            go_ret
            exact ⟨rfl, (Below.refl _ _).alloc (Nat.le_refl _) _⟩
        · have e3 : (basis == 0) = false := by simp [h3]
          have hN : flatB ⟨c0, c1, c2, c3, c4, c5, c6, c7, c8, c9, c10, c11, kind, face, coupon, per, basis, start, finish, cur⟩ = false := by simp [flatB, h0, h1, h2, h3]
          rw [hN]
          clear hN
          go_enter Tryz.func86, Tryz.ntmps86
          go_wp2_with fail
          go_ret
          exact ⟨rfl, (Below.refl _ _).alloc (Nat.le_refl _) _⟩
      · have e2 : (per == 0) = false := by simp [h2]
        have hN : flatB ⟨c0, c1, c2, c3, c4, c5, c6, c7, c8, c9, c10, c11, kind, face, coupon, per, basis, start, finish, cur⟩ = false := by simp [flatB, h0, h1, h2]
        rw [hN]
        clear hN
        go_enter Tryz.func86, Tryz.ntmps86
        go_wp2_with fail
        go_ret
        exact ⟨rfl, (Below.refl _ _).alloc (Nat.le_refl _) _⟩
    · have e1 : (coupon == 0) = false := by simp [h1]
      have hN : flatB ⟨c0, c1, c2, c3, c4, c5, c6, c7, c8, c9, c10, c11, kind, face, coupon, per, basis, start, finish, cur⟩ = false := by simp [flatB, h0, h1]
      rw [hN]
      clear hN
      go_enter Tryz.func86, Tryz.ntmps86
      go_wp2_with fail
      go_ret
      exact ⟨rfl, (Below.refl _ _).alloc (Nat.le_refl _) _⟩
  · have e0 : (face == 0) = false := by simp [h0]
    have hN : flatB ⟨c0, c1, c2, c3, c4, c5, c6, c7, c8, c9, c10, c11, kind, face, coupon, per, basis, start, finish, cur⟩ = false := by simp [flatB, h0]
    rw [hN]
    clear hN
    go_enter Tryz.func86, Tryz.ntmps86
    go_wp2_with fail
    go_ret
    exact ⟨rfl, (Below.refl _ _).alloc (Nat.le_refl _) _⟩

theorem is03_any (n : Int) (w : World) : Calls Tryz.prog 89 #[.int .i64 n] w (RetB0 (dayB n) w) := by
  unfold dayB
  cases h1 : decide (1 ≤ n) <;> cases h2 : decide (n ≤ 3652059)
  all_goals
    go_enter Tryz.func89, Tryz.ntmps89
    go_wp2_with fail
    go_ret
    exact ⟨rfl, rfl⟩
theorem basis_any (n : Int) (w : World) : Calls Tryz.prog 87 #[.int .i64 n] w (RetB0 (basisB n) w) := by
  unfold basisB
  cases h1 : decide (0 ≤ n) <;> cases h2 : decide (n ≤ 3)
  all_goals
    go_enter Tryz.func87, Tryz.ntmps87
    go_wp2_with fail
    go_ret
    exact ⟨rfl, rfl⟩
def termB (s : SecV) : Bool := dayB s.start && (dayB s.finish && decide (s.start < s.finish))
set_option maxRecDepth 100000 in
set_option maxHeartbeats 2000000 in
theorem termRef_any (s : SecV) (w : World) : Calls Tryz.prog 88 #[.agg (secC s)] w (FlatP (termB s) w) := by
  obtain ⟨c0, c1, c2, c3, c4, c5, c6, c7, c8, c9, c10, c11, kind, face, coupon, per, basis, start, finish, cur⟩ := s
  unfold termB
  simp only
  have h1 := fun w => is03_any start w
  have h2 := fun w => is03_any finish w
  cases e1 : dayB start
  · rw [e1] at h1
    have H1 := Lib.hid h1
    clear h1 h2 e1
    go_enter Tryz.func88, Tryz.ntmps88
    go_wp2_with fail
    refine (H1.out _).mono ?_
    rintro e w1 ⟨rfl, rfl⟩
    go_wp2_with fail
    go_ret
    exact ⟨rfl, (Below.refl _ _).alloc (Nat.le_refl _) _⟩
  · cases e2 : dayB finish
    · rw [e1] at h1
      rw [e2] at h2
      have H1 := Lib.hid h1
      have H2 := Lib.hid h2
      clear h1 h2 e1 e2
      go_enter Tryz.func88, Tryz.ntmps88
      go_wp2_with fail
      refine (H1.out _).mono ?_
      rintro e w1 ⟨rfl, rfl⟩
      go_wp2_with fail
      refine (H2.out _).mono ?_
      rintro e w1 ⟨rfl, rfl⟩
      go_wp2_with fail
      go_ret
      exact ⟨rfl, (Below.refl _ _).alloc (Nat.le_refl _) _⟩
    · rw [e1] at h1
      rw [e2] at h2
      have H1 := Lib.hid h1
      have H2 := Lib.hid h2
      clear h1 h2 e1 e2
      cases e3 : decide (start < finish)
      all_goals
        go_enter Tryz.func88, Tryz.ntmps88
        go_wp2_with fail
        refine (H1.out _).mono ?_
        rintro e w1 ⟨rfl, rfl⟩
        go_wp2_with fail
        refine (H2.out _).mono ?_
        rintro e w1 ⟨rfl, rfl⟩
        go_wp2_with fail
        go_ret
        exact ⟨rfl, (Below.refl _ _).alloc (Nat.le_refl _) _⟩
set_option maxRecDepth 100000 in
set_option maxHeartbeats 2000000 in
theorem bill_any (s : SecV) (w : World) : Calls Tryz.prog 217 #[.agg (secC s)] w (ErrR (billN s) w) := by
  have hT := fun w => term_any s w
  generalize hN : termN s = N at hT
  obtain ⟨c0, c1, c2, c3, c4, c5, c6, c7, c8, c9, c10, c11, kind, face, coupon, per, basis, start, finish, cur⟩ := s
  have HT := Lib.hid hT
  have HN := Lib.hid hN
  clear hT hN
  by_cases hf : face < 1
  · have hb : billN ⟨c0, c1, c2, c3, c4, c5, c6, c7, c8, c9, c10, c11, kind, face, coupon, per, basis, start, finish, cur⟩ = 16 := by simp [billN, hf]
    rw [hb]
    have e0 : decide (face < 1) = true := decide_eq_true hf
    clear hb hf
    go_enter Tryz.func217, Tryz.ntmps217
    go_wp2_with fail
    go_ret
    exact ⟨_, rfl, errP_errno (by decide) (by decide), (Below.refl _ _).alloc (Nat.le_refl _) _⟩
  · have e0 : decide (face < 1) = false := decide_eq_false hf
    by_cases hc : coupon = 0
    · have e1 : (coupon != 0) = false := by simp [hc]
      by_cases hp : per = 0
      · have hb : billN ⟨c0, c1, c2, c3, c4, c5, c6, c7, c8, c9, c10, c11, kind, face, coupon, per, basis, start, finish, cur⟩ = N := by simp [billN, hf, hc, hp]; exact HN.out
        rw [hb]
        have e2 : (per != 0) = false := by simp [hp]
        clear hb hf hp hc
        have HG := Lib.hid (heap_alloc_new w (.cells (secC ⟨c0, c1, c2, c3, c4, c5, c6, c7, c8, c9, c10, c11, kind, face, coupon, per, basis, start, finish, cur⟩) 204))
        go_enter Tryz.func217, Tryz.ntmps217
        go_wp2_with (refine wpList_val (.agg (secC ⟨c0, c1, c2, c3, c4, c5, c6, c7, c8, c9, c10, c11, kind, face, coupon, per, basis, start, finish, cur⟩)) (by kernel_rfl) (exec_load_row HG.out rfl rfl Tryz.underlying25 rfl (by kernel_rfl)) ?_)
        refine (HT.out _).mono ?_
        rintro e w1 ⟨v, rfl, hE, hB⟩
        go_wp2_with fail
        go_ret
        exact ⟨_, rfl, hE, ((Below.refl _ _).alloc (Nat.le_refl _) _).trans (hB.mono (by simp))⟩
      · have hb : billN ⟨c0, c1, c2, c3, c4, c5, c6, c7, c8, c9, c10, c11, kind, face, coupon, per, basis, start, finish, cur⟩ = 1 := by simp [billN, hf, hc, hp]
        rw [hb]
        have e2 : (per != 0) = true := by simp [hp]
        clear hb hf hp hc
        go_enter Tryz.func217, Tryz.ntmps217
        go_wp2_with fail
        go_ret
        exact ⟨_, rfl, errP_errno (by decide) (by decide), (Below.refl _ _).alloc (Nat.le_refl _) _⟩
    · have hb : billN ⟨c0, c1, c2, c3, c4, c5, c6, c7, c8, c9, c10, c11, kind, face, coupon, per, basis, start, finish, cur⟩ = 1 := by simp [billN, hf, hc]
      rw [hb]
      have e1 : (coupon != 0) = true := by simp [hc]
      clear hb hf hc
      go_enter Tryz.func217, Tryz.ntmps217
      go_wp2_with fail
      go_ret
      exact ⟨_, rfl, errP_errno (by decide) (by decide), (Below.refl _ _).alloc (Nat.le_refl _) _⟩
theorem perB_contains (n : Int) : ([1, 2, 4, 12].take 4 : List Int).contains n = perB n := by
  by_cases h1 : n = 1
  · subst h1; rfl
  · by_cases h2 : n = 2
    · subst h2; rfl
    · by_cases h4 : n = 4
      · subst h4; rfl
      · by_cases h12 : n = 12
        · subst h12; rfl
        · simp [perB, h1, h2, h4, h12]
theorem contains_per (n : Int) (b : Nat) (w : World) (h : w.heap[b]? = some (.cells #[.int .i64 1, .int .i64 2, .int .i64 4, .int .i64 12] 3 (0, 0))) : Calls Tryz.prog 223 #[.slice (some ⟨b, 0, none⟩) 4 4, .int .i64 n] w (RetB0 (perB n) w) := by
  refine (Tryz.slices_Contains_int b 0 4 4 [1, 2, 4, 12] n w (by decide) (by decide) (fun j hj => ?_)).mono ?_
  · rw [cell_of_row _ _ _ _ _ _ h, Nat.zero_add]
    rcases j with _ | _ | _ | _ | j
    · rfl
    · rfl
    · rfl
    · rfl
    · simp at hj; omega
  · rintro e w' ⟨rfl, rfl⟩
    exact ⟨by rw [perB_contains], rfl⟩
set_option maxRecDepth 100000 in
set_option maxHeartbeats 2000000 in
theorem bond_any (s : SecV) (w : World) : Calls Tryz.prog 222 #[.agg (secC s)] w (ErrR (bondN s) w) := by
  have hT := fun w => term_any s w
  generalize hN : termN s = N at hT
  obtain ⟨c0, c1, c2, c3, c4, c5, c6, c7, c8, c9, c10, c11, kind, face, coupon, per, basis, start, finish, cur⟩ := s
  have HT := Lib.hid hT
  have HN := Lib.hid hN
  clear hT hN
  by_cases hf : face < 1
  · have hb : bondN ⟨c0, c1, c2, c3, c4, c5, c6, c7, c8, c9, c10, c11, kind, face, coupon, per, basis, start, finish, cur⟩ = 16 := by simp [bondN, hf]
    rw [hb]
    have e0 : decide (face < 1) = true := decide_eq_true hf
    clear hb hf
    go_enter Tryz.func222, Tryz.ntmps222
    go_wp2_with fail
    go_ret
    exact ⟨_, rfl, errP_errno (by decide) (by decide), (Below.refl _ _).alloc (Nat.le_refl _) _⟩
  · have e0 : decide (face < 1) = false := decide_eq_false hf
    by_cases hc : coupon < 0
    · have hb : bondN ⟨c0, c1, c2, c3, c4, c5, c6, c7, c8, c9, c10, c11, kind, face, coupon, per, basis, start, finish, cur⟩ = 1 := by simp [bondN, hf, hc]
      rw [hb]
      have e1 : decide (coupon < 0) = true := decide_eq_true hc
      clear hb hf hc
      go_enter Tryz.func222, Tryz.ntmps222
      go_wp2_with fail
      go_ret
      exact ⟨_, rfl, errP_errno (by decide) (by decide), (Below.refl _ _).alloc (Nat.le_refl _) _⟩
    · have e1 : decide (coupon < 0) = false := decide_eq_false hc
      by_cases hm : 1000000 < coupon
      · have hb : bondN ⟨c0, c1, c2, c3, c4, c5, c6, c7, c8, c9, c10, c11, kind, face, coupon, per, basis, start, finish, cur⟩ = 1 := by simp [bondN, hf, hm]
        rw [hb]
        have e2 : decide (1000000 < coupon) = true := decide_eq_true hm
        clear hb hf hc hm
        go_enter Tryz.func222, Tryz.ntmps222
        go_wp2_with fail
        go_ret
        exact ⟨_, rfl, errP_errno (by decide) (by decide), (Below.refl _ _).alloc (Nat.le_refl _) _⟩
      · have e2 : decide (1000000 < coupon) = false := decide_eq_false hm
        have hC := fun b w h => contains_per per b w h
        cases hp : perB per
        · have hb : bondN ⟨c0, c1, c2, c3, c4, c5, c6, c7, c8, c9, c10, c11, kind, face, coupon, per, basis, start, finish, cur⟩ = 1 := by simp [bondN, hf, hp]
          rw [hb]
          rw [hp] at hC
          have HC := Lib.hid hC
          clear hb hf hc hm hp hC
          go_enter Tryz.func222, Tryz.ntmps222
          go_wp2_with fail
          refine (HC.out _ _ (by have := heap_alloc_new (w.alloc (.cells (secC ⟨c0, c1, c2, c3, c4, c5, c6, c7, c8, c9, c10, c11, kind, face, coupon, per, basis, start, finish, cur⟩) 206)) (.cells #[.int .i64 1, .int .i64 2, .int .i64 4, .int .i64 12] 3); simpa using this)).mono ?_
          rintro e w1 ⟨rfl, rfl⟩
          go_wp2_with fail
          go_ret
          exact ⟨_, rfl, errP_errno (by decide) (by decide), ((Below.refl _ _).alloc (Nat.le_refl _) _).alloc (by simp) _⟩
        · have hb : bondN ⟨c0, c1, c2, c3, c4, c5, c6, c7, c8, c9, c10, c11, kind, face, coupon, per, basis, start, finish, cur⟩ = N := by simp [bondN, hf, hp, hc, hm]; exact HN.out
          rw [hb]
          rw [hp] at hC
          have HC := Lib.hid hC
          clear hb hf hc hm hp hC
          go_enter Tryz.func222, Tryz.ntmps222
          go_wp2_with fail
          refine (HC.out _ _ (by have := heap_alloc_new (w.alloc (.cells (secC ⟨c0, c1, c2, c3, c4, c5, c6, c7, c8, c9, c10, c11, kind, face, coupon, per, basis, start, finish, cur⟩) 206)) (.cells #[.int .i64 1, .int .i64 2, .int .i64 4, .int .i64 12] 3); simpa using this)).mono ?_
          rintro e w1 ⟨rfl, rfl⟩
          have HG := Lib.hid (show ((w.alloc (.cells (secC ⟨c0, c1, c2, c3, c4, c5, c6, c7, c8, c9, c10, c11, kind, face, coupon, per, basis, start, finish, cur⟩) 206)).alloc (.cells #[.int .i64 1, .int .i64 2, .int .i64 4, .int .i64 12] 3)).heap[w.heap.size]? = some (.cells (secC ⟨c0, c1, c2, c3, c4, c5, c6, c7, c8, c9, c10, c11, kind, face, coupon, per, basis, start, finish, cur⟩) 206 (0, 0)) from (heap_alloc_old _ _ (by simp)).trans (heap_alloc_new w _))
          go_wp2_with (refine wpList_val (.agg (secC ⟨c0, c1, c2, c3, c4, c5, c6, c7, c8, c9, c10, c11, kind, face, coupon, per, basis, start, finish, cur⟩)) (by kernel_rfl) (exec_load_row HG.out rfl rfl Tryz.underlying25 rfl (by kernel_rfl)) ?_)
          refine (HT.out _).mono ?_
          rintro e w1 ⟨v, rfl, hE, hB⟩
          go_wp2_with fail
          go_ret
          exact ⟨_, rfl, hE, (((Below.refl _ _).alloc (Nat.le_refl _) _).alloc (by simp) _).trans (hB.mono (by simp; omega))⟩
end Go.Proofs.YtmepjcnpbjdlkaaGreatDoor
