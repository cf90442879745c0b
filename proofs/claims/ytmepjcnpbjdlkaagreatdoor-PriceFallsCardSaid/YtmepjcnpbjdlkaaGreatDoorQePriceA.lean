/- texts of this claim, laid together: PriceA, PriceB. -/
import Derived.Test.YtmepjcnpbjdlkaaGreatDoorQeCalA
import Derived.Test.YtmepjcnpbjdlkaaGreatDoorQeShelf
import Derived.Test.YtmepjcnpbjdlkaaGreatDoorQeBuilder
import Derived.Test.YtmepjcnpbjdlkaaGreatDoorQeRowE
/- calendar.Of; a security in memory; price.term: by contract. -/
namespace Go.Proofs.YtmepjcnpbjdlkaaGreatDoor
set_option linter.unusedVariables false
set_option linter.unusedSimpArgs false
open Go.RowKit
attribute [local irreducible] Go.wpStill

def OfP (n : Int) (w : World) (e : Ending) (w' : World) : Prop :=
  (dayB n = true ∧ ∃ y m d : Int, e = .returned (.tuple #[.agg #[.int .i64 y, .int .i64 m, .int .i64 d], .nilIface]) ∧ Cal.Is n y m d ∧ Below w.heap.size w w') ∨
  (dayB n = false ∧ e = .returned (.tuple #[.agg #[.int .i64 0, .int .i64 0, .int .i64 0], .iface 76 (.int .i64 8)]) ∧ Below w.heap.size w w')
set_option maxHeartbeats 1000000 in
theorem of_any (n : Int) (w : World) : Calls Tryz.prog 220 #[.int .i64 n] w (OfP n w) := by
  cases hd : dayB n
  · have HD := Lib.hid hd
    have hG := heap_alloc_new w (.cells #[.int .i64 0, .int .i64 0, .int .i64 0] 72)
    have HG := Lib.hid hG
    clear hd hG
    go_enter Tryz.func220, Tryz.ntmps220
    go_wp2_with (refine (isDay_any n _).mono ?_; rintro e w1 ⟨rfl, rfl⟩; rw [HD.out])
    refine bodyPost_ret (v := _) (results_cell_row_tmp rfl _ _ w.heap.size 72 _ (0, 0) _ rfl HG.out Tryz.underlying72 rfl (by kernel_rfl)) rfl (.inr ⟨HD.out, rfl, (Below.refl _ _).alloc (Nat.le_refl _) _⟩)
  · have HD := Lib.hid hd
    have hb : 1 ≤ n ∧ n ≤ 3652059 := by simpa [dayB] using hd
    obtain ⟨h0, h1⟩ := hb
    clear hd
    go_enter Tryz.func220, Tryz.ntmps220
    go_wp2_with (refine (isDay_any n _).mono ?_; rintro e w1 ⟨rfl, rfl⟩; rw [HD.out])
    refine (date_any n _ h0 h1).mono ?_
    rintro e w2 ⟨y, m, d, rfl, hI, hB⟩
    have hG : w2.heap[w.heap.size]? = some (.cells #[.int .i64 0, .int .i64 0, .int .i64 0] 72 (0, 0)) := (hB.block _ (by simp)).trans (heap_alloc_new w _)
    have HG := Lib.hid hG
    clear hG
    go_wp2_with (refine wpList_store_any rfl 72 _ _ rfl w.heap.size #[.int .i64 y, .int .i64 m, .int .i64 d] rfl rfl _ _ HG.out (by kernel_rfl) rfl (by simp [Value.oneCell']) ?_; intro w3 h3 s3 bl3 ot3; have H3 := Lib.hid h3; have HBL := Lib.hid bl3; clear h3 bl3 ot3)
    refine bodyPost_ret (v := _) (results_cell_row_tmp rfl _ _ w.heap.size 72 _ (0, 0) _ rfl H3.out Tryz.underlying72 rfl (by kernel_rfl)) rfl (.inl ⟨HD.out, y, m, d, rfl, hI, ?_⟩)
    exact HBL.out _ _ (((Below.refl _ _).alloc (Nat.le_refl _) _).trans (hB.mono (by simp))) (Nat.le_refl _)

/-- a security -/
structure SecV where
  c0 : UInt8
  c1 : UInt8
  c2 : UInt8
  c3 : UInt8
  c4 : UInt8
  c5 : UInt8
  c6 : UInt8
  c7 : UInt8
  c8 : UInt8
  c9 : UInt8
  c10 : UInt8
  c11 : UInt8
  kind : Int
  face : Int
  coupon : Int
  per : Int
  basis : Int
  start : Int
  finish : Int
  cur : ByteArray
def codeL (s : SecV) : List UInt8 := [s.c0, s.c1, s.c2, s.c3, s.c4, s.c5, s.c6, s.c7, s.c8, s.c9, s.c10, s.c11]
abbrev secC (s : SecV) : Array Value := #[.int .u8 (s.c0.toNat : Nat), .int .u8 (s.c1.toNat : Nat), .int .u8 (s.c2.toNat : Nat), .int .u8 (s.c3.toNat : Nat), .int .u8 (s.c4.toNat : Nat), .int .u8 (s.c5.toNat : Nat), .int .u8 (s.c6.toNat : Nat), .int .u8 (s.c7.toNat : Nat), .int .u8 (s.c8.toNat : Nat), .int .u8 (s.c9.toNat : Nat), .int .u8 (s.c10.toNat : Nat), .int .u8 (s.c11.toNat : Nat), .int .i64 s.kind, .int .i64 s.face, .int .i64 s.coupon, .int .i64 s.per, .int .i64 s.basis, .int .i64 s.start, .int .i64 s.finish, .string s.cur]
def basisB (n : Int) : Bool := decide (0 ≤ n) && decide (n ≤ 3)
def termN (s : SecV) : Int := if basisB s.basis = true then (if dayB s.start = true ∧ dayB s.finish = true ∧ s.start < s.finish then 0 else 8) else 1
def ErrR (n : Int) (w : World) (e : Ending) (w' : World) : Prop := ∃ v, e = .returned v ∧ ErrP v n none ∧ Below w.heap.size w w'
theorem termN_of {s : SecV} (hb : basisB s.basis = true) : termN s = if dayB s.start = true ∧ dayB s.finish = true ∧ s.start < s.finish then 0 else 8 := by unfold termN; rw [if_pos hb]
theorem termN_0 {s : SecV} (hb : basisB s.basis = true) (h1 : dayB s.start = true) (h2 : dayB s.finish = true) (h3 : s.start < s.finish) : termN s = 0 := by rw [termN_of hb, if_pos ⟨h1, h2, h3⟩]
theorem termN_8a {s : SecV} (hb : basisB s.basis = true) (h1 : dayB s.start = false) : termN s = 8 := by rw [termN_of hb, if_neg (fun h => by rw [h1] at h; simp at h)]
theorem termN_8b {s : SecV} (hb : basisB s.basis = true) (h1 : dayB s.finish = false) : termN s = 8 := by rw [termN_of hb, if_neg (fun h => by rw [h1] at h; simp at h)]
theorem termN_8c {s : SecV} (hb : basisB s.basis = true) (h1 : s.finish ≤ s.start) : termN s = 8 := by rw [termN_of hb, if_neg (fun h => by omega)]
theorem termN_1 {s : SecV} (hb : basisB s.basis = false) : termN s = 1 := by unfold termN; rw [if_neg (by rw [hb]; exact Bool.false_ne_true)]
theorem errP_pri (x : Value) {n : Int} (lo : 1 ≤ n) (hi : n ≤ 24) : ErrP (.iface 102 (.agg #[x, .int .i64 n])) n none := .plain (errIs_Pri _ _ n rfl lo hi) (noPlace_Pri _ _)
set_option maxRecDepth 100000 in
set_option maxHeartbeats 2000000 in
theorem term_any (s : SecV) (w : World) : Calls Tryz.prog 219 #[.agg (secC s)] w (ErrR (termN s) w) := by
  obtain ⟨c0, c1, c2, c3, c4, c5, c6, c7, c8, c9, c10, c11, kind, face, coupon, per, basis, start, finish, cur⟩ := s
  have hN0 := fun a b c d => termN_0 (s := ⟨c0, c1, c2, c3, c4, c5, c6, c7, c8, c9, c10, c11, kind, face, coupon, per, basis, start, finish, cur⟩) a b c d
  have hNa := fun a b => termN_8a (s := ⟨c0, c1, c2, c3, c4, c5, c6, c7, c8, c9, c10, c11, kind, face, coupon, per, basis, start, finish, cur⟩) a b
  have hNb := fun a b => termN_8b (s := ⟨c0, c1, c2, c3, c4, c5, c6, c7, c8, c9, c10, c11, kind, face, coupon, per, basis, start, finish, cur⟩) a b
  have hNc := fun a b => termN_8c (s := ⟨c0, c1, c2, c3, c4, c5, c6, c7, c8, c9, c10, c11, kind, face, coupon, per, basis, start, finish, cur⟩) a b
  have hN1 := fun a => termN_1 (s := ⟨c0, c1, c2, c3, c4, c5, c6, c7, c8, c9, c10, c11, kind, face, coupon, per, basis, start, finish, cur⟩) a
  generalize termN ⟨c0, c1, c2, c3, c4, c5, c6, c7, c8, c9, c10, c11, kind, face, coupon, per, basis, start, finish, cur⟩ = N at *
  simp only at hN0 hNa hNb hNc hN1
  have HN0 := Lib.hid hN0
  have HNa := Lib.hid hNa
  have HNb := Lib.hid hNb
  have HNc := Lib.hid hNc
  have HN1 := Lib.hid hN1
  clear hN0 hNa hNb hNc hN1
  cases h0 : decide (basis < 0)
  · cases h3 : decide (3 < basis)
    · have hb : basisB basis = true := by unfold basisB; simp at h0 h3 ⊢; omega
      have HB := Lib.hid hb
      clear hb
      go_enter Tryz.func219, Tryz.ntmps219
      go_wp2_with fail
      have z0 : Below w.heap.size w ((w.alloc (.cells (secC ⟨c0, c1, c2, c3, c4, c5, c6, c7, c8, c9, c10, c11, kind, face, coupon, per, basis, start, finish, cur⟩) 25)).alloc (.cells #[.int .i64 start, .int .i64 finish] 3)) := ((Below.refl _ _).alloc (Nat.le_refl _) _).alloc (by simp) _
      have HZ0 := Lib.hid z0
      clear z0
      refine wp_loop_rounds 3 ?_
      rw [rounds_succ]
      go_wp2_with fail
      refine (of_any start _).mono ?_
      rintro e w1 (⟨hd1, y, m, d, rfl, _, hB1⟩ | ⟨hd1, rfl, hB1⟩)
      · obtain ⟨hc, hf⟩ := bcell hB1
        have hz1 : w.heap.size + 1 < w1.heap.size := by have := hB1.size; simp at this; omega
        have hz1' : w.heap.size < w1.heap.size := by omega
        have HZ1 := Lib.hid (HZ0.out.trans (hB1.mono (by simp; omega)))
        have HD1 := Lib.hid hd1
        clear hf hd1 hB1
        go_wp2_with fail
        rw [rounds_succ]
        go_wp2_with fail
        refine (of_any finish _).mono ?_
        rintro e w2 (⟨hd2, y2, m2, d2, rfl, _, hB2⟩ | ⟨hd2, rfl, hB2⟩)
        · obtain ⟨hc2, hf2⟩ := bcell hB2
          have hz2 : w.heap.size + 1 < w2.heap.size := by have := hB2.size; simp at this; omega
          have hz2' : w.heap.size < w2.heap.size := by omega
          have hz2'' : w.heap.size < w1.heap.size + 1 := by omega
          have HZ2 := Lib.hid ((HZ1.out.alloc HZ1.out.size (.cells #[.int .i64 y, .int .i64 m, .int .i64 d] 72)).trans (hB2.mono (by have := HZ1.out.size; simp; omega)))
          have HD2 := Lib.hid hd2
          clear hf2 hd2 hB2
          cases hle : decide (finish ≤ start)
          · have HE := Lib.hid (HN0.out HB.out HD1.out HD2.out (by simp at hle; omega))
            go_wp2_with fail
            rw [rounds_succ]
            go_wp2_with fail
            go_ret
            exact ⟨_, rfl, (by rw [HE.out]; exact .nil), HZ2.out.alloc HZ2.out.size _⟩
          · have HE := Lib.hid (HNc.out HB.out (by simpa using hle))
            go_wp2_with fail
            rw [rounds_succ]
            go_wp2_with fail
            go_ret
            exact ⟨_, rfl, (by rw [HE.out]; exact errP_pri _ (by decide) (by decide)), HZ2.out.alloc HZ2.out.size _⟩
        · have HE := Lib.hid (HNb.out HB.out hd2)
          have HB2 := Lib.hid hB2
          clear hd2 hB2
          go_wp2_with fail
          go_ret
          exact ⟨_, rfl, (by rw [HE.out]; exact errP_pri _ (by decide) (by decide)), ((HZ1.out.alloc HZ1.out.size _).trans (HB2.out.mono (by have := HZ1.out.size; simp; omega))).alloc (by have := HB2.out.size; have := HZ1.out.size; simp at *; omega) _⟩
      · have HE := Lib.hid (HNa.out HB.out hd1)
        have HB1 := Lib.hid hB1
        clear hd1 hB1
        go_wp2_with fail
        go_ret
        exact ⟨_, rfl, (by rw [HE.out]; exact errP_pri _ (by decide) (by decide)), (HZ0.out.trans (HB1.out.mono (by simp; omega))).alloc (by have := HB1.out.size; simp at *; omega) _⟩
    · have hb : basisB basis = false := by unfold basisB; simp at h0 h3 ⊢; omega
      have HE := Lib.hid (HN1.out hb)
      clear hb
      go_enter Tryz.func219, Tryz.ntmps219
      go_wp2_with fail
      go_ret
      exact ⟨_, rfl, (by rw [HE.out]; exact errP_errno (by decide) (by decide)), (Below.refl _ _).alloc (Nat.le_refl _) _⟩
  · have hb : basisB basis = false := by unfold basisB; simp at h0 ⊢; omega
    have HE := Lib.hid (HN1.out hb)
    clear hb
    go_enter Tryz.func219, Tryz.ntmps219
    go_wp2_with fail
    go_ret
    exact ⟨_, rfl, (by rw [HE.out]; exact errP_errno (by decide) (by decide)), (Below.refl _ _).alloc (Nat.le_refl _) _⟩
end Go.Proofs.YtmepjcnpbjdlkaaGreatDoor
/- price: the checks of each kind of securities; the document's flat, basis, term, Is: by contract. -/
namespace Go.Proofs.YtmepjcnpbjdlkaaGreatDoor
set_option linter.unusedVariables false
set_option linter.unusedSimpArgs false
open Go.RowKit
attribute [local irreducible] Go.wpStill

def flatB (s : SecV) : Bool := (s.face == 0) && (s.coupon == 0) && (s.per == 0) && (s.basis == 0) && (s.start == 0) && (s.finish == 0)
def eqN (s : SecV) : Int := if flatB s = true then 0 else 1
def billN (s : SecV) : Int := if s.face < 1 then 16 else if s.coupon ≠ 0 ∨ s.per ≠ 0 then 1 else termN s
def perB (n : Int) : Bool := (n == 1) || (n == 2) || (n == 4) || (n == 12)
def bondN (s : SecV) : Int := if s.face < 1 then 16 else if s.coupon < 0 ∨ 1000000 < s.coupon ∨ perB s.per = false then 1 else termN s

set_option maxRecDepth 100000 in
set_option maxHeartbeats 4000000 in
theorem equity_any (s : SecV) (w : World) : Calls Tryz.prog 212 #[.agg (secC s)] w (ErrR (eqN s) w) := by
  obtain ⟨c0, c1, c2, c3, c4, c5, c6, c7, c8, c9, c10, c11, kind, face, coupon, per, basis, start, finish, cur⟩ := s
  by_cases h0 : face = 0
  · have e0 : (face != 0) = false := by simp [h0]
    by_cases h1 : coupon = 0
    · have e1 : (coupon != 0) = false := by simp [h1]
      by_cases h2 : per = 0
      · have e2 : (per != 0) = false := by simp [h2]
        by_cases h3 : basis = 0
        · have e3 : (basis != 0) = false := by simp [h3]
          by_cases h4 : start = 0
          · have e4 : (start != 0) = false := by simp [h4]
            by_cases h5 : finish = 0
            · have e5 : (finish != 0) = false := by simp [h5]
              have hN : eqN ⟨c0, c1, c2, c3, c4, c5, c6, c7, c8, c9, c10, c11, kind, face, coupon, per, basis, start, finish, cur⟩ = 0 := by simp [eqN, flatB, h0, h1, h2, h3, h4, h5]
              rw [hN]
              clear hN
              go_enter Tryz.func212, Tryz.ntmps212
              go_wp2_with fail
              go_ret
              exact ⟨_, rfl, .nil, (Below.refl _ _).alloc (Nat.le_refl _) _⟩
            · have e5 : (finish != 0) = true := by simp [h5]
              have hN : eqN ⟨c0, c1, c2, c3, c4, c5, c6, c7, c8, c9, c10, c11, kind, face, coupon, per, basis, start, finish, cur⟩ = 1 := by simp [eqN, flatB, h0, h1, h2, h3, h4, h5]
              rw [hN]
              clear hN
              go_enter Tryz.func212, Tryz.ntmps212
              go_wp2_with fail
              go_ret
              exact ⟨_, rfl, errP_errno (by decide) (by decide), (Below.refl _ _).alloc (Nat.le_refl _) _⟩
          · have e4 : (start != 0) = true := by simp [h4]
            have hN : eqN ⟨c0, c1, c2, c3, c4, c5, c6, c7, c8, c9, c10, c11, kind, face, coupon, per, basis, start, finish, cur⟩ = 1 := by simp [eqN, flatB, h0, h1, h2, h3, h4]
            rw [hN]
            clear hN
            go_enter Tryz.func212, Tryz.ntmps212
            go_wp2_with fail
            go_ret
            exact ⟨_, rfl, errP_errno (by decide) (by decide), (Below.refl _ _).alloc (Nat.le_refl _) _⟩
        · have e3 : (basis != 0) = true := by simp [h3]
          have hN : eqN ⟨c0, c1, c2, c3, c4, c5, c6, c7, c8, c9, c10, c11, kind, face, coupon, per, basis, start, finish, cur⟩ = 1 := by simp [eqN, flatB, h0, h1, h2, h3]
          rw [hN]
          clear hN
          go_enter Tryz.func212, Tryz.ntmps212
          go_wp2_with fail
          go_ret
          exact ⟨_, rfl, errP_errno (by decide) (by decide), (Below.refl _ _).alloc (Nat.le_refl _) _⟩
      · have e2 : (per != 0) = true := by simp [h2]
        have hN : eqN ⟨c0, c1, c2, c3, c4, c5, c6, c7, c8, c9, c10, c11, kind, face, coupon, per, basis, start, finish, cur⟩ = 1 := by simp [eqN, flatB, h0, h1, h2]
        rw [hN]
        clear hN
        go_enter Tryz.func212, Tryz.ntmps212
        go_wp2_with fail
        go_ret
        exact ⟨_, rfl, errP_errno (by decide) (by decide), (Below.refl _ _).alloc (Nat.le_refl _) _⟩
    · have e1 : (coupon != 0) = true := by simp [h1]
      have hN : eqN ⟨c0, c1, c2, c3, c4, c5, c6, c7, c8, c9, c10, c11, kind, face, coupon, per, basis, start, finish, cur⟩ = 1 := by simp [eqN, flatB, h0, h1]
      rw [hN]
      clear hN
      go_enter Tryz.func212, Tryz.ntmps212
      go_wp2_with fail
      go_ret
      exact ⟨_, rfl, errP_errno (by decide) (by decide), (Below.refl _ _).alloc (Nat.le_refl _) _⟩
  · have e0 : (face != 0) = true := by simp [h0]
    have hN : eqN ⟨c0, c1, c2, c3, c4, c5, c6, c7, c8, c9, c10, c11, kind, face, coupon, per, basis, start, finish, cur⟩ = 1 := by simp [eqN, flatB, h0]
    rw [hN]
    clear hN
    go_enter Tryz.func212, Tryz.ntmps212
    go_wp2_with fail
    go_ret
    exact ⟨_, rfl, errP_errno (by decide) (by decide), (Below.refl _ _).alloc (Nat.le_refl _) _⟩
def FlatP (b : Bool) (w : World) (e : Ending) (w' : World) : Prop := e = .returned (.bool b) ∧ Below w.heap.size w w'
set_option maxRecDepth 100000 in
set_option maxHeartbeats 2000000 in
theorem bill_any (s : SecV) (w : World) : Calls Tryz.prog 217 #[.agg (secC s)] w (ErrR (billN s) w) := by
  have hT := fun w => term_any s w
  generalize hN : termN s = N at hT
  obtain ⟨c0, c1, c2, c3, c4, c5, c6, c7, c8, c9, c10, c11, kind, face, coupon, per, basis, start, finish, cur⟩ := s
  have HT := Lib.hid hT
  have HN := Lib.hid hN
  clear hT hN
  by_cases hf : face < 1
  · have hb : billN ⟨c0, c1, c2, c3, c4, c5, c6, c7, c8, c9, c10, c11, kind, face, coupon, per, basis, start, finish, cur⟩ = 16 := by simp [billN, hf]
    rw [hb]
    have e0 : decide (face < 1) = true := decide_eq_true hf
    clear hb hf
    go_enter Tryz.func217, Tryz.ntmps217
    go_wp2_with fail
    go_ret
    exact ⟨_, rfl, errP_errno (by decide) (by decide), (Below.refl _ _).alloc (Nat.le_refl _) _⟩
  · have e0 : decide (face < 1) = false := decide_eq_false hf
    by_cases hc : coupon = 0
    · have e1 : (coupon != 0) = false := by simp [hc]
      by_cases hp : per = 0
      · have hb : billN ⟨c0, c1, c2, c3, c4, c5, c6, c7, c8, c9, c10, c11, kind, face, coupon, per, basis, start, finish, cur⟩ = N := by simp [billN, hf, hc, hp]; exact HN.out
        rw [hb]
        have e2 : (per != 0) = false := by simp [hp]
        clear hb hf hp hc
        have HG := Lib.hid (heap_alloc_new w (.cells (secC ⟨c0, c1, c2, c3, c4, c5, c6, c7, c8, c9, c10, c11, kind, face, coupon, per, basis, start, finish, cur⟩) 204))
        go_enter Tryz.func217, Tryz.ntmps217
        go_wp2_with (refine wpList_val (.agg (secC ⟨c0, c1, c2, c3, c4, c5, c6, c7, c8, c9, c10, c11, kind, face, coupon, per, basis, start, finish, cur⟩)) (by kernel_rfl) (exec_load_row HG.out rfl rfl Tryz.underlying25 rfl (by kernel_rfl)) ?_)
        refine (HT.out _).mono ?_
        rintro e w1 ⟨v, rfl, hE, hB⟩
        go_wp2_with fail
        go_ret
        exact ⟨_, rfl, hE, ((Below.refl _ _).alloc (Nat.le_refl _) _).trans (hB.mono (by simp))⟩
      · have hb : billN ⟨c0, c1, c2, c3, c4, c5, c6, c7, c8, c9, c10, c11, kind, face, coupon, per, basis, start, finish, cur⟩ = 1 := by simp [billN, hf, hc, hp]
        rw [hb]
        have e2 : (per != 0) = true := by simp [hp]
        clear hb hf hp hc
        go_enter Tryz.func217, Tryz.ntmps217
        go_wp2_with fail
        go_ret
        exact ⟨_, rfl, errP_errno (by decide) (by decide), (Below.refl _ _).alloc (Nat.le_refl _) _⟩
    · have hb : billN ⟨c0, c1, c2, c3, c4, c5, c6, c7, c8, c9, c10, c11, kind, face, coupon, per, basis, start, finish, cur⟩ = 1 := by simp [billN, hf, hc]
      rw [hb]
      have e1 : (coupon != 0) = true := by simp [hc]
      clear hb hf hc
      go_enter Tryz.func217, Tryz.ntmps217
      go_wp2_with fail
      go_ret
      exact ⟨_, rfl, errP_errno (by decide) (by decide), (Below.refl _ _).alloc (Nat.le_refl _) _⟩
theorem perB_contains (n : Int) : ([1, 2, 4, 12].take 4 : List Int).contains n = perB n := by
  by_cases h1 : n = 1
  · subst h1; rfl
  · by_cases h2 : n = 2
    · subst h2; rfl
    · by_cases h4 : n = 4
      · subst h4; rfl
      · by_cases h12 : n = 12
        · subst h12; rfl
        · simp [perB, h1, h2, h4, h12]
theorem contains_per (n : Int) (b : Nat) (w : World) (h : w.heap[b]? = some (.cells #[.int .i64 1, .int .i64 2, .int .i64 4, .int .i64 12] 3 (0, 0))) : Calls Tryz.prog 223 #[.slice (some ⟨b, 0, none⟩) 4 4, .int .i64 n] w (RetB0 (perB n) w) := by
  refine (Tryz.slices_Contains_int b 0 4 4 [1, 2, 4, 12] n w (by decide) (by decide) (fun j hj => ?_)).mono ?_
  · rw [cell_of_row _ _ _ _ _ _ h, Nat.zero_add]
    rcases j with _ | _ | _ | _ | j
    · rfl
    · rfl
    · rfl
    · rfl
    · simp at hj; omega
  · rintro e w' ⟨rfl, rfl⟩
    exact ⟨by rw [perB_contains], rfl⟩
set_option maxRecDepth 100000 in
set_option maxHeartbeats 2000000 in
theorem bond_any (s : SecV) (w : World) : Calls Tryz.prog 222 #[.agg (secC s)] w (ErrR (bondN s) w) := by
  have hT := fun w => term_any s w
  generalize hN : termN s = N at hT
  obtain ⟨c0, c1, c2, c3, c4, c5, c6, c7, c8, c9, c10, c11, kind, face, coupon, per, basis, start, finish, cur⟩ := s
  have HT := Lib.hid hT
  have HN := Lib.hid hN
  clear hT hN
  by_cases hf : face < 1
  · have hb : bondN ⟨c0, c1, c2, c3, c4, c5, c6, c7, c8, c9, c10, c11, kind, face, coupon, per, basis, start, finish, cur⟩ = 16 := by simp [bondN, hf]
    rw [hb]
    have e0 : decide (face < 1) = true := decide_eq_true hf
    clear hb hf
    go_enter Tryz.func222, Tryz.ntmps222
    go_wp2_with fail
    go_ret
    exact ⟨_, rfl, errP_errno (by decide) (by decide), (Below.refl _ _).alloc (Nat.le_refl _) _⟩
  · have e0 : decide (face < 1) = false := decide_eq_false hf
    by_cases hc : coupon < 0
    · have hb : bondN ⟨c0, c1, c2, c3, c4, c5, c6, c7, c8, c9, c10, c11, kind, face, coupon, per, basis, start, finish, cur⟩ = 1 := by simp [bondN, hf, hc]
      rw [hb]
      have e1 : decide (coupon < 0) = true := decide_eq_true hc
      clear hb hf hc
      go_enter Tryz.func222, Tryz.ntmps222
      go_wp2_with fail
      go_ret
      exact ⟨_, rfl, errP_errno (by decide) (by decide), (Below.refl _ _).alloc (Nat.le_refl _) _⟩
    · have e1 : decide (coupon < 0) = false := decide_eq_false hc
      by_cases hm : 1000000 < coupon
      · have hb : bondN ⟨c0, c1, c2, c3, c4, c5, c6, c7, c8, c9, c10, c11, kind, face, coupon, per, basis, start, finish, cur⟩ = 1 := by simp [bondN, hf, hm]
        rw [hb]
        have e2 : decide (1000000 < coupon) = true := decide_eq_true hm
        clear hb hf hc hm
        go_enter Tryz.func222, Tryz.ntmps222
        go_wp2_with fail
        go_ret
        exact ⟨_, rfl, errP_errno (by decide) (by decide), (Below.refl _ _).alloc (Nat.le_refl _) _⟩
      · have e2 : decide (1000000 < coupon) = false := decide_eq_false hm
        have hC := fun b w h => contains_per per b w h
        cases hp : perB per
        · have hb : bondN ⟨c0, c1, c2, c3, c4, c5, c6, c7, c8, c9, c10, c11, kind, face, coupon, per, basis, start, finish, cur⟩ = 1 := by simp [bondN, hf, hp]
          rw [hb]
          rw [hp] at hC
          have HC := Lib.hid hC
          clear hb hf hc hm hp hC
          go_enter Tryz.func222, Tryz.ntmps222
          go_wp2_with fail
          refine (HC.out _ _ (by have := heap_alloc_new (w.alloc (.cells (secC ⟨c0, c1, c2, c3, c4, c5, c6, c7, c8, c9, c10, c11, kind, face, coupon, per, basis, start, finish, cur⟩) 206)) (.cells #[.int .i64 1, .int .i64 2, .int .i64 4, .int .i64 12] 3); simpa using this)).mono ?_
          rintro e w1 ⟨rfl, rfl⟩
          go_wp2_with fail
          go_ret
          exact ⟨_, rfl, errP_errno (by decide) (by decide), ((Below.refl _ _).alloc (Nat.le_refl _) _).alloc (by simp) _⟩
        · have hb : bondN ⟨c0, c1, c2, c3, c4, c5, c6, c7, c8, c9, c10, c11, kind, face, coupon, per, basis, start, finish, cur⟩ = N := by simp [bondN, hf, hp, hc, hm]; exact HN.out
          rw [hb]
          rw [hp] at hC
          have HC := Lib.hid hC
          clear hb hf hc hm hp hC
          go_enter Tryz.func222, Tryz.ntmps222
          go_wp2_with fail
          refine (HC.out _ _ (by have := heap_alloc_new (w.alloc (.cells (secC ⟨c0, c1, c2, c3, c4, c5, c6, c7, c8, c9, c10, c11, kind, face, coupon, per, basis, start, finish, cur⟩) 206)) (.cells #[.int .i64 1, .int .i64 2, .int .i64 4, .int .i64 12] 3); simpa using this)).mono ?_
          rintro e w1 ⟨rfl, rfl⟩
          have HG := Lib.hid (show ((w.alloc (.cells (secC ⟨c0, c1, c2, c3, c4, c5, c6, c7, c8, c9, c10, c11, kind, face, coupon, per, basis, start, finish, cur⟩) 206)).alloc (.cells #[.int .i64 1, .int .i64 2, .int .i64 4, .int .i64 12] 3)).heap[w.heap.size]? = some (.cells (secC ⟨c0, c1, c2, c3, c4, c5, c6, c7, c8, c9, c10, c11, kind, face, coupon, per, basis, start, finish, cur⟩) 206 (0, 0)) from (heap_alloc_old _ _ (by simp)).trans (heap_alloc_new w _))
          go_wp2_with (refine wpList_val (.agg (secC ⟨c0, c1, c2, c3, c4, c5, c6, c7, c8, c9, c10, c11, kind, face, coupon, per, basis, start, finish, cur⟩)) (by kernel_rfl) (exec_load_row HG.out rfl rfl Tryz.underlying25 rfl (by kernel_rfl)) ?_)
          refine (HT.out _).mono ?_
          rintro e w1 ⟨v, rfl, hE, hB⟩
          go_wp2_with fail
          go_ret
          exact ⟨_, rfl, hE, (((Below.refl _ _).alloc (Nat.le_refl _) _).alloc (by simp) _).trans (hB.mono (by simp; omega))⟩
end Go.Proofs.YtmepjcnpbjdlkaaGreatDoor
