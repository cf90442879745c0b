/- texts of this claim, laid together: PriceA. -/
import Derived.Test.YtmepjcnpbjdlkaaGreatDoorQbCalB
import Derived.Test.YtmepjcnpbjdlkaaGreatDoorQbCur
import Derived.Test.YtmepjcnpbjdlkaaGreatDoorQbRowE
/- calendar.Of; a security in memory; price.term: by contract. -/
namespace Go.Proofs.YtmepjcnpbjdlkaaGreatDoor
set_option linter.unusedVariables false
set_option linter.unusedSimpArgs false
open Go.RowKit
attribute [local irreducible] Go.wpStill

def OfP (n : Int) (w : World) (e : Ending) (w' : World) : Prop :=
  (dayB n = true ∧ ∃ y m d : Int, e = .returned (.tuple #[.agg #[.int .i64 y, .int .i64 m, .int .i64 d], .nilIface]) ∧ Cal.Is n y m d ∧ Below w.heap.size w w') ∨
  (dayB n = false ∧ e = .returned (.tuple #[.agg #[.int .i64 0, .int .i64 0, .int .i64 0], .iface 76 (.int .i64 8)]) ∧ Below w.heap.size w w')
set_option maxHeartbeats 1000000 in
theorem of_any (n : Int) (w : World) : Calls Tryz.prog 220 #[.int .i64 n] w (OfP n w) := by
  cases hd : dayB n
  · have HD := Lib.hid hd
    have hG := heap_alloc_new w (.cells #[.int .i64 0, .int .i64 0, .int .i64 0] 72)
    have HG := Lib.hid hG
    clear hd hG
    go_enter Tryz.func220, Tryz.ntmps220
    go_wp2_with (refine (isDay_any n _).mono ?_; rintro e w1 ⟨rfl, rfl⟩; rw [HD.out])
    refine bodyPost_ret (v := _) (results_cell_row_tmp rfl _ _ w.heap.size 72 _ (0, 0) _ rfl HG.out Tryz.underlying72 rfl (by kernel_rfl)) rfl (.inr ⟨HD.out, rfl, (Below.refl _ _).alloc (Nat.le_refl _) _⟩)
  · have HD := Lib.hid hd
    have hb : 1 ≤ n ∧ n ≤ 3652059 := by simpa [dayB] using hd
    obtain ⟨h0, h1⟩ := hb
    clear hd
    go_enter Tryz.func220, Tryz.ntmps220
    go_wp2_with (refine (isDay_any n _).mono ?_; rintro e w1 ⟨rfl, rfl⟩; rw [HD.out])
    refine (date_any n _ h0 h1).mono ?_
    rintro e w2 ⟨y, m, d, rfl, hI, hB⟩
    have hG : w2.heap[w.heap.size]? = some (.cells #[.int .i64 0, .int .i64 0, .int .i64 0] 72 (0, 0)) := (hB.block _ (by simp)).trans (heap_alloc_new w _)
    have HG := Lib.hid hG
    clear hG
    go_wp2_with (refine wpList_store_any rfl 72 _ _ rfl w.heap.size #[.int .i64 y, .int .i64 m, .int .i64 d] rfl rfl _ _ HG.out (by kernel_rfl) rfl (by simp [Value.oneCell']) ?_; intro w3 h3 s3 bl3 ot3; have H3 := Lib.hid h3; have HBL := Lib.hid bl3; clear h3 bl3 ot3)
    refine bodyPost_ret (v := _) (results_cell_row_tmp rfl _ _ w.heap.size 72 _ (0, 0) _ rfl H3.out Tryz.underlying72 rfl (by kernel_rfl)) rfl (.inl ⟨HD.out, y, m, d, rfl, hI, ?_⟩)
    exact HBL.out _ _ (((Below.refl _ _).alloc (Nat.le_refl _) _).trans (hB.mono (by simp))) (Nat.le_refl _)

/-- a security -/
structure SecV where
  c0 : UInt8
  c1 : UInt8
  c2 : UInt8
  c3 : UInt8
  c4 : UInt8
  c5 : UInt8
  c6 : UInt8
  c7 : UInt8
  c8 : UInt8
  c9 : UInt8
  c10 : UInt8
  c11 : UInt8
  kind : Int
  face : Int
  coupon : Int
  per : Int
  basis : Int
  start : Int
  finish : Int
  cur : ByteArray
def codeL (s : SecV) : List UInt8 := [s.c0, s.c1, s.c2, s.c3, s.c4, s.c5, s.c6, s.c7, s.c8, s.c9, s.c10, s.c11]
abbrev secC (s : SecV) : Array Value := #[.int .u8 (s.c0.toNat : Nat), .int .u8 (s.c1.toNat : Nat), .int .u8 (s.c2.toNat : Nat), .int .u8 (s.c3.toNat : Nat), .int .u8 (s.c4.toNat : Nat), .int .u8 (s.c5.toNat : Nat), .int .u8 (s.c6.toNat : Nat), .int .u8 (s.c7.toNat : Nat), .int .u8 (s.c8.toNat : Nat), .int .u8 (s.c9.toNat : Nat), .int .u8 (s.c10.toNat : Nat), .int .u8 (s.c11.toNat : Nat), .int .i64 s.kind, .int .i64 s.face, .int .i64 s.coupon, .int .i64 s.per, .int .i64 s.basis, .int .i64 s.start, .int .i64 s.finish, .string s.cur]
def basisB (n : Int) : Bool := decide (0 ≤ n) && decide (n ≤ 3)
def termN (s : SecV) : Int := if basisB s.basis = true then (if dayB s.start = true ∧ dayB s.finish = true ∧ s.start < s.finish then 0 else 8) else 1
def ErrR (n : Int) (w : World) (e : Ending) (w' : World) : Prop := ∃ v, e = .returned v ∧ ErrP v n none ∧ Below w.heap.size w w'
theorem termN_of {s : SecV} (hb : basisB s.basis = true) : termN s = if dayB s.start = true ∧ dayB s.finish = true ∧ s.start < s.finish then 0 else 8 := by unfold termN; rw [if_pos hb]
theorem termN_0 {s : SecV} (hb : basisB s.basis = true) (h1 : dayB s.start = true) (h2 : dayB s.finish = true) (h3 : s.start < s.finish) : termN s = 0 := by rw [termN_of hb, if_pos ⟨h1, h2, h3⟩]
theorem termN_8a {s : SecV} (hb : basisB s.basis = true) (h1 : dayB s.start = false) : termN s = 8 := by rw [termN_of hb, if_neg (fun h => by rw [h1] at h; simp at h)]
theorem termN_8b {s : SecV} (hb : basisB s.basis = true) (h1 : dayB s.finish = false) : termN s = 8 := by rw [termN_of hb, if_neg (fun h => by rw [h1] at h; simp at h)]
theorem termN_8c {s : SecV} (hb : basisB s.basis = true) (h1 : s.finish ≤ s.start) : termN s = 8 := by rw [termN_of hb, if_neg (fun h => by omega)]
theorem termN_1 {s : SecV} (hb : basisB s.basis = false) : termN s = 1 := by unfold termN; rw [if_neg (by rw [hb]; exact Bool.false_ne_true)]
theorem errP_pri (x : Value) {n : Int} (lo : 1 ≤ n) (hi : n ≤ 24) : ErrP (.iface 102 (.agg #[x, .int .i64 n])) n none := .plain (errIs_Pri _ _ n rfl lo hi) (noPlace_Pri _ _)
set_option maxRecDepth 100000 in
set_option maxHeartbeats 2000000 in
theorem term_any (s : SecV) (w : World) : Calls Tryz.prog 219 #[.agg (secC s)] w (ErrR (termN s) w) := by
  obtain ⟨c0, c1, c2, c3, c4, c5, c6, c7, c8, c9, c10, c11, kind, face, coupon, per, basis, start, finish, cur⟩ := s
  have hN0 := fun a b c d => termN_0 (s := ⟨c0, c1, c2, c3, c4, c5, c6, c7, c8, c9, c10, c11, kind, face, coupon, per, basis, start, finish, cur⟩) a b c d
  have hNa := fun a b => termN_8a (s := ⟨c0, c1, c2, c3, c4, c5, c6, c7, c8, c9, c10, c11, kind, face, coupon, per, basis, start, finish, cur⟩) a b
  have hNb := fun a b => termN_8b (s := ⟨c0, c1, c2, c3, c4, c5, c6, c7, c8, c9, c10, c11, kind, face, coupon, per, basis, start, finish, cur⟩) a b
  have hNc := fun a b => termN_8c (s := ⟨c0, c1, c2, c3, c4, c5, c6, c7, c8, c9, c10, c11, kind, face, coupon, per, basis, start, finish, cur⟩) a b
  have hN1 := fun a => termN_1 (s := ⟨c0, c1, c2, c3, c4, c5, c6, c7, c8, c9, c10, c11, kind, face, coupon, per, basis, start, finish, cur⟩) a
  generalize termN ⟨c0, c1, c2, c3, c4, c5, c6, c7, c8, c9, c10, c11, kind, face, coupon, per, basis, start, finish, cur⟩ = N at *
  simp only at hN0 hNa hNb hNc hN1
  have HN0 := Lib.hid hN0
  have HNa := Lib.hid hNa
  have HNb := Lib.hid hNb
  have HNc := Lib.hid hNc
  have HN1 := Lib.hid hN1
  clear hN0 hNa hNb hNc hN1
  cases h0 : decide (basis < 0)
  · cases h3 : decide (3 < basis)
    · have hb : basisB basis = true := by unfold basisB; simp at h0 h3 ⊢; omega
      have HB := Lib.hid hb
      clear hb
      go_enter Tryz.func219, Tryz.ntmps219
      go_wp2_with fail
      have z0 : Below w.heap.size w ((w.alloc (.cells (secC ⟨c0, c1, c2, c3, c4, c5, c6, c7, c8, c9, c10, c11, kind, face, coupon, per, basis, start, finish, cur⟩) 25)).alloc (.cells #[.int .i64 start, .int .i64 finish] 3)) := ((Below.refl _ _).alloc (Nat.le_refl _) _).alloc (by simp) _
      have HZ0 := Lib.hid z0
      clear z0
      refine wp_loop_rounds 3 ?_
      rw [rounds_succ]
      go_wp2_with fail
      refine (of_any start _).mono ?_
      rintro e w1 (⟨hd1, y, m, d, rfl, _, hB1⟩ | ⟨hd1, rfl, hB1⟩)
      · obtain ⟨hc, hf⟩ := bcell hB1
        have hz1 : w.heap.size + 1 < w1.heap.size := by have := hB1.size; simp at this; omega
        have hz1' : w.heap.size < w1.heap.size := by omega
        have HZ1 := Lib.hid (HZ0.out.trans (hB1.mono (by simp; omega)))
        have HD1 := Lib.hid hd1
        clear hf hd1 hB1
        go_wp2_with fail
        rw [rounds_succ]
        go_wp2_with fail
        refine (of_any finish _).mono ?_
        rintro e w2 (⟨hd2, y2, m2, d2, rfl, _, hB2⟩ | ⟨hd2, rfl, hB2⟩)
        · obtain ⟨hc2, hf2⟩ := bcell hB2
          have hz2 : w.heap.size + 1 < w2.heap.size := by have := hB2.size; simp at this; omega
          have hz2' : w.heap.size < w2.heap.size := by omega
          have hz2'' : w.heap.size < w1.heap.size + 1 := by omega
          have HZ2 := Lib.hid ((HZ1.out.alloc HZ1.out.size (.cells #[.int .i64 y, .int .i64 m, .int .i64 d] 72)).trans (hB2.mono (by have := HZ1.out.size; simp; omega)))
          have HD2 := Lib.hid hd2
          clear hf2 hd2 hB2
          cases hle : decide (finish ≤ start)
          · have HE := Lib.hid (HN0.out HB.out HD1.out HD2.out (by simp at hle; omega))
            go_wp2_with fail
            rw [rounds_succ]
            go_wp2_with fail
            go_ret
            exact ⟨_, rfl, (by rw [HE.out]; exact .nil), HZ2.out.alloc HZ2.out.size _⟩
          · have HE := Lib.hid (HNc.out HB.out (by simpa using hle))
            go_wp2_with fail
            rw [rounds_succ]
            go_wp2_with fail
            go_ret
            exact ⟨_, rfl, (by rw [HE.out]; exact errP_pri _ (by decide) (by decide)), HZ2.out.alloc HZ2.out.size _⟩
        · have HE := Lib.hid (HNb.out HB.out hd2)
          have HB2 := Lib.hid hB2
          clear hd2 hB2
          go_wp2_with fail
          go_ret
          exact ⟨_, rfl, (by rw [HE.out]; exact errP_pri _ (by decide) (by decide)), ((HZ1.out.alloc HZ1.out.size _).trans (HB2.out.mono (by have := HZ1.out.size; simp; omega))).alloc (by have := HB2.out.size; have := HZ1.out.size; simp at *; omega) _⟩
      · have HE := Lib.hid (HNa.out HB.out hd1)
        have HB1 := Lib.hid hB1
        clear hd1 hB1
        go_wp2_with fail
        go_ret
        exact ⟨_, rfl, (by rw [HE.out]; exact errP_pri _ (by decide) (by decide)), (HZ0.out.trans (HB1.out.mono (by simp; omega))).alloc (by have := HB1.out.size; simp at *; omega) _⟩
    · have hb : basisB basis = false := by unfold basisB; simp at h0 h3 ⊢; omega
      have HE := Lib.hid (HN1.out hb)
      clear hb
      go_enter Tryz.func219, Tryz.ntmps219
      go_wp2_with fail
      go_ret
      exact ⟨_, rfl, (by rw [HE.out]; exact errP_errno (by decide) (by decide)), (Below.refl _ _).alloc (Nat.le_refl _) _⟩
  · have hb : basisB basis = false := by unfold basisB; simp at h0 ⊢; omega
    have HE := Lib.hid (HN1.out hb)
    clear hb
    go_enter Tryz.func219, Tryz.ntmps219
    go_wp2_with fail
    go_ret
    exact ⟨_, rfl, (by rw [HE.out]; exact errP_errno (by decide) (by decide)), (Below.refl _ _).alloc (Nat.le_refl _) _⟩
end Go.Proofs.YtmepjcnpbjdlkaaGreatDoor
