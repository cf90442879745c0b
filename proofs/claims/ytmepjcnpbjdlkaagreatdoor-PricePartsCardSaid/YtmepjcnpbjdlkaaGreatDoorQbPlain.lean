/- texts of this claim, laid together: Plain. -/
import Derived.Test.YtmepjcnpbjdlkaaGreatDoorQbAs
/- errors.As at a *api.Fault; custodykit's Plain, Place, At: by contract. -/
namespace Go.Proofs.YtmepjcnpbjdlkaaGreatDoor
set_option linter.unusedVariables false
set_option linter.unusedSimpArgs false
open Go.RowKit Go.Extern.Stop Go.Stop Go.Extern

/-- an error value in which errors.as finds no api.Fault -/
structure ErrNoPlace (v : Value) : Prop where
  held : ∃ t x, v = .iface t x
  noAs : ∀ (a b c tgt : Value) (w : World), Calls Tryz.prog 96 #[v, tgt, .agg #[a, b, c], faultT] w fun e w' => e = .returned (.bool false) ∧ Below w.heap.size w w'
theorem noPlace_errno (n : Value) : ErrNoPlace (.iface 76 n) := ⟨⟨_, _, rfl⟩, fun a b c tgt w => as_errno n a b c tgt w⟩
theorem noPlace_Ref (x y : Value) : ErrNoPlace (.iface 212 (.agg #[x, y])) := ⟨⟨_, _, rfl⟩, fun a b c tgt w => as_Ref x y a b c tgt w⟩
theorem noPlace_Pri (x y : Value) : ErrNoPlace (.iface 102 (.agg #[x, y])) := ⟨⟨_, _, rfl⟩, fun a b c tgt w => as_Pri x y a b c tgt w⟩
theorem noPlace_Amo (x y : Value) : ErrNoPlace (.iface 183 (.agg #[x, y])) := ⟨⟨_, _, rfl⟩, fun a b c tgt w => as_Amo x y a b c tgt w⟩

theorem below_setCell_ge {B : Nat} {a w : World} (h : Below B a w) {p : Addr} (hp : B ≤ p.block) (u : Value) : Below B a (w.setCell p u) := h.setCell hp u

set_option maxHeartbeats 4000000 in
/-- errors.As(v, &f) up to its call of errors.as: what that call answers, As answers. -/
theorem As_any (t : TypeId) (x : Value) (tb : Nat) (b : Bool) (old : Array Value) (w : World) (hT : EType w)
    (ht : w.heap[tb]? = some (.cells old 79 (0, 0))) (R : World → Prop)
    (has : ∀ w1 : World, Below w.heap.size w w1 → w1.heap[w.heap.size]? = some (.cells #[.pointer (some ⟨tb, 0, none⟩)] 81 (0, 0)) →
      Calls Tryz.prog 96 #[.iface t x, .iface 81 (.pointer (some ⟨tb, 0, none⟩)), .agg #[.pointer (some ⟨5, 81, none⟩), .pointer (some ⟨w.heap.size, 0, none⟩), .int .u64 150], faultT] w1
        fun e w' => e = .returned (.bool b) ∧ R w') :
    Calls Tryz.prog 43 #[.iface t x, .iface 81 (.pointer (some ⟨tb, 0, none⟩))] w
      fun e w' => e = .returned (.bool b) ∧ R w' := by
  have HAS := Lib.hid has
  clear has
  have h6 := @run_callFunc_extern Tryz.prog 93 _ (fun args => ReflectliteValue.unpack (args.getD 0 (.tuple #[]))) Tryz.func93 (by kernel_rfl) (by kernel_rfl) (by kernel_rfl) (by kernel_rfl)
  have h7 := @run_callFunc_extern Tryz.prog 94 _ (ReflectliteValue.methodAny (ReflectliteValue.valueError "reflectlite.Value.Type" 0) (fun t _ _ _ => ReflectliteType.toType t)) Tryz.func94 (by kernel_rfl) (by kernel_rfl) (by kernel_rfl) (by kernel_rfl)
  have h8 := @run_callFunc_extern Tryz.prog 95 _ isNilF Tryz.func95 (by kernel_rfl) (by kernel_rfl) (by kernel_rfl) (by kernel_rfl)
  have h27 := @run_callFunc_extern Tryz.prog 185 _ kindF Tryz.func185 (by kernel_rfl) (by kernel_rfl) (by kernel_rfl) (by kernel_rfl)
  have h37 := @run_callFunc_extern Tryz.prog 203 _ elemF Tryz.func203 (by kernel_rfl) (by kernel_rfl) (by kernel_rfl) (by kernel_rfl)
  have h38 := @run_callFunc_extern Tryz.prog 204 _ implF Tryz.func204 (by kernel_rfl) (by kernel_rfl) (by kernel_rfl) (by kernel_rfl)
  have vP := valueOfP ⟨tb, 0, none⟩
  have tP := typeP
  have mK := methodKind
  have mE := methodElem
  have mI := methodImplements
  have k1 := kindP
  have k2 := kindFault
  have e1 := elemP
  unfold faultT at e1
  have i1 := implFault
  have n8 := isNilP ⟨w.heap.size, 0, none⟩ ⟨tb, 0, none⟩ ((w.alloc (.cells #[.pointer (some ⟨tb, 0, none⟩)] 81)).alloc (.cells #[.pointer (some ⟨5, 81, none⟩), .pointer (some ⟨w.heap.size, 0, none⟩), .int .u64 150] 140)) (by simp)
  have hg2 : ((w.alloc (.cells #[.pointer (some ⟨tb, 0, none⟩)] 81)).alloc (.cells #[.pointer (some ⟨5, 81, none⟩), .pointer (some ⟨w.heap.size, 0, none⟩), .int .u64 150] 140)).cell? ⟨1, 0, none⟩ = some (.iface 189 (.agg #[.pointer (some ⟨5, 30, none⟩)])) := ((hT.alloc _).alloc _)
  have HT := Lib.hid hT
  have Ht := Lib.hid ht
  clear hT ht
  go_enter Tryz.func43, Tryz.ntmps43
  go_wp2_with fail
  refine (HAS.out _ ?hb ?hc).mono ?_
  rotate_left 2
  rintro e w' ⟨rfl, hR⟩
  go_wp2_with fail
  · go_ret
    exact ⟨rfl, hR⟩
  · exact ((Below.refl _ _).alloc (Nat.le_refl _) _).alloc (by simp) _
  · exact heap_alloc2_old _ _ _

/-- an error value: none (0); a number without a place; a number with a place -/
inductive ErrP : Value → Int → Option (Int × Int) → Prop
  | nil : ErrP .nilIface 0 none
  | plain {v : Value} {n : Int} (h : ErrIs v n) (h2 : ErrNoPlace v) : ErrP v n none
  | fault {n l a : Int} (lo : 1 ≤ n) (hi : n ≤ 24) : ErrP (.iface 79 (.agg #[.int .i64 n, .int .i64 l, .int .i64 a])) n (some (l, a))
theorem errP_errno {n : Int} (lo : 1 ≤ n) (hi : n ≤ 24) : ErrP (.iface 76 (.int .i64 n)) n none := .plain (errIs_errno n lo hi) (noPlace_errno _)
theorem errIs_faultN {n l a : Int} (lo : 1 ≤ n) (hi : n ≤ 24) : ErrIs (.iface 79 (.agg #[.int .i64 n, .int .i64 l, .int .i64 a])) n := errIs_Fault (.int .i64 n) (.int .i64 l) (.int .i64 a) n rfl lo hi

theorem As_no (v : Value) (tb : Nat) (old : Array Value) (w : World) (h : ErrNoPlace v) (hT : EType w) (ht : w.heap[tb]? = some (.cells old 79 (0, 0))) :
    Calls Tryz.prog 43 #[v, .iface 81 (.pointer (some ⟨tb, 0, none⟩))] w
      fun e w' => e = .returned (.bool false) ∧ Below w.heap.size w w' := by
  obtain ⟨⟨t, x, rfl⟩, hno⟩ := h
  exact As_any t x tb false old w hT ht (fun w' => Below w.heap.size w w') (fun w1 hb _ => (hno _ _ _ _ _).mono (fun e w' ⟨h1, h2⟩ => ⟨h1, hb.trans (h2.mono hb.size)⟩))
theorem As_yes (n l a : Int) (tb : Nat) (old : Array Value) (w : World) (hT : EType w) (ht : w.heap[tb]? = some (.cells old 79 (0, 0))) (ho : old.size = 3) :
    Calls Tryz.prog 43 #[.iface 79 (.agg #[.int .i64 n, .int .i64 l, .int .i64 a]), .iface 81 (.pointer (some ⟨tb, 0, none⟩))] w
      fun e w' => e = .returned (.bool true) ∧ w'.heap[tb]? = some (.cells #[.int .i64 n, .int .i64 l, .int .i64 a] 79 (0, 0)) ∧ Below tb w w' ∧ w.heap.size ≤ w'.heap.size := by
  have htl := lt_of_block ht
  refine As_any _ _ tb true old w hT ht (fun w' => w'.heap[tb]? = some (.cells #[.int .i64 n, .int .i64 l, .int .i64 a] 79 (0, 0)) ∧ Below tb w w' ∧ w.heap.size ≤ w'.heap.size) (fun w1 hb hv => ?_)
  refine (as_fault _ _ _ tb w.heap.size _ old w1 (by simp [Value.oneCell']) (blk_below hb ht htl) ho hv).mono ?_
  rintro e w' ⟨h1, h2, h3⟩
  exact ⟨h1, h2, (hb.mono (by omega)).trans h3, Nat.le_trans hb.size h3.size⟩

set_option maxHeartbeats 1000000 in
theorem plain_any (v : Value) (n m : Int) (pl : Option (Int × Int)) (b : Bool) (w : World) (h : ErrP v n pl) (hb : (n == m && pl.isNone) = b) (hT : EType w) :
    Calls Tryz.prog 13 #[v, .int .i64 m] w fun e w' => e = .returned (.bool b) ∧ Below w.heap.size w w' := by
  have HT := Lib.hid hT
  clear hT
  have hblk := heap_alloc_new w (.cells #[.int .i64 0, .int .i64 0, .int .i64 0] 79)
  cases h with
  | nil =>
    simp only [Option.isNone_none, Bool.and_true] at hb
    clear hblk
    cases b
    all_goals
      go_enter Tryz.func13, Tryz.ntmps13
      go_wp2_with (go_at_call 24; refine (num_nil _).mono ?_; rintro e w' ⟨rfl, rfl⟩)
      go_ret
      exact ⟨rfl, (Below.refl _ _).alloc (Nat.le_refl _) _⟩
  | plain h h2 =>
    simp only [Option.isNone_none, Bool.and_true] at hb
    obtain ⟨t, x, rfl⟩ := h.held
    have HB := Lib.hid hblk
    clear hblk
    cases b
    · go_enter Tryz.func13, Tryz.ntmps13
      go_wp2_with (go_at_call 24; refine (num_any _ n _ h).mono ?_; rintro e w' ⟨rfl, hB1⟩)
      go_ret
      exact ⟨rfl, ((Below.refl _ _).alloc (Nat.le_refl _) _).trans (hB1.mono (by simp))⟩
    · go_enter Tryz.func13, Tryz.ntmps13
      go_wp2_with (go_at_call 24; refine (num_any _ n _ h).mono ?_; rintro e w1 ⟨rfl, hB1⟩)
      refine (As_no _ w.heap.size _ _ h2 ((HT.out.alloc _).below hB1) (blk_below hB1 HB.out (by simp))).mono ?_
      rintro e w2 ⟨rfl, hB2⟩
      go_wp2
      go_ret
      exact ⟨rfl, ((Below.refl _ _).alloc (Nat.le_refl _) _).trans ((hB1.trans (hB2.mono hB1.size)).mono (by simp))⟩
  | fault lo hi =>
    rename_i l a
    simp only [Option.isNone_some, Bool.and_false] at hb
    subst hb
    have HB := Lib.hid hblk
    clear hblk
    by_cases hnm : n = m
    · have hnm' : (n == m) = true := by simpa using hnm
      clear hnm
      go_enter Tryz.func13, Tryz.ntmps13
      go_wp2_with (go_at_call 24; refine (num_any _ n _ (errIs_faultN lo hi)).mono ?_; rintro e w1 ⟨rfl, hB1⟩)
      refine (As_yes n l a w.heap.size _ _ ((HT.out.alloc _).below hB1) (blk_below hB1 HB.out (by simp)) rfl).mono ?_
      rintro e w2 ⟨rfl, _, hB2, _⟩
      go_wp2
      go_ret
      exact ⟨rfl, ((Below.refl _ _).alloc (Nat.le_refl _) _).trans ((hB1.mono (by simp)).trans hB2)⟩
    · have hnm' : (n == m) = false := by simpa using hnm
      clear hnm
      go_enter Tryz.func13, Tryz.ntmps13
      go_wp2_with (go_at_call 24; refine (num_any _ n _ (errIs_faultN lo hi)).mono ?_; rintro e w1 ⟨rfl, hB1⟩)
      go_ret
      exact ⟨rfl, ((Below.refl _ _).alloc (Nat.le_refl _) _).trans (hB1.mono (by simp))⟩
end Go.Proofs.YtmepjcnpbjdlkaaGreatDoor
