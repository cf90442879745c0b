/- texts of this claim, laid together: Err, As, Plain, At. -/
import Derived.Test.YtmepjcnpbjdlkaaGreatDoorQeBase
import Derived.LaidEql
import Derived.Stop.Asserts
import Derived.RowKitTokens
import Derived.Deep.RegionHeld3
/- errors.Is and errors.As at this module's own error types, and custodykit's Num, Plain, Place, At: by contract. -/
namespace Go.Proofs.YtmepjcnpbjdlkaaGreatDoor
set_option linter.unusedVariables false
set_option linter.unusedSimpArgs false
open Go.RowKit Go.Extern.Stop Go.Stop Go.Extern

/-! ### what TypeOf(target).Comparable() gives at an Errno -/
theorem isTypeOfE (v : Value) (w : World) : (Extern.ReflectliteType.typeOf #[.iface 76 v]).run Tryz.prog w = .ok (.iface 189 (.agg #[.pointer (some ⟨5, 76, none⟩)])) w := by kernel_rfl
def cmpF : Array Value → Sem Value := Extern.ReflectliteType.method fun t => do Extern.Rtype.noPackHeld "Comparable" t; pure (.bool (← typeInfo t).comparable)
theorem isComparableE (w : World) : (cmpF #[.agg #[.pointer (some ⟨5, 76, none⟩)]]).run Tryz.prog w = .ok (.bool true) w := by kernel_rfl
theorem isMethodComparable (n : Nat) (v : Value) (w : World) : (Go.method (n + 1) 189 v "Comparable").run Tryz.prog w = .ok (202, v) w := by kernel_rfl
theorem errnoInfo : (Tryz.prog.info? 76).map (·.comparable) = some true := by kernel_rfl

/-! ### what the assertions of errors.is and errors.as find -/
theorem noIsE (v : Value) (xT : TypeId) (w : World) : (Instr.typeAssert (.iface 76 v) xT 222 true).run Tryz.prog w = .ok (.tuple #[.nilIface, .bool false]) w := run_typeAssert_lacksB Tryz.underlying222 (by kernel_rfl) (by kernel_rfl) v xT w
theorem noAsE (v : Value) (xT : TypeId) (w : World) : (Instr.typeAssert (.iface 76 v) xT 193 true).run Tryz.prog w = .ok (.tuple #[.nilIface, .bool false]) w := run_typeAssert_lacksB Tryz.underlying193 (by kernel_rfl) (by kernel_rfl) v xT w
theorem noUnwrapE (v : Value) (xT : TypeId) (w : World) : (Instr.typeAssert (.iface 76 v) xT 196 true).run Tryz.prog w = .ok (.tuple #[.nilIface, .bool false]) w := run_typeAssert_lacksB Tryz.underlying196 (by kernel_rfl) (by kernel_rfl) v xT w
theorem noUnwrapsE (v : Value) (xT : TypeId) (w : World) : (Instr.typeAssert (.iface 76 v) xT 197 true).run Tryz.prog w = .ok (.tuple #[.nilIface, .bool false]) w := run_typeAssert_lacksB Tryz.underlying197 (by kernel_rfl) (by kernel_rfl) v xT w

/-! ### '==' of two Errnos as errors -/
theorem run_equalIn_iface_int {P : Program} (w : World) (d : Nat) {ti tn : TypeId} {ms : Array (String × TypeId)} {i : TypeInfo} {k : IntKind} (a b : Int)
    (hi : P.underlying ti = some (.interface ms)) (hn : P.underlying tn = some (.int k)) (hinfo : P.info? tn = some i) (hcomp : i.comparable = true) :
    (Op.equalIn (d + 2) ti (.iface tn (.int k a)) (.iface tn (.int k b))).run P w = .ok (a == b) w := by
  simp [Op.equalIn, run_underlying hi, run_underlying hn, typeInfo, hinfo, hcomp]
theorem run_eql_iface_int {P : Program} (w : World) {ti tn : TypeId} {ms : Array (String × TypeId)} {i : TypeInfo} {k : IntKind} (a b : Int)
    (hi : P.underlying ti = some (.interface ms)) (hn : P.underlying tn = some (.int k)) (hinfo : P.info? tn = some i) (hcomp : i.comparable = true) :
    (binOp .eql ti (.iface tn (.int k a)) (.iface tn (.int k b))).run P w = .ok (.bool (a == b)) w := by
  simp only [binOp]
  simp [Op.equal, Op.maxDepth, run_equalIn_iface_int w 9998 a b hi hn hinfo hcomp]
theorem eqlE (a b : Int) (w : World) : (binOp .eql 30 (.iface 76 (.int .i64 a)) (.iface 76 (.int .i64 b))).run Tryz.prog w = .ok (.bool (a == b)) w := by
  obtain ⟨i, hi, hcmp⟩ := Option.map_eq_some_iff.1 errnoInfo
  exact run_eql_iface_int w a b Tryz.underlying30 Tryz.underlying76 hi hcmp

/-- errors.is(Errno n, Errno m). -/
theorem is_errno_eq (n : Int) (w : World) :
    Calls Tryz.prog 123 #[.iface 76 (.int .i64 n), .iface 76 (.int .i64 n), .bool true] w fun e w' => e = .returned (.bool true) ∧ w = w' := by
  have heq := eqlE n n w
  rw [show (n == n) = true by simp] at heq
  go_enter Tryz.func123, Tryz.ntmps123
  go_wp2
  refine wp_loop_rounds 1 ?_
  rw [rounds_succ]
  go_wp2
  go_ret
  exact ⟨rfl, rfl⟩
theorem is_errno_ne (n m : Int) (w : World) (hne : (n == m) = false) :
    Calls Tryz.prog 123 #[.iface 76 (.int .i64 n), .iface 76 (.int .i64 m), .bool true] w fun e w' => e = .returned (.bool false) ∧ w = w' := by
  have heq := eqlE n m w
  rw [hne] at heq
  have nE := noIsE
  have uE := noUnwrapE
  have vE := noUnwrapsE
  clear hne
  go_enter Tryz.func123, Tryz.ntmps123
  go_wp2
  refine wp_loop_rounds 1 ?_
  rw [rounds_succ]
  go_wp2
  go_ret
  exact ⟨rfl, rfl⟩
/-! ### the wrapper codes.refused -/
theorem noIsRef (v : Value) (xT : TypeId) (w : World) : (Instr.typeAssert (.iface 212 v) xT 222 true).run Tryz.prog w = .ok (.tuple #[.nilIface, .bool false]) w := run_typeAssert_lacksB Tryz.underlying222 (by kernel_rfl) (by kernel_rfl) v xT w
theorem noAsRef (v : Value) (xT : TypeId) (w : World) : (Instr.typeAssert (.iface 212 v) xT 193 true).run Tryz.prog w = .ok (.tuple #[.nilIface, .bool false]) w := run_typeAssert_lacksB Tryz.underlying193 (by kernel_rfl) (by kernel_rfl) v xT w
theorem hasUnwrapRef (v : Value) (xT : TypeId) (w : World) : (Instr.typeAssert (.iface 212 v) xT 196 true).run Tryz.prog w = .ok (.tuple #[.iface 212 v, .bool true]) w := run_typeAssert_hasB Tryz.underlying196 (by kernel_rfl) v xT w
theorem methodUnwrapRef (n : Nat) (x y : Value) (w : World) : (Go.method (n + 1) 212 (.agg #[x, y]) "Unwrap").run Tryz.prog w = .ok (227, .agg #[x, y]) w := by kernel_rfl
theorem unwrapRef (x y : Value) (w : World) :
    Calls Tryz.prog 227 #[.agg #[x, y]] w fun e w' => e = .returned (.iface 76 y) ∧ Below w.heap.size w w' := by
  go_enter Tryz.func227, Tryz.ntmps227
  go_wp2
  go_ret
  exact ⟨rfl, (Below.refl _ _).alloc (Nat.le_refl _) _⟩
set_option maxHeartbeats 400000 in
theorem is_Ref (x y : Value) (n m : Int) (b : Bool) (w : World) (hx : y = .int .i64 n) (hb : (n == m) = b) :
    Calls Tryz.prog 123 #[.iface 212 (.agg #[x, y]), .iface 76 (.int .i64 m), .bool true] w fun e w' => e = .returned (.bool b) ∧ Below w.heap.size w w' := by
  subst hx
  have hty := run_eql_iface_types (P := Tryz.prog) 212 76 (.agg #[x, .int .i64 n]) (.int .i64 m) Tryz.underlying30 (by decide)
  have heq := eqlE n m
  rw [hb] at heq
  have nE := noIsE
  have uE := noUnwrapE
  have vE := noUnwrapsE
  have nR := noIsRef
  have uR := hasUnwrapRef
  have mR := methodUnwrapRef
  clear hb
  cases b
  all_goals
    go_enter Tryz.func123, Tryz.ntmps123
    go_wp2
    refine wp_loop_rounds 2 ?_
    rw [rounds_succ]
    go_wp2_with (go_at_call 227; refine (unwrapRef x (.int .i64 n) _).mono ?_; rintro e w' ⟨rfl, hB⟩)
    rw [rounds_succ]
    go_wp2
    go_ret
    exact ⟨rfl, hB⟩
/-! ### the wrapper price.refusal -/
theorem noIsPri (v : Value) (xT : TypeId) (w : World) : (Instr.typeAssert (.iface 102 v) xT 222 true).run Tryz.prog w = .ok (.tuple #[.nilIface, .bool false]) w := run_typeAssert_lacksB Tryz.underlying222 (by kernel_rfl) (by kernel_rfl) v xT w
theorem noAsPri (v : Value) (xT : TypeId) (w : World) : (Instr.typeAssert (.iface 102 v) xT 193 true).run Tryz.prog w = .ok (.tuple #[.nilIface, .bool false]) w := run_typeAssert_lacksB Tryz.underlying193 (by kernel_rfl) (by kernel_rfl) v xT w
theorem hasUnwrapPri (v : Value) (xT : TypeId) (w : World) : (Instr.typeAssert (.iface 102 v) xT 196 true).run Tryz.prog w = .ok (.tuple #[.iface 102 v, .bool true]) w := run_typeAssert_hasB Tryz.underlying196 (by kernel_rfl) v xT w
theorem methodUnwrapPri (n : Nat) (x y : Value) (w : World) : (Go.method (n + 1) 102 (.agg #[x, y]) "Unwrap").run Tryz.prog w = .ok (192, .agg #[x, y]) w := by kernel_rfl
theorem unwrapPri (x y : Value) (w : World) :
    Calls Tryz.prog 192 #[.agg #[x, y]] w fun e w' => e = .returned (.iface 76 y) ∧ Below w.heap.size w w' := by
  go_enter Tryz.func192, Tryz.ntmps192
  go_wp2
  go_ret
  exact ⟨rfl, (Below.refl _ _).alloc (Nat.le_refl _) _⟩
set_option maxHeartbeats 400000 in
theorem is_Pri (x y : Value) (n m : Int) (b : Bool) (w : World) (hx : y = .int .i64 n) (hb : (n == m) = b) :
    Calls Tryz.prog 123 #[.iface 102 (.agg #[x, y]), .iface 76 (.int .i64 m), .bool true] w fun e w' => e = .returned (.bool b) ∧ Below w.heap.size w w' := by
  subst hx
  have hty := run_eql_iface_types (P := Tryz.prog) 102 76 (.agg #[x, .int .i64 n]) (.int .i64 m) Tryz.underlying30 (by decide)
  have heq := eqlE n m
  rw [hb] at heq
  have nE := noIsE
  have uE := noUnwrapE
  have vE := noUnwrapsE
  have nR := noIsPri
  have uR := hasUnwrapPri
  have mR := methodUnwrapPri
  clear hb
  cases b
  all_goals
    go_enter Tryz.func123, Tryz.ntmps123
    go_wp2
    refine wp_loop_rounds 2 ?_
    rw [rounds_succ]
    go_wp2_with (go_at_call 192; refine (unwrapPri x (.int .i64 n) _).mono ?_; rintro e w' ⟨rfl, hB⟩)
    rw [rounds_succ]
    go_wp2
    go_ret
    exact ⟨rfl, hB⟩
/-! ### the wrapper calendar.wrong -/
/-! ### the wrapper amount.refusal -/
/-! ### the wrapper api.Fault -/
theorem noIsFault (v : Value) (xT : TypeId) (w : World) : (Instr.typeAssert (.iface 79 v) xT 222 true).run Tryz.prog w = .ok (.tuple #[.nilIface, .bool false]) w := run_typeAssert_lacksB Tryz.underlying222 (by kernel_rfl) (by kernel_rfl) v xT w
theorem hasUnwrapFault (v : Value) (xT : TypeId) (w : World) : (Instr.typeAssert (.iface 79 v) xT 196 true).run Tryz.prog w = .ok (.tuple #[.iface 79 v, .bool true]) w := run_typeAssert_hasB Tryz.underlying196 (by kernel_rfl) v xT w
theorem methodUnwrapFault (n : Nat) (x y z : Value) (w : World) : (Go.method (n + 1) 79 (.agg #[x, y, z]) "Unwrap").run Tryz.prog w = .ok (190, .agg #[x, y, z]) w := by kernel_rfl
theorem unwrapFault (x y z : Value) (w : World) :
    Calls Tryz.prog 190 #[.agg #[x, y, z]] w fun e w' => e = .returned (.iface 76 x) ∧ Below w.heap.size w w' := by
  go_enter Tryz.func190, Tryz.ntmps190
  go_wp2
  go_ret
  exact ⟨rfl, (Below.refl _ _).alloc (Nat.le_refl _) _⟩
set_option maxHeartbeats 400000 in
theorem is_Fault (x y z : Value) (n m : Int) (b : Bool) (w : World) (hx : x = .int .i64 n) (hb : (n == m) = b) :
    Calls Tryz.prog 123 #[.iface 79 (.agg #[x, y, z]), .iface 76 (.int .i64 m), .bool true] w fun e w' => e = .returned (.bool b) ∧ Below w.heap.size w w' := by
  subst hx
  have hty := run_eql_iface_types (P := Tryz.prog) 79 76 (.agg #[.int .i64 n, y, z]) (.int .i64 m) Tryz.underlying30 (by decide)
  have heq := eqlE n m
  rw [hb] at heq
  have nE := noIsE
  have uE := noUnwrapE
  have vE := noUnwrapsE
  have nR := noIsFault
  have uR := hasUnwrapFault
  have mR := methodUnwrapFault
  clear hb
  cases b
  all_goals
    go_enter Tryz.func123, Tryz.ntmps123
    go_wp2
    refine wp_loop_rounds 2 ?_
    rw [rounds_succ]
    go_wp2_with (go_at_call 190; refine (unwrapFault (.int .i64 n) y z _).mono ?_; rintro e w' ⟨rfl, hB⟩)
    rw [rounds_succ]
    go_wp2
    go_ret
    exact ⟨rfl, hB⟩

/-- an error value that is the number n, and no other, by errors.is -/
structure ErrIs (v : Value) (n : Int) : Prop where
  held : ∃ t x, v = .iface t x
  lo : 1 ≤ n
  hi : n ≤ 24
  is : ∀ (m : Int) (b : Bool) (w : World), (n == m) = b → Calls Tryz.prog 123 #[v, .iface 76 (.int .i64 m), .bool true] w fun e w' => e = .returned (.bool b) ∧ Below w.heap.size w w'
theorem errIs_errno (n : Int) (lo : 1 ≤ n) (hi : n ≤ 24) : ErrIs (.iface 76 (.int .i64 n)) n := by
  refine ⟨⟨_, _, rfl⟩, lo, hi, fun m b w hb => ?_⟩
  cases b
  · exact (is_errno_ne n m w hb).mono (fun e w' ⟨h, hw⟩ => ⟨h, hw ▸ Below.refl _ _⟩)
  · have := beq_iff_eq.1 hb
    subst this
    exact (is_errno_eq n w).mono (fun e w' ⟨h, hw⟩ => ⟨h, hw ▸ Below.refl _ _⟩)
theorem errIs_Ref (x y : Value) (n : Int) (hx : y = .int .i64 n) (lo : 1 ≤ n) (hi : n ≤ 24) : ErrIs (.iface 212 (.agg #[x, y])) n :=
  ⟨⟨_, _, rfl⟩, lo, hi, fun m b w hb => is_Ref x y n m b w hx hb⟩
theorem errIs_Pri (x y : Value) (n : Int) (hx : y = .int .i64 n) (lo : 1 ≤ n) (hi : n ≤ 24) : ErrIs (.iface 102 (.agg #[x, y])) n :=
  ⟨⟨_, _, rfl⟩, lo, hi, fun m b w hb => is_Pri x y n m b w hx hb⟩
theorem errIs_Fault (x y z : Value) (n : Int) (hx : x = .int .i64 n) (lo : 1 ≤ n) (hi : n ≤ 24) : ErrIs (.iface 79 (.agg #[x, y, z])) n :=
  ⟨⟨_, _, rfl⟩, lo, hi, fun m b w hb => is_Fault x y z n m b w hx hb⟩

theorem Is_any (v : Value) (n m : Int) (b : Bool) (w : World) (h : ErrIs v n) (hb : (n == m) = b) :
    Calls Tryz.prog 66 #[v, .iface 76 (.int .i64 m)] w fun e w' => e = .returned (.bool b) ∧ Below w.heap.size w w' := by
  obtain ⟨⟨t, x, rfl⟩, lo, hi, his⟩ := h
  have h8 := @run_callFunc_extern Tryz.prog 122 _ Extern.ReflectliteType.typeOf Tryz.func122 (by kernel_rfl) (by kernel_rfl) (by kernel_rfl) (by kernel_rfl)
  have h32 := @run_callFunc_extern Tryz.prog 202 _ cmpF Tryz.func202 (by kernel_rfl) (by kernel_rfl) (by kernel_rfl) (by kernel_rfl)
  have tT := isTypeOfE
  have cT := isComparableE
  have mR := isMethodComparable
  have HI := Lib.hid (his m b · hb)
  clear his hb lo hi
  go_enter Tryz.func66, Tryz.ntmps66
  go_wp2_with (go_at_call 123; refine (HI.out _).mono ?_; rintro e w' ⟨rfl, hB⟩)
  go_ret
  exact ⟨rfl, hB⟩

theorem num_nil (w : World) : Calls Tryz.prog 24 #[.nilIface] w fun e w' => e = .returned (.int .i64 0) ∧ w = w' := by
  go_enter Tryz.func24, Tryz.ntmps24
  go_wp2
  go_ret
  exact ⟨rfl, rfl⟩

set_option maxHeartbeats 800000 in
theorem num_any (v : Value) (n : Int) (w : World) (h : ErrIs v n) :
    Calls Tryz.prog 24 #[v] w fun e w' => e = .returned (.int .i64 n) ∧ Below w.heap.size w w' := by
  obtain ⟨⟨t, x, rfl⟩, lo, hi, _⟩ := id h
  go_enter Tryz.func24, Tryz.ntmps24
  go_wp2
  go_loopw [3, 4] (fun f i wr => ∃ k : Int, 1 ≤ k ∧ k ≤ 25 ∧ i = .int .i64 k ∧ f = .int .i64 (if n < k then n else 0) ∧ Below w.heap.size w wr) (fun _ i _ => (25 - intOf i).toNat)
  case atStart => exact ⟨1, by omega, by omega, rfl, by rw [if_neg (by omega)], Below.refl _ _⟩
  case round =>
    obtain ⟨k, hk1, hk2, rfl, rfl, hB⟩ := hrel
    by_cases hlt : k ≤ 24
    · by_cases he : n = k
      · subst he
        have e1 : (if n < n then n else 0) = 0 := if_neg (by omega)
        rw [e1]
        go_wp2_with (go_at_call 66; refine (Is_any _ n n true _ h (by simp)).mono ?_; rintro e w' ⟨rfl, hB1⟩)
        refine ⟨⟨n + 1, by omega, by omega, by go_num, by rw [if_pos (by omega)], hB.trans (hB1.mono hB.size)⟩, by simp [intOf]; omega⟩
      · have hne : (n == k) = false := by simpa using he
        generalize hf : (if n < k then n else 0) = f
        have hf2 : (if n < k + 1 then n else 0) = f := by
          rw [← hf]
          by_cases h1 : n < k
          · rw [if_pos h1, if_pos (by omega)]
          · rw [if_neg h1, if_neg (by omega)]
        have HF := Lib.hid hf2
        have HN := Lib.hid hne
        clear hf hf2 hne
        go_wp2_with (go_at_call 66; refine (Is_any _ n k false _ h HN.out).mono ?_; rintro e w' ⟨rfl, hB1⟩)
        refine ⟨⟨k + 1, by omega, by omega, by go_num, by rw [HF.out], hB.trans (hB1.mono hB.size)⟩, by simp [intOf]; omega⟩
    · have e1 : (if n < k then n else 0) = n := if_pos (by omega)
      rw [e1]
      have hn0 : (n == 0) = false := by simp; omega
      go_wp2_with (go_at_call 66; refine (Is_any _ n 0 false _ h (by simp; omega)).mono ?_; rintro e w' ⟨rfl, hB1⟩)
      go_ret
      exact ⟨rfl, hB.trans (hB1.mono hB.size)⟩
end Go.Proofs.YtmepjcnpbjdlkaaGreatDoor
/- errors.As at a *api.Fault, and custodykit's Plain, Place, At: by contract. -/
namespace Go.Proofs.YtmepjcnpbjdlkaaGreatDoor
set_option linter.unusedVariables false
set_option linter.unusedSimpArgs false
open Go.RowKit Go.Extern.Stop Go.Stop Go.Extern

/-- what the variable errors.errorType holds -/
def EType (w : World) : Prop := w.cell? ⟨1, 0, none⟩ = some (.iface 189 (.agg #[.pointer (some ⟨5, 30, none⟩)]))
theorem EType.lt {w : World} (h : EType w) : 1 < w.heap.size := block_lt_of_cell h
theorem EType.below {w w' : World} (h : EType w) (hb : Below w.heap.size w w') : EType w' := by
  have hl := h.lt
  unfold EType at *
  rw [hb.cell (p := ⟨1, 0, none⟩) hl]; exact h
theorem EType.alloc {w : World} (h : EType w) (o : Obj) : EType (w.alloc o) := h.below ((Below.refl _ _).alloc (Nat.le_refl _) _)

/-- the handle of api.Fault, as a reflectlite.Type -/
def faultT : Value := .iface 189 (.agg #[.pointer (some ⟨5, 79, none⟩)])

theorem methodKind (n : Nat) (h : Value) (w : World) : (Go.method (n + 1) 189 (.agg #[h]) "Kind").run Tryz.prog w = .ok (185, h) w := by kernel_rfl
theorem methodElem (n : Nat) (h : Value) (w : World) : (Go.method (n + 1) 189 (.agg #[h]) "Elem").run Tryz.prog w = .ok (203, .agg #[h]) w := by kernel_rfl
theorem methodImplements (n : Nat) (h : Value) (w : World) : (Go.method (n + 1) 189 (.agg #[h]) "Implements").run Tryz.prog w = .ok (204, .agg #[h]) w := by kernel_rfl
theorem methodAssignableTo (n : Nat) (h : Value) (w : World) : (Go.method (n + 1) 189 (.agg #[h]) "AssignableTo").run Tryz.prog w = .ok (201, .agg #[h]) w := by kernel_rfl

theorem valueOfP (t : Addr) (w : World) : (ReflectliteValue.unpack (.iface 81 (.pointer (some t)))).run Tryz.prog w
    = .ok (.agg #[.pointer (some ⟨5, 81, none⟩), .pointer (some ⟨w.heap.size, 0, none⟩), .int .u64 150]) (w.alloc (.cells #[.pointer (some t)] 81)) := by kernel_rfl
theorem typeP (a : Addr) (w : World) : (ReflectliteValue.methodAny (ReflectliteValue.valueError "reflectlite.Value.Type" 0) (fun t _ _ _ => ReflectliteType.toType t) #[.agg #[.pointer (some ⟨5, 81, none⟩), .pointer (some a), .int .u64 150]]).run Tryz.prog w
    = .ok (.iface 189 (.agg #[.pointer (some ⟨5, 81, none⟩)])) w := by kernel_rfl
def kindF : Array Value → Sem Value := ReflectliteType.abiMethod fun t => do pure (.int .u8 (← Rtype.kind t))
theorem kindP (w : World) : (kindF #[.pointer (some ⟨5, 81, none⟩)]).run Tryz.prog w = .ok (.int .u8 22) w := by kernel_rfl
theorem kindFault (w : World) : (kindF #[.pointer (some ⟨5, 79, none⟩)]).run Tryz.prog w = .ok (.int .u8 25) w := by kernel_rfl
def elemF : Array Value → Sem Value := ReflectliteType.method ReflectliteType.elem
theorem elemP (w : World) : (elemF #[.agg #[.pointer (some ⟨5, 81, none⟩)]]).run Tryz.prog w = .ok faultT w := by kernel_rfl
def implF : Array Value → Sem Value := ReflectliteType.relation "Implements" ReflectliteType.implements_
theorem implFault (w : World) : (implF #[.agg #[.pointer (some ⟨5, 79, none⟩)], .iface 189 (.agg #[.pointer (some ⟨5, 30, none⟩)])]).run Tryz.prog w = .ok (.bool true) w := by kernel_rfl
def assF : Array Value → Sem Value := ReflectliteType.relation "AssignableTo" ReflectliteType.assignableTo
def isNilF : Array Value → Sem Value := ReflectliteValue.method (ReflectliteValue.valueError "reflectlite.Value.IsNil" 0) ReflectliteValue.isNil
def elemVF : Array Value → Sem Value := ReflectliteValue.method (ReflectliteValue.valueError "reflectlite.Value.Elem" 0) ReflectliteValue.elem
def setF : Array Value → Sem Value := ReflectliteValue.set

theorem partsP (a : Addr) (w : World) : (ReflectliteValue.parts (.agg #[.pointer (some ⟨5, 81, none⟩), .pointer (some a), .int .u64 150])).run Tryz.prog w = .ok (some (81, a, 150)) w := by kernel_rfl
theorem rlm (z : Sem Value) (f : TypeId → Addr → Nat → Nat → Sem Value) (v : Value) :
    ReflectliteValue.method z f #[v] = (do match ← ReflectliteValue.parts v with | none => z | some (t, a, fl) => f t a fl (fl % 32)) := rfl
theorem isNilP (a p : Addr) (W : World) (ha : W.cell? a = some (.pointer (some p))) :
    (isNilF #[.agg #[.pointer (some ⟨5, 81, none⟩), .pointer (some a), .int .u64 150]]).run Tryz.prog W = .ok (.bool false) W := by
  unfold isNilF
  rw [rlm]
  simp only [Sem.run_bind, partsP, Result.andThen]
  simp [ReflectliteValue.isNil, loadVar, isAgg, underlying, Tryz.underlying81, ha, Result.andThen]
theorem elemOfP (w : World) : (Rtype.elem? 81).run Tryz.prog w = .ok (some 79) w := by kernel_rfl
theorem mkFault (p : Addr) (w : World) : (ReflectliteValue.mk 79 p ReflectliteValue.flagAddr).run Tryz.prog w = .ok (.agg #[.pointer (some ⟨5, 79, none⟩), .pointer (some p), .int .u64 409]) w := by kernel_rfl
theorem elemVP (a p : Addr) (W : World) (ha : W.cell? a = some (.pointer (some p))) :
    (elemVF #[.agg #[.pointer (some ⟨5, 81, none⟩), .pointer (some a), .int .u64 150]]).run Tryz.prog W
      = .ok (.agg #[.pointer (some ⟨5, 79, none⟩), .pointer (some p), .int .u64 409]) W := by
  unfold elemVF
  rw [rlm]
  simp only [Sem.run_bind, partsP, Result.andThen]
  simp [ReflectliteValue.elem, loadVar, isAgg, underlying, Tryz.underlying81, ha, Result.andThen, elemOfP, mkFault]
theorem rls (v x : Value) : setF #[v, x] = (do
    let (some (dst, a, fl), some (src, b, _)) := (← ReflectliteValue.parts v, ← ReflectliteValue.parts x)
      | unsupported (.noEntry "extern/(internal/reflectlite.Value).Set.zeroValue")
    if fl / ReflectliteValue.flagAddr % 2 == 0 then unsupported (.noEntry "extern/(internal/reflectlite.Value).Set.unaddressable")
    let val ← loadVar src b
    if ← Rtype.directlyAssignable dst src then storeVar dst a val
    else if ← Rtype.implements dst src then
      if (← Rtype.kind src) == 20 then
        match val with
        | .nilIface => unsupported (.noEntry "extern/reflectlite: a nil value of one interface type handed on as a value of another")
        | _ => storeVar dst a val
      else storeVar dst a (.iface src val)
    else panicString ("reflectlite.Set: value of type " ++ (← Rtype.spelt src) ++ " is not assignable to type " ++ (← Rtype.spelt dst))
    pure (.tuple #[])) := rfl
theorem partsFa (a : Addr) (w : World) : (ReflectliteValue.parts (.agg #[.pointer (some ⟨5, 79, none⟩), .pointer (some a), .int .u64 409])).run Tryz.prog w = .ok (some (79, a, 409)) w := by kernel_rfl
theorem partsF (a : Addr) (w : World) : (ReflectliteValue.parts (.agg #[.pointer (some ⟨5, 79, none⟩), .pointer (some a), .int .u64 153])).run Tryz.prog w = .ok (some (79, a, 153)) w := by kernel_rfl
theorem directF (w : World) : (Rtype.directlyAssignable 79 79).run Tryz.prog w = .ok true w := by kernel_rfl
theorem faultSize : (Tryz.prog.info? 79).map (·.size) = some 3 := by kernel_rfl
/-- Set: the Fault at 'tb' gets what the Value's own variable 'b' holds. -/
theorem setFault (tb b : Nat) (x y z : Value) (old : Array Value) (t2 : TypeId) (fr : Nat × Nat) (W : World) (hb : W.heap[b]? = some (.cells #[x, y, z] t2 fr)) (ht : W.heap[tb]? = some (.cells old 79 (0, 0))) (ho : old.size = 3)
    (h1 : #[x, y, z].all (·.oneCell') = true) :
    (setF #[.agg #[.pointer (some ⟨5, 79, none⟩), .pointer (some ⟨tb, 0, none⟩), .int .u64 409], .agg #[.pointer (some ⟨5, 79, none⟩), .pointer (some ⟨b, 0, none⟩), .int .u64 153]]).run Tryz.prog W
      = .ok (.tuple #[]) (W.setRow tb #[x, y, z]) := by
  rw [rls]
  have hl := run_loadVar_row (P := Tryz.prog) W b t2 79 #[x, y, z] fr _ hb Tryz.underlying79 rfl faultSize
  have hs := run_storeVar_row (P := Tryz.prog) W tb 79 79 old #[x, y, z] ht faultSize (by simpa using ho) h1
  simp only [Sem.run_bind, partsFa, partsF, Result.andThen]
  simp [ReflectliteValue.flagAddr, hl, Result.andThen, directF, hs]
theorem valueOfF (x y z : Value) (w : World) : (ReflectliteValue.unpack (.iface 79 (.agg #[x, y, z]))).run Tryz.prog w
    = .ok (.agg #[.pointer (some ⟨5, 79, none⟩), .pointer (some ⟨w.heap.size, 0, none⟩), .int .u64 153]) (w.alloc (.cells #[x, y, z] 79)) := by kernel_rfl
theorem typeOfE (v : Value) (w : World) : (Extern.ReflectliteType.typeOf #[.iface 76 v]).run Tryz.prog w = .ok (.iface 189 (.agg #[.pointer (some ⟨5, 76, none⟩)])) w := by kernel_rfl
theorem assE (w : World) : (assF #[.agg #[.pointer (some ⟨5, 76, none⟩)], faultT]).run Tryz.prog w = .ok (.bool false) w := by kernel_rfl
theorem typeOfRef (v : Value) (w : World) : (Extern.ReflectliteType.typeOf #[.iface 212 v]).run Tryz.prog w = .ok (.iface 189 (.agg #[.pointer (some ⟨5, 212, none⟩)])) w := by kernel_rfl
theorem assRef (w : World) : (assF #[.agg #[.pointer (some ⟨5, 212, none⟩)], faultT]).run Tryz.prog w = .ok (.bool false) w := by kernel_rfl
theorem typeOfPri (v : Value) (w : World) : (Extern.ReflectliteType.typeOf #[.iface 102 v]).run Tryz.prog w = .ok (.iface 189 (.agg #[.pointer (some ⟨5, 102, none⟩)])) w := by kernel_rfl
theorem assPri (w : World) : (assF #[.agg #[.pointer (some ⟨5, 102, none⟩)], faultT]).run Tryz.prog w = .ok (.bool false) w := by kernel_rfl
theorem typeOfFault (v : Value) (w : World) : (Extern.ReflectliteType.typeOf #[.iface 79 v]).run Tryz.prog w = .ok (.iface 189 (.agg #[.pointer (some ⟨5, 79, none⟩)])) w := by kernel_rfl
theorem assFault (w : World) : (assF #[.agg #[.pointer (some ⟨5, 79, none⟩)], faultT]).run Tryz.prog w = .ok (.bool true) w := by kernel_rfl

set_option maxHeartbeats 1000000 in
theorem as_errno (n a b c tgt : Value) (w : World) :
    Calls Tryz.prog 96 #[.iface 76 n, tgt, .agg #[a, b, c], faultT] w fun e w' => e = .returned (.bool false) ∧ Below w.heap.size w w' := by
  have h8 := @run_callFunc_extern Tryz.prog 122 _ Extern.ReflectliteType.typeOf Tryz.func122 (by kernel_rfl) (by kernel_rfl) (by kernel_rfl) (by kernel_rfl)
  have h35 := @run_callFunc_extern Tryz.prog 201 _ assF Tryz.func201 (by kernel_rfl) (by kernel_rfl) (by kernel_rfl) (by kernel_rfl)
  have tO := typeOfE
  have mA := methodAssignableTo
  have aE := assE
  have nE := noAsE
  have uE := noUnwrapE
  have vE := noUnwrapsE
  go_enter Tryz.func96, Tryz.ntmps96
  go_wp2
  refine wp_loop_rounds 1 ?_
  rw [rounds_succ]
  go_wp2
  go_ret
  exact ⟨rfl, (Below.refl _ _).alloc (Nat.le_refl _) _⟩
set_option maxHeartbeats 2000000 in
theorem as_Ref (x y a b c tgt : Value) (w : World) :
    Calls Tryz.prog 96 #[.iface 212 (.agg #[x, y]), tgt, .agg #[a, b, c], faultT] w fun e w' => e = .returned (.bool false) ∧ Below w.heap.size w w' := by
  have h8 := @run_callFunc_extern Tryz.prog 122 _ Extern.ReflectliteType.typeOf Tryz.func122 (by kernel_rfl) (by kernel_rfl) (by kernel_rfl) (by kernel_rfl)
  have h35 := @run_callFunc_extern Tryz.prog 201 _ assF Tryz.func201 (by kernel_rfl) (by kernel_rfl) (by kernel_rfl) (by kernel_rfl)
  have tO := typeOfE
  have tR := typeOfRef
  have mA := methodAssignableTo
  have aE := assE
  have aR := assRef
  have nE := noAsE
  have uE := noUnwrapE
  have vE := noUnwrapsE
  have nR := noAsRef
  have uR := hasUnwrapRef
  have mR := methodUnwrapRef
  go_enter Tryz.func96, Tryz.ntmps96
  go_wp2
  refine wp_loop_rounds 2 ?_
  rw [rounds_succ]
  go_wp2_with (go_at_call 227; refine (unwrapRef x y _).mono ?_; rintro e w' ⟨rfl, hB⟩)
  rw [rounds_succ]
  go_wp2
  go_ret
  exact ⟨rfl, ((Below.refl _ _).alloc (Nat.le_refl _) _).trans (hB.mono (by simp))⟩
set_option maxHeartbeats 2000000 in
theorem as_Pri (x y a b c tgt : Value) (w : World) :
    Calls Tryz.prog 96 #[.iface 102 (.agg #[x, y]), tgt, .agg #[a, b, c], faultT] w fun e w' => e = .returned (.bool false) ∧ Below w.heap.size w w' := by
  have h8 := @run_callFunc_extern Tryz.prog 122 _ Extern.ReflectliteType.typeOf Tryz.func122 (by kernel_rfl) (by kernel_rfl) (by kernel_rfl) (by kernel_rfl)
  have h35 := @run_callFunc_extern Tryz.prog 201 _ assF Tryz.func201 (by kernel_rfl) (by kernel_rfl) (by kernel_rfl) (by kernel_rfl)
  have tO := typeOfE
  have tR := typeOfPri
  have mA := methodAssignableTo
  have aE := assE
  have aR := assPri
  have nE := noAsE
  have uE := noUnwrapE
  have vE := noUnwrapsE
  have nR := noAsPri
  have uR := hasUnwrapPri
  have mR := methodUnwrapPri
  go_enter Tryz.func96, Tryz.ntmps96
  go_wp2
  refine wp_loop_rounds 2 ?_
  rw [rounds_succ]
  go_wp2_with (go_at_call 192; refine (unwrapPri x y _).mono ?_; rintro e w' ⟨rfl, hB⟩)
  rw [rounds_succ]
  go_wp2
  go_ret
  exact ⟨rfl, ((Below.refl _ _).alloc (Nat.le_refl _) _).trans (hB.mono (by simp))⟩
set_option maxHeartbeats 2000000 in
theorem as_fault (x y z : Value) (tb vb : Nat) (tgt : Value) (old : Array Value) (w : World) (hx : #[x, y, z].all (·.oneCell') = true)
    (ht : w.heap[tb]? = some (.cells old 79 (0, 0))) (ho : old.size = 3) (hv : w.heap[vb]? = some (.cells #[.pointer (some ⟨tb, 0, none⟩)] 81 (0, 0))) :
    Calls Tryz.prog 96 #[.iface 79 (.agg #[x, y, z]), tgt, .agg #[.pointer (some ⟨5, 81, none⟩), .pointer (some ⟨vb, 0, none⟩), .int .u64 150], faultT] w
      fun e w' => e = .returned (.bool true) ∧ w'.heap[tb]? = some (.cells #[x, y, z] 79 (0, 0)) ∧ Below tb w w' := by
  have htl : tb < w.heap.size := lt_of_block ht
  have hvl : vb < w.heap.size := lt_of_block hv
  have h8 := @run_callFunc_extern Tryz.prog 122 _ Extern.ReflectliteType.typeOf Tryz.func122 (by kernel_rfl) (by kernel_rfl) (by kernel_rfl) (by kernel_rfl)
  have h35 := @run_callFunc_extern Tryz.prog 201 _ assF Tryz.func201 (by kernel_rfl) (by kernel_rfl) (by kernel_rfl) (by kernel_rfl)
  have h6 := @run_callFunc_extern Tryz.prog 93 _ (fun args => ReflectliteValue.unpack (args.getD 0 (.tuple #[]))) Tryz.func93 (by kernel_rfl) (by kernel_rfl) (by kernel_rfl) (by kernel_rfl)
  have h11 := @run_callFunc_extern Tryz.prog 131 _ elemVF Tryz.func131 (by kernel_rfl) (by kernel_rfl) (by kernel_rfl) (by kernel_rfl)
  have h12 := @run_callFunc_extern Tryz.prog 132 _ setF Tryz.func132 (by kernel_rfl) (by kernel_rfl) (by kernel_rfl) (by kernel_rfl)
  have tO := typeOfFault
  have mA := methodAssignableTo
  have aF := assFault
  have vF := valueOfF x y z
  obtain ⟨bx, hbx⟩ : ∃ bx : Obj, bx = .cells #[.pointer (some ⟨5, 81, none⟩), .pointer (some ⟨vb, 0, none⟩), .int .u64 150] 140 := ⟨_, rfl⟩
  have el := elemVP ⟨vb, 0, none⟩ ⟨tb, 0, none⟩ (w.alloc bx) (by rw [World.cell?_alloc_past _ _ _ hvl]; exact cell_of_one hv)
  have st := setFault tb (w.heap.size + 1) x y z old 79 (0, 0) ((w.alloc bx).alloc (.cells #[x, y, z] 79)) (heap_alloc2_new _ _ _) (by rw [heap_alloc_old _ _ (by simp; omega), heap_alloc_old _ _ htl]; exact ht) ho hx
  rw [hbx] at el st
  clear hbx
  go_enter Tryz.func96, Tryz.ntmps96
  go_wp2
  refine wp_loop_rounds 1 ?_
  rw [rounds_succ]
  go_wp2
  go_ret
  refine ⟨rfl, setRow_heap _ _ _ _ _ _ (by rw [heap_alloc_old _ _ (by simp; omega), heap_alloc_old _ _ htl]; exact ht), ?_⟩
  exact below_setRow (((Below.refl _ _).alloc (by omega) _).alloc (by simp; omega) _) (Nat.le_refl _) _
end Go.Proofs.YtmepjcnpbjdlkaaGreatDoor
/- errors.As at a *api.Fault; custodykit's Plain, Place, At: by contract. -/
namespace Go.Proofs.YtmepjcnpbjdlkaaGreatDoor
set_option linter.unusedVariables false
set_option linter.unusedSimpArgs false
open Go.RowKit Go.Extern.Stop Go.Stop Go.Extern

/-- an error value in which errors.as finds no api.Fault -/
structure ErrNoPlace (v : Value) : Prop where
  held : ∃ t x, v = .iface t x
  noAs : ∀ (a b c tgt : Value) (w : World), Calls Tryz.prog 96 #[v, tgt, .agg #[a, b, c], faultT] w fun e w' => e = .returned (.bool false) ∧ Below w.heap.size w w'
theorem noPlace_errno (n : Value) : ErrNoPlace (.iface 76 n) := ⟨⟨_, _, rfl⟩, fun a b c tgt w => as_errno n a b c tgt w⟩
theorem noPlace_Ref (x y : Value) : ErrNoPlace (.iface 212 (.agg #[x, y])) := ⟨⟨_, _, rfl⟩, fun a b c tgt w => as_Ref x y a b c tgt w⟩
theorem noPlace_Pri (x y : Value) : ErrNoPlace (.iface 102 (.agg #[x, y])) := ⟨⟨_, _, rfl⟩, fun a b c tgt w => as_Pri x y a b c tgt w⟩
theorem below_setCell_ge {B : Nat} {a w : World} (h : Below B a w) {p : Addr} (hp : B ≤ p.block) (u : Value) : Below B a (w.setCell p u) := h.setCell hp u

set_option maxHeartbeats 4000000 in
/-- errors.As(v, &f) up to its call of errors.as: what that call answers, As answers. -/
theorem As_any (t : TypeId) (x : Value) (tb : Nat) (b : Bool) (old : Array Value) (w : World) (hT : EType w)
    (ht : w.heap[tb]? = some (.cells old 79 (0, 0))) (R : World → Prop)
    (has : ∀ w1 : World, Below w.heap.size w w1 → w1.heap[w.heap.size]? = some (.cells #[.pointer (some ⟨tb, 0, none⟩)] 81 (0, 0)) →
      Calls Tryz.prog 96 #[.iface t x, .iface 81 (.pointer (some ⟨tb, 0, none⟩)), .agg #[.pointer (some ⟨5, 81, none⟩), .pointer (some ⟨w.heap.size, 0, none⟩), .int .u64 150], faultT] w1
        fun e w' => e = .returned (.bool b) ∧ R w') :
    Calls Tryz.prog 43 #[.iface t x, .iface 81 (.pointer (some ⟨tb, 0, none⟩))] w
      fun e w' => e = .returned (.bool b) ∧ R w' := by
  have HAS := Lib.hid has
  clear has
  have h6 := @run_callFunc_extern Tryz.prog 93 _ (fun args => ReflectliteValue.unpack (args.getD 0 (.tuple #[]))) Tryz.func93 (by kernel_rfl) (by kernel_rfl) (by kernel_rfl) (by kernel_rfl)
  have h7 := @run_callFunc_extern Tryz.prog 94 _ (ReflectliteValue.methodAny (ReflectliteValue.valueError "reflectlite.Value.Type" 0) (fun t _ _ _ => ReflectliteType.toType t)) Tryz.func94 (by kernel_rfl) (by kernel_rfl) (by kernel_rfl) (by kernel_rfl)
  have h8 := @run_callFunc_extern Tryz.prog 95 _ isNilF Tryz.func95 (by kernel_rfl) (by kernel_rfl) (by kernel_rfl) (by kernel_rfl)
  have h27 := @run_callFunc_extern Tryz.prog 185 _ kindF Tryz.func185 (by kernel_rfl) (by kernel_rfl) (by kernel_rfl) (by kernel_rfl)
  have h37 := @run_callFunc_extern Tryz.prog 203 _ elemF Tryz.func203 (by kernel_rfl) (by kernel_rfl) (by kernel_rfl) (by kernel_rfl)
  have h38 := @run_callFunc_extern Tryz.prog 204 _ implF Tryz.func204 (by kernel_rfl) (by kernel_rfl) (by kernel_rfl) (by kernel_rfl)
  have vP := valueOfP ⟨tb, 0, none⟩
  have tP := typeP
  have mK := methodKind
  have mE := methodElem
  have mI := methodImplements
  have k1 := kindP
  have k2 := kindFault
  have e1 := elemP
  unfold faultT at e1
  have i1 := implFault
  have n8 := isNilP ⟨w.heap.size, 0, none⟩ ⟨tb, 0, none⟩ ((w.alloc (.cells #[.pointer (some ⟨tb, 0, none⟩)] 81)).alloc (.cells #[.pointer (some ⟨5, 81, none⟩), .pointer (some ⟨w.heap.size, 0, none⟩), .int .u64 150] 140)) (by simp)
  have hg2 : ((w.alloc (.cells #[.pointer (some ⟨tb, 0, none⟩)] 81)).alloc (.cells #[.pointer (some ⟨5, 81, none⟩), .pointer (some ⟨w.heap.size, 0, none⟩), .int .u64 150] 140)).cell? ⟨1, 0, none⟩ = some (.iface 189 (.agg #[.pointer (some ⟨5, 30, none⟩)])) := ((hT.alloc _).alloc _)
  have HT := Lib.hid hT
  have Ht := Lib.hid ht
  clear hT ht
  go_enter Tryz.func43, Tryz.ntmps43
  go_wp2_with fail
  refine (HAS.out _ ?hb ?hc).mono ?_
  rotate_left 2
  rintro e w' ⟨rfl, hR⟩
  go_wp2_with fail
  · go_ret
    exact ⟨rfl, hR⟩
  · exact ((Below.refl _ _).alloc (Nat.le_refl _) _).alloc (by simp) _
  · exact heap_alloc2_old _ _ _

/-- an error value: none (0); a number without a place; a number with a place -/
inductive ErrP : Value → Int → Option (Int × Int) → Prop
  | nil : ErrP .nilIface 0 none
  | plain {v : Value} {n : Int} (h : ErrIs v n) (h2 : ErrNoPlace v) : ErrP v n none
  | fault {n l a : Int} (lo : 1 ≤ n) (hi : n ≤ 24) : ErrP (.iface 79 (.agg #[.int .i64 n, .int .i64 l, .int .i64 a])) n (some (l, a))
theorem errP_errno {n : Int} (lo : 1 ≤ n) (hi : n ≤ 24) : ErrP (.iface 76 (.int .i64 n)) n none := .plain (errIs_errno n lo hi) (noPlace_errno _)
theorem errIs_faultN {n l a : Int} (lo : 1 ≤ n) (hi : n ≤ 24) : ErrIs (.iface 79 (.agg #[.int .i64 n, .int .i64 l, .int .i64 a])) n := errIs_Fault (.int .i64 n) (.int .i64 l) (.int .i64 a) n rfl lo hi

theorem As_no (v : Value) (tb : Nat) (old : Array Value) (w : World) (h : ErrNoPlace v) (hT : EType w) (ht : w.heap[tb]? = some (.cells old 79 (0, 0))) :
    Calls Tryz.prog 43 #[v, .iface 81 (.pointer (some ⟨tb, 0, none⟩))] w
      fun e w' => e = .returned (.bool false) ∧ Below w.heap.size w w' := by
  obtain ⟨⟨t, x, rfl⟩, hno⟩ := h
  exact As_any t x tb false old w hT ht (fun w' => Below w.heap.size w w') (fun w1 hb _ => (hno _ _ _ _ _).mono (fun e w' ⟨h1, h2⟩ => ⟨h1, hb.trans (h2.mono hb.size)⟩))
theorem As_yes (n l a : Int) (tb : Nat) (old : Array Value) (w : World) (hT : EType w) (ht : w.heap[tb]? = some (.cells old 79 (0, 0))) (ho : old.size = 3) :
    Calls Tryz.prog 43 #[.iface 79 (.agg #[.int .i64 n, .int .i64 l, .int .i64 a]), .iface 81 (.pointer (some ⟨tb, 0, none⟩))] w
      fun e w' => e = .returned (.bool true) ∧ w'.heap[tb]? = some (.cells #[.int .i64 n, .int .i64 l, .int .i64 a] 79 (0, 0)) ∧ Below tb w w' ∧ w.heap.size ≤ w'.heap.size := by
  have htl := lt_of_block ht
  refine As_any _ _ tb true old w hT ht (fun w' => w'.heap[tb]? = some (.cells #[.int .i64 n, .int .i64 l, .int .i64 a] 79 (0, 0)) ∧ Below tb w w' ∧ w.heap.size ≤ w'.heap.size) (fun w1 hb hv => ?_)
  refine (as_fault _ _ _ tb w.heap.size _ old w1 (by simp [Value.oneCell']) (blk_below hb ht htl) ho hv).mono ?_
  rintro e w' ⟨h1, h2, h3⟩
  exact ⟨h1, h2, (hb.mono (by omega)).trans h3, Nat.le_trans hb.size h3.size⟩

set_option maxHeartbeats 1000000 in
theorem plain_any (v : Value) (n m : Int) (pl : Option (Int × Int)) (b : Bool) (w : World) (h : ErrP v n pl) (hb : (n == m && pl.isNone) = b) (hT : EType w) :
    Calls Tryz.prog 13 #[v, .int .i64 m] w fun e w' => e = .returned (.bool b) ∧ Below w.heap.size w w' := by
  have HT := Lib.hid hT
  clear hT
  have hblk := heap_alloc_new w (.cells #[.int .i64 0, .int .i64 0, .int .i64 0] 79)
  cases h with
  | nil =>
    simp only [Option.isNone_none, Bool.and_true] at hb
    clear hblk
    cases b
    all_goals
      go_enter Tryz.func13, Tryz.ntmps13
      go_wp2_with (go_at_call 24; refine (num_nil _).mono ?_; rintro e w' ⟨rfl, rfl⟩)
      go_ret
      exact ⟨rfl, (Below.refl _ _).alloc (Nat.le_refl _) _⟩
  | plain h h2 =>
    simp only [Option.isNone_none, Bool.and_true] at hb
    obtain ⟨t, x, rfl⟩ := h.held
    have HB := Lib.hid hblk
    clear hblk
    cases b
    · go_enter Tryz.func13, Tryz.ntmps13
      go_wp2_with (go_at_call 24; refine (num_any _ n _ h).mono ?_; rintro e w' ⟨rfl, hB1⟩)
      go_ret
      exact ⟨rfl, ((Below.refl _ _).alloc (Nat.le_refl _) _).trans (hB1.mono (by simp))⟩
    · go_enter Tryz.func13, Tryz.ntmps13
      go_wp2_with (go_at_call 24; refine (num_any _ n _ h).mono ?_; rintro e w1 ⟨rfl, hB1⟩)
      refine (As_no _ w.heap.size _ _ h2 ((HT.out.alloc _).below hB1) (blk_below hB1 HB.out (by simp))).mono ?_
      rintro e w2 ⟨rfl, hB2⟩
      go_wp2
      go_ret
      exact ⟨rfl, ((Below.refl _ _).alloc (Nat.le_refl _) _).trans ((hB1.trans (hB2.mono hB1.size)).mono (by simp))⟩
  | fault lo hi =>
    rename_i l a
    simp only [Option.isNone_some, Bool.and_false] at hb
    subst hb
    have HB := Lib.hid hblk
    clear hblk
    by_cases hnm : n = m
    · have hnm' : (n == m) = true := by simpa using hnm
      clear hnm
      go_enter Tryz.func13, Tryz.ntmps13
      go_wp2_with (go_at_call 24; refine (num_any _ n _ (errIs_faultN lo hi)).mono ?_; rintro e w1 ⟨rfl, hB1⟩)
      refine (As_yes n l a w.heap.size _ _ ((HT.out.alloc _).below hB1) (blk_below hB1 HB.out (by simp)) rfl).mono ?_
      rintro e w2 ⟨rfl, _, hB2, _⟩
      go_wp2
      go_ret
      exact ⟨rfl, ((Below.refl _ _).alloc (Nat.le_refl _) _).trans ((hB1.mono (by simp)).trans hB2)⟩
    · have hnm' : (n == m) = false := by simpa using hnm
      clear hnm
      go_enter Tryz.func13, Tryz.ntmps13
      go_wp2_with (go_at_call 24; refine (num_any _ n _ (errIs_faultN lo hi)).mono ?_; rintro e w1 ⟨rfl, hB1⟩)
      go_ret
      exact ⟨rfl, ((Below.refl _ _).alloc (Nat.le_refl _) _).trans (hB1.mono (by simp))⟩
end Go.Proofs.YtmepjcnpbjdlkaaGreatDoor
/- custodykit's Place and At: by contract. -/
namespace Go.Proofs.YtmepjcnpbjdlkaaGreatDoor
set_option linter.unusedVariables false
set_option linter.unusedSimpArgs false
open Go.RowKit Go.Extern.Stop Go.Stop Go.Extern

end Go.Proofs.YtmepjcnpbjdlkaaGreatDoor
