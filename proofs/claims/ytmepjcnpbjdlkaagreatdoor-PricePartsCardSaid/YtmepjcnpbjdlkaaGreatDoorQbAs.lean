/- texts of this claim, laid together: As. -/
import Derived.Test.YtmepjcnpbjdlkaaGreatDoorQbErr
/- errors.As at a *api.Fault, and custodykit's Plain, Place, At: by contract. -/
namespace Go.Proofs.YtmepjcnpbjdlkaaGreatDoor
set_option linter.unusedVariables false
set_option linter.unusedSimpArgs false
open Go.RowKit Go.Extern.Stop Go.Stop Go.Extern

/-- what the variable errors.errorType holds -/
def EType (w : World) : Prop := w.cell? ⟨1, 0, none⟩ = some (.iface 189 (.agg #[.pointer (some ⟨5, 30, none⟩)]))
theorem EType.lt {w : World} (h : EType w) : 1 < w.heap.size := block_lt_of_cell h
theorem EType.below {w w' : World} (h : EType w) (hb : Below w.heap.size w w') : EType w' := by
  have hl := h.lt
  unfold EType at *
  rw [hb.cell (p := ⟨1, 0, none⟩) hl]; exact h
theorem EType.alloc {w : World} (h : EType w) (o : Obj) : EType (w.alloc o) := h.below ((Below.refl _ _).alloc (Nat.le_refl _) _)

/-- the handle of api.Fault, as a reflectlite.Type -/
def faultT : Value := .iface 189 (.agg #[.pointer (some ⟨5, 79, none⟩)])

theorem methodKind (n : Nat) (h : Value) (w : World) : (Go.method (n + 1) 189 (.agg #[h]) "Kind").run Tryz.prog w = .ok (185, h) w := by kernel_rfl
theorem methodElem (n : Nat) (h : Value) (w : World) : (Go.method (n + 1) 189 (.agg #[h]) "Elem").run Tryz.prog w = .ok (203, .agg #[h]) w := by kernel_rfl
theorem methodImplements (n : Nat) (h : Value) (w : World) : (Go.method (n + 1) 189 (.agg #[h]) "Implements").run Tryz.prog w = .ok (204, .agg #[h]) w := by kernel_rfl
theorem methodAssignableTo (n : Nat) (h : Value) (w : World) : (Go.method (n + 1) 189 (.agg #[h]) "AssignableTo").run Tryz.prog w = .ok (201, .agg #[h]) w := by kernel_rfl

theorem valueOfP (t : Addr) (w : World) : (ReflectliteValue.unpack (.iface 81 (.pointer (some t)))).run Tryz.prog w
    = .ok (.agg #[.pointer (some ⟨5, 81, none⟩), .pointer (some ⟨w.heap.size, 0, none⟩), .int .u64 150]) (w.alloc (.cells #[.pointer (some t)] 81)) := by kernel_rfl
theorem typeP (a : Addr) (w : World) : (ReflectliteValue.methodAny (ReflectliteValue.valueError "reflectlite.Value.Type" 0) (fun t _ _ _ => ReflectliteType.toType t) #[.agg #[.pointer (some ⟨5, 81, none⟩), .pointer (some a), .int .u64 150]]).run Tryz.prog w
    = .ok (.iface 189 (.agg #[.pointer (some ⟨5, 81, none⟩)])) w := by kernel_rfl
def kindF : Array Value → Sem Value := ReflectliteType.abiMethod fun t => do pure (.int .u8 (← Rtype.kind t))
theorem kindP (w : World) : (kindF #[.pointer (some ⟨5, 81, none⟩)]).run Tryz.prog w = .ok (.int .u8 22) w := by kernel_rfl
theorem kindFault (w : World) : (kindF #[.pointer (some ⟨5, 79, none⟩)]).run Tryz.prog w = .ok (.int .u8 25) w := by kernel_rfl
def elemF : Array Value → Sem Value := ReflectliteType.method ReflectliteType.elem
theorem elemP (w : World) : (elemF #[.agg #[.pointer (some ⟨5, 81, none⟩)]]).run Tryz.prog w = .ok faultT w := by kernel_rfl
def implF : Array Value → Sem Value := ReflectliteType.relation "Implements" ReflectliteType.implements_
theorem implFault (w : World) : (implF #[.agg #[.pointer (some ⟨5, 79, none⟩)], .iface 189 (.agg #[.pointer (some ⟨5, 30, none⟩)])]).run Tryz.prog w = .ok (.bool true) w := by kernel_rfl
def assF : Array Value → Sem Value := ReflectliteType.relation "AssignableTo" ReflectliteType.assignableTo
def isNilF : Array Value → Sem Value := ReflectliteValue.method (ReflectliteValue.valueError "reflectlite.Value.IsNil" 0) ReflectliteValue.isNil
def elemVF : Array Value → Sem Value := ReflectliteValue.method (ReflectliteValue.valueError "reflectlite.Value.Elem" 0) ReflectliteValue.elem
def setF : Array Value → Sem Value := ReflectliteValue.set

theorem partsP (a : Addr) (w : World) : (ReflectliteValue.parts (.agg #[.pointer (some ⟨5, 81, none⟩), .pointer (some a), .int .u64 150])).run Tryz.prog w = .ok (some (81, a, 150)) w := by kernel_rfl
theorem rlm (z : Sem Value) (f : TypeId → Addr → Nat → Nat → Sem Value) (v : Value) :
    ReflectliteValue.method z f #[v] = (do match ← ReflectliteValue.parts v with | none => z | some (t, a, fl) => f t a fl (fl % 32)) := rfl
theorem isNilP (a p : Addr) (W : World) (ha : W.cell? a = some (.pointer (some p))) :
    (isNilF #[.agg #[.pointer (some ⟨5, 81, none⟩), .pointer (some a), .int .u64 150]]).run Tryz.prog W = .ok (.bool false) W := by
  unfold isNilF
  rw [rlm]
  simp only [Sem.run_bind, partsP, Result.andThen]
  simp [ReflectliteValue.isNil, loadVar, isAgg, underlying, Tryz.underlying81, ha, Result.andThen]
theorem elemOfP (w : World) : (Rtype.elem? 81).run Tryz.prog w = .ok (some 79) w := by kernel_rfl
theorem mkFault (p : Addr) (w : World) : (ReflectliteValue.mk 79 p ReflectliteValue.flagAddr).run Tryz.prog w = .ok (.agg #[.pointer (some ⟨5, 79, none⟩), .pointer (some p), .int .u64 409]) w := by kernel_rfl
theorem elemVP (a p : Addr) (W : World) (ha : W.cell? a = some (.pointer (some p))) :
    (elemVF #[.agg #[.pointer (some ⟨5, 81, none⟩), .pointer (some a), .int .u64 150]]).run Tryz.prog W
      = .ok (.agg #[.pointer (some ⟨5, 79, none⟩), .pointer (some p), .int .u64 409]) W := by
  unfold elemVF
  rw [rlm]
  simp only [Sem.run_bind, partsP, Result.andThen]
  simp [ReflectliteValue.elem, loadVar, isAgg, underlying, Tryz.underlying81, ha, Result.andThen, elemOfP, mkFault]
theorem rls (v x : Value) : setF #[v, x] = (do
    let (some (dst, a, fl), some (src, b, _)) := (← ReflectliteValue.parts v, ← ReflectliteValue.parts x)
      | unsupported (.noEntry "extern/(internal/reflectlite.Value).Set.zeroValue")
    if fl / ReflectliteValue.flagAddr % 2 == 0 then unsupported (.noEntry "extern/(internal/reflectlite.Value).Set.unaddressable")
    let val ← loadVar src b
    if ← Rtype.directlyAssignable dst src then storeVar dst a val
    else if ← Rtype.implements dst src then
      if (← Rtype.kind src) == 20 then
        match val with
        | .nilIface => unsupported (.noEntry "extern/reflectlite: a nil value of one interface type handed on as a value of another")
        | _ => storeVar dst a val
      else storeVar dst a (.iface src val)
    else panicString ("reflectlite.Set: value of type " ++ (← Rtype.spelt src) ++ " is not assignable to type " ++ (← Rtype.spelt dst))
    pure (.tuple #[])) := rfl
theorem partsFa (a : Addr) (w : World) : (ReflectliteValue.parts (.agg #[.pointer (some ⟨5, 79, none⟩), .pointer (some a), .int .u64 409])).run Tryz.prog w = .ok (some (79, a, 409)) w := by kernel_rfl
theorem partsF (a : Addr) (w : World) : (ReflectliteValue.parts (.agg #[.pointer (some ⟨5, 79, none⟩), .pointer (some a), .int .u64 153])).run Tryz.prog w = .ok (some (79, a, 153)) w := by kernel_rfl
theorem directF (w : World) : (Rtype.directlyAssignable 79 79).run Tryz.prog w = .ok true w := by kernel_rfl
theorem faultSize : (Tryz.prog.info? 79).map (·.size) = some 3 := by kernel_rfl
/-- Set: the Fault at 'tb' gets what the Value's own variable 'b' holds. -/
theorem setFault (tb b : Nat) (x y z : Value) (old : Array Value) (t2 : TypeId) (fr : Nat × Nat) (W : World) (hb : W.heap[b]? = some (.cells #[x, y, z] t2 fr)) (ht : W.heap[tb]? = some (.cells old 79 (0, 0))) (ho : old.size = 3)
    (h1 : #[x, y, z].all (·.oneCell') = true) :
    (setF #[.agg #[.pointer (some ⟨5, 79, none⟩), .pointer (some ⟨tb, 0, none⟩), .int .u64 409], .agg #[.pointer (some ⟨5, 79, none⟩), .pointer (some ⟨b, 0, none⟩), .int .u64 153]]).run Tryz.prog W
      = .ok (.tuple #[]) (W.setRow tb #[x, y, z]) := by
  rw [rls]
  have hl := run_loadVar_row (P := Tryz.prog) W b t2 79 #[x, y, z] fr _ hb Tryz.underlying79 rfl faultSize
  have hs := run_storeVar_row (P := Tryz.prog) W tb 79 79 old #[x, y, z] ht faultSize (by simpa using ho) h1
  simp only [Sem.run_bind, partsFa, partsF, Result.andThen]
  simp [ReflectliteValue.flagAddr, hl, Result.andThen, directF, hs]
theorem valueOfF (x y z : Value) (w : World) : (ReflectliteValue.unpack (.iface 79 (.agg #[x, y, z]))).run Tryz.prog w
    = .ok (.agg #[.pointer (some ⟨5, 79, none⟩), .pointer (some ⟨w.heap.size, 0, none⟩), .int .u64 153]) (w.alloc (.cells #[x, y, z] 79)) := by kernel_rfl
theorem typeOfE (v : Value) (w : World) : (Extern.ReflectliteType.typeOf #[.iface 76 v]).run Tryz.prog w = .ok (.iface 189 (.agg #[.pointer (some ⟨5, 76, none⟩)])) w := by kernel_rfl
theorem assE (w : World) : (assF #[.agg #[.pointer (some ⟨5, 76, none⟩)], faultT]).run Tryz.prog w = .ok (.bool false) w := by kernel_rfl
theorem typeOfRef (v : Value) (w : World) : (Extern.ReflectliteType.typeOf #[.iface 212 v]).run Tryz.prog w = .ok (.iface 189 (.agg #[.pointer (some ⟨5, 212, none⟩)])) w := by kernel_rfl
theorem assRef (w : World) : (assF #[.agg #[.pointer (some ⟨5, 212, none⟩)], faultT]).run Tryz.prog w = .ok (.bool false) w := by kernel_rfl
theorem typeOfPri (v : Value) (w : World) : (Extern.ReflectliteType.typeOf #[.iface 102 v]).run Tryz.prog w = .ok (.iface 189 (.agg #[.pointer (some ⟨5, 102, none⟩)])) w := by kernel_rfl
theorem assPri (w : World) : (assF #[.agg #[.pointer (some ⟨5, 102, none⟩)], faultT]).run Tryz.prog w = .ok (.bool false) w := by kernel_rfl
theorem typeOfAmo (v : Value) (w : World) : (Extern.ReflectliteType.typeOf #[.iface 183 v]).run Tryz.prog w = .ok (.iface 189 (.agg #[.pointer (some ⟨5, 183, none⟩)])) w := by kernel_rfl
theorem assAmo (w : World) : (assF #[.agg #[.pointer (some ⟨5, 183, none⟩)], faultT]).run Tryz.prog w = .ok (.bool false) w := by kernel_rfl
theorem typeOfFault (v : Value) (w : World) : (Extern.ReflectliteType.typeOf #[.iface 79 v]).run Tryz.prog w = .ok (.iface 189 (.agg #[.pointer (some ⟨5, 79, none⟩)])) w := by kernel_rfl
theorem assFault (w : World) : (assF #[.agg #[.pointer (some ⟨5, 79, none⟩)], faultT]).run Tryz.prog w = .ok (.bool true) w := by kernel_rfl

set_option maxHeartbeats 1000000 in
theorem as_errno (n a b c tgt : Value) (w : World) :
    Calls Tryz.prog 96 #[.iface 76 n, tgt, .agg #[a, b, c], faultT] w fun e w' => e = .returned (.bool false) ∧ Below w.heap.size w w' := by
  have h8 := @run_callFunc_extern Tryz.prog 122 _ Extern.ReflectliteType.typeOf Tryz.func122 (by kernel_rfl) (by kernel_rfl) (by kernel_rfl) (by kernel_rfl)
  have h35 := @run_callFunc_extern Tryz.prog 201 _ assF Tryz.func201 (by kernel_rfl) (by kernel_rfl) (by kernel_rfl) (by kernel_rfl)
  have tO := typeOfE
  have mA := methodAssignableTo
  have aE := assE
  have nE := noAsE
  have uE := noUnwrapE
  have vE := noUnwrapsE
  go_enter Tryz.func96, Tryz.ntmps96
  go_wp2
  refine wp_loop_rounds 1 ?_
  rw [rounds_succ]
  go_wp2
  go_ret
  exact ⟨rfl, (Below.refl _ _).alloc (Nat.le_refl _) _⟩
set_option maxHeartbeats 2000000 in
theorem as_Ref (x y a b c tgt : Value) (w : World) :
    Calls Tryz.prog 96 #[.iface 212 (.agg #[x, y]), tgt, .agg #[a, b, c], faultT] w fun e w' => e = .returned (.bool false) ∧ Below w.heap.size w w' := by
  have h8 := @run_callFunc_extern Tryz.prog 122 _ Extern.ReflectliteType.typeOf Tryz.func122 (by kernel_rfl) (by kernel_rfl) (by kernel_rfl) (by kernel_rfl)
  have h35 := @run_callFunc_extern Tryz.prog 201 _ assF Tryz.func201 (by kernel_rfl) (by kernel_rfl) (by kernel_rfl) (by kernel_rfl)
  have tO := typeOfE
  have tR := typeOfRef
  have mA := methodAssignableTo
  have aE := assE
  have aR := assRef
  have nE := noAsE
  have uE := noUnwrapE
  have vE := noUnwrapsE
  have nR := noAsRef
  have uR := hasUnwrapRef
  have mR := methodUnwrapRef
  go_enter Tryz.func96, Tryz.ntmps96
  go_wp2
  refine wp_loop_rounds 2 ?_
  rw [rounds_succ]
  go_wp2_with (go_at_call 227; refine (unwrapRef x y _).mono ?_; rintro e w' ⟨rfl, hB⟩)
  rw [rounds_succ]
  go_wp2
  go_ret
  exact ⟨rfl, ((Below.refl _ _).alloc (Nat.le_refl _) _).trans (hB.mono (by simp))⟩
set_option maxHeartbeats 2000000 in
theorem as_Pri (x y a b c tgt : Value) (w : World) :
    Calls Tryz.prog 96 #[.iface 102 (.agg #[x, y]), tgt, .agg #[a, b, c], faultT] w fun e w' => e = .returned (.bool false) ∧ Below w.heap.size w w' := by
  have h8 := @run_callFunc_extern Tryz.prog 122 _ Extern.ReflectliteType.typeOf Tryz.func122 (by kernel_rfl) (by kernel_rfl) (by kernel_rfl) (by kernel_rfl)
  have h35 := @run_callFunc_extern Tryz.prog 201 _ assF Tryz.func201 (by kernel_rfl) (by kernel_rfl) (by kernel_rfl) (by kernel_rfl)
  have tO := typeOfE
  have tR := typeOfPri
  have mA := methodAssignableTo
  have aE := assE
  have aR := assPri
  have nE := noAsE
  have uE := noUnwrapE
  have vE := noUnwrapsE
  have nR := noAsPri
  have uR := hasUnwrapPri
  have mR := methodUnwrapPri
  go_enter Tryz.func96, Tryz.ntmps96
  go_wp2
  refine wp_loop_rounds 2 ?_
  rw [rounds_succ]
  go_wp2_with (go_at_call 192; refine (unwrapPri x y _).mono ?_; rintro e w' ⟨rfl, hB⟩)
  rw [rounds_succ]
  go_wp2
  go_ret
  exact ⟨rfl, ((Below.refl _ _).alloc (Nat.le_refl _) _).trans (hB.mono (by simp))⟩
set_option maxHeartbeats 2000000 in
theorem as_Amo (x y a b c tgt : Value) (w : World) :
    Calls Tryz.prog 96 #[.iface 183 (.agg #[x, y]), tgt, .agg #[a, b, c], faultT] w fun e w' => e = .returned (.bool false) ∧ Below w.heap.size w w' := by
  have h8 := @run_callFunc_extern Tryz.prog 122 _ Extern.ReflectliteType.typeOf Tryz.func122 (by kernel_rfl) (by kernel_rfl) (by kernel_rfl) (by kernel_rfl)
  have h35 := @run_callFunc_extern Tryz.prog 201 _ assF Tryz.func201 (by kernel_rfl) (by kernel_rfl) (by kernel_rfl) (by kernel_rfl)
  have tO := typeOfE
  have tR := typeOfAmo
  have mA := methodAssignableTo
  have aE := assE
  have aR := assAmo
  have nE := noAsE
  have uE := noUnwrapE
  have vE := noUnwrapsE
  have nR := noAsAmo
  have uR := hasUnwrapAmo
  have mR := methodUnwrapAmo
  go_enter Tryz.func96, Tryz.ntmps96
  go_wp2
  refine wp_loop_rounds 2 ?_
  rw [rounds_succ]
  go_wp2_with (go_at_call 199; refine (unwrapAmo x y _).mono ?_; rintro e w' ⟨rfl, hB⟩)
  rw [rounds_succ]
  go_wp2
  go_ret
  exact ⟨rfl, ((Below.refl _ _).alloc (Nat.le_refl _) _).trans (hB.mono (by simp))⟩
set_option maxHeartbeats 2000000 in
theorem as_fault (x y z : Value) (tb vb : Nat) (tgt : Value) (old : Array Value) (w : World) (hx : #[x, y, z].all (·.oneCell') = true)
    (ht : w.heap[tb]? = some (.cells old 79 (0, 0))) (ho : old.size = 3) (hv : w.heap[vb]? = some (.cells #[.pointer (some ⟨tb, 0, none⟩)] 81 (0, 0))) :
    Calls Tryz.prog 96 #[.iface 79 (.agg #[x, y, z]), tgt, .agg #[.pointer (some ⟨5, 81, none⟩), .pointer (some ⟨vb, 0, none⟩), .int .u64 150], faultT] w
      fun e w' => e = .returned (.bool true) ∧ w'.heap[tb]? = some (.cells #[x, y, z] 79 (0, 0)) ∧ Below tb w w' := by
  have htl : tb < w.heap.size := lt_of_block ht
  have hvl : vb < w.heap.size := lt_of_block hv
  have h8 := @run_callFunc_extern Tryz.prog 122 _ Extern.ReflectliteType.typeOf Tryz.func122 (by kernel_rfl) (by kernel_rfl) (by kernel_rfl) (by kernel_rfl)
  have h35 := @run_callFunc_extern Tryz.prog 201 _ assF Tryz.func201 (by kernel_rfl) (by kernel_rfl) (by kernel_rfl) (by kernel_rfl)
  have h6 := @run_callFunc_extern Tryz.prog 93 _ (fun args => ReflectliteValue.unpack (args.getD 0 (.tuple #[]))) Tryz.func93 (by kernel_rfl) (by kernel_rfl) (by kernel_rfl) (by kernel_rfl)
  have h11 := @run_callFunc_extern Tryz.prog 131 _ elemVF Tryz.func131 (by kernel_rfl) (by kernel_rfl) (by kernel_rfl) (by kernel_rfl)
  have h12 := @run_callFunc_extern Tryz.prog 132 _ setF Tryz.func132 (by kernel_rfl) (by kernel_rfl) (by kernel_rfl) (by kernel_rfl)
  have tO := typeOfFault
  have mA := methodAssignableTo
  have aF := assFault
  have vF := valueOfF x y z
  obtain ⟨bx, hbx⟩ : ∃ bx : Obj, bx = .cells #[.pointer (some ⟨5, 81, none⟩), .pointer (some ⟨vb, 0, none⟩), .int .u64 150] 140 := ⟨_, rfl⟩
  have el := elemVP ⟨vb, 0, none⟩ ⟨tb, 0, none⟩ (w.alloc bx) (by rw [World.cell?_alloc_past _ _ _ hvl]; exact cell_of_one hv)
  have st := setFault tb (w.heap.size + 1) x y z old 79 (0, 0) ((w.alloc bx).alloc (.cells #[x, y, z] 79)) (heap_alloc2_new _ _ _) (by rw [heap_alloc_old _ _ (by simp; omega), heap_alloc_old _ _ htl]; exact ht) ho hx
  rw [hbx] at el st
  clear hbx
  go_enter Tryz.func96, Tryz.ntmps96
  go_wp2
  refine wp_loop_rounds 1 ?_
  rw [rounds_succ]
  go_wp2
  go_ret
  refine ⟨rfl, setRow_heap _ _ _ _ _ _ (by rw [heap_alloc_old _ _ (by simp; omega), heap_alloc_old _ _ htl]; exact ht), ?_⟩
  exact below_setRow (((Below.refl _ _).alloc (by omega) _).alloc (by simp; omega) _) (Nat.le_refl _) _
end Go.Proofs.YtmepjcnpbjdlkaaGreatDoor
