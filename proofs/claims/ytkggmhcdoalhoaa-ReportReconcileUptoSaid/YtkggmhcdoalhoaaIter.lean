/- maps.Keys of a map whose keys are pairs of whole numbers, slices.Collect, slices.AppendSeq: by contract (after the kit's own proof at keys of one cell). -/
import Derived.Test.YtkggmhcdoalhoaaKeyM
import Derived.Test.YtkggmhcdoalhoaaSortR
import Derived.Shelf.SlIter.Collect
import Derived.Sort.MapsRangeIn
import Derived.RangeFuncBound
namespace Go.Proofs.Ytkggmhcdoalhoaa
set_option linter.unusedVariables false
set_option linter.unusedSimpArgs false
open Go.RowKit Go.Maps Go.Sort Go.Shelf

section
variable {P : Program} {k : TypeId} {α : Type} [DecidableEq α] (K : KeyK P k α) {w : World} {b n : Nat} {f : α → Option Value} {r cnt : Nat} {todo : α → Bool} {F : Fence} {m : Nat}
variable {ops : Array Oper} {rest : List Oper} {o : Oper} {a : Act} {Q : Exit → Act → World → Prop}
omit [DecidableEq α] in
theorem wpListIn_rangeM (hg : o.guard = none) (mo : Operand) (t : TypeId) (hop : o.op = Op.range t mo) (e : TypeId) (ht : P.underlying t = some (.map k e)) (hm : a.eval mo = .map (some b)) (h : MapAt K w b n f)
    (hK : ∀ w' cnt, RangeAt K w' b w.heap.size n f (fun x => (f x).isSome) cnt → cnt ≤ n → w.grownBy w' none → w'.heap.size = w.heap.size + 1 → wpListIn F m P ops Q rest (a.put o.dst (.pointer (some ⟨w.heap.size, 0, none⟩))) w') :
    wpListIn F m P ops Q (o :: rest) a w := by
  refine wpListIn_plain hg fun K' hK' => ?_
  obtain ⟨w', cnt, hrun, r1, r2, r3, r4⟩ := h.range K ht
  unfold Oper.wpIn
  refine ⟨by simp [Oper.about, hop], ?_⟩
  rw [Oper.semAt_plain F _ _ (by rw [hop]; intro c hc'; cases hc')]
  simp [execOp, hop, hm, hrun, Result.andThen]
  exact hK' _ _ (hK w' cnt r1 r2 r3 r4)
theorem wpListIn_nextM (hg : o.guard = none) (it : Operand) (hop : o.op = Op.next it false) (hit : a.eval it = .pointer (some ⟨r, 0, none⟩)) (h : RangeAt K w b r n f todo cnt)
    (hDone : cnt = 0 → (∀ x, K.good x → todo x = false) → wpListIn F m P ops Q rest (a.put o.dst (.tuple #[.bool false])) w)
    (hMore : ∀ (x : α) (v : Value) (w' : World) (cnt' : Nat), K.good x → todo x = true → f x = some v → RangeAt K w' b r n f (fun z => todo z && !decide (z = x)) cnt' → cnt' < cnt →
      w.grownBy w' (some r) → w'.heap.size = w.heap.size → (Instr.entry (.pointer (some ⟨r, 0, none⟩))).run P w' = .ok (.tuple #[K.val x, v]) w' → wpListIn F m P ops Q rest (a.put o.dst (.tuple #[.bool true, K.val x, v])) w') :
    wpListIn F m P ops Q (o :: rest) a w := by
  refine wpListIn_plain hg fun K' hK' => ?_
  unfold Oper.wpIn
  refine ⟨by simp [Oper.about, hop], ?_⟩
  rw [Oper.semAt_plain F _ _ (by rw [hop]; intro c hc'; cases hc')]
  rcases h.next K o.type with ⟨h0, hl, hrun⟩ | ⟨x, v, w', cnt', hx, hlk, hv, hrun, hrg, hlt, hgr, hsz, hen⟩
  · simp [execOp, hop, hit, hrun, Result.andThen]
    exact hK' _ _ (hDone h0 hl)
  · simp [execOp, hop, hit, hrun, Result.andThen]
    exact hK' _ _ (hMore x v w' cnt' hx hlk hv hrg hlt hgr hsz hen)
/-- the keys that have come so far: none twice; just those that the map has and that are not to come any more -/
def CameK (f : α → Option Value) (todo : α → Bool) (ss : List α) : Prop := ss.Nodup ∧ ∀ x, x ∈ ss ↔ K.good x ∧ (f x).isSome = true ∧ todo x = false
omit [DecidableEq α] in
theorem CameK.start : CameK K f (fun x => (f x).isSome) [] := ⟨List.nodup_nil, fun x => by rcases hf : f x with _ | v <;> simp [hf]⟩
theorem CameK.step {ss : List α} (h : CameK K f todo ss) {x : α} {v : Value} (hx : K.good x) (ht : todo x = true) (hv : f x = some v) : CameK K f (fun z => todo z && !decide (z = x)) (ss ++ [x]) := by
  refine ⟨?_, fun z => ?_⟩
  · rw [List.nodup_append]
    refine ⟨h.1, by simp, fun a ha b hb => ?_⟩
    rintro rfl
    obtain rfl : a = x := by simpa using hb
    have := ((h.2 a).1 ha).2.2
    rw [ht] at this
    cases this
  · rw [List.mem_append, h.2 z, List.mem_singleton]
    by_cases e : z = x
    · subst e; simp [hx, hv]
    · simp [e]
omit [DecidableEq α] in
theorem CameK.all {ss : List α} (h : CameK K f todo ss) (h0 : ∀ x, K.good x → todo x = false) : ss.Nodup ∧ ∀ x, x ∈ ss ↔ K.good x ∧ (f x).isSome = true :=
  ⟨h.1, fun x => by rw [h.2 x]; exact ⟨fun ⟨a, b, _⟩ => ⟨a, b⟩, fun ⟨a, b⟩ => ⟨a, b, h0 x a⟩⟩⟩
omit [DecidableEq α] in
theorem RangeAt.walks {w' : World} (h : RangeAt K w b r n f todo cnt) (hk : KeepsWalks w w') : RangeAt K w' b r n f todo cnt := by
  obtain ⟨D, left, h, hf, hl⟩ := h
  exact ⟨D, left, h.of_walks hk, hf, hl⟩
omit [DecidableEq α] in
theorem RangeAt.iter (h : RangeAt K w b r n f todo cnt) : ∃ o : Obj, w.heap[r]? = some o ∧ o.isWalk = true := by
  obtain ⟨D, left, h, _, _⟩ := h
  exact h.iter_walk
end

def keyS (f : keyT → Option Value) (ss : List keyT) : Prop := ss.Nodup ∧ ∀ x, x ∈ ss ↔ keyGood x ∧ (f x).isSome = true
def encK (x : keyT) : Value := .agg (keyE.enc x).toArray

set_option maxRecDepth 100000 in
set_option maxHeartbeats 1000000 in
theorem keysBrk_in (F : Fence) (n : Nat) (h10 : F.fn 26) (hro : F.round = none) (hn : 1 ≤ n) (l Bm b nn : Nat) (f : keyT → Option Value) (J : List keyT → World → Prop)
    (hY : ∀ pre x W, J pre W → pre.length < nn → YieldAt F (n - 1) Try.prog l #[encK x] W fun e W' => e = .returned (.bool true) ∧ J (pre ++ [x]) W' ∧ KeepsWalks W W')
    (W : World) (hJ : AbidesFrom W.heap.size J) (hm : W.cell? ⟨Bm, 0, none⟩ = some (.map (some b))) (hown : MapAt keyKey W b nn f) (h0 : J [] W) :
    CallsIn F n Try.prog 26 #[.func (.yield l) #[] #[], .pointer (some ⟨Bm, 0, none⟩)] W fun e W' => (∃ v, e = .returned v) ∧ ∃ ss : List keyT, keyS f ss ∧ J ss W' := by
  refine callsIn_of_wp Try.func26 rfl h10 ?_ hro
  simp only [Try.ntmps26, List.size_toArray, List.length_cons, List.length_nil, Nat.reduceAdd, Nat.reduceSub, Array.replicate_succ, Array.replicate_zero, List.push_toArray, List.append_toArray, List.nil_append, List.cons_append]
  gi_wp2_with (first
    | (gi_at_range; refine wpListIn_rangeM keyKey rfl _ 43 rfl 36 Try.underlying43 rfl hown ?_; intro w0 cnt0 hrg0 hc0 hg0 hs0)
    | gi_in)
  go_frame
  gi_loopw [3] (fun _ wr => ∃ (todo : keyT → Bool) (cnt : Nat) (ss : List keyT), RangeAt keyKey wr b W.heap.size nn f todo cnt ∧ ss.length + cnt ≤ nn ∧ CameK keyKey f todo ss ∧ J ss wr)
    (fun _ wr => wr.rangeLeft b W.heap.size)
  case atStart =>
    exact ⟨_, _, [], hrg0, by simpa using hc0, CameK.start keyKey, hJ [] W w0 none h0 hg0 (fun r e => by cases e)⟩
  case round =>
    obtain ⟨todo, cnt, ss, hrg, hcs, hC, hJs⟩ := hrel
    gi_wp2_with (first
      | (gi_at_next; refine wpListIn_nextM keyKey rfl _ rfl rfl hrg ?_ ?_)
      | gi_in)
    · intro hc0 hl0
      gi_wp2
      go_end0
      exact ⟨⟨_, rfl⟩, ss, hC.all keyKey (fun x hx => hl0 x.1 x.2 hx), hJs⟩
    · intro xa xb v w2 cnt2 hx htd hv hrg2 hlt hg2 hs2 hen
      have hJ2 : J ss w2 := hJ ss wr w2 (some W.heap.size) hJs hg2 (fun r e => by cases e; exact ⟨Nat.le_refl _, hrg.iter⟩)
      have HR2 := Lib.hid hrg2
      have HG := Lib.hid hx
      have HV := Lib.hid hv
      have HTD := Lib.hid htd
      have HLT := Lib.hid hlt
      have HL := Lib.hid hrg.left_eq
      have hval : keyKey.val (xa, xb) = Value.agg #[.int .i64 xa, .int .i64 xb] := rfl
      rw [hval] at hen ⊢
      clear hval
      clear hs2 hg2 hrg2 hv htd hx hlt hrg
      obtain ⟨fn, tmps, assign, body, hy, hR⟩ := hY ss (xa, xb) (w2.alloc (.cells #[.int .i64 xa, .int .i64 xb] 34)) (hJ ss w2 _ none hJ2 (World.grownBy_alloc w2 _ none) (fun r e => by cases e)) (by have := HLT.out; omega)
      have hy' : (Instr.yield l #[.agg #[.int .i64 xa, .int .i64 xb]]).run Try.prog (w2.alloc (.cells #[.int .i64 xa, .int .i64 xb] 34)) = .ok (.round l fn tmps assign body) (w2.alloc (.cells #[.int .i64 xa, .int .i64 xb] 34)) := hy
      clear hy hJ2
      gi_wp2
      refine hR.mono ?_
      rintro e W3 ⟨rfl, hJ3, hk3⟩
      gi_wp2
      have hrg3 := (HR2.out.blocks keyKey (heap_alloc_old _ _ (HR2.out.map.lt)) (heap_alloc_old _ _ HR2.out.lt)).walks keyKey hk3
      go_roundw
      case rel => exact ⟨_, cnt2, ss ++ [(xa, xb)], hrg3, by have := HLT.out; simp; omega, hC.step keyKey HG.out HTD.out HV.out, hJ3⟩
      case measure => rw [hrg3.left_eq keyKey, HL.out]; exact HLT.out
end Go.Proofs.Ytkggmhcdoalhoaa
