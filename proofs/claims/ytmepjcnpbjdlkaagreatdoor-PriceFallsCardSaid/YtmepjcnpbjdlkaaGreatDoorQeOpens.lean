/- texts of this claim, laid together: Opens, OpenSec. -/
import Derived.Test.YtmepjcnpbjdlkaaGreatDoorQeRowE
import Derived.Test.YtmepjcnpbjdlkaaGreatDoorQePriceC
import Derived.ProofKit
import Derived.OpenShut
import Derived.SizedLaws
import Derived.Deep.Slices
/- how data that came in reads, type by type. -/
namespace Go.Proofs.YtmepjcnpbjdlkaaGreatDoor
set_option linter.unusedVariables false
set_option linter.unusedSimpArgs false
open Go.RowKit Go.ChangeShapes Go.WideShapes Go.ChangeAt Go.Deep

theorem list_cons {α : Type} {n : Nat} {l : List α} (h : l.length = n + 1) : ∃ x r, l = x :: r ∧ r.length = n := by cases l with | nil => simp at h | cons x r => exact ⟨x, r, rfl, by simpa using h⟩
/-- what a reading of this type tells of its cells -/
def Opens (P : Program) (T : TypeId) (R : World → List Value → Prop) : Prop :=
  ∀ (H : Type) (enc : TypeId × Value → H) (W : World) (spare : Nat → Bool) (held : Bool) (fuel : Nat) (cs : List Value) (d : DataW H) (p : List MemPlace),
    DataW.trod enc P W 0 spare held fuel T cs = some (d, p) → (∀ n ∈ d.weights P T, n ≤ reachBytes) → R W cs
theorem Opens.mono {P : Program} {T : TypeId} {R R' : World → List Value → Prop} (h : Opens P T R) (k : ∀ W cs, R W cs → R' W cs) : Opens P T R' :=
  fun H enc W spare held fuel cs d p ht hw => k _ _ (h H enc W spare held fuel cs d p ht hw)
theorem opens_int {P : Program} {T : TypeId} {k : IntKind} (hu : P.underlying T = some (.int k)) : Opens P T (fun _ cs => ∃ n, cs = [.int k n] ∧ (Lit.int k n).wf = true) :=
  fun H enc W spare held fuel cs d p ht hw => by
    obtain ⟨n, e, _, hwf⟩ := DataW.trod_int hu ht
    exact ⟨n, e, hwf⟩
theorem opens_i64 {P : Program} {T : TypeId} (hu : P.underlying T = some (.int .i64)) : Opens P T (fun _ cs => ∃ n, cs = [.int .i64 n] ∧ -9223372036854775808 ≤ n ∧ n ≤ 9223372036854775807) :=
  (opens_int hu).mono fun _ _ ⟨n, e, h⟩ => ⟨n, e, by simpa [Lit.wf, IntKind.min, IntKind.max, IntKind.signed, IntKind.bits] using h⟩
theorem opens_string {P : Program} {T : TypeId} (hu : P.underlying T = some .string) : Opens P T (fun _ cs => ∃ s : ByteArray, cs = [.string s] ∧ s.size ≤ 140737488351232) :=
  fun H enc W spare held fuel cs d p ht hw => by
    obtain ⟨s, e, hx, _⟩ := DataW.trod_string hu ht
    injection hx with h1 _
    subst h1
    have := hw s.data.toList.length (by simp [DataW.weights])
    simp [reachBytes] at this
    exact ⟨s, e, this⟩
theorem weights_each {P : Program} {H : Type} {ts : List TypeId} {ds : List (DataW H)} (h : ∀ n ∈ DataW.weightsEach P ts ds, n ≤ reachBytes) {j : Nat} {t : TypeId} {d : DataW H} (ht : ts[j]? = some t) (hd : ds[j]? = some d) : ∀ n ∈ d.weights P t, n ≤ reachBytes :=
  fun n hn => h n (DataW.weights_mem_each ht hd n hn)
theorem opens_struct {P : Program} {T : TypeId} {fs : Array Field} (hu : P.underlying T = some (.struct fs)) (Rs : List (World → List Value → Prop)) (h : ∀ (i : Nat) (f : Field) (R : World → List Value → Prop), fs[i]? = some f → Rs[i]? = some R → Opens P f.type R) :
    Opens P T (fun W cs => cs.length = P.cellsOf T ∧ ∀ (i : Nat) (f : Field) (R : World → List Value → Prop), fs[i]? = some f → Rs[i]? = some R → R W ((cs.drop f.offset).take (P.cellsOf f.type))) :=
  fun H enc W spare held fuel cs d p ht hw => by
    obtain ⟨ys, n, _, hx, hl, hyl, hf⟩ := DataW.trod_struct hu ht
    injection hx with h1 _
    subst h1
    have hw' : ∀ m ∈ DataW.weightsEach P (fs.toList.map (·.type)) (ys.map (·.1)), m ≤ reachBytes := fun m hm => hw m (by simpa [DataW.weights, hu] using hm)
    refine ⟨hl, fun i f R hi hR => ?_⟩
    have hlt : i < ys.length := by rw [hyl]; exact (Array.getElem?_eq_some_iff.1 hi).1
    have hy := hf i f hi
    rw [List.getElem?_eq_getElem hlt] at hy
    exact h i f R hi hR H enc W spare held n _ _ _ hy (weights_each hw' (j := i) (by simp [hi]) (by simp [hlt]))
/-- a struct, its fields' types, offsets, cells and readings as a list -/
theorem opens_fields {P : Program} {T : TypeId} {fs : Array Field} (hu : P.underlying T = some (.struct fs)) (tos : List (TypeId × Nat × Nat)) (Rs : List (World → List Value → Prop)) (n : Nat) (hfs : fs.toList.map (fun f : Field => (f.type, f.offset, P.cellsOf f.type)) = tos) (hn : P.cellsOf T = n) (h : ∀ (i : Nat) (t : TypeId × Nat × Nat) (R : World → List Value → Prop), tos[i]? = some t → Rs[i]? = some R → Opens P t.1 R) :
    Opens P T (fun W cs => cs.length = n ∧ ∀ (i : Nat) (t : TypeId × Nat × Nat) (R : World → List Value → Prop), tos[i]? = some t → Rs[i]? = some R → R W ((cs.drop t.2.1).take t.2.2)) := by
  subst hfs
  refine (opens_struct hu Rs fun i f R hi hR => h i (f.type, f.offset, P.cellsOf f.type) R (by simp [hi]) hR).mono fun W cs ⟨hl, hr⟩ => ⟨hl.trans hn, fun i t R hi hR => ?_⟩
  simp only [List.getElem?_map, Array.getElem?_toList, Option.map_eq_some_iff] at hi
  obtain ⟨f, hf, rfl⟩ := hi
  exact hr i f R hf hR
def i64R : World → List Value → Prop := fun _ cs => ∃ n, cs = [.int .i64 n] ∧ -9223372036854775808 ≤ n ∧ n ≤ 9223372036854775807
theorem weights_of {P : Program} {H : Type} {ts : List TypeId} {ds : List (DataW H)} (h : (DataW.weightsEach P ts ds).all (· ≤ reachBytes) = true) : ∀ n ∈ DataW.weightsEach P ts ds, n ≤ reachBytes :=
  fun n hn => by simpa using List.all_eq_true.1 h n hn
theorem top_agg {P : Program} {T : TypeId} {fs : Array Field} {R : World → List Value → Prop} (hu : P.underlying T = some (.struct fs)) (ho : Opens P T R) {H : Type} {enc : TypeId × Value → H} {W : World} {r : Reach} {base : Nat} {spare : Nat → Bool} {held : Bool} {v : Value} {d : DataW H} {p : List MemPlace}
    (hv : Value.okWide P W r base T v) (h : DataW.Trod enc P W 0 spare held T v d p) (hw : ∀ n ∈ d.weights P T, n ≤ reachBytes) : ∃ cs : Array Value, v = .agg cs ∧ R W cs.toList := by
  obtain ⟨cs, rfl, _⟩ := okWide_struct hu hv
  obtain ⟨fuel, hf⟩ := h
  exact ⟨cs, rfl, ho H enc W spare held fuel _ d p hf hw⟩
end Go.Proofs.YtmepjcnpbjdlkaaGreatDoor
/- a security that came in, opened. -/
namespace Go.Proofs.YtmepjcnpbjdlkaaGreatDoor
set_option linter.unusedVariables false
set_option linter.unusedSimpArgs false
open Go.RowKit Go.ChangeShapes Go.WideShapes Go.ChangeAt Go.Deep

def strR : World → List Value → Prop := fun _ cs => ∃ s : ByteArray, cs = [.string s] ∧ s.size ≤ 140737488351232
def codeR : World → List Value → Prop := fun _ cs => ∃ l : List UInt8, l.length = 12 ∧ cs = l.map fun c => Value.int .u8 (c.toNat : Nat)
theorem opens_code : Opens Tryz.prog 23 codeR :=
  fun H enc W spare held fuel cs d p ht hw => by
    obtain ⟨ys, m, _, _, hl, hyl, hf⟩ := DataW.trod_array Tryz.underlying23 ht
    have hc1 : Tryz.prog.cellsOf 5 = 1 := by kernel_rfl
    have hl12 : cs.length = 12 := hl.trans (by kernel_rfl)
    have each : ∀ i, i < 12 → ∃ c : UInt8, cs[i]? = some (.int .u8 (c.toNat : Nat)) := fun i hi => by
      have hy := hf i hi
      rw [List.getElem?_eq_getElem (by omega), hc1] at hy
      obtain ⟨n, e, _, hwf⟩ := DataW.trod_int Tryz.underlying5 hy
      have hb : 0 ≤ n ∧ n ≤ 255 := by simpa [Lit.wf, IntKind.min, IntKind.max, IntKind.signed, IntKind.bits] using hwf
      have h0 := congrArg (·[0]?) e
      simp at h0
      refine ⟨UInt8.ofNat n.toNat, ?_⟩
      have hn : ((UInt8.ofNat n.toNat).toNat : Int) = n := by
        rw [UInt8.toNat_ofNat']
        omega
      rw [h0, hn]
    have : ∃ F : Nat → UInt8, ∀ i, i < 12 → cs[i]? = some (.int .u8 ((F i).toNat : Nat)) :=
      ⟨fun i => if h : i < 12 then (each i h).choose else 0, fun i hi => by simp only [hi, dif_pos]; exact (each i hi).choose_spec⟩
    obtain ⟨F, hF⟩ := this
    refine ⟨(List.range 12).map F, by simp, ?_⟩
    apply List.ext_getElem?
    intro i
    by_cases hi : i < 12
    · rw [hF i hi]; simp [hi]
    · rw [List.getElem?_eq_none (by omega)]
      exact (List.getElem?_eq_none (by simp; omega)).symm
def SecR (W : World) (cs : List Value) : Prop := ∃ s : SecV, cs = (secC s).toList ∧ s.cur.size ≤ 140737488351232 ∧ (-9223372036854775808 ≤ s.kind ∧ s.kind ≤ 9223372036854775807) ∧ (-9223372036854775808 ≤ s.face ∧ s.face ≤ 9223372036854775807) ∧ (-9223372036854775808 ≤ s.coupon ∧ s.coupon ≤ 9223372036854775807) ∧ (-9223372036854775808 ≤ s.per ∧ s.per ≤ 9223372036854775807) ∧ (-9223372036854775808 ≤ s.basis ∧ s.basis ≤ 9223372036854775807) ∧ (-9223372036854775808 ≤ s.start ∧ s.start ≤ 9223372036854775807) ∧ (-9223372036854775808 ≤ s.finish ∧ s.finish ≤ 9223372036854775807)
set_option maxRecDepth 100000 in
theorem opens_sec : Opens Tryz.prog 25 SecR := by
  refine (opens_fields Tryz.underlying25 [(23, 0, 12), (3, 12, 1), (2, 13, 1), (2, 14, 1), (3, 15, 1), (3, 16, 1), (3, 17, 1), (3, 18, 1), (9, 19, 1)] [codeR, i64R, i64R, i64R, i64R, i64R, i64R, i64R, strR] 20 (by kernel_rfl) (by kernel_rfl) ?_).mono ?_
  · intro i t R hi hR
    rcases i with _ | _ | _ | _ | _ | _ | _ | _ | _ | i <;> simp at hi hR <;> subst hi <;> subst hR
    · exact opens_code
    · exact opens_i64 Tryz.underlying3
    · exact opens_i64 Tryz.underlying2
    · exact opens_i64 Tryz.underlying2
    · exact opens_i64 Tryz.underlying3
    · exact opens_i64 Tryz.underlying3
    · exact opens_i64 Tryz.underlying3
    · exact opens_i64 Tryz.underlying3
    · exact opens_string Tryz.underlying9
  · intro W cs ⟨hl20, h⟩
    obtain ⟨x0, cs0, rfl, hl19⟩ := list_cons hl20
    obtain ⟨x1, cs1, rfl, hl18⟩ := list_cons hl19
    obtain ⟨x2, cs2, rfl, hl17⟩ := list_cons hl18
    obtain ⟨x3, cs3, rfl, hl16⟩ := list_cons hl17
    obtain ⟨x4, cs4, rfl, hl15⟩ := list_cons hl16
    obtain ⟨x5, cs5, rfl, hl14⟩ := list_cons hl15
    obtain ⟨x6, cs6, rfl, hl13⟩ := list_cons hl14
    obtain ⟨x7, cs7, rfl, hl12⟩ := list_cons hl13
    obtain ⟨x8, cs8, rfl, hl11⟩ := list_cons hl12
    obtain ⟨x9, cs9, rfl, hl10⟩ := list_cons hl11
    obtain ⟨x10, cs10, rfl, hl9⟩ := list_cons hl10
    obtain ⟨x11, cs11, rfl, hl8⟩ := list_cons hl9
    obtain ⟨x12, cs12, rfl, hl7⟩ := list_cons hl8
    obtain ⟨x13, cs13, rfl, hl6⟩ := list_cons hl7
    obtain ⟨x14, cs14, rfl, hl5⟩ := list_cons hl6
    obtain ⟨x15, cs15, rfl, hl4⟩ := list_cons hl5
    obtain ⟨x16, cs16, rfl, hl3⟩ := list_cons hl4
    obtain ⟨x17, cs17, rfl, hl2⟩ := list_cons hl3
    obtain ⟨x18, cs18, rfl, hl1⟩ := list_cons hl2
    obtain ⟨x19, cs19, rfl, hl0⟩ := list_cons hl1
    obtain rfl := List.length_eq_zero_iff.1 hl0
    have h0 := h 0 _ _ rfl rfl
    have h1 := h 1 _ _ rfl rfl
    have h2 := h 2 _ _ rfl rfl
    have h3 := h 3 _ _ rfl rfl
    have h4 := h 4 _ _ rfl rfl
    have h5 := h 5 _ _ rfl rfl
    have h6 := h 6 _ _ rfl rfl
    have h7 := h 7 _ _ rfl rfl
    have h8 := h 8 _ _ rfl rfl
    obtain ⟨l, hl12, e0⟩ := h0
    obtain ⟨n1, e1, b1⟩ := h1
    obtain ⟨n2, e2, b2⟩ := h2
    obtain ⟨n3, e3, b3⟩ := h3
    obtain ⟨n4, e4, b4⟩ := h4
    obtain ⟨n5, e5, b5⟩ := h5
    obtain ⟨n6, e6, b6⟩ := h6
    obtain ⟨n7, e7, b7⟩ := h7
    obtain ⟨st, e8, b8⟩ := h8
    obtain ⟨c0, l0, rfl, hm11⟩ := list_cons hl12
    obtain ⟨c1, l1, rfl, hm10⟩ := list_cons hm11
    obtain ⟨c2, l2, rfl, hm9⟩ := list_cons hm10
    obtain ⟨c3, l3, rfl, hm8⟩ := list_cons hm9
    obtain ⟨c4, l4, rfl, hm7⟩ := list_cons hm8
    obtain ⟨c5, l5, rfl, hm6⟩ := list_cons hm7
    obtain ⟨c6, l6, rfl, hm5⟩ := list_cons hm6
    obtain ⟨c7, l7, rfl, hm4⟩ := list_cons hm5
    obtain ⟨c8, l8, rfl, hm3⟩ := list_cons hm4
    obtain ⟨c9, l9, rfl, hm2⟩ := list_cons hm3
    obtain ⟨c10, l10, rfl, hm1⟩ := list_cons hm2
    obtain ⟨c11, l11, rfl, hm0⟩ := list_cons hm1
    obtain rfl := List.length_eq_zero_iff.1 hm0
    simp only [List.drop_zero, List.drop_succ_cons, List.take_succ_cons, List.take_zero, List.map_cons, List.map_nil, List.cons.injEq, and_true] at e0 e1 e2 e3 e4 e5 e6 e7 e8
    obtain ⟨a0, a1, a2, a3, a4, a5, a6, a7, a8, a9, a10, a11⟩ := e0
    subst a0 a1 a2 a3 a4 a5 a6 a7 a8 a9 a10 a11 e1 e2 e3 e4 e5 e6 e7 e8
    exact ⟨⟨c0, c1, c2, c3, c4, c5, c6, c7, c8, c9, c10, c11, n1, n2, n3, n4, n5, n6, n7, st⟩, rfl, b8, b1, b2, b3, b4, b5, b6, b7⟩
end Go.Proofs.YtmepjcnpbjdlkaaGreatDoor
