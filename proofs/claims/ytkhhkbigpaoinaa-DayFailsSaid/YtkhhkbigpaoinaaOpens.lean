/- how data that came in reads, type by type. -/
import Derived.Test.YtkhhkbigpaoinaaRowE
import Derived.ProofKit
import Derived.OpenShut
import Derived.SizedLaws
import Derived.Deep.Slices
namespace Go.Proofs.Ytkhhkbigpaoinaa
set_option linter.unusedVariables false
set_option linter.unusedSimpArgs false
open Go.RowKit Go.ChangeShapes Go.WideShapes Go.ChangeAt Go.Deep

theorem list_cons {α : Type} {n : Nat} {l : List α} (h : l.length = n + 1) : ∃ x r, l = x :: r ∧ r.length = n := by cases l with | nil => simp at h | cons x r => exact ⟨x, r, rfl, by simpa using h⟩
/-- what a reading of this type tells of its cells -/
def Opens (P : Program) (T : TypeId) (R : World → List Value → Prop) : Prop :=
  ∀ (H : Type) (enc : TypeId × Value → H) (W : World) (spare : Nat → Bool) (held : Bool) (fuel : Nat) (cs : List Value) (d : DataW H) (p : List MemPlace),
    DataW.trod enc P W 0 spare held fuel T cs = some (d, p) → (∀ n ∈ d.weights P T, n ≤ reachBytes) → R W cs
theorem Opens.mono {P : Program} {T : TypeId} {R R' : World → List Value → Prop} (h : Opens P T R) (k : ∀ W cs, R W cs → R' W cs) : Opens P T R' :=
  fun H enc W spare held fuel cs d p ht hw => k _ _ (h H enc W spare held fuel cs d p ht hw)
theorem opens_int {P : Program} {T : TypeId} {k : IntKind} (hu : P.underlying T = some (.int k)) : Opens P T (fun _ cs => ∃ n, cs = [.int k n] ∧ (Lit.int k n).wf = true) :=
  fun H enc W spare held fuel cs d p ht hw => by
    obtain ⟨n, e, _, hwf⟩ := DataW.trod_int hu ht
    exact ⟨n, e, hwf⟩
theorem opens_i64 {P : Program} {T : TypeId} (hu : P.underlying T = some (.int .i64)) : Opens P T (fun _ cs => ∃ n, cs = [.int .i64 n] ∧ -9223372036854775808 ≤ n ∧ n ≤ 9223372036854775807) :=
  (opens_int hu).mono fun _ _ ⟨n, e, h⟩ => ⟨n, e, by simpa [Lit.wf, IntKind.min, IntKind.max, IntKind.signed, IntKind.bits] using h⟩
theorem opens_bool {P : Program} {T : TypeId} (hu : P.underlying T = some .bool) : Opens P T (fun _ cs => ∃ b, cs = [.bool b]) :=
  fun H enc W spare held fuel cs d p ht hw => by
    obtain ⟨b, e, _⟩ := DataW.trod_bool hu ht
    exact ⟨b, e⟩
theorem opens_string {P : Program} {T : TypeId} (hu : P.underlying T = some .string) : Opens P T (fun _ cs => ∃ s : ByteArray, cs = [.string s] ∧ s.size ≤ 140737488351232) :=
  fun H enc W spare held fuel cs d p ht hw => by
    obtain ⟨s, e, hx, _⟩ := DataW.trod_string hu ht
    injection hx with h1 _
    subst h1
    have := hw s.data.toList.length (by simp [DataW.weights])
    simp [reachBytes] at this
    exact ⟨s, e, this⟩
theorem weights_each {P : Program} {H : Type} {ts : List TypeId} {ds : List (DataW H)} (h : ∀ n ∈ DataW.weightsEach P ts ds, n ≤ reachBytes) {j : Nat} {t : TypeId} {d : DataW H} (ht : ts[j]? = some t) (hd : ds[j]? = some d) : ∀ n ∈ d.weights P t, n ≤ reachBytes :=
  fun n hn => h n (DataW.weights_mem_each ht hd n hn)
theorem weights_all {P : Program} {H : Type} {e : TypeId} : ∀ {ds : List (DataW H)}, (∀ n ∈ DataW.weightsAll P e ds, n ≤ reachBytes) → ∀ d ∈ ds, ∀ n ∈ d.weights P e, n ≤ reachBytes
  | [], _, d, hd => by cases hd
  | x :: ds, h, d, hd => by
    rcases List.mem_cons.1 hd with rfl | hd
    · exact fun n hn => h n (by simp [DataW.weightsAll, hn])
    · exact weights_all (ds := ds) (fun n hn => h n (by simp [DataW.weightsAll, hn])) d hd
theorem opens_struct {P : Program} {T : TypeId} {fs : Array Field} (hu : P.underlying T = some (.struct fs)) (Rs : List (World → List Value → Prop)) (h : ∀ (i : Nat) (f : Field) (R : World → List Value → Prop), fs[i]? = some f → Rs[i]? = some R → Opens P f.type R) :
    Opens P T (fun W cs => cs.length = P.cellsOf T ∧ ∀ (i : Nat) (f : Field) (R : World → List Value → Prop), fs[i]? = some f → Rs[i]? = some R → R W ((cs.drop f.offset).take (P.cellsOf f.type))) :=
  fun H enc W spare held fuel cs d p ht hw => by
    obtain ⟨ys, n, _, hx, hl, hyl, hf⟩ := DataW.trod_struct hu ht
    injection hx with h1 _
    subst h1
    have hw' : ∀ m ∈ DataW.weightsEach P (fs.toList.map (·.type)) (ys.map (·.1)), m ≤ reachBytes := fun m hm => hw m (by simpa [DataW.weights, hu] using hm)
    refine ⟨hl, fun i f R hi hR => ?_⟩
    have hlt : i < ys.length := by rw [hyl]; exact (Array.getElem?_eq_some_iff.1 hi).1
    have hy := hf i f hi
    rw [List.getElem?_eq_getElem hlt] at hy
    exact h i f R hi hR H enc W spare held n _ _ _ hy (weights_each hw' (j := i) (by simp [hi]) (by simp [hlt]))
theorem opens_slice {P : Program} {S T : TypeId} {R : World → List Value → Prop} (hu : P.underlying S = some (.slice T)) (he : Opens P T R) :
    Opens P S (fun W cs => ∃ ao n cap, cs = [.slice ao n cap] ∧ n * P.bytesOf T ≤ reachBytes ∧ ∀ i, i < n → ∃ a ecs, ao = some a ∧ ecs.length = P.cellsOf T ∧ R W ecs ∧ ∀ j u, ecs[j]? = some u → W.cell? ((a.add (i * P.cellsOf T)).add j) = some u) :=
  fun H enc W spare held fuel cs d p ht hw => by
    rcases open_slice hu ht with ⟨hcs, hx⟩ | ⟨a, len, cap, m, n, D, Pl, hcs, _, hl, hm, hmm, hx, hel⟩
    · exact ⟨none, 0, 0, hcs, by simp, fun i hi => by omega⟩
    · injection hx with h1 _
      subst h1
      have hw0 := hw ((((List.range len).map D).length + ((List.range (m - len)).map fun j => D (len + j)).length) * P.bytesOf T) (by simp [DataW.weights, hu])
      have hlm : len ≤ m := by rw [hmm]; split <;> omega
      refine ⟨some a, len, cap, hcs, ?_, fun i hi => ?_⟩
      · refine Nat.le_trans (Nat.mul_le_mul_right _ ?_) hw0
        simp
      · obtain ⟨ecs, hc, ht2⟩ := hel i (by omega)
        obtain ⟨_, hcl, hce⟩ := World.cells?_some hc
        refine ⟨a, ecs, rfl, hcl, he H enc W spare held n ecs _ _ ht2 ?_, fun j u hj => ?_⟩
        · refine weights_all (ds := (List.range len).map D) (fun k hk => hw k ?_) _ (List.mem_map.2 ⟨i, List.mem_range.2 hi, rfl⟩)
          simp [DataW.weights, hu, hk]
        · have hjl := (List.getElem?_eq_some_iff.1 hj).1
          rw [hce j (by omega), hj]
/-- a struct, its fields' types, offsets, cells and readings as a list -/
theorem opens_fields {P : Program} {T : TypeId} {fs : Array Field} (hu : P.underlying T = some (.struct fs)) (tos : List (TypeId × Nat × Nat)) (Rs : List (World → List Value → Prop)) (n : Nat) (hfs : fs.toList.map (fun f : Field => (f.type, f.offset, P.cellsOf f.type)) = tos) (hn : P.cellsOf T = n) (h : ∀ (i : Nat) (t : TypeId × Nat × Nat) (R : World → List Value → Prop), tos[i]? = some t → Rs[i]? = some R → Opens P t.1 R) :
    Opens P T (fun W cs => cs.length = n ∧ ∀ (i : Nat) (t : TypeId × Nat × Nat) (R : World → List Value → Prop), tos[i]? = some t → Rs[i]? = some R → R W ((cs.drop t.2.1).take t.2.2)) := by
  subst hfs
  refine (opens_struct hu Rs fun i f R hi hR => h i (f.type, f.offset, P.cellsOf f.type) R (by simp [hi]) hR).mono fun W cs ⟨hl, hr⟩ => ⟨hl.trans hn, fun i t R hi hR => ?_⟩
  simp only [List.getElem?_map, Array.getElem?_toList, Option.map_eq_some_iff] at hi
  obtain ⟨f, hf, rfl⟩ := hi
  exact hr i f R hf hR
/-- a list of elements -/
theorem opens_list {P : Program} {α : Type} {E : Enc α} {S T : TypeId} {bytes : Nat} {Q : World → α → Prop} (hu : P.underlying S = some (.slice T)) (hk : P.cellsOf T = E.k) (hb : P.bytesOf T = bytes) (hb0 : 0 < bytes) (he : Opens P T (fun W cs => ∃ x, cs = E.enc x ∧ Q W x)) :
    Opens P S (fun W cs => ∃ v xs, cs = [v] ∧ ReadsE E W v xs ∧ xs.length * bytes ≤ 140737488351232 ∧ ∀ x ∈ xs, Q W x) :=
  (opens_slice hu he).mono fun W cs ⟨ao, n, cap, hcs, hn, hel⟩ => by
    rw [hb] at hn
    have hn' : n * bytes ≤ 140737488351232 := hn
    have hnb : n ≤ n * bytes := Nat.le_mul_of_pos_right n hb0
    have each : ∀ i, i < n → ∃ x : α, (∃ a, ao = some a ∧ ∀ j u, (E.enc x)[j]? = some u → W.cell? ((a.add (i * E.k)).add j) = some u) ∧ Q W x := fun i hi => by
      obtain ⟨a, ecs, rfl, hl, ⟨x, rfl, hq⟩, hc⟩ := hel i hi
      rw [hk] at hc
      exact ⟨x, ⟨a, rfl, hc⟩, hq⟩
    by_cases h0 : n = 0
    · subst h0
      exact ⟨_, [], hcs, ⟨by simp, ao, cap, rfl, fun i x hx => by simp at hx⟩, by simp, fun x hx => by cases hx⟩
    · obtain ⟨x0, _, _⟩ := each 0 (by omega)
      have : ∃ F : Nat → α, ∀ i, i < n → (∃ a, ao = some a ∧ ∀ j u, (E.enc (F i))[j]? = some u → W.cell? ((a.add (i * E.k)).add j) = some u) ∧ Q W (F i) :=
        ⟨fun i => if h : i < n then (each i h).choose else x0, fun i hi => by simp only [hi, dif_pos]; exact (each i hi).choose_spec⟩
      obtain ⟨F, hF⟩ := this
      refine ⟨_, (List.range n).map F, hcs, ⟨by simp; omega, ao, cap, by simp, fun i x hx => ?_⟩, by simpa using hn', fun x hx => ?_⟩
      · have hi : i < n := by
          have := (List.getElem?_eq_some_iff.1 hx).1
          simpa using this
        have hx' : F i = x := by simpa [hi] using hx
        subst hx'
        obtain ⟨⟨⟨g, o, spot⟩, rfl, hc⟩, _⟩ := hF i hi
        have hspot : spot = none := by
          have hp := E.pos
          obtain ⟨⟨a0, ha0, hc0⟩, _⟩ := hF 0 (by omega)
          injection ha0 with ha0
          subst ha0
          have := World.cell?_spot (hc0 0 _ (List.getElem?_eq_getElem (by rw [E.len]; exact hp)))
          simpa [Addr.add] using this
        subst hspot
        refine ⟨g, o, rfl, fun j u hj => ?_⟩
        have := hc j u hj
        simpa [Addr.add_lit, Nat.add_assoc] using this
      · obtain ⟨i, hi, rfl⟩ := List.mem_map.1 hx
        exact (hF i (List.mem_range.1 hi)).2
def i64R : World → List Value → Prop := fun _ cs => ∃ n, cs = [.int .i64 n] ∧ -9223372036854775808 ≤ n ∧ n ≤ 9223372036854775807
/-- a struct of whole numbers of 64 bits -/
theorem opens_ints {P : Program} {T : TypeId} {n : Nat} {fs : Array Field} (hu : P.underlying T = some (.struct fs)) (hn : P.cellsOf T = n) (hf : fs.toList.map (fun f : Field => (f.offset, P.cellsOf f.type, (match P.underlying f.type with | some (.int .i64) => true | _ => false))) = (List.range n).map (fun i => (i, 1, true))) :
    Opens P T (fun _ cs => ∃ ls : List Int, ls.length = n ∧ cs = ls.map (Value.int .i64) ∧ ∀ x ∈ ls, -9223372036854775808 ≤ x ∧ x ≤ 9223372036854775807) := by
  have hfs : fs.size = n := by have := congrArg List.length hf; simpa using this
  have hat : ∀ (i : Nat) (f : Field), fs[i]? = some f → f.offset = i ∧ P.cellsOf f.type = 1 ∧ P.underlying f.type = some (.int .i64) := fun i f hi => by
    have hlt : i < n := by rw [← hfs]; exact (Array.getElem?_eq_some_iff.1 hi).1
    have := congrArg (·[i]?) hf
    simp only [List.getElem?_map, Array.getElem?_toList, hi, Option.map_some, List.getElem?_range hlt, Option.some.injEq, Prod.mk.injEq] at this
    obtain ⟨h1, h2, h3⟩ := this
    refine ⟨h1, h2, ?_⟩
    revert h3
    split
    · next h => intro _; exact h
    · intro h; cases h
  refine (opens_struct hu (List.replicate n (fun _ cs => ∃ n, cs = [.int .i64 n] ∧ -9223372036854775808 ≤ n ∧ n ≤ 9223372036854775807)) fun i f R hi hR => ?_).mono fun W cs ⟨hl, h⟩ => ?_
  · have hlt : i < n := by rw [← hfs]; exact (Array.getElem?_eq_some_iff.1 hi).1
    rw [List.getElem?_replicate, if_pos hlt] at hR
    injection hR with hR
    subst hR
    exact opens_i64 (hat i f hi).2.2
  · rw [hn] at hl
    have each : ∀ i, i < n → ∃ x : Int, cs[i]? = some (.int .i64 x) ∧ -9223372036854775808 ≤ x ∧ x ≤ 9223372036854775807 := fun i hi => by
      obtain ⟨f, hfi⟩ : ∃ f, fs[i]? = some f := ⟨_, Array.getElem?_eq_getElem (by omega)⟩
      obtain ⟨x, hx, hb⟩ := h i f _ hfi (by rw [List.getElem?_replicate, if_pos hi])
      obtain ⟨h1, h2, _⟩ := hat i f hfi
      rw [h1, h2] at hx
      refine ⟨x, ?_, hb⟩
      have := congrArg (·[0]?) hx
      simpa using this
    have : ∃ F : Nat → Int, ∀ i, i < n → cs[i]? = some (.int .i64 (F i)) ∧ -9223372036854775808 ≤ F i ∧ F i ≤ 9223372036854775807 :=
      ⟨fun i => if h : i < n then (each i h).choose else 0, fun i hi => by simp only [hi, dif_pos]; exact (each i hi).choose_spec⟩
    obtain ⟨F, hF⟩ := this
    refine ⟨(List.range n).map F, by simp, ?_, fun x hx => ?_⟩
    · apply List.ext_getElem?
      intro i
      by_cases hi : i < n
      · rw [(hF i hi).1]; simp [hi]
      · rw [List.getElem?_eq_none (by omega)]
        exact (List.getElem?_eq_none (by simp; omega)).symm
    · obtain ⟨i, hi, rfl⟩ := List.mem_map.1 hx
      exact (hF i (List.mem_range.1 hi)).2
theorem weights_of {P : Program} {H : Type} {ts : List TypeId} {ds : List (DataW H)} (h : (DataW.weightsEach P ts ds).all (· ≤ reachBytes) = true) : ∀ n ∈ DataW.weightsEach P ts ds, n ≤ reachBytes :=
  fun n hn => by simpa using List.all_eq_true.1 h n hn
theorem top_agg {P : Program} {T : TypeId} {fs : Array Field} {R : World → List Value → Prop} (hu : P.underlying T = some (.struct fs)) (ho : Opens P T R) {H : Type} {enc : TypeId × Value → H} {W : World} {r : Reach} {base : Nat} {spare : Nat → Bool} {held : Bool} {v : Value} {d : DataW H} {p : List MemPlace}
    (hv : Value.okWide P W r base T v) (h : DataW.Trod enc P W 0 spare held T v d p) (hw : ∀ n ∈ d.weights P T, n ≤ reachBytes) : ∃ cs : Array Value, v = .agg cs ∧ R W cs.toList := by
  obtain ⟨cs, rfl, _⟩ := okWide_struct hu hv
  obtain ⟨fuel, hf⟩ := h
  exact ⟨cs, rfl, ho H enc W spare held fuel _ d p hf hw⟩
theorem top_slice {P : Program} {T e : TypeId} {R : World → List Value → Prop} (hu : P.underlying T = some (.slice e)) (ho : Opens P T R) {H : Type} {enc : TypeId × Value → H} {W : World} {r : Reach} {base : Nat} {spare : Nat → Bool} {held : Bool} {v : Value} {d : DataW H} {p : List MemPlace}
    (hv : Value.okWide P W r base T v) (h : DataW.Trod enc P W 0 spare held T v d p) (hw : ∀ n ∈ d.weights P T, n ≤ reachBytes) : R W [v] := by
  obtain ⟨a, n, c, rfl⟩ := okWide_slice hu hv
  obtain ⟨fuel, hf⟩ := h
  exact ho H enc W spare held fuel _ d p hf hw
end Go.Proofs.Ytkhhkbigpaoinaa
