/- Plain words that this seat's walks share: no claim of its own. -/
import Derived.Test.YtkhhkbigpaoinaaProg
import Derived.WalkKit
import Derived.WalkSpells
import Derived.WalkLawsBesides
import Derived.Lib.Hide
namespace Go.Proofs.Ytkhhkbigpaoinaa
set_option linter.unusedVariables false
set_option linter.unusedSimpArgs false
open Go.RowKit

theorem ret_int {k : IntKind} {a b : Int} (h : a = b) : Ending.returned (.int k a) = .returned (.int k b) := by rw [h]
theorem ret_bool {a b : Bool} (h : a = b) : Ending.returned (.bool a) = .returned (.bool b) := by rw [h]
theorem below_setRow {B : Nat} {a w : World} (h : Below B a w) {g : Nat} (hg : B ≤ g) (cs : Array Value) : Below B a (w.setRow g cs) :=
  h.trans ⟨rfl, rfl, rfl, by simp, fun k hk => setRow_other w g k cs (by omega)⟩
theorem below_drewN' {B : Nat} {a w : World} (h : Below B a w) (n : Nat) : Below B a (w.drewN n) := h.trans ⟨rfl, rfl, rfl, Nat.le_refl _, fun _ _ => rfl⟩
theorem blk_below {B : Nat} {w w' : World} (h : Below B w w') {g : Nat} {o : Obj} (hg : w.heap[g]? = some o) (hB : g < B) : w'.heap[g]? = some o := by rw [h.block g hB]; exact hg
theorem bcell {W w1 : World} (hb : Below W.heap.size W w1) : (∀ b o, b < W.heap.size → w1.cell? ⟨b, o, none⟩ = W.cell? ⟨b, o, none⟩) ∧ (∀ b o, b < W.heap.size → w1.frozen? ⟨b, o, none⟩ = W.frozen? ⟨b, o, none⟩) :=
  ⟨fun b o h => hb.cell (p := ⟨b, o, none⟩) h, fun b o h => hb.frozen (p := ⟨b, o, none⟩) h⟩
theorem str_ext {a b : ByteArray} (h : a.data.toList = b.data.toList) : a = b := by
  cases a; cases b; simp at h; simp [h]
theorem byte_at (s : ByteArray) (k : Nat) (h : k < s.size) : s.data.toList.getD k 0 = s[k] := by
  have e : s[k] = s.data[k] := rfl
  have h' : k < s.data.toList.length := by simpa using h
  rw [e, List.getD_eq_getElem?_getD, List.getElem?_eq_getElem h']
  simp
theorem len_str (s : ByteArray) : s.data.toList.length = s.size := by simp

theorem results_cell_row_tmp {P : Program} {fn : Func} {p u : Tmp} {ty : TypeId} (h : fn.results = #[.cell p ty, .tmp u]) (tmps : Array Value) (w : World) (g : Nat) (t : TypeId) (cs : Array Value) (fr : Nat × Nat) (d : TypeDesc)
    (hp : tmps.getD p undef = .pointer (some ⟨g, 0, none⟩)) (hg : w.heap[g]? = some (.cells cs t fr))
    (hu : P.underlying ty = some d) (hd : (match d with | .struct _ | .array _ _ => true | _ => false) = true) (hi : (P.info? ty).map (·.size) = some cs.size) :
    (results fn tmps).run P w = .ok (.tuple #[.agg cs, tmps.getD u undef]) w := by
  rw [results_cell_tmp h, hp]
  simp [asAddr, run_loadVar_row w g t ty cs fr d hg hu hd hi, Result.andThen]

/-- the first n bytes as cells, 0 from k on -/
def arrV (n : Nat) (l : List UInt8) (k : Nat) : Array Value := ((List.range n).map fun i => Value.int .u8 (if i < k then (l.getD i 0).toNat else 0 : Nat)).toArray
theorem arrV_size (n l k) : (arrV n l k).size = n := by simp [arrV]
theorem arrV_get (n l k i) (h : i < n) : (arrV n l k)[i]? = some (Value.int .u8 (if i < k then (l.getD i 0).toNat else 0 : Nat)) := by
  simp [arrV, h]
theorem arrV_set (n : Nat) (l : List UInt8) (k : Nat) (h : k < n) (c : UInt8) (hc : l.getD k 0 = c) : (arrV n l k).setIfInBounds k (Value.int .u8 (c.toNat : Nat)) = arrV n l (k + 1) := by
  apply Array.ext_getElem?
  intro i
  rw [Array.getElem?_setIfInBounds]
  by_cases hi : i < n
  · rw [arrV_get n l (k+1) i hi]
    by_cases hk : k = i
    · subst hk; subst hc; simp [arrV_size, h]
    · rw [if_neg hk, arrV_get n l k i hi]
      have : (i < k) = (i < k + 1) := by simp; omega
      simp [this]
  · have : ¬ k = i := by omega
    rw [if_neg this]
    simp [arrV, hi]
theorem arrV_stop (n : Nat) (l : List UInt8) (k : Nat) (h : l.length ≤ k) : arrV n l k = arrV n l n := by
  unfold arrV
  congr 1
  apply List.map_congr_left
  intro i hi
  have hi := List.mem_range.1 hi
  by_cases h1 : i < k
  · simp [h1, hi]
  · have : l[i]? = none := by simp; omega
    simp [h1, hi, this]
theorem arrV_one (n l k) : (arrV n l k).all (·.oneCell') = true := by
  rw [Array.all_eq_true_iff_forall_mem]
  intro v hv
  simp [arrV] at hv
  obtain ⟨i, _, rfl⟩ := hv
  rfl
end Go.Proofs.Ytkhhkbigpaoinaa
