/- A day in memory: its plan, its calendar, its date, what is entered. -/
import Derived.Test.YtkhhkbigpaoinaaDayNew
namespace Go.Proofs.Ytkhhkbigpaoinaa
set_option linter.unusedVariables false
set_option linter.unusedSimpArgs false
open Go.RowKit Go.Maps
attribute [local irreducible] Go.wpStill

def CalAt (w : World) (cb mc : Nat) (we : List Bool) (fs : List Int) : Prop := we.length = 7 ∧ ∃ n, n ≤ fs.length ∧ w.heap[cb]? = some (.cells (we.map Value.bool ++ [Value.map (some mc)]).toArray 79 (0, 0)) ∧ MapAt keyD w mc n (freeF fs)
theorem CalR.at {w : World} {cb : Nat} {we : List Bool} {fs : List Int} (h : CalR w cb we fs) : ∃ mc, CalAt w cb mc we fs := by
  obtain ⟨h0, mb, n, h1, h2, h3⟩ := h
  exact ⟨mb, h0, n, h1, h2, h3⟩
theorem CalAt.cal {w : World} {cb mc : Nat} {we : List Bool} {fs : List Int} (h : CalAt w cb mc we fs) : CalR w cb we fs := by
  obtain ⟨h0, n, h1, h2, h3⟩ := h
  exact ⟨h0, mc, n, h1, h2, h3⟩
theorem CalAt.lt {w : World} {cb mc : Nat} {we : List Bool} {fs : List Int} (h : CalAt w cb mc we fs) : cb < w.heap.size ∧ mc < w.heap.size := by
  obtain ⟨h0, n, h1, h2, h3⟩ := h
  exact ⟨lt_of_block h2, h3.lt keyD⟩
theorem CalAt.ne {w : World} {cb mc : Nat} {we : List Bool} {fs : List Int} (h : CalAt w cb mc we fs) : ∃ cs, w.heap[cb]? = some (.cells cs 79 (0, 0)) := by
  obtain ⟨h0, n, h1, h2, h3⟩ := h
  exact ⟨_, h2⟩
theorem CalAt.keep {w w' : World} {cb mc : Nat} {we : List Bool} {fs : List Int} (h : CalAt w cb mc we fs) (h1 : w'.heap[cb]? = w.heap[cb]?) (h2 : w'.heap[mc]? = w.heap[mc]?) : CalAt w' cb mc we fs := by
  obtain ⟨h0, n, hn, hb, hm⟩ := h
  exact ⟨h0, n, hn, h1.trans hb, hm.block keyD h2⟩
/-- an instruction that is entered, but its number -/
structure EntV where
  settle : Int
  value : Int
  frm : Int
  dst : Int
  failed : Int
def EntV.cells (id : Int) (e : EntV) : Array Value := #[.int .i64 id, .int .i64 e.settle, .int .i64 e.value, .int .i64 e.frm, .int .i64 e.dst, .int .i64 e.failed]
/-- the map of what is entered: each number's instruction in a block of its own -/
def EntR (w : World) (B mb cnt : Nat) (es : Int → Option EntV) : Prop := ∃ bl : Int → Nat, MapAt keyD w mb cnt (fun id => (es id).map fun _ => .pointer (some ⟨bl id, 0, none⟩)) ∧
  (∀ id e, es id = some e → w.heap[bl id]? = some (.cells (e.cells id) 76 (0, 0)) ∧ B ≤ bl id) ∧ ∀ id id' e e', es id = some e → es id' = some e' → bl id = bl id' → id = id'
def PlanV.bare (p : PlanV) : PlanV := { p with fv := .slice none 0 0 }
structure DayR (w : World) (B db : Nat) (p : PlanV) (today : Int) (cnt : Nat) (es : Int → Option EntV) : Prop where
  we : p.we.length = 7
  hs : p.hs.length = 6
  low : B ≤ db
  parts : ∃ cb mc mb, w.heap[db]? = some (.cells (p.bare.cells ++ #[.pointer (some ⟨cb, 0, none⟩), .int .i64 today, .map (some mb)]) 66 (0, 0)) ∧ CalAt w cb mc p.we p.fs ∧ EntR w B mb cnt es ∧ mc ≠ mb ∧ B ≤ mb
theorem block_cell {w : World} {b : Nat} {cs : Array Value} {t : TypeId} (h : w.heap[b]? = some (.cells cs t (0, 0))) (j : Nat) (v : Value) (hj : cs[j]? = some v) : w.cell? ⟨b, j, none⟩ = some v ∧ w.frozen? ⟨b, j, none⟩ = false := ⟨by rw [cell_of_row _ _ _ _ _ _ h]; exact hj, by simp [World.frozen?, h]⟩
theorem exec_index6 {w : World} {a : Act} {o : Oper} {x y : Operand} {cs : Array Value} {i : Nat} {v : Value} (hv : cs[i]? = some v) (hi : i < 6) (ho : o.op = .index 24 x y) (hx : a.eval x = .agg cs) (hy : a.eval y = .int .i64 i) : (execOp a.eval o).run Try.prog w = .ok (.value v) w := by
  have hu := Try.underlying24
  have hs : ∀ w, (sizeOf 3).run Try.prog w = .ok 1 w := fun w => by kernel_rfl
  have hT : ∀ w, (isAgg 3).run Try.prog w = .ok false w := fun w => by kernel_rfl
  have h6 : (i : Int) < 6 := by omega
  unfold execOp
  simp only [ho, hx, hy]
  simp [go_sem, Instr.index, hu, hs, hT, part, hv, h6]
  intro h; omega
end Go.Proofs.Ytkhhkbigpaoinaa
