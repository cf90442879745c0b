/- The closed run of a day that each law asks for: by contract. -/
import Derived.Test.YtkhhkbigpaoinaaDaySame
import Derived.Test.YtkhhkbigpaoinaaDayMake
namespace Go.Proofs.Ytkhhkbigpaoinaa
set_option linter.unusedVariables false
set_option linter.unusedSimpArgs false
open Go.RowKit Go.Maps
attribute [local irreducible] Go.wpStill

def plan0 : PlanV := ⟨[false, false, false, false, false, true, true], [], .slice none 0 0, [420, 480, 1140, 1200, 1260, 1320], 2, 10000⟩
def e7 : EntV := ⟨738890, 1050, 1, 2, 0⟩
def e5 : EntV := ⟨738893, 99, 1, 3, 0⟩
def esA : Int → Option EntV := updE (fun _ => none) 7 (some e7)
def esB : Int → Option EntV := updE esA 5 (some e5)
def esC : Int → Option EntV := updE esB 7 (some { e7 with failed := 1 })
theorem plan0_ok : planOk plan0 738890 = true := by decide
theorem phase0 : phaseM plan0.hs 1139 = 2 := by decide
theorem ent7 : entOk (fun _ => none) 7 738890 1050 1 2 = true := by decide
theorem ent5 : entOk esA 5 738893 99 1 3 = true := by decide
theorem good7 : keyD.good 7 := by show (Lit.int .i64 7).wf = true; decide
theorem good5 : keyD.good 5 := by show (Lit.int .i64 5).wf = true; decide
theorem next0 : NextIs plan0.we plan0.fs (738890 + 1) 738893 := by
  refine ⟨by omega, fun j h1 h2 => ?_, .inr (by decide)⟩
  obtain rfl | rfl : j = 738891 ∨ j = 738892 := by omega
  · decide
  · decide
theorem esB_at (x : Int) (e : EntV) (h : esB x = some e) : (x = 7 ∧ e = e7) ∨ (x = 5 ∧ e = e5) := by
  unfold esB esA updE at h
  by_cases h5 : x = 5
  · simp [h5] at h; exact .inr ⟨h5, h.symm⟩
  · by_cases h7 : x = 7
    · simp [h7] at h; exact .inl ⟨h7, h.symm⟩
    · simp [h5, h7] at h
theorem esC_at (x : Int) (e : EntV) (h : esC x = some e) : (x = 7 ∧ e = { e7 with failed := 1 }) ∨ (x = 5 ∧ e = e5) := by
  unfold esC at h
  by_cases h7 : x = 7
  · simp [updE, h7] at h; exact .inl ⟨h7, h.symm⟩
  · unfold updE at h
    simp only [if_neg h7] at h
    rcases esB_at x e h with h | h
    · exact absurd h.1 h7
    · exact .inr h
theorem due1 : DueL esB 738890 [7] := by
  refine ⟨by simp, fun x => ⟨fun h => ?_, fun ⟨_, e, he, hs⟩ => ?_⟩⟩
  · obtain rfl : x = 7 := by simpa using h
    exact ⟨good7, e7, rfl, by decide⟩
  · rcases esB_at x e he with ⟨rfl, rfl⟩ | ⟨rfl, rfl⟩
    · simp
    · exact absurd hs (by decide)
theorem due2 : DueL esC 738893 [7, 5] := by
  refine ⟨by decide, fun x => ⟨fun h => ?_, fun ⟨_, e, he, hs⟩ => ?_⟩⟩
  · obtain rfl | rfl : x = 7 ∨ x = 5 := by simpa using h
    · exact ⟨good7, _, rfl, by decide⟩
    · exact ⟨good5, e5, rfl, by decide⟩
  · rcases esC_at x e he with ⟨rfl, rfl⟩ | ⟨rfl, rfl⟩
    · simp
    · simp
theorem close0 : closeE 2 esB [7] = esC := rfl
theorem owed0 : owedL 10000 esB [7] = [(7, 1, 2, 10)] := by decide
theorem gone0 : goneL 2 esB [7] = [] := by decide
theorem ents0 : EntsOk 2 esB := fun x e h => by
  rcases esB_at x e h with ⟨rfl, rfl⟩ | ⟨rfl, rfl⟩ <;> decide
set_option maxRecDepth 100000 in
theorem plan_any (w : World) : Calls Try.prog 24 #[] w fun e w' => e = .returned (.agg #[.bool false, .bool false, .bool false, .bool false, .bool false, .bool true, .bool true, .slice none 0 0, .int .i64 420, .int .i64 480, .int .i64 1140, .int .i64 1200, .int .i64 1260, .int .i64 1320, .int .i64 2, .int .i64 10000]) ∧ Below w.heap.size w w' := by
  go_enter Try.func24, Try.ntmps24
  go_wp2_with fail
  exact bodyPost_ret (v := .agg #[.bool false, .bool false, .bool false, .bool false, .bool false, .bool true, .bool true, .slice none 0 0, .int .i64 420, .int .i64 480, .int .i64 1140, .int .i64 1200, .int .i64 1260, .int .i64 1320, .int .i64 2, .int .i64 10000]) (results_cell_row rfl _ _ w.heap.size 26 _ (0, 0) _ rfl (heap_alloc_new w _) Try.underlying26 rfl (by kernel_rfl)) rfl ⟨rfl, (Below.refl _ _).alloc (Nat.le_refl _) _⟩
end Go.Proofs.Ytkhhkbigpaoinaa
