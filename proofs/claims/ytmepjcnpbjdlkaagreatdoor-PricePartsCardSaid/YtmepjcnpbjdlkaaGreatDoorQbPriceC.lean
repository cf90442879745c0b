/- texts of this claim, laid together: PriceC. -/
import Derived.Test.YtmepjcnpbjdlkaaGreatDoorQbPriceB
/- price.of, checked, Check: by contract. -/
namespace Go.Proofs.YtmepjcnpbjdlkaaGreatDoor
set_option linter.unusedVariables false
set_option linter.unusedSimpArgs false
open Go.RowKit
attribute [local irreducible] Go.wpStill

/-- a paper of its kind -/
inductive PaperP (s : SecV) : Value → Int → Prop
  | equity (h : s.kind = 1) : PaperP s (.iface 203 (.agg (secC s))) (eqN s)
  | bond (h : s.kind = 2) : PaperP s (.iface 206 (.agg (secC s))) (bondN s)
  | bill (h : s.kind = 3) : PaperP s (.iface 204 (.agg (secC s))) (billN s)
  | cash (h : s.kind = 4) : PaperP s (.iface 208 (.agg (secC s))) (eqN s)
def OfP2 (s : SecV) (w : World) (e : Ending) (w' : World) : Prop := ∃ v, e = .returned v ∧ ((s.kind < 1 ∨ 4 < s.kind) ∧ v = .nilIface ∨ ∃ n, PaperP s v n) ∧ Below w.heap.size w w'
set_option maxRecDepth 100000 in
set_option maxHeartbeats 4000000 in
theorem paper_any (s : SecV) (w : World) : Calls Tryz.prog 110 #[.agg (secC s)] w (OfP2 s w) := by
  obtain ⟨c0, c1, c2, c3, c4, c5, c6, c7, c8, c9, c10, c11, kind, face, coupon, per, basis, start, finish, cur⟩ := s
  have HG := Lib.hid (heap_alloc_new w (.cells (secC ⟨c0, c1, c2, c3, c4, c5, c6, c7, c8, c9, c10, c11, kind, face, coupon, per, basis, start, finish, cur⟩) 25))
  by_cases h1 : kind = 1
  · subst h1
    go_enter Tryz.func110, Tryz.ntmps110
    go_wp2_with (refine wpList_val (.agg (secC ⟨c0, c1, c2, c3, c4, c5, c6, c7, c8, c9, c10, c11, 1, face, coupon, per, basis, start, finish, cur⟩)) (by kernel_rfl) (exec_load_row HG.out rfl rfl Tryz.underlying25 rfl (by kernel_rfl)) ?_)
    go_ret
    exact ⟨_, rfl, .inr ⟨_, .equity rfl⟩, (Below.refl _ _).alloc (Nat.le_refl _) _⟩
  by_cases h2 : kind = 2
  · subst h2
    clear h1
    go_enter Tryz.func110, Tryz.ntmps110
    go_wp2_with (refine wpList_val (.agg (secC ⟨c0, c1, c2, c3, c4, c5, c6, c7, c8, c9, c10, c11, 2, face, coupon, per, basis, start, finish, cur⟩)) (by kernel_rfl) (exec_load_row HG.out rfl rfl Tryz.underlying25 rfl (by kernel_rfl)) ?_)
    go_ret
    exact ⟨_, rfl, .inr ⟨_, .bond rfl⟩, (Below.refl _ _).alloc (Nat.le_refl _) _⟩
  by_cases h3 : kind = 3
  · subst h3
    clear h1 h2
    go_enter Tryz.func110, Tryz.ntmps110
    go_wp2_with (refine wpList_val (.agg (secC ⟨c0, c1, c2, c3, c4, c5, c6, c7, c8, c9, c10, c11, 3, face, coupon, per, basis, start, finish, cur⟩)) (by kernel_rfl) (exec_load_row HG.out rfl rfl Tryz.underlying25 rfl (by kernel_rfl)) ?_)
    go_ret
    exact ⟨_, rfl, .inr ⟨_, .bill rfl⟩, (Below.refl _ _).alloc (Nat.le_refl _) _⟩
  by_cases h4 : kind = 4
  · subst h4
    clear h1 h2 h3
    go_enter Tryz.func110, Tryz.ntmps110
    go_wp2_with (refine wpList_val (.agg (secC ⟨c0, c1, c2, c3, c4, c5, c6, c7, c8, c9, c10, c11, 4, face, coupon, per, basis, start, finish, cur⟩)) (by kernel_rfl) (exec_load_row HG.out rfl rfl Tryz.underlying25 rfl (by kernel_rfl)) ?_)
    go_ret
    exact ⟨_, rfl, .inr ⟨_, .cash rfl⟩, (Below.refl _ _).alloc (Nat.le_refl _) _⟩
  have hk : kind < 1 ∨ 4 < kind := by omega
  have e1 : (kind == 1) = false := by simpa using h1
  have e2 : (kind == 2) = false := by simpa using h2
  have e3 : (kind == 3) = false := by simpa using h3
  have e4 : (kind == 4) = false := by simpa using h4
  have HK := Lib.hid hk
  clear h1 h2 h3 h4 hk
  go_enter Tryz.func110, Tryz.ntmps110
  go_wp2_with fail
  go_ret
  exact ⟨_, rfl, .inl ⟨HK.out, rfl⟩, (Below.refl _ _).alloc (Nat.le_refl _) _⟩
/-- the check of a paper, found by its kind -/
theorem mEquity (n : Nat) (cs : Array Value) (w : World) : (Go.method (n + 1) 203 (.agg cs) "custody/price.check").run Tryz.prog w = .ok (212, .agg cs) w := by kernel_rfl
theorem mBond (n : Nat) (cs : Array Value) (w : World) : (Go.method (n + 1) 206 (.agg cs) "custody/price.check").run Tryz.prog w = .ok (222, .agg cs) w := by kernel_rfl
theorem mBill (n : Nat) (cs : Array Value) (w : World) : (Go.method (n + 1) 204 (.agg cs) "custody/price.check").run Tryz.prog w = .ok (217, .agg cs) w := by kernel_rfl
theorem codeConv (s : SecV) (b : Nat) (w : World) (hs : w.heap[b]? = some (.cells (secC s) 25 (0, 0))) : (convert 132 9 (.slice (some ⟨b, 0, none⟩) 12 12)).run Tryz.prog w = .ok (.string ⟨(codeL s).toArray⟩) w := by
  have := run_convert_bytes_back (P := Tryz.prog) w 132 9 5 ⟨b, 0, none⟩ 12 (codeL s) Tryz.underlying132 Tryz.underlying5 Tryz.underlying9 (fun j hj => by
    rw [addr_add, cell_of_row _ _ _ _ _ _ hs, Nat.zero_add]
    simp [codeL] at hj
    rcases j with _ | _ | _ | _ | _ | _ | _ | _ | _ | _ | _ | _ | j
    all_goals first | rfl | omega)
  exact this
end Go.Proofs.YtmepjcnpbjdlkaaGreatDoor
