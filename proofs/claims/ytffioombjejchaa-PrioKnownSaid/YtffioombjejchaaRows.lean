/-
  No cell of these rows narrows 'for every input' (looked for: loops, veiled, ifaces, maps, wideKeys, modest, calm, conditions, laid).
  DERIVED. THE GIVEN ROWS OF THIS SEAT. 5 by the template 'for every input the law returns true; each argument reads behind the call as it read before'; 0 by the template 'total and deterministic' (their statements: YtffioombjejchaaTotals.lean).
  GIVEN WITH THE SEED: the statements are not yours to turn. If you find one false, say at which input.
  Laid BY PROGRAM, IN A SANDBOX (cutbox-rows.mjs): the forced cells as the released guide's own fill.sh prints them over the translation 4dcd0f5d3b7c5171… (all of the seat's roots in one cut). By AI agents, Wed Nov 11 2026. No macro, syntax, notation, axiom, sorry.
-/
import Derived.Test.YtffioombjejchaaChecked
import GoSem.Claim
import GoSem.ClaimJoined
import GoSem.ClaimMapViews
import Derived.JoinedTies
import Derived.KernelRfl
namespace Go.Proofs.Ytffioombjejchaa
/- THE CELL 'sum', in the pinned program and in every row, IS THE sha256 OF THE DUMP (.gsa) THAT YtffioombjejchaaProg.lean LOADS. Nothing in Lean hashes anything: it is a label: what it is worth is what the hold of that sum in a sandbox is worth. -/
noncomputable def Try.pinned : Pinned := { name := "ytffioombjejchaa", sum := "4dcd0f5d3b7c5171715c59fa6cb57acc54ba3fe482d95d7620c0c04b2f515121", checked := Try.checked }
namespace Rows
def none {H : Type} : Left H := { results := [], args := [] }

/-- 'custodylaw15.PrioHeaps': WHATEVER THE INPUT: true; the input reads as it did. -/
def prioHeapsSpec : ChangeSpec := { name := "prioHeaps", fn := fun _ => fun
  | [d] => { results := [.lit (.bool true)], args := [d] }
  | _ => none }
def prioHeapsRow : OpenClaim := { program := "ytffioombjejchaa", sum := "4dcd0f5d3b7c5171715c59fa6cb57acc54ba3fe482d95d7620c0c04b2f515121", func := "custody/custodylaw15.PrioHeaps", spec := "prioHeaps", unfollowed := true, recurses := true, apart := false }
def PrioHeapsSaid : Prop := prioHeapsRow.holds Try.pinned (OpenSpec.ofChange prioHeapsSpec)

/-- ITS FALSE NEIGHBOUR: 'it returns false'. Refute it at one input. -/
def prioHeapsWrong : ChangeSpec := { name := "prioHeaps", fn := fun _ => fun
  | [d] => { results := [.lit (.bool false)], args := [d] }
  | _ => none }
def PrioHeapsWrongFalsely : Prop := prioHeapsRow.holds Try.pinned (OpenSpec.ofChange prioHeapsWrong)

/-- 'custodylaw15.PrioSorts': WHATEVER THE INPUT: true; the input reads as it did. -/
def prioSortsSpec : ChangeSpec := { name := "prioSorts", fn := fun _ => fun
  | [d] => { results := [.lit (.bool true)], args := [d] }
  | _ => none }
def prioSortsRow : OpenClaim := { program := "ytffioombjejchaa", sum := "4dcd0f5d3b7c5171715c59fa6cb57acc54ba3fe482d95d7620c0c04b2f515121", func := "custody/custodylaw15.PrioSorts", spec := "prioSorts", unfollowed := true, recurses := true, apart := false }
def PrioSortsSaid : Prop := prioSortsRow.holds Try.pinned (OpenSpec.ofChange prioSortsSpec)

/-- ITS FALSE NEIGHBOUR: 'it returns false'. Refute it at one input. -/
def prioSortsWrong : ChangeSpec := { name := "prioSorts", fn := fun _ => fun
  | [d] => { results := [.lit (.bool false)], args := [d] }
  | _ => none }
def PrioSortsWrongFalsely : Prop := prioSortsRow.holds Try.pinned (OpenSpec.ofChange prioSortsWrong)

/-- 'custodylaw15.PrioNeverPassed': WHATEVER THE INPUT: true; the input reads as it did. -/
def prioNeverPassedSpec : ChangeSpec := { name := "prioNeverPassed", fn := fun _ => fun
  | [d] => { results := [.lit (.bool true)], args := [d] }
  | _ => none }
def prioNeverPassedRow : OpenClaim := { program := "ytffioombjejchaa", sum := "4dcd0f5d3b7c5171715c59fa6cb57acc54ba3fe482d95d7620c0c04b2f515121", func := "custody/custodylaw15.PrioNeverPassed", spec := "prioNeverPassed", unfollowed := true, recurses := true, apart := false }
def PrioNeverPassedSaid : Prop := prioNeverPassedRow.holds Try.pinned (OpenSpec.ofChange prioNeverPassedSpec)

/-- ITS FALSE NEIGHBOUR: 'it returns false'. Refute it at one input. -/
def prioNeverPassedWrong : ChangeSpec := { name := "prioNeverPassed", fn := fun _ => fun
  | [d] => { results := [.lit (.bool false)], args := [d] }
  | _ => none }
def PrioNeverPassedWrongFalsely : Prop := prioNeverPassedRow.holds Try.pinned (OpenSpec.ofChange prioNeverPassedWrong)

/-- 'custodylaw15.PrioPlay': WHATEVER THE INPUT: true; the input reads as it did. -/
def prioPlaySpec : ChangeSpec := { name := "prioPlay", fn := fun _ => fun
  | [d1, d2] => { results := [.lit (.bool true)], args := [d1, d2] }
  | _ => none }
def prioPlayRow : OpenClaim := { program := "ytffioombjejchaa", sum := "4dcd0f5d3b7c5171715c59fa6cb57acc54ba3fe482d95d7620c0c04b2f515121", func := "custody/custodylaw15.PrioPlay", spec := "prioPlay", unfollowed := true, recurses := true, apart := false }
def PrioPlaySaid : Prop := prioPlayRow.holds Try.pinned (OpenSpec.ofChange prioPlaySpec)

/-- ITS FALSE NEIGHBOUR: 'it returns false'. Refute it at one input. -/
def prioPlayWrong : ChangeSpec := { name := "prioPlay", fn := fun _ => fun
  | [d1, d2] => { results := [.lit (.bool false)], args := [d1, d2] }
  | _ => none }
def PrioPlayWrongFalsely : Prop := prioPlayRow.holds Try.pinned (OpenSpec.ofChange prioPlayWrong)

/-- 'custodylaw15.PrioKnown': WHATEVER THE INPUT: true; the input reads as it did. -/
def prioKnownSpec : ChangeSpec := { name := "prioKnown", fn := fun _ => fun
  | [] => { results := [.lit (.bool true)], args := [] }
  | _ => none }
def prioKnownRow : OpenClaim := { program := "ytffioombjejchaa", sum := "4dcd0f5d3b7c5171715c59fa6cb57acc54ba3fe482d95d7620c0c04b2f515121", func := "custody/custodylaw15.PrioKnown", spec := "prioKnown", unfollowed := true, recurses := true, apart := false }
def PrioKnownSaid : Prop := prioKnownRow.holds Try.pinned (OpenSpec.ofChange prioKnownSpec)

/-- ITS FALSE NEIGHBOUR: 'it returns false'. Refute it at one input. -/
def prioKnownWrong : ChangeSpec := { name := "prioKnown", fn := fun _ => fun
  | [] => { results := [.lit (.bool false)], args := [] }
  | _ => none }
def PrioKnownWrongFalsely : Prop := prioKnownRow.holds Try.pinned (OpenSpec.ofChange prioKnownWrong)

/- THE SECOND FORM. 'bulk': how many values and letters a reading holds, each counted each time it is reached (what is shared counts as often as it is met; a slice's spare places count too). A statement '..UptoSaid' is the law's where the arguments, and the package variables that the reading takes, are together of bulk at most 1048576: NARROWER than '..Said'. Prove '..Said' where nothing that the law and all that it calls make is longer than what came in: it says more and counts as full. Else prove '..UptoSaid'. A law counts once. -/
mutual
def uptoBulk {H : Type} : DataW H → Nat
  | .lit (.string bytes) => bytes.length + 1
  | .lit _ => 1
  | .nil => 1
  | .ptr d => uptoBulk d + 1
  | .slice elems spare => uptoBulkAll elems + uptoBulkAll spare + 1
  | .agg parts => uptoBulkAll parts + 1
  | .iface _ d => uptoBulk d + 1
  | .map entries => uptoBulkEntries entries + 1
  | .held _ => 1
def uptoBulkAll {H : Type} : List (DataW H) → Nat
  | [] => 0
  | d :: r => uptoBulk d + uptoBulkAll r
def uptoBulkEntries {H : Type} : List (Lit × DataW H) → Nat
  | [] => 0
  | x :: r => uptoBulkEntry x + uptoBulkEntries r
def uptoBulkEntry {H : Type} : Lit × DataW H → Nat
  | (.string bytes, d) => bytes.length + uptoBulk d + 1
  | (_, d) => uptoBulk d + 1
 end
def uptoSmall : (H : Type) → List (DataW H) → Bool := fun _ ds => decide (uptoBulkAll ds ≤ 1048576)
def OpenSpec.upto (s : _root_.Go.ChangeSpec) : _root_.Go.OpenSpec := { _root_.Go.OpenSpec.ofChange s with cond := some uptoSmall }

/-- 'custodylaw15.PrioHeaps', WHERE WHAT IT READS IS OF BULK AT MOST 1048576: true; the input reads as it did. -/
def prioHeapsUptoRow : OpenClaim := { program := "ytffioombjejchaa", sum := "4dcd0f5d3b7c5171715c59fa6cb57acc54ba3fe482d95d7620c0c04b2f515121", func := "custody/custodylaw15.PrioHeaps", spec := "prioHeaps", unfollowed := true, recurses := true, apart := false, narrowed := true }
def PrioHeapsUptoSaid : Prop := prioHeapsUptoRow.holds Try.pinned (OpenSpec.upto prioHeapsSpec)

/-- 'custodylaw15.PrioSorts', WHERE WHAT IT READS IS OF BULK AT MOST 1048576: true; the input reads as it did. -/
def prioSortsUptoRow : OpenClaim := { program := "ytffioombjejchaa", sum := "4dcd0f5d3b7c5171715c59fa6cb57acc54ba3fe482d95d7620c0c04b2f515121", func := "custody/custodylaw15.PrioSorts", spec := "prioSorts", unfollowed := true, recurses := true, apart := false, narrowed := true }
def PrioSortsUptoSaid : Prop := prioSortsUptoRow.holds Try.pinned (OpenSpec.upto prioSortsSpec)

/-- 'custodylaw15.PrioNeverPassed', WHERE WHAT IT READS IS OF BULK AT MOST 1048576: true; the input reads as it did. -/
def prioNeverPassedUptoRow : OpenClaim := { program := "ytffioombjejchaa", sum := "4dcd0f5d3b7c5171715c59fa6cb57acc54ba3fe482d95d7620c0c04b2f515121", func := "custody/custodylaw15.PrioNeverPassed", spec := "prioNeverPassed", unfollowed := true, recurses := true, apart := false, narrowed := true }
def PrioNeverPassedUptoSaid : Prop := prioNeverPassedUptoRow.holds Try.pinned (OpenSpec.upto prioNeverPassedSpec)

/-- 'custodylaw15.PrioPlay', WHERE WHAT IT READS IS OF BULK AT MOST 1048576: true; the input reads as it did. -/
def prioPlayUptoRow : OpenClaim := { program := "ytffioombjejchaa", sum := "4dcd0f5d3b7c5171715c59fa6cb57acc54ba3fe482d95d7620c0c04b2f515121", func := "custody/custodylaw15.PrioPlay", spec := "prioPlay", unfollowed := true, recurses := true, apart := false, narrowed := true }
def PrioPlayUptoSaid : Prop := prioPlayUptoRow.holds Try.pinned (OpenSpec.upto prioPlaySpec)

/-- 'custodylaw15.PrioKnown', WHERE WHAT IT READS IS OF BULK AT MOST 1048576: true; the input reads as it did. -/
def prioKnownUptoRow : OpenClaim := { program := "ytffioombjejchaa", sum := "4dcd0f5d3b7c5171715c59fa6cb57acc54ba3fe482d95d7620c0c04b2f515121", func := "custody/custodylaw15.PrioKnown", spec := "prioKnown", unfollowed := true, recurses := true, apart := false, narrowed := true }
def PrioKnownUptoSaid : Prop := prioKnownUptoRow.holds Try.pinned (OpenSpec.upto prioKnownSpec)

end Rows
end Go.Proofs.Ytffioombjejchaa
