/-
  No cell of these rows narrows 'for every input' (looked for: loops, veiled, ifaces, maps, wideKeys, modest, calm, conditions, laid).
  DERIVED. THE GIVEN ROWS OF THIS SEAT. 3 by the template 'for every input the law returns true; each argument reads behind the call as it read before'; 0 by the template 'total and deterministic' (their statements: YtkhhkbigpaoinaaTotals.lean).
  GIVEN WITH THE SEED: the statements are not yours to turn. If you find one false, say at which input.
  Laid BY PROGRAM, IN A SANDBOX (cutbox-rows.mjs): the forced cells as the released guide's own fill.sh prints them over the translation 0a19f06b99ba85dc… (all of the seat's roots in one cut). By AI agents, Wed Nov 11 2026. No macro, syntax, notation, axiom, sorry.
-/
import Derived.Test.YtkhhkbigpaoinaaChecked
import GoSem.Claim
import GoSem.ClaimJoined
import GoSem.ClaimMapViews
import Derived.JoinedTies
import Derived.KernelRfl
namespace Go.Proofs.Ytkhhkbigpaoinaa
/- THE CELL 'sum', in the pinned program and in every row, IS THE sha256 OF THE DUMP (.gsa) THAT YtkhhkbigpaoinaaProg.lean LOADS. Nothing in Lean hashes anything: it is a label: what it is worth is what the hold of that sum in a sandbox is worth. -/
noncomputable def Try.pinned : Pinned := { name := "ytkhhkbigpaoinaa", sum := "0a19f06b99ba85dc53e85f09b400476e7c96fc10824556a27c1978ec3cca8eeb", checked := Try.checked }
namespace Rows
def none {H : Type} : Left H := { results := [], args := [] }

/-- 'custodylaw30.DayPhases': WHATEVER THE INPUT: true; the input reads as it did. -/
def dayPhasesSpec : ChangeSpec := { name := "dayPhases", fn := fun _ => fun
  | [d1, d2, d3, d4] => { results := [.lit (.bool true)], args := [d1, d2, d3, d4] }
  | _ => none }
def dayPhasesRow : OpenClaim := { program := "ytkhhkbigpaoinaa", sum := "0a19f06b99ba85dc53e85f09b400476e7c96fc10824556a27c1978ec3cca8eeb", func := "custody/custodylaw30.DayPhases", spec := "dayPhases", unfollowed := true, recurses := true, named := ["math/bits.divideError", "math/bits.overflowError"], plainKeys := false, apart := false }
def DayPhasesSaid : Prop := dayPhasesRow.holds Try.pinned (OpenSpec.ofChange dayPhasesSpec)

/-- ITS FALSE NEIGHBOUR: 'it returns false'. Refute it at one input. -/
def dayPhasesWrong : ChangeSpec := { name := "dayPhases", fn := fun _ => fun
  | [d1, d2, d3, d4] => { results := [.lit (.bool false)], args := [d1, d2, d3, d4] }
  | _ => none }
def DayPhasesWrongFalsely : Prop := dayPhasesRow.holds Try.pinned (OpenSpec.ofChange dayPhasesWrong)

/-- 'custodylaw30.DayFails': WHATEVER THE INPUT: true; the input reads as it did. -/
def dayFailsSpec : ChangeSpec := { name := "dayFails", fn := fun _ => fun
  | [d1, d2, d3, d4, d5, d6, d7] => { results := [.lit (.bool true)], args := [d1, d2, d3, d4, d5, d6, d7] }
  | _ => none }
def dayFailsRow : OpenClaim := { program := "ytkhhkbigpaoinaa", sum := "0a19f06b99ba85dc53e85f09b400476e7c96fc10824556a27c1978ec3cca8eeb", func := "custody/custodylaw30.DayFails", spec := "dayFails", unfollowed := true, recurses := true, named := ["math/bits.divideError", "math/bits.overflowError"], plainKeys := false, apart := false }
def DayFailsSaid : Prop := dayFailsRow.holds Try.pinned (OpenSpec.ofChange dayFailsSpec)

/-- ITS FALSE NEIGHBOUR: 'it returns false'. Refute it at one input. -/
def dayFailsWrong : ChangeSpec := { name := "dayFails", fn := fun _ => fun
  | [d1, d2, d3, d4, d5, d6, d7] => { results := [.lit (.bool false)], args := [d1, d2, d3, d4, d5, d6, d7] }
  | _ => none }
def DayFailsWrongFalsely : Prop := dayFailsRow.holds Try.pinned (OpenSpec.ofChange dayFailsWrong)

/-- 'custodylaw30.DayZero': WHATEVER THE INPUT: true; the input reads as it did. -/
def dayZeroSpec : ChangeSpec := { name := "dayZero", fn := fun _ => fun
  | [d1, d2] => { results := [.lit (.bool true)], args := [d1, d2] }
  | _ => none }
def dayZeroRow : OpenClaim := { program := "ytkhhkbigpaoinaa", sum := "0a19f06b99ba85dc53e85f09b400476e7c96fc10824556a27c1978ec3cca8eeb", func := "custody/custodylaw30.DayZero", spec := "dayZero", unfollowed := true, recurses := true, named := ["math/bits.divideError", "math/bits.overflowError"], plainKeys := false, apart := false }
def DayZeroSaid : Prop := dayZeroRow.holds Try.pinned (OpenSpec.ofChange dayZeroSpec)

/-- ITS FALSE NEIGHBOUR: 'it returns false'. Refute it at one input. -/
def dayZeroWrong : ChangeSpec := { name := "dayZero", fn := fun _ => fun
  | [d1, d2] => { results := [.lit (.bool false)], args := [d1, d2] }
  | _ => none }
def DayZeroWrongFalsely : Prop := dayZeroRow.holds Try.pinned (OpenSpec.ofChange dayZeroWrong)

/- THE SECOND FORM. 'bulk': how many values and letters a reading holds, each counted each time it is reached (what is shared counts as often as it is met; a slice's spare places count too). A statement '..UptoSaid' is the law's where the arguments, and the package variables that the reading takes, are together of bulk at most 1048576: NARROWER than '..Said'. Prove '..Said' where nothing that the law and all that it calls make is longer than what came in: it says more and counts as full. Else prove '..UptoSaid'. A law counts once. -/
mutual
def uptoBulk {H : Type} : DataW H → Nat
  | .lit (.string bytes) => bytes.length + 1
  | .lit _ => 1
  | .nil => 1
  | .ptr d => uptoBulk d + 1
  | .slice elems spare => uptoBulkAll elems + uptoBulkAll spare + 1
  | .agg parts => uptoBulkAll parts + 1
  | .iface _ d => uptoBulk d + 1
  | .map entries => uptoBulkEntries entries + 1
  | .held _ => 1
def uptoBulkAll {H : Type} : List (DataW H) → Nat
  | [] => 0
  | d :: r => uptoBulk d + uptoBulkAll r
def uptoBulkEntries {H : Type} : List (Lit × DataW H) → Nat
  | [] => 0
  | x :: r => uptoBulkEntry x + uptoBulkEntries r
def uptoBulkEntry {H : Type} : Lit × DataW H → Nat
  | (.string bytes, d) => bytes.length + uptoBulk d + 1
  | (_, d) => uptoBulk d + 1
 end
def uptoSmall : (H : Type) → List (DataW H) → Bool := fun _ ds => decide (uptoBulkAll ds ≤ 1048576)
def OpenSpec.upto (s : _root_.Go.ChangeSpec) : _root_.Go.OpenSpec := { _root_.Go.OpenSpec.ofChange s with cond := some uptoSmall }

/-- 'custodylaw30.DayPhases', WHERE WHAT IT READS IS OF BULK AT MOST 1048576: true; the input reads as it did. -/
def dayPhasesUptoRow : OpenClaim := { program := "ytkhhkbigpaoinaa", sum := "0a19f06b99ba85dc53e85f09b400476e7c96fc10824556a27c1978ec3cca8eeb", func := "custody/custodylaw30.DayPhases", spec := "dayPhases", unfollowed := true, recurses := true, named := ["math/bits.divideError", "math/bits.overflowError"], plainKeys := false, apart := false, narrowed := true }
def DayPhasesUptoSaid : Prop := dayPhasesUptoRow.holds Try.pinned (OpenSpec.upto dayPhasesSpec)

/-- 'custodylaw30.DayFails', WHERE WHAT IT READS IS OF BULK AT MOST 1048576: true; the input reads as it did. -/
def dayFailsUptoRow : OpenClaim := { program := "ytkhhkbigpaoinaa", sum := "0a19f06b99ba85dc53e85f09b400476e7c96fc10824556a27c1978ec3cca8eeb", func := "custody/custodylaw30.DayFails", spec := "dayFails", unfollowed := true, recurses := true, named := ["math/bits.divideError", "math/bits.overflowError"], plainKeys := false, apart := false, narrowed := true }
def DayFailsUptoSaid : Prop := dayFailsUptoRow.holds Try.pinned (OpenSpec.upto dayFailsSpec)

/-- 'custodylaw30.DayZero', WHERE WHAT IT READS IS OF BULK AT MOST 1048576: true; the input reads as it did. -/
def dayZeroUptoRow : OpenClaim := { program := "ytkhhkbigpaoinaa", sum := "0a19f06b99ba85dc53e85f09b400476e7c96fc10824556a27c1978ec3cca8eeb", func := "custody/custodylaw30.DayZero", spec := "dayZero", unfollowed := true, recurses := true, named := ["math/bits.divideError", "math/bits.overflowError"], plainKeys := false, apart := false, narrowed := true }
def DayZeroUptoSaid : Prop := dayZeroUptoRow.holds Try.pinned (OpenSpec.upto dayZeroSpec)

end Rows
end Go.Proofs.Ytkhhkbigpaoinaa
