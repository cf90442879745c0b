/- calls of a day as the laws tell them. -/
import Derived.Test.YtkhhkbigpaoinaaRowE
namespace Go.Proofs.Ytkhhkbigpaoinaa
set_option linter.unusedVariables false
set_option linter.unusedSimpArgs false
open Go.RowKit

abbrev actT := Int × Int × Int × Int × Int × Int
abbrev actE : Enc actT := ⟨fun x => [.int .i64 x.1, .int .i64 x.2.1, .int .i64 x.2.2.1, .int .i64 x.2.2.2.1, .int .i64 x.2.2.2.2.1, .int .i64 x.2.2.2.2.2], 6, by decide, fun x => rfl, fun x => all_one rfl⟩
def ActOk (x : actT) : Prop := x.2.2.2.2.2 ≤ 9223372036854775807
end Go.Proofs.Ytkhhkbigpaoinaa
