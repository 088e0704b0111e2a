/- The walks of what asks values: of which kind they are, what counts as true. A lemma file: no statement of its own. -/
import Derived.Test.YtjjbmmgafclcaaaGreatqFwF
import Derived.Test.YtjjbmmgafclcaaaGreatqFacts
import Derived.Test.YtjjbmmgafclcaaaGreatqTypes
set_option linter.unusedSimpArgs false
set_option linter.unusedVariables false
namespace Go.Proofs.Tryz
open Go.Cs
open Go.RowKit (Below)
set_option maxRecDepth 100000
attribute [local irreducible] CCalls WLoop WScope
section
variable {M : Type} [Mem M] {w0 : World} {s : St M} {R : Value → St M → Prop}
def vA (k n : Int) (x : ByteArray) : Value := .agg #[.int .i64 k, .int .i64 n, .string x]
end
end Go.Proofs.Tryz
