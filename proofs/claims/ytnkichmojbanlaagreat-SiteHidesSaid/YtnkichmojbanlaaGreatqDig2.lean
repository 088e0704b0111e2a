/- The walk of the document's digits. A lemma file: no statement of its own. -/
import Derived.Test.YtnkichmojbanlaaGreatqFwF
import Derived.Test.YtnkichmojbanlaaGreatqDig1
set_option linter.unusedSimpArgs false
set_option linter.unusedVariables false
set_option linter.unusedSectionVars false
namespace Go.Proofs.Tryz
open Go.Cs
open Go.RowKit (Below)
set_option maxRecDepth 100000
attribute [local irreducible] CCalls WLoop WScope
section
variable {M : Type} [Mem M] {w0 : World} {s : St M} {R : Value → St M → Prop}
end
end Go.Proofs.Tryz
