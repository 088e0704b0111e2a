/- The walk of the law of sums and products. A lemma file: no statement of its own. -/
import Derived.Test.YtlijgnofegjnmaaNum2
set_option linter.unusedSimpArgs false
set_option linter.unusedVariables false
namespace Go.Proofs.Try
open Go.Cs
open Go.RowKit (Below)
set_option maxRecDepth 100000
attribute [local irreducible] CCalls WLoop WScope

section
variable {M : Type} [Mem M] {w0 : World} {s : St M} {R : Value → St M → Prop}

end


end Go.Proofs.Try
