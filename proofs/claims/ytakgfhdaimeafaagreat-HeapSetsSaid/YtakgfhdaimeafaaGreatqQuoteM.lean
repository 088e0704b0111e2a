/- Strings as they are written: plain laws. A lemma file: no statement of its own. -/
import Derived.Test.YtakgfhdaimeafaaGreatqBytes
set_option linter.unusedSimpArgs false
set_option linter.unusedVariables false
set_option linter.unusedSectionVars false
namespace Go.Proofs.Tryz
open Go.Cs
open Go.RowKit (Below)
set_option maxRecDepth 100000
end Go.Proofs.Tryz
