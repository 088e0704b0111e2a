/- The digits of numbers: plain laws, no program. A lemma file: no statement of its own. -/
import Derived.Test.YtakgfhdaimeafaaGreatqFwF
set_option linter.unusedSimpArgs false
set_option linter.unusedVariables false
namespace Go.Cs
end Go.Cs
