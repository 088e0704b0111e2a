/- What setting a property changes, in plain Lean. A lemma file: no statement of its own. -/
import Derived.Test.YtakgfhdaimeafaaGreatqRN1
import Derived.Test.YtakgfhdaimeafaaGreatqW12
set_option linter.unusedSimpArgs false
set_option linter.unusedVariables false
set_option linter.unusedSectionVars false
namespace Go.Proofs.Tryz
open Go.Cs
set_option maxRecDepth 100000
def z3 : V3 := (0, 0, ⟨#[]⟩)
theorem gotV_eq (o : Option V3) : gotV o = .tuple #[.agg #[.int .i64 (o.getD z3).1, .int .i64 (o.getD z3).2.1, .string (o.getD z3).2.2], .bool o.isSome] := by
  cases o <;> rfl
end Go.Proofs.Tryz
