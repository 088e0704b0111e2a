/- Nothing, as a value. A lemma file: no statement of its own. -/
import Derived.Test.YtnkichmojbanlaaGreatqHDM
namespace Go.Proofs.Tryz
def z3 : V3 := (0, 0, ⟨#[]⟩)
end Go.Proofs.Tryz
