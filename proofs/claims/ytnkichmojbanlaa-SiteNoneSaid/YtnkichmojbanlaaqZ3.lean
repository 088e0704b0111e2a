/- Nothing, as a value. A lemma file: no statement of its own. -/
import Derived.Test.YtnkichmojbanlaaqHDM
namespace Go.Proofs.Try
def z3 : V3 := (0, 0, ⟨#[]⟩)
end Go.Proofs.Try
