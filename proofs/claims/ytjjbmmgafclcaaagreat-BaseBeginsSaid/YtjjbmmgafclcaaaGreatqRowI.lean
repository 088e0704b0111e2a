/- Numbers that fit. A lemma file: no statement of its own. -/
import Derived.Test.YtjjbmmgafclcaaaGreatqRowsC
namespace Go.Proofs.Tryz
def I64 (n : Int) : Prop := -9223372036854775808 ≤ n ∧ n ≤ 9223372036854775807
end Go.Proofs.Tryz
