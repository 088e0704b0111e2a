/- The walk of the law on bodies and frames that are not there: its argument is never looked at, so the kernel reckons it whole. A lemma file: no statement of its own. -/
import Derived.Test.YtmjaocgpdbppnaaGreatVal1
import Derived.Test.YtmjaocgpdbppnaaGreatFwF
set_option linter.unusedSimpArgs false
set_option linter.unusedVariables false
namespace Go.Proofs.Tryz
open Go.Cs
open Go.RowKit (Below)

theorem execNone_run (k n : Int) (x : ByteArray) : trialA Tryz.prog 6 #[vA k n x] = (trialA Tryz.prog 6 #[vA k n x]).dup := by kernel_rfl

theorem execNone_walk {k n : Int} {x : ByteArray} (_ : (Lit.int .i64 k).wf = true) (_ : (Lit.int .i64 n).wf = true) (_ : x.size ≤ maxLen) (w : World) : Calls Tryz.prog 6 #[vA k n x] w fun e w' => e = .returned (.bool true) ∧ Below w.heap.size w w' :=
  calls_trial hmix (by kernel_rfl) (execNone_run k n x) w
end Go.Proofs.Tryz
