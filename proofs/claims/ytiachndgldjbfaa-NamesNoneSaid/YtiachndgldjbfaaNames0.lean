/- The walk of the law on tables that are not there: its arguments are never looked at, so the kernel reckons it whole. A lemma file: no statement of its own. -/
import Derived.Test.YtiachndgldjbfaaFacts
set_option linter.unusedSimpArgs false
set_option linter.unusedVariables false
namespace Go.Proofs.Try
open Go.Cs
open Go.RowKit (Below)

theorem namesNone_run (x : ByteArray) (n : Int) : ecall (M := AL) Try.prog 400 6 #[.string x, .int .i64 n] St.empty (fun v _ => match v with | .bool b => b | _ => false) = true := by kernel_rfl

theorem namesNone_walk {x : ByteArray} (_ : x.size ≤ maxLen) {n : Int} (_ : -9223372036854775808 ≤ n ∧ n ≤ 9223372036854775807) (w : World) : Calls Try.prog 6 #[.string x, .int .i64 n] w fun e w' => e = .returned (.bool true) ∧ Below w.heap.size w w' :=
  calls_plain rfl (CCalls.mono (ecall_sound hmix 400 6 _ _ _ (namesNone_run x n)) fun v s' h => by
    split at h
    · subst h; rfl
    · cases h)
end Go.Proofs.Try
