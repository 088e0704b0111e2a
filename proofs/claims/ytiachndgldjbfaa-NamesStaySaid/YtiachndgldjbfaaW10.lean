/- The law's own trial, reckoned. A lemma file: no statement of its own. -/
import Derived.Test.YtiachndgldjbfaaFacts
import Derived.Test.YtiachndgldjbfaaFwF
set_option linter.unusedSimpArgs false
set_option linter.unusedVariables false
namespace Go.Proofs.Try
open Go.Cs
open Go.RowKit (Below)
theorem works10 : ecall (M := AL) Try.prog 400 16 #[] St.empty (fun v _ => match v with | .bool b => b | _ => false) = true := by kernel_rfl

section
variable {M : Type} [Mem M] {w0 : World} {s : St M} {R : Value → St M → Prop}
theorem works10_spec (h : R (.bool true) s) : CCalls Try.prog w0 16 #[] s R :=
  CCalls.mono (ccalls_of_closed fun w => calls_true hmix works10 w) fun _ _ ⟨e1, e2⟩ => by rw [e1, e2]; exact h
end
end Go.Proofs.Try
