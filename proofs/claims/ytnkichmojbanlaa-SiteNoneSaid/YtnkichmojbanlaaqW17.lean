/- The law's own trial, reckoned. A lemma file: no statement of its own. -/
import Derived.Test.YtnkichmojbanlaaqFacts
import Derived.Test.YtnkichmojbanlaaqFwF
set_option linter.unusedSimpArgs false
set_option linter.unusedVariables false
namespace Go.Proofs.Try
open Go.Cs
open Go.RowKit (Below)
theorem works17d : trial Try.prog 7 = (trial Try.prog 7).dup := by kernel_rfl
section
variable {M : Type} [Mem M] {w0 : World} {s : St M} {R : Value → St M → Prop}
theorem works17_spec (h : R (.bool true) s) : CCalls Try.prog w0 7 #[] s R :=
  CCalls.mono (ccalls_of_closed fun w => calls_true hmix works17d w) fun _ _ ⟨e1, e2⟩ => by rw [e1, e2]; exact h
end
end Go.Proofs.Try
