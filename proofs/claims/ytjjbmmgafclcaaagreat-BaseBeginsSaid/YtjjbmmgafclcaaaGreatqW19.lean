/- The law's own trial, reckoned. A lemma file: no statement of its own. -/
import Derived.Test.YtjjbmmgafclcaaaGreatqFacts
import Derived.Test.YtjjbmmgafclcaaaGreatqFwF
set_option linter.unusedSimpArgs false
set_option linter.unusedVariables false
namespace Go.Proofs.Tryz
open Go.Cs
open Go.RowKit (Below)
theorem works19d : trial Tryz.prog 6 = (trial Tryz.prog 6).dup := by kernel_rfl
section
variable {M : Type} [Mem M] {w0 : World} {s : St M} {R : Value → St M → Prop}
theorem works19_spec (h : R (.bool true) s) : CCalls Tryz.prog w0 6 #[] s R :=
  CCalls.mono (ccalls_of_closed fun w => calls_true hmix works19d w) fun _ _ ⟨e1, e2⟩ => by rw [e1, e2]; exact h
end
end Go.Proofs.Tryz
