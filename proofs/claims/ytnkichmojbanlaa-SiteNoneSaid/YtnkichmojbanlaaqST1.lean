/- Sites: what comes of what is done, in plain Lean. A lemma file: no statement of its own. -/
import Derived.Test.YtnkichmojbanlaaqST0
set_option linter.unusedSimpArgs false
set_option linter.unusedVariables false
set_option linter.unusedSectionVars false
namespace Go.Proofs.Try
open Go.Cs
set_option maxRecDepth 100000
def s0 : Sit := ⟨false, false, false, ⟨#[]⟩, []⟩
def e0 : Ent := ⟨0, 0, 0, 0, []⟩
structure Tab where
  fs : Nat
  n : Nat → Nat
  st : Nat → Nat → Sit
  hits : Nat
  misses : Nat
def hasT (T : Tab) (f k : Int) : Prop := 0 ≤ f ∧ f < T.fs ∧ 0 ≤ k ∧ k < T.n f.toNat
instance (T : Tab) (f k : Int) : Decidable (hasT T f k) := inferInstanceAs (Decidable (_ ∧ _ ∧ _ ∧ _))
def atT (T : Tab) (f k : Int) : Sit := T.st f.toNat k.toNat
def putT (T : Tab) (f k : Int) (z : Sit) : Tab := { T with st := fun a b => if a = f.toNat ∧ b = k.toNat then z else T.st a b }
def hitT (T : Tab) : Tab := { T with hits := T.hits + 1 }
structure SitOk (H : Hp) (z : Sit) : Prop where
  few : z.es.length ≤ 4
  mega : z.mega = true → z.es = []
  fresh : z.used = false → z.es = []
  apart : (z.es.map (·.shape)).Nodup
  gets : z.sets = false → ∀ e ∈ z.es, GetOk H z.name e
  sets : z.sets = true → ∀ e ∈ z.es, SetOk H z.name e
def TabOk (H : Hp) (T : Tab) : Prop := ∀ a b, a < T.fs → b < T.n a → SitOk H (T.st a b)
theorem TabOk.put {H : Hp} {T : Tab} (hT : TabOk H T) {f k : Int} {z : Sit} (hz : SitOk H z) : TabOk H (putT T f k z) := fun a b h1 h2 => by
  show SitOk H (if a = f.toNat ∧ b = k.toNat then z else T.st a b)
  split
  · exact hz
  · exact hT a b h1 h2
theorem TabOk.hit {H : Hp} {T : Tab} (hT : TabOk H T) : TabOk H (hitT T) := hT
theorem TabOk.has {H : Hp} {T : Tab} (hT : TabOk H T) {f k : Int} (h : hasT T f k) : SitOk H (atT T f k) := hT _ _ (by have := h.1; have := h.2.1; omega) (by have := h.2.2; omega)
end Go.Proofs.Try
