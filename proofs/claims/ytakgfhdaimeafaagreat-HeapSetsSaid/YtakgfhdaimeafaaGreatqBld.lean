/- The walks of the library's builder of strings. A lemma file: no statement of its own. -/
import Derived.Test.YtakgfhdaimeafaaGreatqFwF
import Derived.Test.YtakgfhdaimeafaaGreatqBytes
import Derived.Test.YtakgfhdaimeafaaGreatqFacts
import Derived.Test.YtakgfhdaimeafaaGreatqTypes
set_option linter.unusedSimpArgs false
set_option linter.unusedVariables false
set_option linter.unusedSectionVars false
namespace Go.Proofs.Tryz
open Go.Cs
open Go.RowKit (Below)
set_option maxRecDepth 100000
attribute [local irreducible] CCalls WLoop WScope
section
variable {M : Type} [Mem M] {w0 : World} {s : St M} {R : Value → St M → Prop}
structure BAt (s0 s : St M) (p : Nat) (l : List UInt8) : Prop where
  le : s0.le s
  lo : s0.next ≤ p
  hi : p < s.next
  bl : ∃ ad sl, s.at' p = some (.cells [ad, sl] 114 true) ∧ (ad = .pointer none ∨ ad = .pointer (some ⟨p, 0, none⟩)) ∧
    ((l = [] ∧ sl = .slice none 0 0) ∨ (l ≠ [] ∧ ∃ b, sl = .slice (some ⟨b, 0, none⟩) l.length UNK ∧ s.at' b = some (.cells (l.map toV) 5 true) ∧ b ≠ p ∧ s0.next ≤ b ∧ b < s.next))
theorem BAt.more {s0 s s1 s3 : St M} {p q : Nat} {l new : List UInt8} {sl : Value} (hlo : s0.next ≤ p) (hle : s0.le s3) (hp3 : s3.at' p = some (.cells [.pointer (some ⟨p, 0, none⟩), sl] 114 true)) (hne : new ≠ []) (hq : s3.at' q = some (.cells ((l ++ new).map toV) 5 true)) (hqp : q ≠ p) (hq0 : s0.next ≤ q) (hq1 : q < s3.next) (hp1 : p < s3.next) :
    BAt s0 (s3.put p (.cells [.pointer (some ⟨p, 0, none⟩), .slice (some ⟨q, 0, none⟩) (l ++ new).length UNK] 114 true)) p (l ++ new) where
  le := St.le_put hle hlo
  lo := hlo
  hi := hp1
  bl := ⟨_, _, by rw [St.at_put, if_pos rfl], .inr rfl, .inr ⟨by simp [hne], q, rfl, by rw [St.at_put, if_neg hqp]; exact hq, hqp, hq0, hq1⟩⟩
end
end Go.Proofs.Tryz
