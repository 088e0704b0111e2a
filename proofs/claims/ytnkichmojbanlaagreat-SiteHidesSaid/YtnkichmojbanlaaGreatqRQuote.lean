/- The walk of the document's strings as they are written. A lemma file: no statement of its own. -/
import Derived.Test.YtnkichmojbanlaaGreatqFwF
import Derived.Test.YtnkichmojbanlaaGreatqQuoteM
import Derived.Test.YtnkichmojbanlaaGreatqDig0
set_option linter.unusedSimpArgs false
set_option linter.unusedVariables false
set_option linter.unusedSectionVars false
namespace Go.Proofs.Tryz
open Go.Cs
open Go.RowKit (Below)
set_option maxRecDepth 100000
attribute [local irreducible] CCalls WLoop WScope
section
variable {M : Type} [Mem M] {w0 : World} {s : St M} {R : Value → St M → Prop}
structure RB (s0 s : St M) (sl : Value) (l : List UInt8) : Prop where
  le : s0.le s
  sc : SlC 5 1 s sl (l.map toV) l.length
  at' : ∀ q n c, sl = .slice (some q) n c → s0.next ≤ q.block ∧ q.block < s.next
theorem RB.app {s0 s1 : St M} {sl : Value} {l new : List UInt8} (hB : RB s0 s1 sl l) (hne : new ≠ []) (hlen : l.length + new.length ≤ 140737488355328) :
    ∃ s3, capp Tryz.prog #[141, 141] #[sl, .slice (some ⟨s1.next, 0, none⟩) new.length new.length] (s1.new (.cells (new.map toV) 5 true)) = some (.slice (some ⟨s1.next + 1, 0, none⟩) (l ++ new).length UNK, s3) ∧
      RB s0 s3 (.slice (some ⟨s1.next + 1, 0, none⟩) (l ++ new).length UNK) (l ++ new) := by
  have hsl : SlC 5 1 (s1.new (.cells (new.map toV) 5 true)) sl (l.map toV) l.length := hB.sc.same fun q m c e => by
    rw [St.at_new, if_neg (by have := hB.at' q m c e; omega)]
  obtain ⟨s3, h1, h2, h3, h4⟩ := app_bytes (s := s1.new (.cells (new.map toV) 5 true)) (v := .slice (some ⟨s1.next, 0, none⟩) new.length new.length) (new := new) (.inl underlying141) hne hlen hsl
    (by simp only [more_at, St.at_new, if_true, more2]; rw [cut_all (by simp)]; rfl)
  simp only [St.next_new] at h1 h2 h3 h4
  refine ⟨s3, h1, ⟨⟨by have := hB.le.1; omega, fun b hb => ?_⟩, .inr ⟨_, _, rfl, .inl rfl, h3, by simp⟩, fun q n c e => ?_⟩⟩
  · rw [h4 b (by have := hB.le.1; omega) (fun q n c e => by have := hB.at' q n c e; omega), St.at_new, if_neg (by have := hB.le.1; omega)]
    exact hB.le.2 b hb
  · cases e
    have := hB.le.1
    exact ⟨by show _ ≤ s1.next + 1; omega, by show s1.next + 1 < _; omega⟩
end
end Go.Proofs.Tryz
