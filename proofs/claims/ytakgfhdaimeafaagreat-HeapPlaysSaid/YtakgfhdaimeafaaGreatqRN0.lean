/- The document's heap without objects: the walks of what is done to it. A lemma file: no statement of its own. -/
import Derived.Test.YtakgfhdaimeafaaGreatqFwF
import Derived.Test.YtakgfhdaimeafaaGreatqHPN
set_option linter.unusedSimpArgs false
set_option linter.unusedVariables false
set_option linter.unusedSectionVars false
namespace Go.Proofs.Tryz
open Go.Cs
open Go.RowKit (Below)
set_option maxRecDepth 100000
attribute [local irreducible] CCalls WLoop WScope CRound WRange
set_option linter.defProp false in
def REx := (And.intro (And.intro (And.intro (And.intro (And.intro (And.intro @underlying104 (And.intro @sz104 @is104)) (And.intro (And.intro @ce104 @ag104) (And.intro @ze104 @fa104x0))) (And.intro (And.intro (And.intro @fa104x1 @underlying160) (And.intro @sz160 @is160)) (And.intro (And.intro @ce160 @ag160) (And.intro @ze160 @nt160)))) (And.intro (And.intro (And.intro @nn160 (And.intro @nf160 @ng160)) (And.intro (And.intro @underlying78 @sz78) (And.intro @is78 @ce78))) (And.intro (And.intro (And.intro @ag78 @ze78) (And.intro @fa78x0 @fa78x1)) (And.intro (And.intro @fa78x2 @fa78x3) (And.intro @fa78x4 @underlying34))))) (And.intro (And.intro (And.intro (And.intro @sz34 (And.intro @is34 @ce34)) (And.intro (And.intro @ag34 @ze34) (And.intro @nt34 @nn34))) (And.intro (And.intro (And.intro @nf34 @ng34) (And.intro @underlying74 @sz74)) (And.intro (And.intro @is74 @ce74) (And.intro @ag74 @ze74)))) (And.intro (And.intro (And.intro @underlying107 (And.intro @sz107 @is107)) (And.intro (And.intro @ce107 @ag107) (And.intro @ze107 @nt107))) (And.intro (And.intro (And.intro @nn107 @nf107) (And.intro @ng107 @underlying106)) (And.intro (And.intro @sz106 @is106) (And.intro @ce106 @ag106)))))) (And.intro (And.intro (And.intro (And.intro (And.intro @ze106 (And.intro @fa106x0 @fa106x1)) (And.intro (And.intro @fa106x2 @fa106x3) (And.intro @underlying137 @sz137))) (And.intro (And.intro (And.intro @is137 @ce137) (And.intro @ag137 @ze137)) (And.intro (And.intro @fa137x0 @fa137x1) (And.intro @underlying72 @sz72)))) (And.intro (And.intro (And.intro @is72 (And.intro @ce72 @ag72)) (And.intro (And.intro @ze72 @nt72) (And.intro @nn72 @nf72))) (And.intro (And.intro (And.intro @ng72 @underlying135) (And.intro @sz135 @is135)) (And.intro (And.intro @ce135 @ag135) (And.intro @ze135 @underlying159))))) (And.intro (And.intro (And.intro (And.intro @sz159 (And.intro @is159 @ce159)) (And.intro (And.intro @ag159 @ze159) (And.intro @fa159x0 @fa159x1))) (And.intro (And.intro (And.intro @underlying76 @sz76) (And.intro @is76 @ce76)) (And.intro (And.intro @ag76 @ze76) (And.intro @fa76x0 @underlying42)))) (And.intro (And.intro (And.intro (And.intro @sz42 @is42) (And.intro @ce42 @ag42)) (And.intro (And.intro @ze42 @underlying130) (And.intro @sz130 @is130))) (And.intro (And.intro (And.intro @ce130 @ag130) (And.intro @ze130 @underlying66)) (And.intro (And.intro @sz66 @is66) (And.intro @ce66 @ag66)))))))
section
variable {M : Type} [Mem M] {w0 : World} {s : St M} {R : Value → St M → Prop} {r f : Nat}
structure RZ (s : St M) (r f : Nat) : Prop where
  heap : s.at' r = some (.cells [.slice none 0 0, .int .i64 0, .int .i64 0, .pointer (some ⟨f, 0, none⟩), .slice none 0 0] 78 true)
  forest : s.at' f = some (.cells [.slice none 0 0, .int .i64 0] 137 true)
  rn : r < s.next
  fn : f < s.next
theorem RZ.same {s' : St M} (h : RZ s r f) (hn : s.next ≤ s'.next) (h1 : s'.at' r = s.at' r) (h2 : s'.at' f = s.at' f) : RZ s' r f :=
  ⟨h1.trans h.heap, h2.trans h.forest, by have := h.rn; omega, by have := h.fn; omega⟩
theorem RZ.le {s' : St M} (h : RZ s r f) (hs : s.le s') : RZ s' r f := h.same hs.1 (hs.2 _ h.rn) (hs.2 _ h.fn)
end
end Go.Proofs.Tryz
