/- Sites: the walks of find, plays and Counts. A lemma file: no statement of its own. -/
import Derived.Test.YtnkichmojbanlaaqFwF
import Derived.Test.YtnkichmojbanlaaqST2
set_option linter.unusedSimpArgs false
set_option linter.unusedVariables false
set_option linter.unusedSectionVars false
namespace Go.Proofs.Try
open Go.Cs
open Go.RowKit (Below)
set_option maxRecDepth 100000
attribute [local irreducible] CCalls WLoop WScope CRound WRange
theorem nsA {x y : Operand} : cbin Try.prog .eql 24 x y (.slice none 0 0) (.slice none 0 0) = some (.bool true) := by kernel_rfl
theorem nsB {x y : Operand} {a : Addr} {n c : Nat} : cbin Try.prog .eql 24 x y (.slice (some a) n c) (.slice none 0 0) = some (.bool false) := by kernel_rfl
theorem nsC {x y : Operand} : cbin Try.prog .eql 46 x y (.slice none 0 0) (.slice none 0 0) = some (.bool true) := by kernel_rfl
theorem nsD {x y : Operand} {a : Addr} {n c : Nat} : cbin Try.prog .eql 46 x y (.slice (some a) n c) (.slice none 0 0) = some (.bool false) := by kernel_rfl
theorem nsE {x y : Operand} : cbin Try.prog .eql 87 x y (.slice none 0 0) (.slice none 0 0) = some (.bool true) := by kernel_rfl
theorem nsF {x y : Operand} {a : Addr} {n c : Nat} : cbin Try.prog .eql 87 x y (.slice (some a) n c) (.slice none 0 0) = some (.bool false) := by kernel_rfl
theorem bbA : (false == true) = false := rfl
theorem bbB : (true == false) = false := rfl
theorem bbC : (false == false) = true := rfl
theorem bbD : (true == true) = true := rfl
set_option linter.defProp false in
def STx := (And.intro (And.intro (And.intro (And.intro (And.intro (And.intro (And.intro @underlying26 @sz26) (And.intro @is26 @ce26)) (And.intro (And.intro @ag26 @ze26) (And.intro @fa26x0 @fa26x1))) (And.intro (And.intro (And.intro @fa26x2 @underlying23) (And.intro @sz23 @is23)) (And.intro (And.intro @ce23 @ag23) (And.intro @ze23 @nt23)))) (And.intro (And.intro (And.intro (And.intro @nn23 @nf23) (And.intro @ng23 @underlying81)) (And.intro (And.intro @sz81 @is81) (And.intro @ce81 @ag81))) (And.intro (And.intro (And.intro @ze81 @fa81x0) (And.intro @fa81x1 @fa81x2)) (And.intro (And.intro @fa81x3 @fa81x4) (And.intro @underlying82 (And.intro @sz82 @is82)))))) (And.intro (And.intro (And.intro (And.intro (And.intro @ce82 @ag82) (And.intro @ze82 @nt82)) (And.intro (And.intro @nn82 @nf82) (And.intro @ng82 @underlying79))) (And.intro (And.intro (And.intro @sz79 @is79) (And.intro @ce79 @ag79)) (And.intro (And.intro @ze79 @underlying24) (And.intro @sz24 @is24)))) (And.intro (And.intro (And.intro (And.intro @ce24 @ag24) (And.intro @ze24 @underlying89)) (And.intro (And.intro @sz89 @is89) (And.intro @ce89 @ag89))) (And.intro (And.intro (And.intro @ze89 @fa89x0) (And.intro @fa89x1 @fa89x2)) (And.intro (And.intro @fa89x3 @fa89x4) (And.intro @underlying85 (And.intro @sz85 @is85))))))) (And.intro (And.intro (And.intro (And.intro (And.intro (And.intro @ce85 @ag85) (And.intro @ze85 @nt85)) (And.intro (And.intro @nn85 @nf85) (And.intro @ng85 @underlying46))) (And.intro (And.intro (And.intro @sz46 @is46) (And.intro @ce46 @ag46)) (And.intro (And.intro @ze46 @underlying108) (And.intro @sz108 @is108)))) (And.intro (And.intro (And.intro (And.intro @ce108 @ag108) (And.intro @ze108 @fa108x0)) (And.intro (And.intro @fa108x1 @underlying87) (And.intro @sz87 @is87))) (And.intro (And.intro (And.intro @ce87 @ag87) (And.intro @ze87 @underlying104)) (And.intro (And.intro @sz104 @is104) (And.intro @ce104 (And.intro @ag104 @underlying143)))))) (And.intro (And.intro (And.intro (And.intro (And.intro @sz143 @is143) (And.intro @ce143 @ag143)) (And.intro (And.intro @underlying47 @sz47) (And.intro @is47 @ce47))) (And.intro (And.intro (And.intro @ag47 @underlying49) (And.intro @sz49 @is49)) (And.intro (And.intro @ce49 @ag49) (And.intro @underlying119 (And.intro @sz119 @is119))))) (And.intro (And.intro (And.intro (And.intro @ce119 @ag119) (And.intro @underlying51 @sz51)) (And.intro (And.intro @is51 @ce51) (And.intro @ag51 @nsA))) (And.intro (And.intro (And.intro @nsB @nsC) (And.intro @nsD @nsE)) (And.intro (And.intro @nsF @bbA) (And.intro @bbB (And.intro @bbC @bbD))))))))
section
variable {M : Type} [Mem M] {w0 : World} {s : St M} {R : Value → St M → Prop} {lo t N : Nat} {T : Tab} {O : Nat → Prop} {al : Value} {rb cp : Nat → Nat} {sl : Nat → Nat → Value}
end
end Go.Proofs.Try
