/- Acts on sites: how long their texts are. A lemma file: no statement of its own. -/
import Derived.Test.YtnkichmojbanlaaqVal1
import Derived.Test.YtnkichmojbanlaaqFwF
set_option linter.unusedSimpArgs false
set_option linter.unusedVariables false
set_option linter.unusedSectionVars false
namespace Go.Proofs.Try
open Go.Cs
open Go.RowKit (Below)
set_option maxRecDepth 100000
attribute [local irreducible] CCalls WLoop WScope
set_option linter.defProp false in
def A7x := (And.intro (And.intro (And.intro (And.intro @underlying39 @sz39) (And.intro @is39 @ce39)) (And.intro (And.intro @ag39 @ze39) (And.intro @fa39x0 (And.intro @fa39x1 @fa39x2)))) (And.intro (And.intro (And.intro @fa39x3 @fa39x4) (And.intro @fa39x5 (And.intro @fa39x6 @underlying22))) (And.intro (And.intro @sz22 @is22) (And.intro @ce22 (And.intro @ag22 @ze22)))))
section
variable {M : Type} [Mem M] {w0 : World} {s : St M} {R : Value → St M → Prop}
theorem long17_spec {a0 a1 a2 a3 a4 : Int} {a5 : ByteArray} {k6 n6 : Int} {x6 : ByteArray} (h : R (.bool (decide ((300 : Int) < a5.size) || decide ((300 : Int) < x6.size))) (s.new (.cells [.int .i64 a0, .int .i64 a1, .int .i64 a2, .int .i64 a3, .int .i64 a4, .string a5, .int .i64 k6, .int .i64 n6, .string x6] 39 true))) :
    CCalls Try.prog w0 6 #[.agg #[.int .i64 a0, .int .i64 a1, .int .i64 a2, .int .i64 a3, .int .i64 a4, .string a5, .int .i64 k6, .int .i64 n6, .string x6]] s R := by
  refine wfun2 hmix ok6 (l := [.agg #[.int .i64 a0, .int .i64 a1, .int .i64 a2, .int .i64 a3, .int .i64 a4, .string a5, .int .i64 k6, .int .i64 n6, .string x6]]) func6 rfl ntmps6 results6 (by simp) ?_
  by_cases h1 : (300 : Int) < a5.size
  · simp only [h1, decide_true, Bool.true_or] at h
    simp -implicitDefEqProofs only [↓Zd, (Zp), if_true, if_false, ne_eq, implies_true, forall_const, Nat.reduceEqDiff, reduceIte, reduceCtorEq, Int.reduceEq, Int.reduceNeg, Int.reduceLE, Int.reduceLT, Nat.reduceAdd, Nat.reduceLeDiff, Int.reduceToNat, Nat.reduceMul, Nat.reduceBEq, okPart, Value.cells, cut, okCell, cld2, underlying3, underlying4, underlying9, underlying37, vA, is37, ag37, ce37, fa37x0, fa37x1, fa37x2, ag3, ce3, ag9, ce9, underlying3, underlying4, underlying9, underlying5, underlying32, underlying0, be4, bn4, (A7x), h1]
    exact h
  · simp only [h1, decide_false, Bool.false_or] at h
    simp -implicitDefEqProofs only [↓Zd, (Zp), if_true, if_false, ne_eq, implies_true, forall_const, Nat.reduceEqDiff, reduceIte, reduceCtorEq, Int.reduceEq, Int.reduceNeg, Int.reduceLE, Int.reduceLT, Nat.reduceAdd, Nat.reduceLeDiff, Int.reduceToNat, Nat.reduceMul, Nat.reduceBEq, okPart, Value.cells, cut, okCell, cld2, underlying3, underlying4, underlying9, underlying37, vA, is37, ag37, ce37, fa37x0, fa37x1, fa37x2, ag3, ce3, ag9, ce9, underlying3, underlying4, underlying9, underlying5, underlying32, underlying0, be4, bn4, (A7x), h1]
    exact h
end
end Go.Proofs.Try
