/- Acts on sites: how long their texts are. A lemma file: no statement of its own. -/
import Derived.Test.YtnkichmojbanlaaGreatqVal1
import Derived.Test.YtnkichmojbanlaaGreatqFwF
set_option linter.unusedSimpArgs false
set_option linter.unusedVariables false
set_option linter.unusedSectionVars false
namespace Go.Proofs.Tryz
open Go.Cs
open Go.RowKit (Below)
set_option maxRecDepth 100000
attribute [local irreducible] CCalls WLoop WScope
set_option linter.defProp false in
def A7x := (And.intro (And.intro (And.intro (And.intro @underlying38 @sz38) (And.intro @is38 @ce38)) (And.intro (And.intro @ag38 @ze38) (And.intro @fa38x0 (And.intro @fa38x1 @fa38x2)))) (And.intro (And.intro (And.intro @fa38x3 @fa38x4) (And.intro @fa38x5 (And.intro @fa38x6 @underlying22))) (And.intro (And.intro @sz22 @is22) (And.intro @ce22 (And.intro @ag22 @ze22)))))
section
variable {M : Type} [Mem M] {w0 : World} {s : St M} {R : Value → St M → Prop}
theorem long17_spec {a0 a1 a2 a3 a4 : Int} {a5 : ByteArray} {k6 n6 : Int} {x6 : ByteArray} (h : R (.bool (decide ((300 : Int) < a5.size) || decide ((300 : Int) < x6.size))) (s.new (.cells [.int .i64 a0, .int .i64 a1, .int .i64 a2, .int .i64 a3, .int .i64 a4, .string a5, .int .i64 k6, .int .i64 n6, .string x6] 38 true))) :
    CCalls Tryz.prog w0 10 #[.agg #[.int .i64 a0, .int .i64 a1, .int .i64 a2, .int .i64 a3, .int .i64 a4, .string a5, .int .i64 k6, .int .i64 n6, .string x6]] s R := by
  refine wfun2 hmix ok10 (l := [.agg #[.int .i64 a0, .int .i64 a1, .int .i64 a2, .int .i64 a3, .int .i64 a4, .string a5, .int .i64 k6, .int .i64 n6, .string x6]]) func10 rfl ntmps10 results10 (by simp) ?_
  by_cases h1 : (300 : Int) < a5.size
  · simp only [h1, decide_true, Bool.true_or] at h
    simp -implicitDefEqProofs only [↓Zd, (Zp), if_true, if_false, Nat.reduceEqDiff, okPart, Value.cells, cld2, underlying9, ag9, underlying9, (A7x), h1]
    exact h
  · simp only [h1, decide_false, Bool.false_or] at h
    simp -implicitDefEqProofs only [↓Zd, (Zp), if_true, if_false, Nat.reduceEqDiff, Nat.reduceAdd, okPart, Value.cells, cld2, underlying9, fa36x2, ag9, underlying9, (A7x), h1]
    exact h
end
end Go.Proofs.Tryz
