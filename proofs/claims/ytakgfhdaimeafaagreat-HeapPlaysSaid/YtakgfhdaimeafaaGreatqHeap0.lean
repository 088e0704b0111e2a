/- Heaps that are not there: the walk of the law on them. A lemma file: no statement of its own. -/
import Derived.Test.YtakgfhdaimeafaaGreatqVal1
import Derived.Test.YtakgfhdaimeafaaGreatqFwF
set_option linter.unusedSimpArgs false
set_option linter.unusedVariables false
set_option linter.unusedSectionVars false
namespace Go.Proofs.Tryz
open Go.Cs
open Go.RowKit (Below)
set_option maxRecDepth 100000
attribute [local irreducible] CCalls WLoop WScope
set_option linter.defProp false in
def ACx := (And.intro (And.intro (And.intro @underlying32 @is32) (And.intro @ag32 @ce32)) (And.intro (And.intro @fa32x0 @fa32x1) (And.intro @fa32x2 (And.intro @fa32x3 @fa32x4))))
section
variable {M : Type} [Mem M] {w0 : World} {s : St M} {R : Value → St M → Prop}
theorem long12_spec {a0 a1 a2 : Int} {a3 : ByteArray} {k4 n4 : Int} {x4 : ByteArray} (h : R (.bool (decide ((300 : Int) < a3.size) || decide ((300 : Int) < x4.size))) (s.new (.cells [.int .i64 a0, .int .i64 a1, .int .i64 a2, .string a3, .int .i64 k4, .int .i64 n4, .string x4] 32 true))) :
    CCalls Tryz.prog w0 9 #[.agg #[.int .i64 a0, .int .i64 a1, .int .i64 a2, .string a3, .int .i64 k4, .int .i64 n4, .string x4]] s R := by
  refine wfun2 hmix ok9 (l := [.agg #[.int .i64 a0, .int .i64 a1, .int .i64 a2, .string a3, .int .i64 k4, .int .i64 n4, .string x4]]) func9 rfl ntmps9 results9 (by simp) ?_
  by_cases h1 : (300 : Int) < a3.size
  · simp only [h1, decide_true, Bool.true_or] at h
    simp -implicitDefEqProofs only [↓Zd, (Zp), if_true, if_false, Nat.reduceEqDiff, okPart, Value.cells, cld2, underlying9, ag9, underlying9, (ACx), h1]
    exact h
  · simp only [h1, decide_false, Bool.false_or] at h
    simp -implicitDefEqProofs only [↓Zd, (Zp), if_true, if_false, Nat.reduceEqDiff, Nat.reduceAdd, okPart, Value.cells, cld2, underlying9, fa30x2, ag9, underlying9, (ACx), h1]
    exact h
end
end Go.Proofs.Tryz
