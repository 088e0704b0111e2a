/- The walks of what asks values: of which kind they are, what counts as true. A lemma file: no statement of its own. -/
import Derived.Test.YtmjaocgpdbppnaaGreatFwF
import Derived.Test.YtmjaocgpdbppnaaGreatFacts
import Derived.Test.YtmjaocgpdbppnaaGreatTypes
set_option linter.unusedSimpArgs false
set_option linter.unusedVariables false
namespace Go.Proofs.Tryz
open Go.Cs
open Go.RowKit (Below)
set_option maxRecDepth 100000
attribute [local irreducible] CCalls WLoop WScope
section
variable {M : Type} [Mem M] {w0 : World} {s : St M} {R : Value → St M → Prop}

/-- A value, as the program has it. -/
def vA (k n : Int) (x : ByteArray) : Value := .agg #[.int .i64 k, .int .i64 n, .string x]
def vB (k n : Int) (x : ByteArray) : Blk := .cells [.int .i64 k, .int .i64 n, .string x] 42 true

theorem isKey_spec {k n : Int} {x : ByteArray} (h : R (.bool (decide (k = 3))) (s.new (vB k n x))) : CCalls Tryz.prog w0 126 #[vA k n x] s R := by
  refine wfun2 hmix ok126 (l := [vA k n x]) func126 rfl ntmps126 results126 (by simp) ?_
  simp -implicitDefEqProofs only [↓Zd, (Zp), if_true, if_false, ne_eq, implies_true, forall_const, Nat.reduceEqDiff, reduceIte, reduceCtorEq, Int.reduceEq, Int.reduceNeg, Int.reduceLE, Int.reduceLT, Nat.reduceAdd, Nat.reduceLeDiff, Int.reduceToNat, Nat.reduceMul, Nat.reduceBEq, okPart, Value.cells, cut, okCell, cld2, underlying3, underlying4, underlying42, vA, is42, ag42, ce42, fa42x0, fa42x1, fa42x2, ag3, ce3, ag9, ce9]
  exact h

def truthV (k n : Int) : Bool := !decide (k = 0) && (!decide (k = 1) || !decide (n = 0))
theorem truth_spec {k n : Int} {x : ByteArray} (h : R (.bool (truthV k n)) (s.new (vB k n x))) : CCalls Tryz.prog w0 123 #[vA k n x] s R := by
  refine wfun2 hmix ok123 (l := [vA k n x]) func123 rfl ntmps123 results123 (by simp) ?_
  unfold truthV at h
  by_cases h0 : k = 0
  · simp only [h0, decide_true, Bool.not_true, Bool.false_and] at h
    subst h0
    simp -implicitDefEqProofs only [↓Zd, (Zp), if_true, if_false, ne_eq, implies_true, forall_const, Nat.reduceEqDiff, reduceIte, reduceCtorEq, Int.reduceEq, Int.reduceNeg, Int.reduceLE, Int.reduceLT, Nat.reduceAdd, Nat.reduceLeDiff, Int.reduceToNat, Nat.reduceMul, Nat.reduceBEq, okPart, Value.cells, cut, okCell, cld2, underlying3, underlying4, underlying42, vA, is42, ag42, ce42, fa42x0, fa42x1, fa42x2, ag3, ce3, ag9, ce9]
    exact h
  · by_cases h1 : k = 1
    · subst h1
      by_cases h2 : n = 0
      · subst h2
        simp -implicitDefEqProofs only [↓Zd, (Zp), if_true, if_false, ne_eq, implies_true, forall_const, Nat.reduceEqDiff, reduceIte, reduceCtorEq, Int.reduceEq, Int.reduceNeg, Int.reduceLE, Int.reduceLT, Nat.reduceAdd, Nat.reduceLeDiff, Int.reduceToNat, Nat.reduceMul, Nat.reduceBEq, okPart, Value.cells, cut, okCell, cld2, underlying3, underlying4, underlying42, vA, is42, ag42, ce42, fa42x0, fa42x1, fa42x2, ag3, ce3, ag9, ce9]
        exact h
      · simp only [h2, decide_false, Bool.not_false, Bool.or_true, Bool.and_true] at h
        simp -implicitDefEqProofs only [↓Zd, (Zp), if_true, if_false, ne_eq, implies_true, forall_const, Nat.reduceEqDiff, reduceIte, reduceCtorEq, Int.reduceEq, Int.reduceNeg, Int.reduceLE, Int.reduceLT, Nat.reduceAdd, Nat.reduceLeDiff, Int.reduceToNat, Nat.reduceMul, Nat.reduceBEq, okPart, Value.cells, cut, okCell, cld2, underlying3, underlying4, underlying42, vA, is42, ag42, ce42, fa42x0, fa42x1, fa42x2, ag3, ce3, ag9, ce9, h2]
        exact h
    · simp only [h0, h1, decide_false, Bool.not_false, Bool.true_or, Bool.and_true] at h
      simp -implicitDefEqProofs only [↓Zd, (Zp), if_true, if_false, ne_eq, implies_true, forall_const, Nat.reduceEqDiff, reduceIte, reduceCtorEq, Int.reduceEq, Int.reduceNeg, Int.reduceLE, Int.reduceLT, Nat.reduceAdd, Nat.reduceLeDiff, Int.reduceToNat, Nat.reduceMul, Nat.reduceBEq, okPart, Value.cells, cut, okCell, cld2, underlying3, underlying4, underlying42, vA, is42, ag42, ce42, fa42x0, fa42x1, fa42x2, ag3, ce3, ag9, ce9, h0, h1]
      exact h
end
end Go.Proofs.Tryz
