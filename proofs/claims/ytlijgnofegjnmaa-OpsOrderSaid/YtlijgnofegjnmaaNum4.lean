/- The walks of quotients and rests, and of three laws on numbers. A lemma file: no statement of its own. -/
import Derived.Test.YtlijgnofegjnmaaNum3
import Derived.Test.YtlijgnofegjnmaaFwF
set_option linter.unusedSimpArgs false
set_option linter.unusedVariables false
namespace Go.Proofs.Try
open Go.Cs
open Go.RowKit (Below)
set_option maxRecDepth 100000
attribute [local irreducible] CCalls WLoop WScope
section
variable {M : Type} [Mem M] {w0 : World} {s : St M} {R : Value → St M → Prop}


def divN (a b : Int) : Int := if b = 0 then 0 else if b = -1 then w63 (0 - a) else w63 (a.tdiv b)
def modN (a b : Int) : Int := if b = 0 then 0 else if b = -1 then 0 else if b = 1 then 0 else a.tmod b
def erN (b : Int) : Int := if b = 0 then 31 else 0

theorem wrapN_div (a b : Int) : wrapN (IntKind.i64.wrap (a.tdiv b)) = w63 (a.tdiv b) := by rw [wrapN_eq, w63_wrap64]

theorem div_spec {a b : Int} (h : R (.tuple #[.int .i64 (divN a b), .int .i64 (erN b)]) s) : CCalls Try.prog w0 57 #[.int .i64 a, .int .i64 b] s R := by
  refine wfun2 hmix ok57 (l := [.int .i64 a, .int .i64 b]) func57 rfl ntmps57 results57 (by simp) ?_
  by_cases h0 : b = 0
  · subst h0
    simp -implicitDefEqProofs only [↓Zd, (Zp), if_true, if_false, ne_eq, implies_true, forall_const, Nat.reduceEqDiff, reduceIte, reduceCtorEq, Int.reduceEq, Int.reduceNeg, Int.reduceLE, Int.reduceLT, Nat.reduceAdd, Nat.reduceLeDiff, Int.reduceToNat, Nat.reduceMul, Nat.reduceBEq, okPart, Value.cells, cut, okCell, cld2, underlying3, underlying4, underlying26]
    exact h
  · by_cases h1 : b = -1
    · subst h1
      simp -implicitDefEqProofs only [↓Zd, (Zp), if_true, if_false, ne_eq, implies_true, forall_const, Nat.reduceEqDiff, reduceIte, reduceCtorEq, Int.reduceEq, Int.reduceNeg, Int.reduceLE, Int.reduceLT, Nat.reduceAdd, Nat.reduceLeDiff, Int.reduceToNat, Nat.reduceMul, Nat.reduceBEq, okPart, Value.cells, cut, okCell, cld2, underlying3, underlying4, underlying26, co51]
      refine neg_spec ?_
      simp -implicitDefEqProofs only [↓Zd, (Zp), if_true, if_false, ne_eq, implies_true, forall_const, Nat.reduceEqDiff, reduceIte, reduceCtorEq, Int.reduceEq, Int.reduceNeg, Int.reduceLE, Int.reduceLT, Nat.reduceAdd, Nat.reduceLeDiff, Int.reduceToNat, Nat.reduceMul, Nat.reduceBEq, okPart, Value.cells, cut, okCell, cld2, underlying3, underlying4, underlying26, co51, subN_eq]
      exact h
    · simp -implicitDefEqProofs only [↓Zd, (Zp), if_true, if_false, ne_eq, implies_true, forall_const, Nat.reduceEqDiff, reduceIte, reduceCtorEq, Int.reduceEq, Int.reduceNeg, Int.reduceLE, Int.reduceLT, Nat.reduceAdd, Nat.reduceLeDiff, Int.reduceToNat, Nat.reduceMul, Nat.reduceBEq, okPart, Value.cells, cut, okCell, cld2, underlying3, underlying4, underlying26, co67, h0, h1]
      refine wrap_spec ?_
      simp -implicitDefEqProofs only [↓Zd, (Zp), if_true, if_false, ne_eq, implies_true, forall_const, Nat.reduceEqDiff, reduceIte, reduceCtorEq, Int.reduceEq, Int.reduceNeg, Int.reduceLE, Int.reduceLT, Nat.reduceAdd, Nat.reduceLeDiff, Int.reduceToNat, Nat.reduceMul, Nat.reduceBEq, okPart, Value.cells, cut, okCell, cld2, underlying3, underlying4, underlying26, co67, wrapN_div]
      unfold divN erN at h
      rw [if_neg h0, if_neg h1, if_neg h0] at h
      exact h

theorem mod_spec {a b : Int} (h : R (.tuple #[.int .i64 (modN a b), .int .i64 (erN b)]) s) : CCalls Try.prog w0 58 #[.int .i64 a, .int .i64 b] s R := by
  refine wfun2 hmix ok58 (l := [.int .i64 a, .int .i64 b]) func58 rfl ntmps58 results58 (by simp) ?_
  by_cases h0 : b = 0
  · subst h0
    simp -implicitDefEqProofs only [↓Zd, (Zp), if_true, if_false, ne_eq, implies_true, forall_const, Nat.reduceEqDiff, reduceIte, reduceCtorEq, Int.reduceEq, Int.reduceNeg, Int.reduceLE, Int.reduceLT, Nat.reduceAdd, Nat.reduceLeDiff, Int.reduceToNat, Nat.reduceMul, Nat.reduceBEq, okPart, Value.cells, cut, okCell, cld2, underlying3, underlying4, underlying26]
    exact h
  · by_cases h1 : b = -1
    · subst h1
      simp -implicitDefEqProofs only [↓Zd, (Zp), if_true, if_false, ne_eq, implies_true, forall_const, Nat.reduceEqDiff, reduceIte, reduceCtorEq, Int.reduceEq, Int.reduceNeg, Int.reduceLE, Int.reduceLT, Nat.reduceAdd, Nat.reduceLeDiff, Int.reduceToNat, Nat.reduceMul, Nat.reduceBEq, okPart, Value.cells, cut, okCell, cld2, underlying3, underlying4, underlying26]
      exact h
    · by_cases h2 : b = 1
      · subst h2
        simp -implicitDefEqProofs only [↓Zd, (Zp), if_true, if_false, ne_eq, implies_true, forall_const, Nat.reduceEqDiff, reduceIte, reduceCtorEq, Int.reduceEq, Int.reduceNeg, Int.reduceLE, Int.reduceLT, Nat.reduceAdd, Nat.reduceLeDiff, Int.reduceToNat, Nat.reduceMul, Nat.reduceBEq, okPart, Value.cells, cut, okCell, cld2, underlying3, underlying4, underlying26]
        exact h
      · simp -implicitDefEqProofs only [↓Zd, (Zp), if_true, if_false, ne_eq, implies_true, forall_const, Nat.reduceEqDiff, reduceIte, reduceCtorEq, Int.reduceEq, Int.reduceNeg, Int.reduceLE, Int.reduceLT, Nat.reduceAdd, Nat.reduceLeDiff, Int.reduceToNat, Nat.reduceMul, Nat.reduceBEq, okPart, Value.cells, cut, okCell, cld2, underlying3, underlying4, underlying26, h0, h1, h2]
        unfold modN erN at h
        rw [if_neg h0, if_neg h1, if_neg h2, if_neg h0] at h
        exact h
end
end Go.Proofs.Try
