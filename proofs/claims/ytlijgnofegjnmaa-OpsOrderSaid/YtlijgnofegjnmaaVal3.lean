/- The walks of what asks whether values are alike. A lemma file: no statement of its own. -/
import Derived.Test.YtlijgnofegjnmaaVal2
import Derived.Test.YtlijgnofegjnmaaFwF
import Derived.Test.YtlijgnofegjnmaaW03
set_option linter.unusedSimpArgs false
set_option linter.unusedVariables false
set_option linter.unusedSectionVars false
namespace Go.Proofs.Try
open Go.Cs
open Go.RowKit (Below)
set_option maxRecDepth 100000
attribute [local irreducible] CCalls WLoop WScope

theorem guard23 : Program.eqGuardType Try.prog Try.prog.depth 23 = false := by kernel_rfl
theorem stood23 : Try.prog.stoodInHeld 23 = false := by kernel_rfl
theorem part23x0 (k n : Int) (x : ByteArray) : pureRun Try.prog (part 3 #[.int .i64 k, .int .i64 n, .string x] 0) = some (.int .i64 k) := by kernel_rfl
theorem part23x1 (k n : Int) (x : ByteArray) : pureRun Try.prog (part 3 #[.int .i64 k, .int .i64 n, .string x] 1) = some (.int .i64 n) := by kernel_rfl
theorem part23x2 (k n : Int) (x : ByteArray) : pureRun Try.prog (part 9 #[.int .i64 k, .int .i64 n, .string x] 2) = some (.string x) := by kernel_rfl

theorem eq23 {k n k' n' : Int} {x x' : ByteArray} : pureRun Try.prog (Go.binOp .eql 23 (vA k n x) (vA k' n' x')) = some (.bool ((k == k') && ((n == n') && (decide (x = x') && true)))) := by
  unfold vA
  simp only [Go.binOp, pureRun_bind]
  have := pr_eqStruct (P := Try.prog) (d := 9999) (xs := #[.int .i64 k, .int .i64 n, .string x]) (ys := #[.int .i64 k', .int .i64 n', .string x']) underlying23 stood23
  rw [show Op.equal 23 (Value.agg #[.int .i64 k, .int .i64 n, .string x]) (Value.agg #[.int .i64 k', .int .i64 n', .string x']) = Op.equalIn (9999 + 1) 23 (Value.agg #[.int .i64 k, .int .i64 n, .string x]) (Value.agg #[.int .i64 k', .int .i64 n', .string x']) from rfl, this]
  rw [pr_eqCons (by decide) (part23x0 k n x) (part23x0 k' n' x') (pr_eqInt (d := 9998) underlying3) (pr_eqCons (by decide) (part23x1 k n x) (part23x1 k' n' x') (pr_eqInt (d := 9998) underlying3) (pr_eqCons (by decide) (part23x2 k n x) (part23x2 k' n' x') (pr_eqString (d := 9998) underlying9) pr_eqNil))]
  rfl

theorem same23 {k n k' n' : Int} {x x' : ByteArray} {ox oy : Operand} : cbin Try.prog .eql 23 ox oy (vA k n x) (vA k' n' x') = some (.bool (decide (k = k') && (decide (n = n') && decide (x = x')))) := by
  have h := eq23 (k := k) (n := n) (x := x) (k' := k') (n' := n') (x' := x')
  have h1 : plain 6 (vA k n x) = true := by kernel_rfl
  have h2 : plain 6 (vA k' n' x') = true := by kernel_rfl
  have h3 : pureRun Try.prog (eqGuard .eql 23 ox oy (vA k n x) (vA k' n' x')) = some () := by
    unfold vA eqGuard
    simp only [pureRun_bind, pureRun_program, Option.bind_some, guard23, Bool.not_false, if_true, pureRun_ite, pureRun_pure]
    rfl
  unfold vA at h1 h2 h3 h ⊢
  unfold cbin
  dsimp only
  rw [if_pos ⟨h1, h2⟩]
  unfold pure6
  rw [pureRun_bind, h3, Option.bind_some, h]
  show some (Value.bool _) = _
  rw [Bool.and_true]
  congr 2

section
variable {M : Type} [Mem M] {w0 : World} {s : St M} {R : Value → St M → Prop}

def sameV (k n : Int) (x : ByteArray) (k' n' : Int) (x' : ByteArray) : Bool := decide (k = k') && (decide (n = n') && decide (x = x'))

theorem same_spec {k n : Int} {x : ByteArray} {k' n' : Int} {x' : ByteArray} (h : R (.bool (sameV k n x k' n' x')) ((s.new (vB k n x)).new (vB k' n' x'))) : CCalls Try.prog w0 21 #[vA k n x, vA k' n' x'] s R := by
  refine wfun2 hmix ok21 (l := [vA k n x, vA k' n' x']) func21 rfl ntmps21 results21 (by simp) ?_
  unfold vB at h
  have he := fun ox oy => same23 (k := k) (n := n) (x := x) (k' := k') (n' := n') (x' := x') (ox := ox) (oy := oy)
  unfold vA at he ⊢
  simp -implicitDefEqProofs only [↓Zd, (Zp), if_true, if_false, ne_eq, implies_true, forall_const, Nat.reduceEqDiff, reduceIte, reduceCtorEq, Int.reduceEq, Int.reduceNeg, Int.reduceLE, Int.reduceLT, Nat.reduceAdd, Nat.reduceLeDiff, Int.reduceToNat, Nat.reduceMul, Nat.reduceBEq, okPart, Value.cells, cut, okCell, cld2, underlying3, underlying4, underlying9, underlying23, is23, ag23, ce23, wbin, he]
  exact h

theorem rsame_spec {k n : Int} {x : ByteArray} {k' n' : Int} {x' : ByteArray} (h : R (.bool (sameV k n x k' n' x')) ((s.new (vB k n x)).new (vB k' n' x'))) : CCalls Try.prog w0 37 #[vA k n x, vA k' n' x'] s R := by
  refine wfun2 hmix ok37 (l := [vA k n x, vA k' n' x']) func37 rfl ntmps37 results37 (by simp) ?_
  unfold vB at h
  by_cases h1 : k = k'
  · by_cases h2 : n = n'
    · simp -implicitDefEqProofs only [↓Zd, (Zp), if_true, if_false, ne_eq, implies_true, forall_const, Nat.reduceEqDiff, reduceIte, reduceCtorEq, Int.reduceEq, Int.reduceNeg, Int.reduceLE, Int.reduceLT, Nat.reduceAdd, Nat.reduceLeDiff, Int.reduceToNat, Nat.reduceMul, Nat.reduceBEq, okPart, Value.cells, cut, okCell, cld2, underlying3, underlying4, underlying9, underlying23, vA, is23, ag23, ce23, fa23x0, fa23x1, fa23x2, ag3, ce3, ag9, ce9, h1, h2]
      refine castR (by simpa only [h1, h2] using h) ?_
      simp [sameV]
    · simp -implicitDefEqProofs only [↓Zd, (Zp), if_true, if_false, ne_eq, implies_true, forall_const, Nat.reduceEqDiff, reduceIte, reduceCtorEq, Int.reduceEq, Int.reduceNeg, Int.reduceLE, Int.reduceLT, Nat.reduceAdd, Nat.reduceLeDiff, Int.reduceToNat, Nat.reduceMul, Nat.reduceBEq, okPart, Value.cells, cut, okCell, cld2, underlying3, underlying4, underlying9, underlying23, vA, is23, ag23, ce23, fa23x0, fa23x1, fa23x2, ag3, ce3, ag9, ce9, h1, h2]
      refine castR (by simpa only [h1] using h) ?_
      simp [sameV, h2]
  · simp -implicitDefEqProofs only [↓Zd, (Zp), if_true, if_false, ne_eq, implies_true, forall_const, Nat.reduceEqDiff, reduceIte, reduceCtorEq, Int.reduceEq, Int.reduceNeg, Int.reduceLE, Int.reduceLT, Nat.reduceAdd, Nat.reduceLeDiff, Int.reduceToNat, Nat.reduceMul, Nat.reduceBEq, okPart, Value.cells, cut, okCell, cld2, underlying3, underlying4, underlying9, underlying23, vA, is23, ag23, ce23, fa23x0, fa23x1, fa23x2, ag3, ce3, ag9, ce9, h1]
    refine castR h ?_
    simp [sameV, h1]

theorem rtruth_spec {k n : Int} {x : ByteArray} (h : R (.bool (truthV k n)) (s.new (vB k n x))) : CCalls Try.prog w0 52 #[vA k n x] s R := by
  refine wfun2 hmix ok52 (l := [vA k n x]) func52 rfl ntmps52 results52 (by simp) ?_
  unfold vB at h
  by_cases h0 : k = 0
  · subst h0
    simp -implicitDefEqProofs only [↓Zd, (Zp), if_true, if_false, ne_eq, implies_true, forall_const, Nat.reduceEqDiff, reduceIte, reduceCtorEq, Int.reduceEq, Int.reduceNeg, Int.reduceLE, Int.reduceLT, Nat.reduceAdd, Nat.reduceLeDiff, Int.reduceToNat, Nat.reduceMul, Nat.reduceBEq, okPart, Value.cells, cut, okCell, cld2, underlying3, underlying4, underlying9, underlying23, vA, is23, ag23, ce23, fa23x0, fa23x1, fa23x2, ag3, ce3, ag9, ce9]
    refine castR h ?_
    simp [truthV]
  · by_cases h1 : k = 1
    · subst h1
      simp -implicitDefEqProofs only [↓Zd, (Zp), if_true, if_false, ne_eq, implies_true, forall_const, Nat.reduceEqDiff, reduceIte, reduceCtorEq, Int.reduceEq, Int.reduceNeg, Int.reduceLE, Int.reduceLT, Nat.reduceAdd, Nat.reduceLeDiff, Int.reduceToNat, Nat.reduceMul, Nat.reduceBEq, okPart, Value.cells, cut, okCell, cld2, underlying3, underlying4, underlying9, underlying23, vA, is23, ag23, ce23, fa23x0, fa23x1, fa23x2, ag3, ce3, ag9, ce9]
      refine castR h ?_
      simp [truthV]
    · simp -implicitDefEqProofs only [↓Zd, (Zp), if_true, if_false, ne_eq, implies_true, forall_const, Nat.reduceEqDiff, reduceIte, reduceCtorEq, Int.reduceEq, Int.reduceNeg, Int.reduceLE, Int.reduceLT, Nat.reduceAdd, Nat.reduceLeDiff, Int.reduceToNat, Nat.reduceMul, Nat.reduceBEq, okPart, Value.cells, cut, okCell, cld2, underlying3, underlying4, underlying9, underlying23, vA, is23, ag23, ce23, fa23x0, fa23x1, fa23x2, ag3, ce3, ag9, ce9, h0, h1]
      refine castR h ?_
      simp [truthV, h0, h1]

end
end Go.Proofs.Try
