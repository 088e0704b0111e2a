/- Heaps that are not there: the walk of the law on them. A lemma file: no statement of its own. -/
import Derived.Test.YtakgfhdaimeafaaFwF
import Derived.Test.YtakgfhdaimeafaaHeap0
import Derived.Test.YtakgfhdaimeafaaW12
set_option linter.unusedSimpArgs false
set_option linter.unusedVariables false
set_option linter.unusedSectionVars false
namespace Go.Proofs.Try
open Go.Cs
open Go.RowKit (Below)
set_option maxRecDepth 100000
attribute [local irreducible] CCalls WLoop WScope

section
variable {M : Type} [Mem M] {w0 : World} {s : St M} {R : Value → St M → Prop}
theorem bVal : cbuild Try.prog 28 #[] = some (.agg #[.int .i64 0, .int .i64 0, .string (ByteArray.mk #[])]) := by kernel_rfl
theorem neqVal (x y : Operand) : cbin Try.prog .neq 28 x y (.agg #[.int .i64 0, .int .i64 0, .string (ByteArray.mk #[])]) (.agg #[.int .i64 0, .int .i64 0, .string (ByteArray.mk #[])]) = some (.bool false) := by kernel_rfl
theorem bHeap : cbuild Try.prog 47 #[] = some (.agg #[.slice none 0 0, .pointer none, .pointer none, .int .i64 0, .int .i64 0]) := by kernel_rfl
theorem rowHeap (a b : Option Addr) : crow Try.prog 48 2 #[(0, .pointer a), (1, .pointer b)] = some (.cells [.pointer a, .pointer b] 25 true) := by kernel_rfl

set_option maxHeartbeats 8000000 in
theorem heapNone_spec {a0 a1 a2 : Int} {a3 : ByteArray} {k4 n4 : Int} {x4 : ByteArray} :
    CCalls (M := AL) Try.prog w0 4 #[.agg #[.int .i64 a0, .int .i64 a1, .int .i64 a2, .string a3, .int .i64 k4, .int .i64 n4, .string x4]] St.empty fun v _ => v = .bool true := by
  refine wfun2 hmix ok4 (l := [.agg #[.int .i64 a0, .int .i64 a1, .int .i64 a2, .string a3, .int .i64 k4, .int .i64 n4, .string x4]]) func4 rfl ntmps4 results4 (by simp) ?_
  simp -implicitDefEqProofs only [↓Zd, (Zp), if_true, if_false, ne_eq, implies_true, forall_const, Nat.reduceEqDiff, reduceIte, reduceCtorEq, Int.reduceEq, Int.reduceNeg, Int.reduceLE, Int.reduceLT, Nat.reduceAdd, Nat.reduceLeDiff, Int.reduceToNat, Nat.reduceMul, Nat.reduceBEq, okPart, Value.cells, cut, okCell, cld2, underlying3, underlying4, underlying9, underlying28, vA, is28, ag28, ce28, fa28x0, fa28x1, fa28x2, ag3, ce3, ag9, ce9, underlying3, underlying4, underlying9, underlying5, underlying33, underlying0, be4, bn4, underlying30, is30, ag30, ce30, fa30x0, fa30x1, fa30x2, fa30x3, fa30x4, co6]
  refine long12_spec ?_
  by_cases hl : (decide ((300 : Int) < a3.size) || decide ((300 : Int) < x4.size)) = true
  · rw [hl]
    simp -implicitDefEqProofs only [↓Zd, (Zp), if_true, if_false, ne_eq, implies_true, forall_const, Nat.reduceEqDiff, reduceIte, reduceCtorEq, Int.reduceEq, Int.reduceNeg, Int.reduceLE, Int.reduceLT, Nat.reduceAdd, Nat.reduceLeDiff, Int.reduceToNat, Nat.reduceMul, Nat.reduceBEq, okPart, Value.cells, cut, okCell, cld2, underlying3, underlying4, underlying9, underlying28, vA, is28, ag28, ce28, fa28x0, fa28x1, fa28x2, ag3, ce3, ag9, ce9, underlying3, underlying4, underlying9, underlying5, underlying33, underlying0, be4, bn4, underlying30, is30, ag30, ce30, fa30x0, fa30x1, fa30x2, fa30x3, fa30x4, co7]
    refine works12_spec ?_
    simp -implicitDefEqProofs only [↓Zd, (Zp), if_true, if_false, ne_eq, implies_true, forall_const, Nat.reduceEqDiff, reduceIte, reduceCtorEq, Int.reduceEq, Int.reduceNeg, Int.reduceLE, Int.reduceLT, Nat.reduceAdd, Nat.reduceLeDiff, Int.reduceToNat, Nat.reduceMul, Nat.reduceBEq, okPart, Value.cells, cut, okCell, cld2, underlying3, underlying4, underlying9, underlying28, vA, is28, ag28, ce28, fa28x0, fa28x1, fa28x2, ag3, ce3, ag9, ce9, underlying3, underlying4, underlying9, underlying5, underlying33, underlying0, be4, bn4, underlying30, is30, ag30, ce30, fa30x0, fa30x1, fa30x2, fa30x3, fa30x4]
  · rw [Bool.eq_false_iff.2 hl]
    simp -implicitDefEqProofs only [↓Zd, (Zp), if_true, if_false, ne_eq, implies_true, forall_const, Nat.reduceEqDiff, reduceIte, reduceCtorEq, Int.reduceEq, Int.reduceNeg, Int.reduceLE, Int.reduceLT, Nat.reduceAdd, Nat.reduceLeDiff, Int.reduceToNat, Nat.reduceMul, Nat.reduceBEq, okPart, Value.cells, cut, okCell, cld2, underlying3, underlying4, underlying9, underlying28, vA, is28, ag28, ce28, fa28x0, fa28x1, fa28x2, ag3, ce3, ag9, ce9, underlying3, underlying4, underlying9, underlying5, underlying33, underlying0, be4, bn4, underlying30, is30, ag30, ce30, fa30x0, fa30x1, fa30x2, fa30x3, fa30x4, bHeap, rowHeap, underlying48, underlying47, is47, is25]
    refine wloop_eval hmix (orc12_ok (M := AL)) 400 0 (fun _ _ => true) rfl (by kernel_rfl) ?_
    intro a s' _
    simp -implicitDefEqProofs only [↓Zd, (Zp), if_true, if_false, ne_eq, implies_true, forall_const, Nat.reduceEqDiff, reduceIte, reduceCtorEq, Int.reduceEq, Int.reduceNeg, Int.reduceLE, Int.reduceLT, Nat.reduceAdd, Nat.reduceLeDiff, Int.reduceToNat, Nat.reduceMul, Nat.reduceBEq, okPart, Value.cells, cut, okCell, cld2, underlying3, underlying4, underlying9, underlying28, vA, is28, ag28, ce28, fa28x0, fa28x1, fa28x2, ag3, ce3, ag9, ce9, underlying3, underlying4, underlying9, underlying5, underlying33, underlying0, be4, bn4, underlying30, is30, ag30, ce30, fa30x0, fa30x1, fa30x2, fa30x3, fa30x4, co7]
    refine works12_spec ?_
    simp -implicitDefEqProofs only [↓Zd, (Zp), if_true, if_false, ne_eq, implies_true, forall_const, Nat.reduceEqDiff, reduceIte, reduceCtorEq, Int.reduceEq, Int.reduceNeg, Int.reduceLE, Int.reduceLT, Nat.reduceAdd, Nat.reduceLeDiff, Int.reduceToNat, Nat.reduceMul, Nat.reduceBEq, okPart, Value.cells, cut, okCell, cld2, underlying3, underlying4, underlying9, underlying28, vA, is28, ag28, ce28, fa28x0, fa28x1, fa28x2, ag3, ce3, ag9, ce9, underlying3, underlying4, underlying9, underlying5, underlying33, underlying0, be4, bn4, underlying30, is30, ag30, ce30, fa30x0, fa30x1, fa30x2, fa30x3, fa30x4]
end

theorem heapNone_walk {a0 a1 a2 : Int} {a3 : ByteArray} {k4 n4 : Int} {x4 : ByteArray} (_ : (Lit.int .i64 a0).wf = true) (_ : (Lit.int .i64 a1).wf = true) (_ : (Lit.int .i64 a2).wf = true) (_ : a3.size ≤ maxLen) (_ : (Lit.int .i64 k4).wf = true) (_ : (Lit.int .i64 n4).wf = true) (_ : x4.size ≤ maxLen) (w : World) :
    Calls Try.prog 4 #[.agg #[.int .i64 a0, .int .i64 a1, .int .i64 a2, .string a3, .int .i64 k4, .int .i64 n4, .string x4]] w fun e w' => e = .returned (.bool true) ∧ Below w.heap.size w w' :=
  calls_plain (by kernel_rfl) heapNone_spec
end Go.Proofs.Try
