/- The walks of what signs make of values: the smaller parts. A lemma file: no statement of its own. -/
import Derived.Test.YtlijgnofegjnmaaFwF
import Derived.Test.YtlijgnofegjnmaaShow
import Derived.Test.YtlijgnofegjnmaaVal3
import Derived.Test.YtlijgnofegjnmaaNum5
set_option linter.unusedSimpArgs false
set_option linter.unusedVariables false
set_option linter.unusedSectionVars false
namespace Go.Proofs.Try
open Go.Cs
open Go.RowKit (Below)
set_option maxRecDepth 100000
attribute [local irreducible] CCalls WLoop WScope

theorem bv0 : cbuild Try.prog 23 #[] = some (.agg #[.int .i64 0, .int .i64 0, .string ⟨#[]⟩]) := by kernel_rfl
theorem bv1 (a : Int) : cbuild Try.prog 23 #[(0, .int .i64 a)] = some (.agg #[.int .i64 a, .int .i64 0, .string ⟨#[]⟩]) := by kernel_rfl
theorem bv2 (a b : Int) : cbuild Try.prog 23 #[(0, .int .i64 a), (1, .int .i64 b)] = some (.agg #[.int .i64 a, .int .i64 b, .string ⟨#[]⟩]) := by kernel_rfl
theorem bv3 (a : Int) (x : ByteArray) : cbuild Try.prog 23 #[(0, .int .i64 a), (2, .string x)] = some (.agg #[.int .i64 a, .int .i64 0, .string x]) := by kernel_rfl

section
variable {M : Type} [Mem M] {w0 : World} {s : St M} {R : Value → St M → Prop}

theorem truth_le {k n : Int} {x : ByteArray} (h : ∀ s', s.le s' → R (.bool (truthV k n)) s') : CCalls Try.prog w0 45 #[vA k n x] s R := truth_spec (h _ (St.le_new (St.le_refl s)))
theorem rtruth_le {k n : Int} {x : ByteArray} (h : ∀ s', s.le s' → R (.bool (truthV k n)) s') : CCalls Try.prog w0 52 #[vA k n x] s R := rtruth_spec (h _ (St.le_new (St.le_refl s)))
theorem right_le {k n : Int} {x : ByteArray} (h : ∀ s', s.le s' → R (.bool (rightV k n x)) s') : CCalls Try.prog w0 20 #[vA k n x] s R := right_spec (h _ (St.le_new (St.le_refl s)))
theorem rright_le {k n : Int} {x : ByteArray} (hn : I64 n) (h : ∀ s', s.le s' → R (.bool (rightV k n x)) s') : CCalls Try.prog w0 14 #[vA k n x] s R := rright_spec hn (h _ (St.le_new (St.le_refl s)))
theorem same_le {k n : Int} {x : ByteArray} {k' n' : Int} {x' : ByteArray} (h : ∀ s', s.le s' → R (.bool (sameV k n x k' n' x')) s') : CCalls Try.prog w0 21 #[vA k n x, vA k' n' x'] s R :=
  same_spec (h _ (St.le_new (St.le_new (St.le_refl s))))
theorem rsame_le {k n : Int} {x : ByteArray} {k' n' : Int} {x' : ByteArray} (h : ∀ s', s.le s' → R (.bool (sameV k n x k' n' x')) s') : CCalls Try.prog w0 37 #[vA k n x, vA k' n' x'] s R :=
  rsame_spec (h _ (St.le_new (St.le_new (St.le_refl s))))

def boolN (b : Bool) : Int := if b = true then 1 else 0

set_option maxHeartbeats 4000000 in
theorem otruth_spec {b : Bool} (h : ∀ s', s.le s' → R (vA 1 (boolN b) ⟨#[]⟩) s') : CCalls Try.prog w0 32 #[.bool b] s R := by
  refine wfun2 hmix ok32 (l := [.bool b]) func32 rfl ntmps32 results32 (by simp) ?_
  unfold boolN vA at h
  cases b <;> simp only [if_true, Bool.false_eq_true, if_false] at h
  · simp -implicitDefEqProofs only [↓Zd, (Zp), if_true, if_false, ne_eq, implies_true, forall_const, Nat.reduceEqDiff, reduceIte, reduceCtorEq, Int.reduceEq, Int.reduceNeg, Int.reduceLE, Int.reduceLT, Nat.reduceAdd, Nat.reduceLeDiff, Int.reduceToNat, Nat.reduceMul, Nat.reduceBEq, okPart, Value.cells, cut, okCell, cld2, underlying3, underlying4, underlying9, underlying23, vA, is23, ag23, ce23, fa23x0, fa23x1, fa23x2, ag3, ce3, ag9, ce9, underlying3, underlying4, underlying9, underlying5, underlying26, underlying0, be4, bn4, bv0, bv1, bv2, bv3, ze23, sz23, sz3]
    exact h _ (by repeat (first | exact St.le_refl _ | assumption | refine St.le_new ?_ | refine St.le_put ?_ (by first | omega | (simp only [St.next_new, St.next_put, St.next_kill]; omega)) | refine St.le_trans ?_ (by assumption)))
  · simp -implicitDefEqProofs only [↓Zd, (Zp), if_true, if_false, ne_eq, implies_true, forall_const, Nat.reduceEqDiff, reduceIte, reduceCtorEq, Int.reduceEq, Int.reduceNeg, Int.reduceLE, Int.reduceLT, Nat.reduceAdd, Nat.reduceLeDiff, Int.reduceToNat, Nat.reduceMul, Nat.reduceBEq, okPart, Value.cells, cut, okCell, cld2, underlying3, underlying4, underlying9, underlying23, vA, is23, ag23, ce23, fa23x0, fa23x1, fa23x2, ag3, ce3, ag9, ce9, underlying3, underlying4, underlying9, underlying5, underlying26, underlying0, be4, bn4, bv0, bv1, bv2, bv3, ze23, sz23, sz3]
    exact h _ (by repeat (first | exact St.le_refl _ | assumption | refine St.le_new ?_ | refine St.le_put ?_ (by first | omega | (simp only [St.next_new, St.next_put, St.next_kill]; omega)) | refine St.le_trans ?_ (by assumption)))

set_option maxHeartbeats 4000000 in
theorem rtruthB_spec {b : Bool} (h : ∀ s', s.le s' → R (vA 1 (boolN b) ⟨#[]⟩) s') : CCalls Try.prog w0 36 #[.bool b] s R := by
  refine wfun2 hmix ok36 (l := [.bool b]) func36 rfl ntmps36 results36 (by simp) ?_
  unfold boolN vA at h
  cases b <;> simp only [if_true, Bool.false_eq_true, if_false] at h
  · simp -implicitDefEqProofs only [↓Zd, (Zp), if_true, if_false, ne_eq, implies_true, forall_const, Nat.reduceEqDiff, reduceIte, reduceCtorEq, Int.reduceEq, Int.reduceNeg, Int.reduceLE, Int.reduceLT, Nat.reduceAdd, Nat.reduceLeDiff, Int.reduceToNat, Nat.reduceMul, Nat.reduceBEq, okPart, Value.cells, cut, okCell, cld2, underlying3, underlying4, underlying9, underlying23, vA, is23, ag23, ce23, fa23x0, fa23x1, fa23x2, ag3, ce3, ag9, ce9, underlying3, underlying4, underlying9, underlying5, underlying26, underlying0, be4, bn4, bv0, bv1, bv2, bv3, ze23, sz23, sz3]
    exact h _ (by repeat (first | exact St.le_refl _ | assumption | refine St.le_new ?_ | refine St.le_put ?_ (by first | omega | (simp only [St.next_new, St.next_put, St.next_kill]; omega)) | refine St.le_trans ?_ (by assumption)))
  · simp -implicitDefEqProofs only [↓Zd, (Zp), if_true, if_false, ne_eq, implies_true, forall_const, Nat.reduceEqDiff, reduceIte, reduceCtorEq, Int.reduceEq, Int.reduceNeg, Int.reduceLE, Int.reduceLT, Nat.reduceAdd, Nat.reduceLeDiff, Int.reduceToNat, Nat.reduceMul, Nat.reduceBEq, okPart, Value.cells, cut, okCell, cld2, underlying3, underlying4, underlying9, underlying23, vA, is23, ag23, ce23, fa23x0, fa23x1, fa23x2, ag3, ce3, ag9, ce9, underlying3, underlying4, underlying9, underlying5, underlying26, underlying0, be4, bn4, bv0, bv1, bv2, bv3, ze23, sz23, sz3]
    exact h _ (by repeat (first | exact St.le_refl _ | assumption | refine St.le_new ?_ | refine St.le_put ?_ (by first | omega | (simp only [St.next_new, St.next_put, St.next_kill]; omega)) | refine St.le_trans ?_ (by assumption)))

set_option maxHeartbeats 4000000 in
theorem owhole_spec {n : Int} (h : ∀ s', s.le s' → R (vA 2 n ⟨#[]⟩) s') : CCalls Try.prog w0 50 #[.int .i64 n] s R := by
  refine wfun2 hmix ok50 (l := [.int .i64 n]) func50 rfl ntmps50 results50 (by simp) ?_
  unfold vA at h
  simp -implicitDefEqProofs only [↓Zd, (Zp), if_true, if_false, ne_eq, implies_true, forall_const, Nat.reduceEqDiff, reduceIte, reduceCtorEq, Int.reduceEq, Int.reduceNeg, Int.reduceLE, Int.reduceLT, Nat.reduceAdd, Nat.reduceLeDiff, Int.reduceToNat, Nat.reduceMul, Nat.reduceBEq, okPart, Value.cells, cut, okCell, cld2, underlying3, underlying4, underlying9, underlying23, vA, is23, ag23, ce23, fa23x0, fa23x1, fa23x2, ag3, ce3, ag9, ce9, underlying3, underlying4, underlying9, underlying5, underlying26, underlying0, be4, bn4, bv0, bv1, bv2, bv3, ze23, sz23, sz3]
  exact h _ (by repeat (first | exact St.le_refl _ | assumption | refine St.le_new ?_ | refine St.le_put ?_ (by first | omega | (simp only [St.next_new, St.next_put, St.next_kill]; omega)) | refine St.le_trans ?_ (by assumption)))

def wholeV (n e : Int) : Value := if e = 0 then vA 2 n ⟨#[]⟩ else vA 0 0 ⟨#[]⟩
set_option maxHeartbeats 4000000 in
theorem rwhole_spec {n e : Int} (h : ∀ s', s.le s' → R (.tuple #[wholeV n e, .int .i64 e]) s') : CCalls Try.prog w0 38 #[.int .i64 n, .int .i64 e] s R := by
  refine wfun2 hmix ok38 (l := [.int .i64 n, .int .i64 e]) func38 rfl ntmps38 results38 (by simp) ?_
  unfold wholeV vA at h
  by_cases he : e = 0
  · subst he
    simp -implicitDefEqProofs only [↓Zd, (Zp), if_true, if_false, ne_eq, implies_true, forall_const, Nat.reduceEqDiff, reduceIte, reduceCtorEq, Int.reduceEq, Int.reduceNeg, Int.reduceLE, Int.reduceLT, Nat.reduceAdd, Nat.reduceLeDiff, Int.reduceToNat, Nat.reduceMul, Nat.reduceBEq, okPart, Value.cells, cut, okCell, cld2, underlying3, underlying4, underlying9, underlying23, vA, is23, ag23, ce23, fa23x0, fa23x1, fa23x2, ag3, ce3, ag9, ce9, underlying3, underlying4, underlying9, underlying5, underlying26, underlying0, be4, bn4, bv0, bv1, bv2, bv3, ze23, sz23, sz3]
    exact h _ (by repeat (first | exact St.le_refl _ | assumption | refine St.le_new ?_ | refine St.le_put ?_ (by first | omega | (simp only [St.next_new, St.next_put, St.next_kill]; omega)) | refine St.le_trans ?_ (by assumption)))
  · simp only [he, if_false] at h
    simp -implicitDefEqProofs only [↓Zd, (Zp), if_true, if_false, ne_eq, implies_true, forall_const, Nat.reduceEqDiff, reduceIte, reduceCtorEq, Int.reduceEq, Int.reduceNeg, Int.reduceLE, Int.reduceLT, Nat.reduceAdd, Nat.reduceLeDiff, Int.reduceToNat, Nat.reduceMul, Nat.reduceBEq, okPart, Value.cells, cut, okCell, cld2, underlying3, underlying4, underlying9, underlying23, vA, is23, ag23, ce23, fa23x0, fa23x1, fa23x2, ag3, ce3, ag9, ce9, underlying3, underlying4, underlying9, underlying5, underlying26, underlying0, be4, bn4, bv0, bv1, bv2, bv3, ze23, sz23, sz3, he]
    exact h _ (by repeat (first | exact St.le_refl _ | assumption | refine St.le_new ?_ | refine St.le_put ?_ (by first | omega | (simp only [St.next_new, St.next_put, St.next_kill]; omega)) | refine St.le_trans ?_ (by assumption)))

def joinV (x y : ByteArray) (most : Int) : Value := if (x.size : Int) + y.size > most then .tuple #[vA 0 0 ⟨#[]⟩, .int .i64 43] else .tuple #[vA 3 0 (x ++ y), .int .i64 0]
set_option maxHeartbeats 4000000 in
theorem join_spec {x y : ByteArray} {most : Int} (hm : -1 ≤ most ∧ most ≤ 9223372036854775807) (hx : x.size ≤ 1000000) (hy : y.size ≤ 1000000) (h : ∀ s', s.le s' → R (joinV x y most) s') : CCalls Try.prog w0 33 #[.string x, .string y, .int .i64 most] s R := by
  refine wfun2 hmix ok33 (l := [.string x, .string y, .int .i64 most]) func33 rfl ntmps33 results33 (by simp) ?_
  unfold joinV vA at h
  by_cases h1 : most < (x.size : Int)
  · rw [if_pos (by omega)] at h
    simp -implicitDefEqProofs only [↓Zd, (Zp), if_true, if_false, ne_eq, implies_true, forall_const, Nat.reduceEqDiff, reduceIte, reduceCtorEq, Int.reduceEq, Int.reduceNeg, Int.reduceLE, Int.reduceLT, Nat.reduceAdd, Nat.reduceLeDiff, Int.reduceToNat, Nat.reduceMul, Nat.reduceBEq, okPart, Value.cells, cut, okCell, cld2, underlying3, underlying4, underlying9, underlying23, vA, is23, ag23, ce23, fa23x0, fa23x1, fa23x2, ag3, ce3, ag9, ce9, underlying3, underlying4, underlying9, underlying5, underlying26, underlying0, be4, bn4, bv0, bv1, bv2, bv3, ze23, sz23, sz3, h1]
    exact h _ (by repeat (first | exact St.le_refl _ | assumption | refine St.le_new ?_ | refine St.le_put ?_ (by first | omega | (simp only [St.next_new, St.next_put, St.next_kill]; omega)) | refine St.le_trans ?_ (by assumption)))
  · have w1 : IntKind.i64.wrap (most - (x.size : Int)) = most - (x.size : Int) := wrap_i64 (by omega)
    by_cases h2 : most - (x.size : Int) < (y.size : Int)
    · rw [if_pos (by omega)] at h
      simp -implicitDefEqProofs only [↓Zd, (Zp), if_true, if_false, ne_eq, implies_true, forall_const, Nat.reduceEqDiff, reduceIte, reduceCtorEq, Int.reduceEq, Int.reduceNeg, Int.reduceLE, Int.reduceLT, Nat.reduceAdd, Nat.reduceLeDiff, Int.reduceToNat, Nat.reduceMul, Nat.reduceBEq, okPart, Value.cells, cut, okCell, cld2, underlying3, underlying4, underlying9, underlying23, vA, is23, ag23, ce23, fa23x0, fa23x1, fa23x2, ag3, ce3, ag9, ce9, underlying3, underlying4, underlying9, underlying5, underlying26, underlying0, be4, bn4, bv0, bv1, bv2, bv3, ze23, sz23, sz3, h1, w1, h2]
      exact h _ (by repeat (first | exact St.le_refl _ | assumption | refine St.le_new ?_ | refine St.le_put ?_ (by first | omega | (simp only [St.next_new, St.next_put, St.next_kill]; omega)) | refine St.le_trans ?_ (by assumption)))
    · rw [if_neg (by omega)] at h
      have hsz : x.size + y.size ≤ 9223372036854775807 := by omega
      simp -implicitDefEqProofs only [↓Zd, (Zp), if_true, if_false, ne_eq, implies_true, forall_const, Nat.reduceEqDiff, reduceIte, reduceCtorEq, Int.reduceEq, Int.reduceNeg, Int.reduceLE, Int.reduceLT, Nat.reduceAdd, Nat.reduceLeDiff, Int.reduceToNat, Nat.reduceMul, Nat.reduceBEq, okPart, Value.cells, cut, okCell, cld2, underlying3, underlying4, underlying9, underlying23, vA, is23, ag23, ce23, fa23x0, fa23x1, fa23x2, ag3, ce3, ag9, ce9, underlying3, underlying4, underlying9, underlying5, underlying26, underlying0, be4, bn4, bv0, bv1, bv2, bv3, ze23, sz23, sz3, h1, w1, h2, hsz]
      exact h _ (by repeat (first | exact St.le_refl _ | assumption | refine St.le_new ?_ | refine St.le_put ?_ (by first | omega | (simp only [St.next_new, St.next_put, St.next_kill]; omega)) | refine St.le_trans ?_ (by assumption)))

end
end Go.Proofs.Try
