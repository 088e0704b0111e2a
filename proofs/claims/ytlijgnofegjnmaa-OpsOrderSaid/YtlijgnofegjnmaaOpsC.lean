/- The walks of what signs make of two values. A lemma file: no statement of its own. -/
import Derived.Test.YtlijgnofegjnmaaFwF
import Derived.Test.YtlijgnofegjnmaaOpsB
set_option linter.unusedSimpArgs false
set_option linter.unusedVariables false
set_option linter.unusedSectionVars false
namespace Go.Proofs.Try
open Go.Cs
open Go.RowKit (Below)
set_option maxRecDepth 100000
attribute [local irreducible] CCalls WLoop WScope

def mathN (op a b : Int) : Int × Int := if op = 1 then (w63 (a + b), 0) else if op = 2 then (w63 (a - b), 0) else if op = 3 then (w63 (a * b), 0) else if op = 4 then (divN a b, erN b) else if op = 5 then (modN a b, erN b) else (0, 0)
def cmpOp (op c : Int) : Bool := if op = 6 then decide (c < 0) else if op = 7 then decide (c ≤ 0) else if op = 8 then decide (0 < c) else decide (0 ≤ c)
def cmpI (a b : Int) : Int := if a < b then -1 else if b < a then 1 else 0

theorem cmpL_6 (l m : List UInt8) : decide (cmpL l m < 0) = ltB l m := by
  rcases ltB_tri l m with ⟨h1, h2, _⟩ | ⟨h1, h2, _⟩ | ⟨h1, h2, _⟩ <;> simp [cmpL, h1, h2]
theorem cmpL_7 (l m : List UInt8) : decide (cmpL l m ≤ 0) = !ltB m l := by
  rcases ltB_tri l m with ⟨h1, h2, _⟩ | ⟨h1, h2, _⟩ | ⟨h1, h2, _⟩ <;> simp [cmpL, h1, h2]
theorem cmpL_8 (l m : List UInt8) : decide (0 < cmpL l m) = ltB m l := by
  rcases ltB_tri l m with ⟨h1, h2, _⟩ | ⟨h1, h2, _⟩ | ⟨h1, h2, _⟩ <;> simp [cmpL, h1, h2]
theorem cmpL_9 (l m : List UInt8) : decide (0 ≤ cmpL l m) = !ltB l m := by
  rcases ltB_tri l m with ⟨h1, h2, _⟩ | ⟨h1, h2, _⟩ | ⟨h1, h2, _⟩ <;> simp [cmpL, h1, h2]
theorem cmpI_6 (a b : Int) : decide (cmpI a b < 0) = decide (a < b) := by
  unfold cmpI; congr 1; rw [eq_iff_iff]; split <;> try split
  all_goals omega
theorem cmpI_7 (a b : Int) : decide (cmpI a b ≤ 0) = !decide (b < a) := by
  unfold cmpI; rw [← decide_not]; congr 1; rw [eq_iff_iff]; split <;> try split
  all_goals omega
theorem cmpI_8 (a b : Int) : decide (0 < cmpI a b) = decide (b < a) := by
  unfold cmpI; congr 1; rw [eq_iff_iff]; split <;> try split
  all_goals omega
theorem cmpI_9 (a b : Int) : decide (0 ≤ cmpI a b) = !decide (a < b) := by
  unfold cmpI; rw [← decide_not]; congr 1; rw [eq_iff_iff]; split <;> try split
  all_goals omega

/-- What a sign makes of two values: the value and the error. -/
def binV (op k n : Int) (x : ByteArray) (k' n' : Int) (x' : ByteArray) (most : Int) : Value :=
  if op < 1 ∨ 11 < op then .tuple #[vA 0 0 ⟨#[]⟩, .int .i64 2]
  else if op = 10 then .tuple #[vA 1 (boolN (sameV k n x k' n' x')) ⟨#[]⟩, .int .i64 0]
  else if op = 11 then .tuple #[vA 1 (boolN (!sameV k n x k' n' x')) ⟨#[]⟩, .int .i64 0]
  else if k = 3 ∧ k' = 3 then
    (if op = 1 then joinV x x' most else if op ≤ 5 then .tuple #[vA 0 0 ⟨#[]⟩, .int .i64 30] else .tuple #[vA 1 (boolN (cmpOp op (cmpL x.data.toList x'.data.toList))) ⟨#[]⟩, .int .i64 0])
  else if k = 2 ∧ k' = 2 then
    (if op ≤ 5 then .tuple #[wholeV (mathN op n n').1 (mathN op n n').2, .int .i64 (mathN op n n').2] else .tuple #[vA 1 (boolN (cmpOp op (cmpI n n'))) ⟨#[]⟩, .int .i64 0])
  else .tuple #[vA 0 0 ⟨#[]⟩, .int .i64 30]

section
variable {M : Type} [Mem M] {w0 : World} {s : St M} {R : Value → St M → Prop}

theorem j_normal {P : Program} {ord : Ord} {n : Nat} {c : Code} {Q : Exit → Env → St M → Prop} {J : Code → Env → St M → Prop} {env : Env} {s : St M} : wjump (P := P) (ord := ord) (n := n) c Q J .normal env s = Q .normal env s := rfl
theorem j_ret {P : Program} {ord : Ord} {n : Nat} {c : Code} {Q : Exit → Env → St M → Prop} {J : Code → Env → St M → Prop} {env : Env} {s : St M} : wjump (P := P) (ord := ord) (n := n) c Q J .ret env s = Q .ret env s := rfl
theorem j_exit {P : Program} {ord : Ord} {n : Nat} {c : Code} {Q : Exit → Env → St M → Prop} {J : Code → Env → St M → Prop} {env : Env} {s : St M} {i : Nat} : wjump (P := P) (ord := ord) (n := n) c Q J (.exit i) env s = Q (.exit i) env s := rfl

theorem j_goto {P : Program} {ord : Ord} {n : Nat} {c rest : Code} {Q : Exit → Env → St M → Prop} {J : Code → Env → St M → Prop} {env : Env} {s : St M} {l : Nat} (hf : findLabel c l = some rest) (hc : Go.Cs.codeOk P ord n rest = true) (h : J rest env s) : wjump (P := P) (ord := ord) (n := n) c Q J (.goto l) env s := by
  unfold wjump
  simp only [hf]
  exact ⟨hc, h⟩

set_option maxHeartbeats 4000000 in
theorem math_spec {op a b : Int} (ha : I64 a) (hop : 1 ≤ op ∧ op ≤ 5) (h : ∀ s', s.le s' → R (.tuple #[wholeV (mathN op a b).1 (mathN op a b).2, .int .i64 (mathN op a b).2]) s') : CCalls Try.prog w0 34 #[.int .i64 op, .int .i64 a, .int .i64 b] s R := by
  refine wfun2 hmix ok34 (l := [.int .i64 op, .int .i64 a, .int .i64 b]) func34 rfl ntmps34 results34 (by simp) ?_
  unfold mathN wholeV vA at h
  rcases (show op = 1 ∨ op = 2 ∨ op = 3 ∨ op = 4 ∨ op = 5 by omega) with rfl | rfl | rfl | rfl | rfl
  · simp -implicitDefEqProofs only [↓Zd, (Zp), if_true, if_false, ne_eq, implies_true, forall_const, Nat.reduceEqDiff, reduceIte, reduceCtorEq, Int.reduceEq, Int.reduceNeg, Int.reduceLE, Int.reduceLT, Nat.reduceAdd, Nat.reduceLeDiff, Int.reduceToNat, Nat.reduceMul, Nat.reduceBEq, okPart, Value.cells, cut, okCell, cld2, underlying3, underlying4, underlying9, underlying23, vA, is23, ag23, ce23, fa23x0, fa23x1, fa23x2, ag3, ce3, ag9, ce9, underlying3, underlying4, underlying9, underlying5, underlying26, underlying0, be4, bn4, bv0, bv1, bv2, bv3, ze23, sz23, sz3, underlying27, underlying29, underlying51, underlying56, co54]
    refine add_spec ?_
    simp -implicitDefEqProofs only [↓Zd, (Zp), if_true, if_false, ne_eq, implies_true, forall_const, Nat.reduceEqDiff, reduceIte, reduceCtorEq, Int.reduceEq, Int.reduceNeg, Int.reduceLE, Int.reduceLT, Nat.reduceAdd, Nat.reduceLeDiff, Int.reduceToNat, Nat.reduceMul, Nat.reduceBEq, okPart, Value.cells, cut, okCell, cld2, underlying3, underlying4, underlying9, underlying23, vA, is23, ag23, ce23, fa23x0, fa23x1, fa23x2, ag3, ce3, ag9, ce9, underlying3, underlying4, underlying9, underlying5, underlying26, underlying0, be4, bn4, bv0, bv1, bv2, bv3, ze23, sz23, sz3, underlying27, underlying29, underlying51, underlying56, co50, addN_eq]
    refine owhole_spec fun s1 hs1 => ?_
    have hl1 : s.next < s1.next := by have := hs1.1; simp only [St.next_new, St.next_put] at this; omega
    unfold vA
    simp -implicitDefEqProofs only [↓Zd, (Zp), if_true, if_false, ne_eq, implies_true, forall_const, Nat.reduceEqDiff, reduceIte, reduceCtorEq, Int.reduceEq, Int.reduceNeg, Int.reduceLE, Int.reduceLT, Nat.reduceAdd, Nat.reduceLeDiff, Int.reduceToNat, Nat.reduceMul, Nat.reduceBEq, okPart, Value.cells, cut, okCell, cld2, underlying3, underlying4, underlying9, underlying23, vA, is23, ag23, ce23, fa23x0, fa23x1, fa23x2, ag3, ce3, ag9, ce9, underlying3, underlying4, underlying9, underlying5, underlying26, underlying0, be4, bn4, bv0, bv1, bv2, bv3, ze23, sz23, sz3, underlying27, underlying29, underlying51, underlying56, hs1.2 s.next (by first | omega | (simp only [St.next_new, St.next_put, St.next_kill]; omega))]
    exact h _ (by repeat (first | exact St.le_refl _ | assumption | refine St.le_new ?_ | refine St.le_put ?_ (by first | omega | (simp only [St.next_new, St.next_put, St.next_kill]; omega)) | refine St.le_trans ?_ (by assumption)))
  · simp -implicitDefEqProofs only [↓Zd, (Zp), if_true, if_false, ne_eq, implies_true, forall_const, Nat.reduceEqDiff, reduceIte, reduceCtorEq, Int.reduceEq, Int.reduceNeg, Int.reduceLE, Int.reduceLT, Nat.reduceAdd, Nat.reduceLeDiff, Int.reduceToNat, Nat.reduceMul, Nat.reduceBEq, okPart, Value.cells, cut, okCell, cld2, underlying3, underlying4, underlying9, underlying23, vA, is23, ag23, ce23, fa23x0, fa23x1, fa23x2, ag3, ce3, ag9, ce9, underlying3, underlying4, underlying9, underlying5, underlying26, underlying0, be4, bn4, bv0, bv1, bv2, bv3, ze23, sz23, sz3, underlying27, underlying29, underlying51, underlying56, co55]
    refine sub_spec ?_
    simp -implicitDefEqProofs only [↓Zd, (Zp), if_true, if_false, ne_eq, implies_true, forall_const, Nat.reduceEqDiff, reduceIte, reduceCtorEq, Int.reduceEq, Int.reduceNeg, Int.reduceLE, Int.reduceLT, Nat.reduceAdd, Nat.reduceLeDiff, Int.reduceToNat, Nat.reduceMul, Nat.reduceBEq, okPart, Value.cells, cut, okCell, cld2, underlying3, underlying4, underlying9, underlying23, vA, is23, ag23, ce23, fa23x0, fa23x1, fa23x2, ag3, ce3, ag9, ce9, underlying3, underlying4, underlying9, underlying5, underlying26, underlying0, be4, bn4, bv0, bv1, bv2, bv3, ze23, sz23, sz3, underlying27, underlying29, underlying51, underlying56, co50, subN_eq]
    refine owhole_spec fun s1 hs1 => ?_
    have hl1 : s.next < s1.next := by have := hs1.1; simp only [St.next_new, St.next_put] at this; omega
    unfold vA
    simp -implicitDefEqProofs only [↓Zd, (Zp), if_true, if_false, ne_eq, implies_true, forall_const, Nat.reduceEqDiff, reduceIte, reduceCtorEq, Int.reduceEq, Int.reduceNeg, Int.reduceLE, Int.reduceLT, Nat.reduceAdd, Nat.reduceLeDiff, Int.reduceToNat, Nat.reduceMul, Nat.reduceBEq, okPart, Value.cells, cut, okCell, cld2, underlying3, underlying4, underlying9, underlying23, vA, is23, ag23, ce23, fa23x0, fa23x1, fa23x2, ag3, ce3, ag9, ce9, underlying3, underlying4, underlying9, underlying5, underlying26, underlying0, be4, bn4, bv0, bv1, bv2, bv3, ze23, sz23, sz3, underlying27, underlying29, underlying51, underlying56, hs1.2 s.next (by first | omega | (simp only [St.next_new, St.next_put, St.next_kill]; omega))]
    exact h _ (by repeat (first | exact St.le_refl _ | assumption | refine St.le_new ?_ | refine St.le_put ?_ (by first | omega | (simp only [St.next_new, St.next_put, St.next_kill]; omega)) | refine St.le_trans ?_ (by assumption)))
  · simp -implicitDefEqProofs only [↓Zd, (Zp), if_true, if_false, ne_eq, implies_true, forall_const, Nat.reduceEqDiff, reduceIte, reduceCtorEq, Int.reduceEq, Int.reduceNeg, Int.reduceLE, Int.reduceLT, Nat.reduceAdd, Nat.reduceLeDiff, Int.reduceToNat, Nat.reduceMul, Nat.reduceBEq, okPart, Value.cells, cut, okCell, cld2, underlying3, underlying4, underlying9, underlying23, vA, is23, ag23, ce23, fa23x0, fa23x1, fa23x2, ag3, ce3, ag9, ce9, underlying3, underlying4, underlying9, underlying5, underlying26, underlying0, be4, bn4, bv0, bv1, bv2, bv3, ze23, sz23, sz3, underlying27, underlying29, underlying51, underlying56, co56]
    refine mul_spec ?_
    simp -implicitDefEqProofs only [↓Zd, (Zp), if_true, if_false, ne_eq, implies_true, forall_const, Nat.reduceEqDiff, reduceIte, reduceCtorEq, Int.reduceEq, Int.reduceNeg, Int.reduceLE, Int.reduceLT, Nat.reduceAdd, Nat.reduceLeDiff, Int.reduceToNat, Nat.reduceMul, Nat.reduceBEq, okPart, Value.cells, cut, okCell, cld2, underlying3, underlying4, underlying9, underlying23, vA, is23, ag23, ce23, fa23x0, fa23x1, fa23x2, ag3, ce3, ag9, ce9, underlying3, underlying4, underlying9, underlying5, underlying26, underlying0, be4, bn4, bv0, bv1, bv2, bv3, ze23, sz23, sz3, underlying27, underlying29, underlying51, underlying56, co50, mulN_eq]
    refine owhole_spec fun s1 hs1 => ?_
    have hl1 : s.next < s1.next := by have := hs1.1; simp only [St.next_new, St.next_put] at this; omega
    unfold vA
    simp -implicitDefEqProofs only [↓Zd, (Zp), if_true, if_false, ne_eq, implies_true, forall_const, Nat.reduceEqDiff, reduceIte, reduceCtorEq, Int.reduceEq, Int.reduceNeg, Int.reduceLE, Int.reduceLT, Nat.reduceAdd, Nat.reduceLeDiff, Int.reduceToNat, Nat.reduceMul, Nat.reduceBEq, okPart, Value.cells, cut, okCell, cld2, underlying3, underlying4, underlying9, underlying23, vA, is23, ag23, ce23, fa23x0, fa23x1, fa23x2, ag3, ce3, ag9, ce9, underlying3, underlying4, underlying9, underlying5, underlying26, underlying0, be4, bn4, bv0, bv1, bv2, bv3, ze23, sz23, sz3, underlying27, underlying29, underlying51, underlying56, hs1.2 s.next (by first | omega | (simp only [St.next_new, St.next_put, St.next_kill]; omega))]
    exact h _ (by repeat (first | exact St.le_refl _ | assumption | refine St.le_new ?_ | refine St.le_put ?_ (by first | omega | (simp only [St.next_new, St.next_put, St.next_kill]; omega)) | refine St.le_trans ?_ (by assumption)))
  · by_cases hb : b = 0
    · subst hb
      have e31 : erN 0 = 31 := rfl
      simp -implicitDefEqProofs only [↓Zd, (Zp), if_true, if_false, ne_eq, implies_true, forall_const, Nat.reduceEqDiff, reduceIte, reduceCtorEq, Int.reduceEq, Int.reduceNeg, Int.reduceLE, Int.reduceLT, Nat.reduceAdd, Nat.reduceLeDiff, Int.reduceToNat, Nat.reduceMul, Nat.reduceBEq, okPart, Value.cells, cut, okCell, cld2, underlying3, underlying4, underlying9, underlying23, vA, is23, ag23, ce23, fa23x0, fa23x1, fa23x2, ag3, ce3, ag9, ce9, underlying3, underlying4, underlying9, underlying5, underlying26, underlying0, be4, bn4, bv0, bv1, bv2, bv3, ze23, sz23, sz3, underlying27, underlying29, underlying51, underlying56, co57]
      refine div_spec ?_
      simp -implicitDefEqProofs only [↓Zd, (Zp), if_true, if_false, ne_eq, implies_true, forall_const, Nat.reduceEqDiff, reduceIte, reduceCtorEq, Int.reduceEq, Int.reduceNeg, Int.reduceLE, Int.reduceLT, Nat.reduceAdd, Nat.reduceLeDiff, Int.reduceToNat, Nat.reduceMul, Nat.reduceBEq, okPart, Value.cells, cut, okCell, cld2, underlying3, underlying4, underlying9, underlying23, vA, is23, ag23, ce23, fa23x0, fa23x1, fa23x2, ag3, ce3, ag9, ce9, underlying3, underlying4, underlying9, underlying5, underlying26, underlying0, be4, bn4, bv0, bv1, bv2, bv3, ze23, sz23, sz3, underlying27, underlying29, underlying51, underlying56, e31]
      simp only [e31] at h
      exact h _ (by repeat (first | exact St.le_refl _ | assumption | refine St.le_new ?_ | refine St.le_put ?_ (by first | omega | (simp only [St.next_new, St.next_put, St.next_kill]; omega)) | refine St.le_trans ?_ (by assumption)))
    · have e0 : erN b = 0 := by simp [erN, hb]
      simp -implicitDefEqProofs only [↓Zd, (Zp), if_true, if_false, ne_eq, implies_true, forall_const, Nat.reduceEqDiff, reduceIte, reduceCtorEq, Int.reduceEq, Int.reduceNeg, Int.reduceLE, Int.reduceLT, Nat.reduceAdd, Nat.reduceLeDiff, Int.reduceToNat, Nat.reduceMul, Nat.reduceBEq, okPart, Value.cells, cut, okCell, cld2, underlying3, underlying4, underlying9, underlying23, vA, is23, ag23, ce23, fa23x0, fa23x1, fa23x2, ag3, ce3, ag9, ce9, underlying3, underlying4, underlying9, underlying5, underlying26, underlying0, be4, bn4, bv0, bv1, bv2, bv3, ze23, sz23, sz3, underlying27, underlying29, underlying51, underlying56, co57]
      refine div_spec ?_
      simp -implicitDefEqProofs only [↓Zd, (Zp), if_true, if_false, ne_eq, implies_true, forall_const, Nat.reduceEqDiff, reduceIte, reduceCtorEq, Int.reduceEq, Int.reduceNeg, Int.reduceLE, Int.reduceLT, Nat.reduceAdd, Nat.reduceLeDiff, Int.reduceToNat, Nat.reduceMul, Nat.reduceBEq, okPart, Value.cells, cut, okCell, cld2, underlying3, underlying4, underlying9, underlying23, vA, is23, ag23, ce23, fa23x0, fa23x1, fa23x2, ag3, ce3, ag9, ce9, underlying3, underlying4, underlying9, underlying5, underlying26, underlying0, be4, bn4, bv0, bv1, bv2, bv3, ze23, sz23, sz3, underlying27, underlying29, underlying51, underlying56, e0, co50]
      refine owhole_spec fun s1 hs1 => ?_
      have hl1 : s.next < s1.next := by have := hs1.1; simp only [St.next_new, St.next_put] at this; omega
      unfold vA
      simp -implicitDefEqProofs only [↓Zd, (Zp), if_true, if_false, ne_eq, implies_true, forall_const, Nat.reduceEqDiff, reduceIte, reduceCtorEq, Int.reduceEq, Int.reduceNeg, Int.reduceLE, Int.reduceLT, Nat.reduceAdd, Nat.reduceLeDiff, Int.reduceToNat, Nat.reduceMul, Nat.reduceBEq, okPart, Value.cells, cut, okCell, cld2, underlying3, underlying4, underlying9, underlying23, vA, is23, ag23, ce23, fa23x0, fa23x1, fa23x2, ag3, ce3, ag9, ce9, underlying3, underlying4, underlying9, underlying5, underlying26, underlying0, be4, bn4, bv0, bv1, bv2, bv3, ze23, sz23, sz3, underlying27, underlying29, underlying51, underlying56, e0, hs1.2 s.next (by first | omega | (simp only [St.next_new, St.next_put, St.next_kill]; omega))]
      simp only [e0] at h
      exact h _ (by repeat (first | exact St.le_refl _ | assumption | refine St.le_new ?_ | refine St.le_put ?_ (by first | omega | (simp only [St.next_new, St.next_put, St.next_kill]; omega)) | refine St.le_trans ?_ (by assumption)))
  · by_cases hb : b = 0
    · subst hb
      have e31 : erN 0 = 31 := rfl
      simp -implicitDefEqProofs only [↓Zd, (Zp), if_true, if_false, ne_eq, implies_true, forall_const, Nat.reduceEqDiff, reduceIte, reduceCtorEq, Int.reduceEq, Int.reduceNeg, Int.reduceLE, Int.reduceLT, Nat.reduceAdd, Nat.reduceLeDiff, Int.reduceToNat, Nat.reduceMul, Nat.reduceBEq, okPart, Value.cells, cut, okCell, cld2, underlying3, underlying4, underlying9, underlying23, vA, is23, ag23, ce23, fa23x0, fa23x1, fa23x2, ag3, ce3, ag9, ce9, underlying3, underlying4, underlying9, underlying5, underlying26, underlying0, be4, bn4, bv0, bv1, bv2, bv3, ze23, sz23, sz3, underlying27, underlying29, underlying51, underlying56, co58]
      refine mod_spec ?_
      simp -implicitDefEqProofs only [↓Zd, (Zp), if_true, if_false, ne_eq, implies_true, forall_const, Nat.reduceEqDiff, reduceIte, reduceCtorEq, Int.reduceEq, Int.reduceNeg, Int.reduceLE, Int.reduceLT, Nat.reduceAdd, Nat.reduceLeDiff, Int.reduceToNat, Nat.reduceMul, Nat.reduceBEq, okPart, Value.cells, cut, okCell, cld2, underlying3, underlying4, underlying9, underlying23, vA, is23, ag23, ce23, fa23x0, fa23x1, fa23x2, ag3, ce3, ag9, ce9, underlying3, underlying4, underlying9, underlying5, underlying26, underlying0, be4, bn4, bv0, bv1, bv2, bv3, ze23, sz23, sz3, underlying27, underlying29, underlying51, underlying56, e31]
      simp only [e31] at h
      exact h _ (by repeat (first | exact St.le_refl _ | assumption | refine St.le_new ?_ | refine St.le_put ?_ (by first | omega | (simp only [St.next_new, St.next_put, St.next_kill]; omega)) | refine St.le_trans ?_ (by assumption)))
    · have e0 : erN b = 0 := by simp [erN, hb]
      simp -implicitDefEqProofs only [↓Zd, (Zp), if_true, if_false, ne_eq, implies_true, forall_const, Nat.reduceEqDiff, reduceIte, reduceCtorEq, Int.reduceEq, Int.reduceNeg, Int.reduceLE, Int.reduceLT, Nat.reduceAdd, Nat.reduceLeDiff, Int.reduceToNat, Nat.reduceMul, Nat.reduceBEq, okPart, Value.cells, cut, okCell, cld2, underlying3, underlying4, underlying9, underlying23, vA, is23, ag23, ce23, fa23x0, fa23x1, fa23x2, ag3, ce3, ag9, ce9, underlying3, underlying4, underlying9, underlying5, underlying26, underlying0, be4, bn4, bv0, bv1, bv2, bv3, ze23, sz23, sz3, underlying27, underlying29, underlying51, underlying56, co58]
      refine mod_spec ?_
      simp -implicitDefEqProofs only [↓Zd, (Zp), if_true, if_false, ne_eq, implies_true, forall_const, Nat.reduceEqDiff, reduceIte, reduceCtorEq, Int.reduceEq, Int.reduceNeg, Int.reduceLE, Int.reduceLT, Nat.reduceAdd, Nat.reduceLeDiff, Int.reduceToNat, Nat.reduceMul, Nat.reduceBEq, okPart, Value.cells, cut, okCell, cld2, underlying3, underlying4, underlying9, underlying23, vA, is23, ag23, ce23, fa23x0, fa23x1, fa23x2, ag3, ce3, ag9, ce9, underlying3, underlying4, underlying9, underlying5, underlying26, underlying0, be4, bn4, bv0, bv1, bv2, bv3, ze23, sz23, sz3, underlying27, underlying29, underlying51, underlying56, e0, co50]
      refine owhole_spec fun s1 hs1 => ?_
      have hl1 : s.next < s1.next := by have := hs1.1; simp only [St.next_new, St.next_put] at this; omega
      unfold vA
      simp -implicitDefEqProofs only [↓Zd, (Zp), if_true, if_false, ne_eq, implies_true, forall_const, Nat.reduceEqDiff, reduceIte, reduceCtorEq, Int.reduceEq, Int.reduceNeg, Int.reduceLE, Int.reduceLT, Nat.reduceAdd, Nat.reduceLeDiff, Int.reduceToNat, Nat.reduceMul, Nat.reduceBEq, okPart, Value.cells, cut, okCell, cld2, underlying3, underlying4, underlying9, underlying23, vA, is23, ag23, ce23, fa23x0, fa23x1, fa23x2, ag3, ce3, ag9, ce9, underlying3, underlying4, underlying9, underlying5, underlying26, underlying0, be4, bn4, bv0, bv1, bv2, bv3, ze23, sz23, sz3, underlying27, underlying29, underlying51, underlying56, e0, hs1.2 s.next (by first | omega | (simp only [St.next_new, St.next_put, St.next_kill]; omega))]
      simp only [e0] at h
      exact h _ (by repeat (first | exact St.le_refl _ | assumption | refine St.le_new ?_ | refine St.le_put ?_ (by first | omega | (simp only [St.next_new, St.next_put, St.next_kill]; omega)) | refine St.le_trans ?_ (by assumption)))
end
end Go.Proofs.Try
