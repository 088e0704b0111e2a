/- The walks of what asks whether a value may be, in both texts. A lemma file: no statement of its own. -/
import Derived.Test.YtlijgnofegjnmaaVal1
import Derived.Test.YtlijgnofegjnmaaFwF
import Derived.Test.YtlijgnofegjnmaaNum2
set_option linter.unusedSimpArgs false
set_option linter.unusedVariables false
set_option linter.unusedSectionVars false
namespace Go.Proofs.Try
open Go.Cs
open Go.RowKit (Below)
set_option maxRecDepth 100000
attribute [local irreducible] CCalls WLoop WScope
section
variable {M : Type} [Mem M] {w0 : World} {s : St M} {R : Value → St M → Prop}

theorem castR {R : Value → St M → Prop} {s : St M} {b b' : Bool} (h : R (.bool b) s) (e : b' = b) : R (.bool b') s := e ▸ h

/-- May it be? -/
def rightV (k n : Int) (x : ByteArray) : Bool :=
  if k = 3 then decide (x.size ≤ 256) && decide (n = 0)
  else decide (x = ⟨#[]⟩) && (if k = 1 then decide (n = 0) || decide (n = 1) else if k = 2 then decide (-4611686018427387904 ≤ n) && decide (n ≤ 4611686018427387903)
    else if k = 4 then decide (1 ≤ n) else if k = 5 then decide (0 ≤ n) else if k = 0 then decide (n = 0) else false)

set_option maxHeartbeats 1000000 in
theorem right_spec {k n : Int} {x : ByteArray} (h : R (.bool (rightV k n x)) (s.new (vB k n x))) : CCalls Try.prog w0 20 #[vA k n x] s R := by
  refine wfun2 hmix ok20 (l := [vA k n x]) func20 rfl ntmps20 results20 (by simp) ?_
  unfold vB at h
  by_cases h3 : k = 3
  · subst h3
    simp -implicitDefEqProofs only [↓Zd, (Zp), if_true, if_false, ne_eq, implies_true, forall_const, Nat.reduceEqDiff, reduceIte, reduceCtorEq, Int.reduceEq, Int.reduceNeg, Int.reduceLE, Int.reduceLT, Nat.reduceAdd, Nat.reduceLeDiff, Int.reduceToNat, Nat.reduceMul, Nat.reduceBEq, okPart, Value.cells, cut, okCell, cld2, underlying3, underlying4, underlying9, underlying23, vA, is23, ag23, ce23, fa23x0, fa23x1, fa23x2, ag3, ce3, ag9, ce9]
    refine c2_split (fun h1 => ?_) (fun h1 => ?_)
    · simp -implicitDefEqProofs only [↓Zd, (Zp), if_true, if_false, ne_eq, implies_true, forall_const, Nat.reduceEqDiff, reduceIte, reduceCtorEq, Int.reduceEq, Int.reduceNeg, Int.reduceLE, Int.reduceLT, Nat.reduceAdd, Nat.reduceLeDiff, Int.reduceToNat, Nat.reduceMul, Nat.reduceBEq, okPart, Value.cells, cut, okCell, cld2, underlying3, underlying4, underlying9, underlying23, vA, is23, ag23, ce23, fa23x0, fa23x1, fa23x2, ag3, ce3, ag9, ce9]
      refine castR h ?_
      have : ¬ x.size ≤ 256 := by simp at h1; omega
      simp [rightV, this]
    · simp -implicitDefEqProofs only [↓Zd, (Zp), if_true, if_false, ne_eq, implies_true, forall_const, Nat.reduceEqDiff, reduceIte, reduceCtorEq, Int.reduceEq, Int.reduceNeg, Int.reduceLE, Int.reduceLT, Nat.reduceAdd, Nat.reduceLeDiff, Int.reduceToNat, Nat.reduceMul, Nat.reduceBEq, okPart, Value.cells, cut, okCell, cld2, underlying3, underlying4, underlying9, underlying23, vA, is23, ag23, ce23, fa23x0, fa23x1, fa23x2, ag3, ce3, ag9, ce9]
      refine castR h ?_
      have : x.size ≤ 256 := by simp at h1; omega
      simp [rightV, this]
  · by_cases hx : x = ⟨#[]⟩
    · by_cases h1 : k = 1
      · subst h1
        by_cases hn : n = 0
        · simp -implicitDefEqProofs only [↓Zd, (Zp), if_true, if_false, ne_eq, implies_true, forall_const, Nat.reduceEqDiff, reduceIte, reduceCtorEq, Int.reduceEq, Int.reduceNeg, Int.reduceLE, Int.reduceLT, Nat.reduceAdd, Nat.reduceLeDiff, Int.reduceToNat, Nat.reduceMul, Nat.reduceBEq, okPart, Value.cells, cut, okCell, cld2, underlying3, underlying4, underlying9, underlying23, vA, is23, ag23, ce23, fa23x0, fa23x1, fa23x2, ag3, ce3, ag9, ce9, h3, hx, hn]
          refine castR (by simpa only [hx, hn] using h) ?_
          simp [rightV]
        · simp -implicitDefEqProofs only [↓Zd, (Zp), if_true, if_false, ne_eq, implies_true, forall_const, Nat.reduceEqDiff, reduceIte, reduceCtorEq, Int.reduceEq, Int.reduceNeg, Int.reduceLE, Int.reduceLT, Nat.reduceAdd, Nat.reduceLeDiff, Int.reduceToNat, Nat.reduceMul, Nat.reduceBEq, okPart, Value.cells, cut, okCell, cld2, underlying3, underlying4, underlying9, underlying23, vA, is23, ag23, ce23, fa23x0, fa23x1, fa23x2, ag3, ce3, ag9, ce9, h3, hx, hn]
          refine castR (by simpa only [hx] using h) ?_
          simp [rightV, hn]
      · by_cases h2 : k = 2
        · subst h2
          by_cases hn : -4611686018427387904 ≤ n
          · simp -implicitDefEqProofs only [↓Zd, (Zp), if_true, if_false, ne_eq, implies_true, forall_const, Nat.reduceEqDiff, reduceIte, reduceCtorEq, Int.reduceEq, Int.reduceNeg, Int.reduceLE, Int.reduceLT, Nat.reduceAdd, Nat.reduceLeDiff, Int.reduceToNat, Nat.reduceMul, Nat.reduceBEq, okPart, Value.cells, cut, okCell, cld2, underlying3, underlying4, underlying9, underlying23, vA, is23, ag23, ce23, fa23x0, fa23x1, fa23x2, ag3, ce3, ag9, ce9, h3, hx, hn]
            refine castR (by simpa only [hx] using h) ?_
            simp [rightV, hn]
          · simp -implicitDefEqProofs only [↓Zd, (Zp), if_true, if_false, ne_eq, implies_true, forall_const, Nat.reduceEqDiff, reduceIte, reduceCtorEq, Int.reduceEq, Int.reduceNeg, Int.reduceLE, Int.reduceLT, Nat.reduceAdd, Nat.reduceLeDiff, Int.reduceToNat, Nat.reduceMul, Nat.reduceBEq, okPart, Value.cells, cut, okCell, cld2, underlying3, underlying4, underlying9, underlying23, vA, is23, ag23, ce23, fa23x0, fa23x1, fa23x2, ag3, ce3, ag9, ce9, h3, hx, hn]
            refine castR (by simpa only [hx] using h) ?_
            simp [rightV, hn]
        · by_cases h4 : k = 4
          · subst h4
            simp -implicitDefEqProofs only [↓Zd, (Zp), if_true, if_false, ne_eq, implies_true, forall_const, Nat.reduceEqDiff, reduceIte, reduceCtorEq, Int.reduceEq, Int.reduceNeg, Int.reduceLE, Int.reduceLT, Nat.reduceAdd, Nat.reduceLeDiff, Int.reduceToNat, Nat.reduceMul, Nat.reduceBEq, okPart, Value.cells, cut, okCell, cld2, underlying3, underlying4, underlying9, underlying23, vA, is23, ag23, ce23, fa23x0, fa23x1, fa23x2, ag3, ce3, ag9, ce9, h3, hx]
            refine castR (by simpa only [hx] using h) ?_
            simp [rightV]
          · by_cases h5 : k = 5
            · subst h5
              simp -implicitDefEqProofs only [↓Zd, (Zp), if_true, if_false, ne_eq, implies_true, forall_const, Nat.reduceEqDiff, reduceIte, reduceCtorEq, Int.reduceEq, Int.reduceNeg, Int.reduceLE, Int.reduceLT, Nat.reduceAdd, Nat.reduceLeDiff, Int.reduceToNat, Nat.reduceMul, Nat.reduceBEq, okPart, Value.cells, cut, okCell, cld2, underlying3, underlying4, underlying9, underlying23, vA, is23, ag23, ce23, fa23x0, fa23x1, fa23x2, ag3, ce3, ag9, ce9, h3, hx]
              refine castR (by simpa only [hx] using h) ?_
              simp [rightV]
            · by_cases h0 : k = 0
              · subst h0
                simp -implicitDefEqProofs only [↓Zd, (Zp), if_true, if_false, ne_eq, implies_true, forall_const, Nat.reduceEqDiff, reduceIte, reduceCtorEq, Int.reduceEq, Int.reduceNeg, Int.reduceLE, Int.reduceLT, Nat.reduceAdd, Nat.reduceLeDiff, Int.reduceToNat, Nat.reduceMul, Nat.reduceBEq, okPart, Value.cells, cut, okCell, cld2, underlying3, underlying4, underlying9, underlying23, vA, is23, ag23, ce23, fa23x0, fa23x1, fa23x2, ag3, ce3, ag9, ce9, h3, hx]
                refine castR (by simpa only [hx] using h) ?_
                simp [rightV]
              · simp -implicitDefEqProofs only [↓Zd, (Zp), if_true, if_false, ne_eq, implies_true, forall_const, Nat.reduceEqDiff, reduceIte, reduceCtorEq, Int.reduceEq, Int.reduceNeg, Int.reduceLE, Int.reduceLT, Nat.reduceAdd, Nat.reduceLeDiff, Int.reduceToNat, Nat.reduceMul, Nat.reduceBEq, okPart, Value.cells, cut, okCell, cld2, underlying3, underlying4, underlying9, underlying23, vA, is23, ag23, ce23, fa23x0, fa23x1, fa23x2, ag3, ce3, ag9, ce9, h3, hx, h1, h2, h4, h5, h0]
                refine castR (by simpa only [hx] using h) ?_
                simp [rightV, h3, h1, h2, h4, h5, h0]
    · simp -implicitDefEqProofs only [↓Zd, (Zp), if_true, if_false, ne_eq, implies_true, forall_const, Nat.reduceEqDiff, reduceIte, reduceCtorEq, Int.reduceEq, Int.reduceNeg, Int.reduceLE, Int.reduceLT, Nat.reduceAdd, Nat.reduceLeDiff, Int.reduceToNat, Nat.reduceMul, Nat.reduceBEq, okPart, Value.cells, cut, okCell, cld2, underlying3, underlying4, underlying9, underlying23, vA, is23, ag23, ce23, fa23x0, fa23x1, fa23x2, ag3, ce3, ag9, ce9, h3, hx]
      refine castR h ?_
      simp [rightV, h3, hx]

set_option maxHeartbeats 1000000 in
theorem rright_spec {k n : Int} {x : ByteArray} (hn : I64 n) (h : R (.bool (rightV k n x)) (s.new (vB k n x))) : CCalls Try.prog w0 14 #[vA k n x] s R := by
  refine wfun2 hmix ok14 (l := [vA k n x]) func14 rfl ntmps14 results14 (by simp) ?_
  unfold vB at h
  unfold I64 at hn
  by_cases h3 : k = 3
  · subst h3
    by_cases h0 : n = 0
    · simp -implicitDefEqProofs only [↓Zd, (Zp), if_true, if_false, ne_eq, implies_true, forall_const, Nat.reduceEqDiff, reduceIte, reduceCtorEq, Int.reduceEq, Int.reduceNeg, Int.reduceLE, Int.reduceLT, Nat.reduceAdd, Nat.reduceLeDiff, Int.reduceToNat, Nat.reduceMul, Nat.reduceBEq, okPart, Value.cells, cut, okCell, cld2, underlying3, underlying4, underlying9, underlying23, vA, is23, ag23, ce23, fa23x0, fa23x1, fa23x2, ag3, ce3, ag9, ce9, h0]
      refine castR (by simpa only [h0] using h) ?_
      simp [rightV]
      try omega
    · simp -implicitDefEqProofs only [↓Zd, (Zp), if_true, if_false, ne_eq, implies_true, forall_const, Nat.reduceEqDiff, reduceIte, reduceCtorEq, Int.reduceEq, Int.reduceNeg, Int.reduceLE, Int.reduceLT, Nat.reduceAdd, Nat.reduceLeDiff, Int.reduceToNat, Nat.reduceMul, Nat.reduceBEq, okPart, Value.cells, cut, okCell, cld2, underlying3, underlying4, underlying9, underlying23, vA, is23, ag23, ce23, fa23x0, fa23x1, fa23x2, ag3, ce3, ag9, ce9, h0]
      refine castR h ?_
      simp [rightV, h0]
  · by_cases h1 : k = 1
    · subst h1
      by_cases ha : 0 ≤ n
      · by_cases hb : n ≤ 1
        · simp -implicitDefEqProofs only [↓Zd, (Zp), if_true, if_false, ne_eq, implies_true, forall_const, Nat.reduceEqDiff, reduceIte, reduceCtorEq, Int.reduceEq, Int.reduceNeg, Int.reduceLE, Int.reduceLT, Nat.reduceAdd, Nat.reduceLeDiff, Int.reduceToNat, Nat.reduceMul, Nat.reduceBEq, okPart, Value.cells, cut, okCell, cld2, underlying3, underlying4, underlying9, underlying23, vA, is23, ag23, ce23, fa23x0, fa23x1, fa23x2, ag3, ce3, ag9, ce9, ha, hb]
          refine castR h ?_
          simp only [rightV]
          rcases (show n = 0 ∨ n = 1 by omega) with rfl | rfl <;> simp
        · simp -implicitDefEqProofs only [↓Zd, (Zp), if_true, if_false, ne_eq, implies_true, forall_const, Nat.reduceEqDiff, reduceIte, reduceCtorEq, Int.reduceEq, Int.reduceNeg, Int.reduceLE, Int.reduceLT, Nat.reduceAdd, Nat.reduceLeDiff, Int.reduceToNat, Nat.reduceMul, Nat.reduceBEq, okPart, Value.cells, cut, okCell, cld2, underlying3, underlying4, underlying9, underlying23, vA, is23, ag23, ce23, fa23x0, fa23x1, fa23x2, ag3, ce3, ag9, ce9, ha, hb]
          refine castR h ?_
          simp [rightV]
          omega
      · simp -implicitDefEqProofs only [↓Zd, (Zp), if_true, if_false, ne_eq, implies_true, forall_const, Nat.reduceEqDiff, reduceIte, reduceCtorEq, Int.reduceEq, Int.reduceNeg, Int.reduceLE, Int.reduceLT, Nat.reduceAdd, Nat.reduceLeDiff, Int.reduceToNat, Nat.reduceMul, Nat.reduceBEq, okPart, Value.cells, cut, okCell, cld2, underlying3, underlying4, underlying9, underlying23, vA, is23, ag23, ce23, fa23x0, fa23x1, fa23x2, ag3, ce3, ag9, ce9, ha]
        refine castR h ?_
        simp [rightV]
        omega
    · by_cases h2 : k = 2
      · subst h2
        by_cases ha : -4611686018427387904 ≤ n
        · by_cases hb : n ≤ 4611686018427387903
          · simp -implicitDefEqProofs only [↓Zd, (Zp), if_true, if_false, ne_eq, implies_true, forall_const, Nat.reduceEqDiff, reduceIte, reduceCtorEq, Int.reduceEq, Int.reduceNeg, Int.reduceLE, Int.reduceLT, Nat.reduceAdd, Nat.reduceLeDiff, Int.reduceToNat, Nat.reduceMul, Nat.reduceBEq, okPart, Value.cells, cut, okCell, cld2, underlying3, underlying4, underlying9, underlying23, vA, is23, ag23, ce23, fa23x0, fa23x1, fa23x2, ag3, ce3, ag9, ce9, ha, hb]
            refine castR h ?_
            simp [rightV, ha, hb]
          · simp -implicitDefEqProofs only [↓Zd, (Zp), if_true, if_false, ne_eq, implies_true, forall_const, Nat.reduceEqDiff, reduceIte, reduceCtorEq, Int.reduceEq, Int.reduceNeg, Int.reduceLE, Int.reduceLT, Nat.reduceAdd, Nat.reduceLeDiff, Int.reduceToNat, Nat.reduceMul, Nat.reduceBEq, okPart, Value.cells, cut, okCell, cld2, underlying3, underlying4, underlying9, underlying23, vA, is23, ag23, ce23, fa23x0, fa23x1, fa23x2, ag3, ce3, ag9, ce9, ha, hb]
            refine castR h ?_
            simp [rightV, ha, hb]
        · simp -implicitDefEqProofs only [↓Zd, (Zp), if_true, if_false, ne_eq, implies_true, forall_const, Nat.reduceEqDiff, reduceIte, reduceCtorEq, Int.reduceEq, Int.reduceNeg, Int.reduceLE, Int.reduceLT, Nat.reduceAdd, Nat.reduceLeDiff, Int.reduceToNat, Nat.reduceMul, Nat.reduceBEq, okPart, Value.cells, cut, okCell, cld2, underlying3, underlying4, underlying9, underlying23, vA, is23, ag23, ce23, fa23x0, fa23x1, fa23x2, ag3, ce3, ag9, ce9, ha]
          refine castR h ?_
          simp [rightV, ha]
      · by_cases h4 : k = 4
        · subst h4
          have hb : n ≤ 9223372036854775807 := hn.2
          by_cases ha : 1 ≤ n
          · simp -implicitDefEqProofs only [↓Zd, (Zp), if_true, if_false, ne_eq, implies_true, forall_const, Nat.reduceEqDiff, reduceIte, reduceCtorEq, Int.reduceEq, Int.reduceNeg, Int.reduceLE, Int.reduceLT, Nat.reduceAdd, Nat.reduceLeDiff, Int.reduceToNat, Nat.reduceMul, Nat.reduceBEq, okPart, Value.cells, cut, okCell, cld2, underlying3, underlying4, underlying9, underlying23, vA, is23, ag23, ce23, fa23x0, fa23x1, fa23x2, ag3, ce3, ag9, ce9, ha, hb]
            refine castR h ?_
            simp [rightV, ha]
          · simp -implicitDefEqProofs only [↓Zd, (Zp), if_true, if_false, ne_eq, implies_true, forall_const, Nat.reduceEqDiff, reduceIte, reduceCtorEq, Int.reduceEq, Int.reduceNeg, Int.reduceLE, Int.reduceLT, Nat.reduceAdd, Nat.reduceLeDiff, Int.reduceToNat, Nat.reduceMul, Nat.reduceBEq, okPart, Value.cells, cut, okCell, cld2, underlying3, underlying4, underlying9, underlying23, vA, is23, ag23, ce23, fa23x0, fa23x1, fa23x2, ag3, ce3, ag9, ce9, ha]
            refine castR h ?_
            simp [rightV, ha]
        · by_cases h5 : k = 5
          · subst h5
            have hb : n ≤ 9223372036854775807 := hn.2
            by_cases ha : 0 ≤ n
            · simp -implicitDefEqProofs only [↓Zd, (Zp), if_true, if_false, ne_eq, implies_true, forall_const, Nat.reduceEqDiff, reduceIte, reduceCtorEq, Int.reduceEq, Int.reduceNeg, Int.reduceLE, Int.reduceLT, Nat.reduceAdd, Nat.reduceLeDiff, Int.reduceToNat, Nat.reduceMul, Nat.reduceBEq, okPart, Value.cells, cut, okCell, cld2, underlying3, underlying4, underlying9, underlying23, vA, is23, ag23, ce23, fa23x0, fa23x1, fa23x2, ag3, ce3, ag9, ce9, ha, hb]
              refine castR h ?_
              simp [rightV, ha]
            · simp -implicitDefEqProofs only [↓Zd, (Zp), if_true, if_false, ne_eq, implies_true, forall_const, Nat.reduceEqDiff, reduceIte, reduceCtorEq, Int.reduceEq, Int.reduceNeg, Int.reduceLE, Int.reduceLT, Nat.reduceAdd, Nat.reduceLeDiff, Int.reduceToNat, Nat.reduceMul, Nat.reduceBEq, okPart, Value.cells, cut, okCell, cld2, underlying3, underlying4, underlying9, underlying23, vA, is23, ag23, ce23, fa23x0, fa23x1, fa23x2, ag3, ce3, ag9, ce9, ha]
              refine castR h ?_
              simp [rightV, ha]
          · by_cases h0 : k = 0
            · subst h0
              by_cases ha : 0 ≤ n
              · by_cases hb : n ≤ 0
                · simp -implicitDefEqProofs only [↓Zd, (Zp), if_true, if_false, ne_eq, implies_true, forall_const, Nat.reduceEqDiff, reduceIte, reduceCtorEq, Int.reduceEq, Int.reduceNeg, Int.reduceLE, Int.reduceLT, Nat.reduceAdd, Nat.reduceLeDiff, Int.reduceToNat, Nat.reduceMul, Nat.reduceBEq, okPart, Value.cells, cut, okCell, cld2, underlying3, underlying4, underlying9, underlying23, vA, is23, ag23, ce23, fa23x0, fa23x1, fa23x2, ag3, ce3, ag9, ce9, ha, hb]
                  refine castR h ?_
                  have : n = 0 := by omega
                  simp [rightV, this]
                · simp -implicitDefEqProofs only [↓Zd, (Zp), if_true, if_false, ne_eq, implies_true, forall_const, Nat.reduceEqDiff, reduceIte, reduceCtorEq, Int.reduceEq, Int.reduceNeg, Int.reduceLE, Int.reduceLT, Nat.reduceAdd, Nat.reduceLeDiff, Int.reduceToNat, Nat.reduceMul, Nat.reduceBEq, okPart, Value.cells, cut, okCell, cld2, underlying3, underlying4, underlying9, underlying23, vA, is23, ag23, ce23, fa23x0, fa23x1, fa23x2, ag3, ce3, ag9, ce9, ha, hb]
                  refine castR h ?_
                  have : ¬ n = 0 := by omega
                  simp [rightV, this]
              · simp -implicitDefEqProofs only [↓Zd, (Zp), if_true, if_false, ne_eq, implies_true, forall_const, Nat.reduceEqDiff, reduceIte, reduceCtorEq, Int.reduceEq, Int.reduceNeg, Int.reduceLE, Int.reduceLT, Nat.reduceAdd, Nat.reduceLeDiff, Int.reduceToNat, Nat.reduceMul, Nat.reduceBEq, okPart, Value.cells, cut, okCell, cld2, underlying3, underlying4, underlying9, underlying23, vA, is23, ag23, ce23, fa23x0, fa23x1, fa23x2, ag3, ce3, ag9, ce9, ha]
                refine castR h ?_
                have : ¬ n = 0 := by omega
                simp [rightV, this]
            · simp -implicitDefEqProofs only [↓Zd, (Zp), if_true, if_false, ne_eq, implies_true, forall_const, Nat.reduceEqDiff, reduceIte, reduceCtorEq, Int.reduceEq, Int.reduceNeg, Int.reduceLE, Int.reduceLT, Nat.reduceAdd, Nat.reduceLeDiff, Int.reduceToNat, Nat.reduceMul, Nat.reduceBEq, okPart, Value.cells, cut, okCell, cld2, underlying3, underlying4, underlying9, underlying23, vA, is23, ag23, ce23, fa23x0, fa23x1, fa23x2, ag3, ce3, ag9, ce9, h3, h1, h2, h4, h5, h0]
              refine castR h ?_
              simp [rightV, h3, h1, h2, h4, h5, h0]
end
end Go.Proofs.Try
