/- The walks of the other signs. A lemma file: no statement of its own. -/
import Derived.Test.YtlijgnofegjnmaaFwF
import Derived.Test.YtlijgnofegjnmaaOpsC
set_option linter.unusedSimpArgs false
set_option linter.unusedVariables false
set_option linter.unusedSectionVars false
namespace Go.Proofs.Try
open Go.Cs
open Go.RowKit (Below)
set_option maxRecDepth 100000
attribute [local irreducible] CCalls WLoop WScope

def unV (op k n : Int) : Value := if op = 1 then (if k = 2 then .tuple #[vA 2 (w63 (0 - n)) ⟨#[]⟩, .int .i64 0] else .tuple #[vA 0 0 ⟨#[]⟩, .int .i64 30]) else if op = 2 then .tuple #[vA 1 (boolN (!truthV k n)) ⟨#[]⟩, .int .i64 0] else .tuple #[vA 0 0 ⟨#[]⟩, .int .i64 2]
def lenV (k : Int) (x : ByteArray) : Value := if k = 3 then .tuple #[vA 2 x.size ⟨#[]⟩, .int .i64 0] else .tuple #[vA 0 0 ⟨#[]⟩, .int .i64 30]
def textV (k n : Int) (x : ByteArray) (most : Int) : Value := if most < ((showV k n x).size : Int) then .tuple #[vA 0 0 ⟨#[]⟩, .int .i64 43] else .tuple #[vA 3 0 (showV k n x), .int .i64 0]
def swapN (op : Int) : Int := if op = 6 then 8 else if op = 7 then 9 else if op = 8 then 6 else if op = 9 then 7 else if op = 10 then 10 else if op = 11 then 11 else if op = 3 then 3 else 0
def pureB (op a b : Int) : Bool := decide (op = 10 ∨ op = 11 ∨ (a = 2 ∧ b = 2 ∧ ((6 ≤ op ∧ op ≤ 9) ∨ (1 ≤ op ∧ op ≤ 3))) ∨ (a = 3 ∧ b = 3 ∧ 6 ≤ op ∧ op ≤ 9))

section
variable {M : Type} [Mem M] {w0 : World} {s : St M} {R : Value → St M → Prop}
theorem castB {R : Value → St M → Prop} {s : St M} {b b' : Bool} (h : R (.bool b) s) (e : b' = b) : R (.bool b') s := e ▸ h

set_option maxHeartbeats 4000000 in
theorem un_spec {op k n : Int} {x : ByteArray} (h : ∀ s', s.le s' → R (unV op k n) s') : CCalls Try.prog w0 26 #[.int .i64 op, vA k n x] s R := by
  refine wfun2 hmix ok26 (l := [.int .i64 op, vA k n x]) func26 rfl ntmps26 results26 (by simp) ?_
  rcases (show op = 1 ∨ op = 2 ∨ (¬ op = 1 ∧ ¬ op = 2) by omega) with rfl | rfl | ⟨o1, o2⟩
  · by_cases hk : k = 2
    · subst hk
      have hb : unV 1 2 n = .tuple #[vA 2 (w63 (0 - n)) ⟨#[]⟩, .int .i64 0] := by simp [unV]
      rw [hb] at h
      simp -implicitDefEqProofs only [↓Zd, (Zp), if_true, if_false, ne_eq, implies_true, forall_const, Nat.reduceEqDiff, reduceIte, reduceCtorEq, Int.reduceEq, Int.reduceNeg, Int.reduceLE, Int.reduceLT, Nat.reduceAdd, Nat.reduceLeDiff, Int.reduceToNat, Nat.reduceMul, Nat.reduceBEq, okPart, Value.cells, cut, okCell, cld2, underlying3, underlying4, underlying9, underlying23, vA, is23, ag23, ce23, fa23x0, fa23x1, fa23x2, ag3, ce3, ag9, ce9, underlying3, underlying4, underlying9, underlying5, underlying26, underlying0, be4, bn4, bv0, bv1, bv2, bv3, ze23, sz23, sz3, underlying27, underlying29, underlying51, underlying56, co51]
      refine neg_spec ?_
      simp -implicitDefEqProofs only [↓Zd, (Zp), if_true, if_false, ne_eq, implies_true, forall_const, Nat.reduceEqDiff, reduceIte, reduceCtorEq, Int.reduceEq, Int.reduceNeg, Int.reduceLE, Int.reduceLT, Nat.reduceAdd, Nat.reduceLeDiff, Int.reduceToNat, Nat.reduceMul, Nat.reduceBEq, okPart, Value.cells, cut, okCell, cld2, underlying3, underlying4, underlying9, underlying23, vA, is23, ag23, ce23, fa23x0, fa23x1, fa23x2, ag3, ce3, ag9, ce9, underlying3, underlying4, underlying9, underlying5, underlying26, underlying0, be4, bn4, bv0, bv1, bv2, bv3, ze23, sz23, sz3, underlying27, underlying29, underlying51, underlying56, subN_eq, wrapR_wrap, co50]
      refine owhole_spec fun s1 hs1 => ?_
      have hl1 : s.next + 1 < s1.next := by have := hs1.1; (try simp only [St.next_new, St.next_put] at this); omega
      unfold vA at h ⊢
      simp -implicitDefEqProofs only [↓Zd, (Zp), if_true, if_false, ne_eq, implies_true, forall_const, Nat.reduceEqDiff, reduceIte, reduceCtorEq, Int.reduceEq, Int.reduceNeg, Int.reduceLE, Int.reduceLT, Nat.reduceAdd, Nat.reduceLeDiff, Int.reduceToNat, Nat.reduceMul, Nat.reduceBEq, okPart, Value.cells, cut, okCell, cld2, underlying3, underlying4, underlying9, underlying23, vA, is23, ag23, ce23, fa23x0, fa23x1, fa23x2, ag3, ce3, ag9, ce9, underlying3, underlying4, underlying9, underlying5, underlying26, underlying0, be4, bn4, bv0, bv1, bv2, bv3, ze23, sz23, sz3, underlying27, underlying29, underlying51, underlying56, hs1.2 s.next (by first | omega | (simp only [St.next_new, St.next_put, St.next_kill]; omega)), hs1.2 (s.next + 1) (by first | omega | (simp only [St.next_new, St.next_put, St.next_kill]; omega))]
      exact h _ (by repeat (first | exact St.le_refl _ | assumption | refine St.le_new ?_ | refine St.le_put ?_ (by first | omega | (simp only [St.next_new, St.next_put, St.next_kill]; omega)) | refine St.le_trans ?_ (by assumption)))
    · have hb : unV 1 k n = .tuple #[vA 0 0 ⟨#[]⟩, .int .i64 30] := by simp [unV, hk]
      rw [hb] at h
      unfold vA at h
      simp -implicitDefEqProofs only [↓Zd, (Zp), if_true, if_false, ne_eq, implies_true, forall_const, Nat.reduceEqDiff, reduceIte, reduceCtorEq, Int.reduceEq, Int.reduceNeg, Int.reduceLE, Int.reduceLT, Nat.reduceAdd, Nat.reduceLeDiff, Int.reduceToNat, Nat.reduceMul, Nat.reduceBEq, okPart, Value.cells, cut, okCell, cld2, underlying3, underlying4, underlying9, underlying23, vA, is23, ag23, ce23, fa23x0, fa23x1, fa23x2, ag3, ce3, ag9, ce9, underlying3, underlying4, underlying9, underlying5, underlying26, underlying0, be4, bn4, bv0, bv1, bv2, bv3, ze23, sz23, sz3, underlying27, underlying29, underlying51, underlying56, hk]
      exact h _ (by repeat (first | exact St.le_refl _ | assumption | refine St.le_new ?_ | refine St.le_put ?_ (by first | omega | (simp only [St.next_new, St.next_put, St.next_kill]; omega)) | refine St.le_trans ?_ (by assumption)))
  · have hb : unV 2 k n = .tuple #[vA 1 (boolN (!truthV k n)) ⟨#[]⟩, .int .i64 0] := by simp [unV]
    rw [hb] at h
    simp -implicitDefEqProofs only [↓Zd, (Zp), if_true, if_false, ne_eq, implies_true, forall_const, Nat.reduceEqDiff, reduceIte, reduceCtorEq, Int.reduceEq, Int.reduceNeg, Int.reduceLE, Int.reduceLT, Nat.reduceAdd, Nat.reduceLeDiff, Int.reduceToNat, Nat.reduceMul, Nat.reduceBEq, okPart, Value.cells, cut, okCell, cld2, underlying3, underlying4, underlying9, underlying23, vA, is23, ag23, ce23, fa23x0, fa23x1, fa23x2, ag3, ce3, ag9, ce9, underlying3, underlying4, underlying9, underlying5, underlying26, underlying0, be4, bn4, bv0, bv1, bv2, bv3, ze23, sz23, sz3, underlying27, underlying29, underlying51, underlying56, co45]
    refine truth_le fun s1 hs1 => ?_
    have hl1 : s.next + 1 < s1.next := by have := hs1.1; (try simp only [St.next_new, St.next_put] at this); omega
    simp -implicitDefEqProofs only [↓Zd, (Zp), if_true, if_false, ne_eq, implies_true, forall_const, Nat.reduceEqDiff, reduceIte, reduceCtorEq, Int.reduceEq, Int.reduceNeg, Int.reduceLE, Int.reduceLT, Nat.reduceAdd, Nat.reduceLeDiff, Int.reduceToNat, Nat.reduceMul, Nat.reduceBEq, okPart, Value.cells, cut, okCell, cld2, underlying3, underlying4, underlying9, underlying23, vA, is23, ag23, ce23, fa23x0, fa23x1, fa23x2, ag3, ce3, ag9, ce9, underlying3, underlying4, underlying9, underlying5, underlying26, underlying0, be4, bn4, bv0, bv1, bv2, bv3, ze23, sz23, sz3, underlying27, underlying29, underlying51, underlying56, hs1.2 s.next (by first | omega | (simp only [St.next_new, St.next_put, St.next_kill]; omega)), hs1.2 (s.next + 1) (by first | omega | (simp only [St.next_new, St.next_put, St.next_kill]; omega)), co32]
    refine otruth_spec fun s2 hs2 => ?_
    have hl2 : s.next + 1 < s2.next := by have := hs2.1; (try simp only [St.next_new, St.next_put] at this); omega
    unfold vA at h ⊢
    simp -implicitDefEqProofs only [↓Zd, (Zp), if_true, if_false, ne_eq, implies_true, forall_const, Nat.reduceEqDiff, reduceIte, reduceCtorEq, Int.reduceEq, Int.reduceNeg, Int.reduceLE, Int.reduceLT, Nat.reduceAdd, Nat.reduceLeDiff, Int.reduceToNat, Nat.reduceMul, Nat.reduceBEq, okPart, Value.cells, cut, okCell, cld2, underlying3, underlying4, underlying9, underlying23, vA, is23, ag23, ce23, fa23x0, fa23x1, fa23x2, ag3, ce3, ag9, ce9, underlying3, underlying4, underlying9, underlying5, underlying26, underlying0, be4, bn4, bv0, bv1, bv2, bv3, ze23, sz23, sz3, underlying27, underlying29, underlying51, underlying56, hs2.2 (s.next + 1) (by first | omega | (simp only [St.next_new, St.next_put, St.next_kill]; omega)), hs1.2 (s.next + 1) (by first | omega | (simp only [St.next_new, St.next_put, St.next_kill]; omega))]
    exact h _ (by repeat (first | exact St.le_refl _ | assumption | refine St.le_new ?_ | refine St.le_put ?_ (by first | omega | (simp only [St.next_new, St.next_put, St.next_kill]; omega)) | refine St.le_trans ?_ (by assumption)))
  · have hb : unV op k n = .tuple #[vA 0 0 ⟨#[]⟩, .int .i64 2] := by simp [unV, o1, o2]
    rw [hb] at h
    unfold vA at h
    simp -implicitDefEqProofs only [↓Zd, (Zp), if_true, if_false, ne_eq, implies_true, forall_const, Nat.reduceEqDiff, reduceIte, reduceCtorEq, Int.reduceEq, Int.reduceNeg, Int.reduceLE, Int.reduceLT, Nat.reduceAdd, Nat.reduceLeDiff, Int.reduceToNat, Nat.reduceMul, Nat.reduceBEq, okPart, Value.cells, cut, okCell, cld2, underlying3, underlying4, underlying9, underlying23, vA, is23, ag23, ce23, fa23x0, fa23x1, fa23x2, ag3, ce3, ag9, ce9, underlying3, underlying4, underlying9, underlying5, underlying26, underlying0, be4, bn4, bv0, bv1, bv2, bv3, ze23, sz23, sz3, underlying27, underlying29, underlying51, underlying56, o1, o2]
    exact h _ (by repeat (first | exact St.le_refl _ | assumption | refine St.le_new ?_ | refine St.le_put ?_ (by first | omega | (simp only [St.next_new, St.next_put, St.next_kill]; omega)) | refine St.le_trans ?_ (by assumption)))

set_option maxHeartbeats 4000000 in
theorem run_spec {op k n : Int} {x : ByteArray} (h : ∀ s', s.le s' → R (unV op k n) s') : CCalls Try.prog w0 29 #[.int .i64 op, vA k n x] s R := by
  refine wfun2 hmix ok29 (l := [.int .i64 op, vA k n x]) func29 rfl ntmps29 results29 (by simp) ?_
  rcases (show op = 1 ∨ op = 2 ∨ (¬ op = 1 ∧ ¬ op = 2) by omega) with rfl | rfl | ⟨o1, o2⟩
  · by_cases hk : k = 2
    · subst hk
      have hb : unV 1 2 n = .tuple #[vA 2 (w63 (0 - n)) ⟨#[]⟩, .int .i64 0] := by simp [unV]
      rw [hb] at h
      simp -implicitDefEqProofs only [↓Zd, (Zp), if_true, if_false, ne_eq, implies_true, forall_const, Nat.reduceEqDiff, reduceIte, reduceCtorEq, Int.reduceEq, Int.reduceNeg, Int.reduceLE, Int.reduceLT, Nat.reduceAdd, Nat.reduceLeDiff, Int.reduceToNat, Nat.reduceMul, Nat.reduceBEq, okPart, Value.cells, cut, okCell, cld2, underlying3, underlying4, underlying9, underlying23, vA, is23, ag23, ce23, fa23x0, fa23x1, fa23x2, ag3, ce3, ag9, ce9, underlying3, underlying4, underlying9, underlying5, underlying26, underlying0, be4, bn4, bv0, bv1, bv2, bv3, ze23, sz23, sz3, underlying27, underlying29, underlying51, underlying56, co53]
      refine rneg_spec ?_
      simp -implicitDefEqProofs only [↓Zd, (Zp), if_true, if_false, ne_eq, implies_true, forall_const, Nat.reduceEqDiff, reduceIte, reduceCtorEq, Int.reduceEq, Int.reduceNeg, Int.reduceLE, Int.reduceLT, Nat.reduceAdd, Nat.reduceLeDiff, Int.reduceToNat, Nat.reduceMul, Nat.reduceBEq, okPart, Value.cells, cut, okCell, cld2, underlying3, underlying4, underlying9, underlying23, vA, is23, ag23, ce23, fa23x0, fa23x1, fa23x2, ag3, ce3, ag9, ce9, underlying3, underlying4, underlying9, underlying5, underlying26, underlying0, be4, bn4, bv0, bv1, bv2, bv3, ze23, sz23, sz3, underlying27, underlying29, underlying51, underlying56, subN_eq, wrapR_wrap, co38]
      refine rwhole_spec fun s1 hs1 => ?_
      have hl1 : s.next + 1 < s1.next := by have := hs1.1; (try simp only [St.next_new, St.next_put] at this); omega
      simp only [wholeV, if_true]; unfold vA at h ⊢
      simp -implicitDefEqProofs only [↓Zd, (Zp), if_true, if_false, ne_eq, implies_true, forall_const, Nat.reduceEqDiff, reduceIte, reduceCtorEq, Int.reduceEq, Int.reduceNeg, Int.reduceLE, Int.reduceLT, Nat.reduceAdd, Nat.reduceLeDiff, Int.reduceToNat, Nat.reduceMul, Nat.reduceBEq, okPart, Value.cells, cut, okCell, cld2, underlying3, underlying4, underlying9, underlying23, vA, is23, ag23, ce23, fa23x0, fa23x1, fa23x2, ag3, ce3, ag9, ce9, underlying3, underlying4, underlying9, underlying5, underlying26, underlying0, be4, bn4, bv0, bv1, bv2, bv3, ze23, sz23, sz3, underlying27, underlying29, underlying51, underlying56, hs1.2 s.next (by first | omega | (simp only [St.next_new, St.next_put, St.next_kill]; omega)), hs1.2 (s.next + 1) (by first | omega | (simp only [St.next_new, St.next_put, St.next_kill]; omega))]
      exact h _ (by repeat (first | exact St.le_refl _ | assumption | refine St.le_new ?_ | refine St.le_put ?_ (by first | omega | (simp only [St.next_new, St.next_put, St.next_kill]; omega)) | refine St.le_trans ?_ (by assumption)))
    · have hb : unV 1 k n = .tuple #[vA 0 0 ⟨#[]⟩, .int .i64 30] := by simp [unV, hk]
      rw [hb] at h
      unfold vA at h
      simp -implicitDefEqProofs only [↓Zd, (Zp), if_true, if_false, ne_eq, implies_true, forall_const, Nat.reduceEqDiff, reduceIte, reduceCtorEq, Int.reduceEq, Int.reduceNeg, Int.reduceLE, Int.reduceLT, Nat.reduceAdd, Nat.reduceLeDiff, Int.reduceToNat, Nat.reduceMul, Nat.reduceBEq, okPart, Value.cells, cut, okCell, cld2, underlying3, underlying4, underlying9, underlying23, vA, is23, ag23, ce23, fa23x0, fa23x1, fa23x2, ag3, ce3, ag9, ce9, underlying3, underlying4, underlying9, underlying5, underlying26, underlying0, be4, bn4, bv0, bv1, bv2, bv3, ze23, sz23, sz3, underlying27, underlying29, underlying51, underlying56, hk]
      exact h _ (by repeat (first | exact St.le_refl _ | assumption | refine St.le_new ?_ | refine St.le_put ?_ (by first | omega | (simp only [St.next_new, St.next_put, St.next_kill]; omega)) | refine St.le_trans ?_ (by assumption)))
  · have hb : unV 2 k n = .tuple #[vA 1 (boolN (!truthV k n)) ⟨#[]⟩, .int .i64 0] := by simp [unV]
    rw [hb] at h
    simp -implicitDefEqProofs only [↓Zd, (Zp), if_true, if_false, ne_eq, implies_true, forall_const, Nat.reduceEqDiff, reduceIte, reduceCtorEq, Int.reduceEq, Int.reduceNeg, Int.reduceLE, Int.reduceLT, Nat.reduceAdd, Nat.reduceLeDiff, Int.reduceToNat, Nat.reduceMul, Nat.reduceBEq, okPart, Value.cells, cut, okCell, cld2, underlying3, underlying4, underlying9, underlying23, vA, is23, ag23, ce23, fa23x0, fa23x1, fa23x2, ag3, ce3, ag9, ce9, underlying3, underlying4, underlying9, underlying5, underlying26, underlying0, be4, bn4, bv0, bv1, bv2, bv3, ze23, sz23, sz3, underlying27, underlying29, underlying51, underlying56, co52]
    refine rtruth_le fun s1 hs1 => ?_
    have hl1 : s.next + 1 < s1.next := by have := hs1.1; (try simp only [St.next_new, St.next_put] at this); omega
    simp -implicitDefEqProofs only [↓Zd, (Zp), if_true, if_false, ne_eq, implies_true, forall_const, Nat.reduceEqDiff, reduceIte, reduceCtorEq, Int.reduceEq, Int.reduceNeg, Int.reduceLE, Int.reduceLT, Nat.reduceAdd, Nat.reduceLeDiff, Int.reduceToNat, Nat.reduceMul, Nat.reduceBEq, okPart, Value.cells, cut, okCell, cld2, underlying3, underlying4, underlying9, underlying23, vA, is23, ag23, ce23, fa23x0, fa23x1, fa23x2, ag3, ce3, ag9, ce9, underlying3, underlying4, underlying9, underlying5, underlying26, underlying0, be4, bn4, bv0, bv1, bv2, bv3, ze23, sz23, sz3, underlying27, underlying29, underlying51, underlying56, hs1.2 s.next (by first | omega | (simp only [St.next_new, St.next_put, St.next_kill]; omega)), hs1.2 (s.next + 1) (by first | omega | (simp only [St.next_new, St.next_put, St.next_kill]; omega)), co36]
    refine rtruthB_spec fun s2 hs2 => ?_
    have hl2 : s.next + 1 < s2.next := by have := hs2.1; (try simp only [St.next_new, St.next_put] at this); omega
    unfold vA at h ⊢
    simp -implicitDefEqProofs only [↓Zd, (Zp), if_true, if_false, ne_eq, implies_true, forall_const, Nat.reduceEqDiff, reduceIte, reduceCtorEq, Int.reduceEq, Int.reduceNeg, Int.reduceLE, Int.reduceLT, Nat.reduceAdd, Nat.reduceLeDiff, Int.reduceToNat, Nat.reduceMul, Nat.reduceBEq, okPart, Value.cells, cut, okCell, cld2, underlying3, underlying4, underlying9, underlying23, vA, is23, ag23, ce23, fa23x0, fa23x1, fa23x2, ag3, ce3, ag9, ce9, underlying3, underlying4, underlying9, underlying5, underlying26, underlying0, be4, bn4, bv0, bv1, bv2, bv3, ze23, sz23, sz3, underlying27, underlying29, underlying51, underlying56, hs2.2 (s.next + 1) (by first | omega | (simp only [St.next_new, St.next_put, St.next_kill]; omega)), hs1.2 (s.next + 1) (by first | omega | (simp only [St.next_new, St.next_put, St.next_kill]; omega))]
    exact h _ (by repeat (first | exact St.le_refl _ | assumption | refine St.le_new ?_ | refine St.le_put ?_ (by first | omega | (simp only [St.next_new, St.next_put, St.next_kill]; omega)) | refine St.le_trans ?_ (by assumption)))
  · have hb : unV op k n = .tuple #[vA 0 0 ⟨#[]⟩, .int .i64 2] := by simp [unV, o1, o2]
    rw [hb] at h
    unfold vA at h
    simp -implicitDefEqProofs only [↓Zd, (Zp), if_true, if_false, ne_eq, implies_true, forall_const, Nat.reduceEqDiff, reduceIte, reduceCtorEq, Int.reduceEq, Int.reduceNeg, Int.reduceLE, Int.reduceLT, Nat.reduceAdd, Nat.reduceLeDiff, Int.reduceToNat, Nat.reduceMul, Nat.reduceBEq, okPart, Value.cells, cut, okCell, cld2, underlying3, underlying4, underlying9, underlying23, vA, is23, ag23, ce23, fa23x0, fa23x1, fa23x2, ag3, ce3, ag9, ce9, underlying3, underlying4, underlying9, underlying5, underlying26, underlying0, be4, bn4, bv0, bv1, bv2, bv3, ze23, sz23, sz3, underlying27, underlying29, underlying51, underlying56, o1, o2]
    exact h _ (by repeat (first | exact St.le_refl _ | assumption | refine St.le_new ?_ | refine St.le_put ?_ (by first | omega | (simp only [St.next_new, St.next_put, St.next_kill]; omega)) | refine St.le_trans ?_ (by assumption)))

set_option maxHeartbeats 4000000 in
theorem len_spec {k n : Int} {x : ByteArray} (h : ∀ s', s.le s' → R (lenV k x) s') : CCalls Try.prog w0 27 #[vA k n x] s R := by
  refine wfun2 hmix ok27 (l := [vA k n x]) func27 rfl ntmps27 results27 (by simp) ?_
  by_cases hk : k = 3
  · subst hk
    have hb : lenV 3 x = .tuple #[vA 2 x.size ⟨#[]⟩, .int .i64 0] := by simp [lenV]
    rw [hb] at h
    simp -implicitDefEqProofs only [↓Zd, (Zp), if_true, if_false, ne_eq, implies_true, forall_const, Nat.reduceEqDiff, reduceIte, reduceCtorEq, Int.reduceEq, Int.reduceNeg, Int.reduceLE, Int.reduceLT, Nat.reduceAdd, Nat.reduceLeDiff, Int.reduceToNat, Nat.reduceMul, Nat.reduceBEq, okPart, Value.cells, cut, okCell, cld2, underlying3, underlying4, underlying9, underlying23, vA, is23, ag23, ce23, fa23x0, fa23x1, fa23x2, ag3, ce3, ag9, ce9, underlying3, underlying4, underlying9, underlying5, underlying26, underlying0, be4, bn4, bv0, bv1, bv2, bv3, ze23, sz23, sz3, underlying27, underlying29, underlying51, underlying56, co50]
    refine owhole_spec fun s1 hs1 => ?_
    have hl1 : s.next + 1 < s1.next := by have := hs1.1; (try simp only [St.next_new, St.next_put] at this); omega
    unfold vA at h ⊢
    simp -implicitDefEqProofs only [↓Zd, (Zp), if_true, if_false, ne_eq, implies_true, forall_const, Nat.reduceEqDiff, reduceIte, reduceCtorEq, Int.reduceEq, Int.reduceNeg, Int.reduceLE, Int.reduceLT, Nat.reduceAdd, Nat.reduceLeDiff, Int.reduceToNat, Nat.reduceMul, Nat.reduceBEq, okPart, Value.cells, cut, okCell, cld2, underlying3, underlying4, underlying9, underlying23, vA, is23, ag23, ce23, fa23x0, fa23x1, fa23x2, ag3, ce3, ag9, ce9, underlying3, underlying4, underlying9, underlying5, underlying26, underlying0, be4, bn4, bv0, bv1, bv2, bv3, ze23, sz23, sz3, underlying27, underlying29, underlying51, underlying56, hs1.2 s.next (by first | omega | (simp only [St.next_new, St.next_put, St.next_kill]; omega)), hs1.2 (s.next + 1) (by first | omega | (simp only [St.next_new, St.next_put, St.next_kill]; omega))]
    exact h _ (by repeat (first | exact St.le_refl _ | assumption | refine St.le_new ?_ | refine St.le_put ?_ (by first | omega | (simp only [St.next_new, St.next_put, St.next_kill]; omega)) | refine St.le_trans ?_ (by assumption)))
  · have hb : lenV k x = .tuple #[vA 0 0 ⟨#[]⟩, .int .i64 30] := by simp [lenV, hk]
    rw [hb] at h
    unfold vA at h
    simp -implicitDefEqProofs only [↓Zd, (Zp), if_true, if_false, ne_eq, implies_true, forall_const, Nat.reduceEqDiff, reduceIte, reduceCtorEq, Int.reduceEq, Int.reduceNeg, Int.reduceLE, Int.reduceLT, Nat.reduceAdd, Nat.reduceLeDiff, Int.reduceToNat, Nat.reduceMul, Nat.reduceBEq, okPart, Value.cells, cut, okCell, cld2, underlying3, underlying4, underlying9, underlying23, vA, is23, ag23, ce23, fa23x0, fa23x1, fa23x2, ag3, ce3, ag9, ce9, underlying3, underlying4, underlying9, underlying5, underlying26, underlying0, be4, bn4, bv0, bv1, bv2, bv3, ze23, sz23, sz3, underlying27, underlying29, underlying51, underlying56, hk]
    exact h _ (by repeat (first | exact St.le_refl _ | assumption | refine St.le_new ?_ | refine St.le_put ?_ (by first | omega | (simp only [St.next_new, St.next_put, St.next_kill]; omega)) | refine St.le_trans ?_ (by assumption)))

set_option maxHeartbeats 4000000 in
theorem rlen_spec {k n : Int} {x : ByteArray} (h : ∀ s', s.le s' → R (lenV k x) s') : CCalls Try.prog w0 30 #[vA k n x] s R := by
  refine wfun2 hmix ok30 (l := [vA k n x]) func30 rfl ntmps30 results30 (by simp) ?_
  by_cases hk : k = 3
  · subst hk
    have hb : lenV 3 x = .tuple #[vA 2 x.size ⟨#[]⟩, .int .i64 0] := by simp [lenV]
    rw [hb] at h
    simp -implicitDefEqProofs only [↓Zd, (Zp), if_true, if_false, ne_eq, implies_true, forall_const, Nat.reduceEqDiff, reduceIte, reduceCtorEq, Int.reduceEq, Int.reduceNeg, Int.reduceLE, Int.reduceLT, Nat.reduceAdd, Nat.reduceLeDiff, Int.reduceToNat, Nat.reduceMul, Nat.reduceBEq, okPart, Value.cells, cut, okCell, cld2, underlying3, underlying4, underlying9, underlying23, vA, is23, ag23, ce23, fa23x0, fa23x1, fa23x2, ag3, ce3, ag9, ce9, underlying3, underlying4, underlying9, underlying5, underlying26, underlying0, be4, bn4, bv0, bv1, bv2, bv3, ze23, sz23, sz3, underlying27, underlying29, underlying51, underlying56, co38]
    refine rwhole_spec fun s1 hs1 => ?_
    have hl1 : s.next + 1 < s1.next := by have := hs1.1; (try simp only [St.next_new, St.next_put] at this); omega
    simp only [wholeV, if_true]; unfold vA at h ⊢
    simp -implicitDefEqProofs only [↓Zd, (Zp), if_true, if_false, ne_eq, implies_true, forall_const, Nat.reduceEqDiff, reduceIte, reduceCtorEq, Int.reduceEq, Int.reduceNeg, Int.reduceLE, Int.reduceLT, Nat.reduceAdd, Nat.reduceLeDiff, Int.reduceToNat, Nat.reduceMul, Nat.reduceBEq, okPart, Value.cells, cut, okCell, cld2, underlying3, underlying4, underlying9, underlying23, vA, is23, ag23, ce23, fa23x0, fa23x1, fa23x2, ag3, ce3, ag9, ce9, underlying3, underlying4, underlying9, underlying5, underlying26, underlying0, be4, bn4, bv0, bv1, bv2, bv3, ze23, sz23, sz3, underlying27, underlying29, underlying51, underlying56, hs1.2 s.next (by first | omega | (simp only [St.next_new, St.next_put, St.next_kill]; omega)), hs1.2 (s.next + 1) (by first | omega | (simp only [St.next_new, St.next_put, St.next_kill]; omega))]
    exact h _ (by repeat (first | exact St.le_refl _ | assumption | refine St.le_new ?_ | refine St.le_put ?_ (by first | omega | (simp only [St.next_new, St.next_put, St.next_kill]; omega)) | refine St.le_trans ?_ (by assumption)))
  · have hb : lenV k x = .tuple #[vA 0 0 ⟨#[]⟩, .int .i64 30] := by simp [lenV, hk]
    rw [hb] at h
    unfold vA at h
    simp -implicitDefEqProofs only [↓Zd, (Zp), if_true, if_false, ne_eq, implies_true, forall_const, Nat.reduceEqDiff, reduceIte, reduceCtorEq, Int.reduceEq, Int.reduceNeg, Int.reduceLE, Int.reduceLT, Nat.reduceAdd, Nat.reduceLeDiff, Int.reduceToNat, Nat.reduceMul, Nat.reduceBEq, okPart, Value.cells, cut, okCell, cld2, underlying3, underlying4, underlying9, underlying23, vA, is23, ag23, ce23, fa23x0, fa23x1, fa23x2, ag3, ce3, ag9, ce9, underlying3, underlying4, underlying9, underlying5, underlying26, underlying0, be4, bn4, bv0, bv1, bv2, bv3, ze23, sz23, sz3, underlying27, underlying29, underlying51, underlying56, hk]
    exact h _ (by repeat (first | exact St.le_refl _ | assumption | refine St.le_new ?_ | refine St.le_put ?_ (by first | omega | (simp only [St.next_new, St.next_put, St.next_kill]; omega)) | refine St.le_trans ?_ (by assumption)))

set_option maxHeartbeats 4000000 in
theorem text_spec {k n most : Int} {x : ByteArray} (hn : -9223372036854775808 ≤ n ∧ n ≤ 9223372036854775807) (h : ∀ s', s.le s' → R (textV k n x most) s') : CCalls Try.prog w0 28 #[vA k n x, .int .i64 most] s R := by
  refine wfun2 hmix ok28 (l := [vA k n x, .int .i64 most]) func28 rfl ntmps28 results28 (by simp) ?_
  simp -implicitDefEqProofs only [↓Zd, (Zp), if_true, if_false, ne_eq, implies_true, forall_const, Nat.reduceEqDiff, reduceIte, reduceCtorEq, Int.reduceEq, Int.reduceNeg, Int.reduceLE, Int.reduceLT, Nat.reduceAdd, Nat.reduceLeDiff, Int.reduceToNat, Nat.reduceMul, Nat.reduceBEq, okPart, Value.cells, cut, okCell, cld2, underlying3, underlying4, underlying9, underlying23, vA, is23, ag23, ce23, fa23x0, fa23x1, fa23x2, ag3, ce3, ag9, ce9, underlying3, underlying4, underlying9, underlying5, underlying26, underlying0, be4, bn4, bv0, bv1, bv2, bv3, ze23, sz23, sz3, underlying27, underlying29, underlying51, underlying56, co16]
  refine show_spec hn fun s1 hs1 => ?_
  have hl1 : s.next + 1 < s1.next := by have := hs1.1; (try simp only [St.next_new, St.next_put] at this); omega
  unfold textV at h
  by_cases hj : most < ((showV k n x).size : Int)
  · rw [if_pos hj] at h
    unfold vA at h
    simp -implicitDefEqProofs only [↓Zd, (Zp), if_true, if_false, ne_eq, implies_true, forall_const, Nat.reduceEqDiff, reduceIte, reduceCtorEq, Int.reduceEq, Int.reduceNeg, Int.reduceLE, Int.reduceLT, Nat.reduceAdd, Nat.reduceLeDiff, Int.reduceToNat, Nat.reduceMul, Nat.reduceBEq, okPart, Value.cells, cut, okCell, cld2, underlying3, underlying4, underlying9, underlying23, vA, is23, ag23, ce23, fa23x0, fa23x1, fa23x2, ag3, ce3, ag9, ce9, underlying3, underlying4, underlying9, underlying5, underlying26, underlying0, be4, bn4, bv0, bv1, bv2, bv3, ze23, sz23, sz3, underlying27, underlying29, underlying51, underlying56, hj, hs1.2 s.next (by first | omega | (simp only [St.next_new, St.next_put, St.next_kill]; omega)), hs1.2 (s.next + 1) (by first | omega | (simp only [St.next_new, St.next_put, St.next_kill]; omega))]
    exact h _ (by repeat (first | exact St.le_refl _ | assumption | refine St.le_new ?_ | refine St.le_put ?_ (by first | omega | (simp only [St.next_new, St.next_put, St.next_kill]; omega)) | refine St.le_trans ?_ (by assumption)))
  · rw [if_neg hj] at h
    unfold vA at h
    simp -implicitDefEqProofs only [↓Zd, (Zp), if_true, if_false, ne_eq, implies_true, forall_const, Nat.reduceEqDiff, reduceIte, reduceCtorEq, Int.reduceEq, Int.reduceNeg, Int.reduceLE, Int.reduceLT, Nat.reduceAdd, Nat.reduceLeDiff, Int.reduceToNat, Nat.reduceMul, Nat.reduceBEq, okPart, Value.cells, cut, okCell, cld2, underlying3, underlying4, underlying9, underlying23, vA, is23, ag23, ce23, fa23x0, fa23x1, fa23x2, ag3, ce3, ag9, ce9, underlying3, underlying4, underlying9, underlying5, underlying26, underlying0, be4, bn4, bv0, bv1, bv2, bv3, ze23, sz23, sz3, underlying27, underlying29, underlying51, underlying56, hj, hs1.2 s.next (by first | omega | (simp only [St.next_new, St.next_put, St.next_kill]; omega)), hs1.2 (s.next + 1) (by first | omega | (simp only [St.next_new, St.next_put, St.next_kill]; omega))]
    exact h _ (by repeat (first | exact St.le_refl _ | assumption | refine St.le_new ?_ | refine St.le_put ?_ (by first | omega | (simp only [St.next_new, St.next_put, St.next_kill]; omega)) | refine St.le_trans ?_ (by assumption)))

set_option maxHeartbeats 4000000 in
theorem rtext_spec {k n most : Int} {x : ByteArray} (hn : -9223372036854775808 ≤ n ∧ n ≤ 9223372036854775807) (h : ∀ s', s.le s' → R (textV k n x most) s') : CCalls Try.prog w0 31 #[vA k n x, .int .i64 most] s R := by
  refine wfun2 hmix ok31 (l := [vA k n x, .int .i64 most]) func31 rfl ntmps31 results31 (by simp) ?_
  simp -implicitDefEqProofs only [↓Zd, (Zp), if_true, if_false, ne_eq, implies_true, forall_const, Nat.reduceEqDiff, reduceIte, reduceCtorEq, Int.reduceEq, Int.reduceNeg, Int.reduceLE, Int.reduceLT, Nat.reduceAdd, Nat.reduceLeDiff, Int.reduceToNat, Nat.reduceMul, Nat.reduceBEq, okPart, Value.cells, cut, okCell, cld2, underlying3, underlying4, underlying9, underlying23, vA, is23, ag23, ce23, fa23x0, fa23x1, fa23x2, ag3, ce3, ag9, ce9, underlying3, underlying4, underlying9, underlying5, underlying26, underlying0, be4, bn4, bv0, bv1, bv2, bv3, ze23, sz23, sz3, underlying27, underlying29, underlying51, underlying56, co17]
  refine rShow_spec hn fun s1 hs1 => ?_
  have hl1 : s.next + 1 < s1.next := by have := hs1.1; (try simp only [St.next_new, St.next_put] at this); omega
  unfold textV at h
  by_cases hj : most < ((showV k n x).size : Int)
  · rw [if_pos hj] at h
    unfold vA at h
    simp -implicitDefEqProofs only [↓Zd, (Zp), if_true, if_false, ne_eq, implies_true, forall_const, Nat.reduceEqDiff, reduceIte, reduceCtorEq, Int.reduceEq, Int.reduceNeg, Int.reduceLE, Int.reduceLT, Nat.reduceAdd, Nat.reduceLeDiff, Int.reduceToNat, Nat.reduceMul, Nat.reduceBEq, okPart, Value.cells, cut, okCell, cld2, underlying3, underlying4, underlying9, underlying23, vA, is23, ag23, ce23, fa23x0, fa23x1, fa23x2, ag3, ce3, ag9, ce9, underlying3, underlying4, underlying9, underlying5, underlying26, underlying0, be4, bn4, bv0, bv1, bv2, bv3, ze23, sz23, sz3, underlying27, underlying29, underlying51, underlying56, hj, hs1.2 s.next (by first | omega | (simp only [St.next_new, St.next_put, St.next_kill]; omega)), hs1.2 (s.next + 1) (by first | omega | (simp only [St.next_new, St.next_put, St.next_kill]; omega))]
    exact h _ (by repeat (first | exact St.le_refl _ | assumption | refine St.le_new ?_ | refine St.le_put ?_ (by first | omega | (simp only [St.next_new, St.next_put, St.next_kill]; omega)) | refine St.le_trans ?_ (by assumption)))
  · rw [if_neg hj] at h
    unfold vA at h
    simp -implicitDefEqProofs only [↓Zd, (Zp), if_true, if_false, ne_eq, implies_true, forall_const, Nat.reduceEqDiff, reduceIte, reduceCtorEq, Int.reduceEq, Int.reduceNeg, Int.reduceLE, Int.reduceLT, Nat.reduceAdd, Nat.reduceLeDiff, Int.reduceToNat, Nat.reduceMul, Nat.reduceBEq, okPart, Value.cells, cut, okCell, cld2, underlying3, underlying4, underlying9, underlying23, vA, is23, ag23, ce23, fa23x0, fa23x1, fa23x2, ag3, ce3, ag9, ce9, underlying3, underlying4, underlying9, underlying5, underlying26, underlying0, be4, bn4, bv0, bv1, bv2, bv3, ze23, sz23, sz3, underlying27, underlying29, underlying51, underlying56, hj, hs1.2 s.next (by first | omega | (simp only [St.next_new, St.next_put, St.next_kill]; omega)), hs1.2 (s.next + 1) (by first | omega | (simp only [St.next_new, St.next_put, St.next_kill]; omega))]
    exact h _ (by repeat (first | exact St.le_refl _ | assumption | refine St.le_new ?_ | refine St.le_put ?_ (by first | omega | (simp only [St.next_new, St.next_put, St.next_kill]; omega)) | refine St.le_trans ?_ (by assumption)))

theorem swap_spec {op : Int} (h : R (.int .i64 (swapN op)) s) : CCalls Try.prog w0 22 #[.int .i64 op] s R := by
  refine wfun2 hmix ok22 (l := [.int .i64 op]) func22 rfl ntmps22 results22 (by simp) ?_
  unfold swapN at h
  rcases (show op = 6 ∨ op = 7 ∨ op = 8 ∨ op = 9 ∨ op = 10 ∨ op = 11 ∨ op = 3 ∨ (¬ op = 6 ∧ ¬ op = 7 ∧ ¬ op = 8 ∧ ¬ op = 9 ∧ ¬ op = 10 ∧ ¬ op = 11 ∧ ¬ op = 3) by omega) with rfl | rfl | rfl | rfl | rfl | rfl | rfl | ⟨o1, o2, o3, o4, o5, o6, o7⟩
  · simp -implicitDefEqProofs only [↓Zd, (Zp), if_true, if_false, ne_eq, implies_true, forall_const, Nat.reduceEqDiff, reduceIte, reduceCtorEq, Int.reduceEq, Int.reduceNeg, Int.reduceLE, Int.reduceLT, Nat.reduceAdd, Nat.reduceLeDiff, Int.reduceToNat, Nat.reduceMul, Nat.reduceBEq, okPart, Value.cells, cut, okCell, cld2, underlying3, underlying4, underlying9, underlying5, underlying26, underlying0, be4, bn4]
    exact h
  · simp -implicitDefEqProofs only [↓Zd, (Zp), if_true, if_false, ne_eq, implies_true, forall_const, Nat.reduceEqDiff, reduceIte, reduceCtorEq, Int.reduceEq, Int.reduceNeg, Int.reduceLE, Int.reduceLT, Nat.reduceAdd, Nat.reduceLeDiff, Int.reduceToNat, Nat.reduceMul, Nat.reduceBEq, okPart, Value.cells, cut, okCell, cld2, underlying3, underlying4, underlying9, underlying5, underlying26, underlying0, be4, bn4]
    exact h
  · simp -implicitDefEqProofs only [↓Zd, (Zp), if_true, if_false, ne_eq, implies_true, forall_const, Nat.reduceEqDiff, reduceIte, reduceCtorEq, Int.reduceEq, Int.reduceNeg, Int.reduceLE, Int.reduceLT, Nat.reduceAdd, Nat.reduceLeDiff, Int.reduceToNat, Nat.reduceMul, Nat.reduceBEq, okPart, Value.cells, cut, okCell, cld2, underlying3, underlying4, underlying9, underlying5, underlying26, underlying0, be4, bn4]
    exact h
  · simp -implicitDefEqProofs only [↓Zd, (Zp), if_true, if_false, ne_eq, implies_true, forall_const, Nat.reduceEqDiff, reduceIte, reduceCtorEq, Int.reduceEq, Int.reduceNeg, Int.reduceLE, Int.reduceLT, Nat.reduceAdd, Nat.reduceLeDiff, Int.reduceToNat, Nat.reduceMul, Nat.reduceBEq, okPart, Value.cells, cut, okCell, cld2, underlying3, underlying4, underlying9, underlying5, underlying26, underlying0, be4, bn4]
    exact h
  · simp -implicitDefEqProofs only [↓Zd, (Zp), if_true, if_false, ne_eq, implies_true, forall_const, Nat.reduceEqDiff, reduceIte, reduceCtorEq, Int.reduceEq, Int.reduceNeg, Int.reduceLE, Int.reduceLT, Nat.reduceAdd, Nat.reduceLeDiff, Int.reduceToNat, Nat.reduceMul, Nat.reduceBEq, okPart, Value.cells, cut, okCell, cld2, underlying3, underlying4, underlying9, underlying5, underlying26, underlying0, be4, bn4]
    exact h
  · simp -implicitDefEqProofs only [↓Zd, (Zp), if_true, if_false, ne_eq, implies_true, forall_const, Nat.reduceEqDiff, reduceIte, reduceCtorEq, Int.reduceEq, Int.reduceNeg, Int.reduceLE, Int.reduceLT, Nat.reduceAdd, Nat.reduceLeDiff, Int.reduceToNat, Nat.reduceMul, Nat.reduceBEq, okPart, Value.cells, cut, okCell, cld2, underlying3, underlying4, underlying9, underlying5, underlying26, underlying0, be4, bn4]
    exact h
  · simp -implicitDefEqProofs only [↓Zd, (Zp), if_true, if_false, ne_eq, implies_true, forall_const, Nat.reduceEqDiff, reduceIte, reduceCtorEq, Int.reduceEq, Int.reduceNeg, Int.reduceLE, Int.reduceLT, Nat.reduceAdd, Nat.reduceLeDiff, Int.reduceToNat, Nat.reduceMul, Nat.reduceBEq, okPart, Value.cells, cut, okCell, cld2, underlying3, underlying4, underlying9, underlying5, underlying26, underlying0, be4, bn4]
    exact h
  · simp only [o1, o2, o3, o4, o5, o6, o7, if_false] at h
    simp -implicitDefEqProofs only [↓Zd, (Zp), if_true, if_false, ne_eq, implies_true, forall_const, Nat.reduceEqDiff, reduceIte, reduceCtorEq, Int.reduceEq, Int.reduceNeg, Int.reduceLE, Int.reduceLT, Nat.reduceAdd, Nat.reduceLeDiff, Int.reduceToNat, Nat.reduceMul, Nat.reduceBEq, okPart, Value.cells, cut, okCell, cld2, underlying3, underlying4, underlying9, underlying5, underlying26, underlying0, be4, bn4, o1, o2, o3, o4, o5, o6, o7]
    exact h

theorem rswap_spec {op : Int} (h : R (.int .i64 (swapN op)) s) : CCalls Try.prog w0 23 #[.int .i64 op] s R := by
  refine wfun2 hmix ok23 (l := [.int .i64 op]) func23 rfl ntmps23 results23 (by simp) ?_
  unfold swapN at h
  rcases (show op = 6 ∨ op = 7 ∨ op = 8 ∨ op = 9 ∨ op = 10 ∨ op = 11 ∨ op = 3 ∨ (¬ op = 6 ∧ ¬ op = 7 ∧ ¬ op = 8 ∧ ¬ op = 9 ∧ ¬ op = 10 ∧ ¬ op = 11 ∧ ¬ op = 3) by omega) with rfl | rfl | rfl | rfl | rfl | rfl | rfl | ⟨o1, o2, o3, o4, o5, o6, o7⟩
  · simp -implicitDefEqProofs only [↓Zd, (Zp), if_true, if_false, ne_eq, implies_true, forall_const, Nat.reduceEqDiff, reduceIte, reduceCtorEq, Int.reduceEq, Int.reduceNeg, Int.reduceLE, Int.reduceLT, Nat.reduceAdd, Nat.reduceLeDiff, Int.reduceToNat, Nat.reduceMul, Nat.reduceBEq, okPart, Value.cells, cut, okCell, cld2, underlying3, underlying4, underlying9, underlying5, underlying26, underlying0, be4, bn4]
    exact h
  · simp -implicitDefEqProofs only [↓Zd, (Zp), if_true, if_false, ne_eq, implies_true, forall_const, Nat.reduceEqDiff, reduceIte, reduceCtorEq, Int.reduceEq, Int.reduceNeg, Int.reduceLE, Int.reduceLT, Nat.reduceAdd, Nat.reduceLeDiff, Int.reduceToNat, Nat.reduceMul, Nat.reduceBEq, okPart, Value.cells, cut, okCell, cld2, underlying3, underlying4, underlying9, underlying5, underlying26, underlying0, be4, bn4]
    exact h
  · simp -implicitDefEqProofs only [↓Zd, (Zp), if_true, if_false, ne_eq, implies_true, forall_const, Nat.reduceEqDiff, reduceIte, reduceCtorEq, Int.reduceEq, Int.reduceNeg, Int.reduceLE, Int.reduceLT, Nat.reduceAdd, Nat.reduceLeDiff, Int.reduceToNat, Nat.reduceMul, Nat.reduceBEq, okPart, Value.cells, cut, okCell, cld2, underlying3, underlying4, underlying9, underlying5, underlying26, underlying0, be4, bn4]
    exact h
  · simp -implicitDefEqProofs only [↓Zd, (Zp), if_true, if_false, ne_eq, implies_true, forall_const, Nat.reduceEqDiff, reduceIte, reduceCtorEq, Int.reduceEq, Int.reduceNeg, Int.reduceLE, Int.reduceLT, Nat.reduceAdd, Nat.reduceLeDiff, Int.reduceToNat, Nat.reduceMul, Nat.reduceBEq, okPart, Value.cells, cut, okCell, cld2, underlying3, underlying4, underlying9, underlying5, underlying26, underlying0, be4, bn4]
    exact h
  · simp -implicitDefEqProofs only [↓Zd, (Zp), if_true, if_false, ne_eq, implies_true, forall_const, Nat.reduceEqDiff, reduceIte, reduceCtorEq, Int.reduceEq, Int.reduceNeg, Int.reduceLE, Int.reduceLT, Nat.reduceAdd, Nat.reduceLeDiff, Int.reduceToNat, Nat.reduceMul, Nat.reduceBEq, okPart, Value.cells, cut, okCell, cld2, underlying3, underlying4, underlying9, underlying5, underlying26, underlying0, be4, bn4]
    exact h
  · simp -implicitDefEqProofs only [↓Zd, (Zp), if_true, if_false, ne_eq, implies_true, forall_const, Nat.reduceEqDiff, reduceIte, reduceCtorEq, Int.reduceEq, Int.reduceNeg, Int.reduceLE, Int.reduceLT, Nat.reduceAdd, Nat.reduceLeDiff, Int.reduceToNat, Nat.reduceMul, Nat.reduceBEq, okPart, Value.cells, cut, okCell, cld2, underlying3, underlying4, underlying9, underlying5, underlying26, underlying0, be4, bn4]
    exact h
  · simp -implicitDefEqProofs only [↓Zd, (Zp), if_true, if_false, ne_eq, implies_true, forall_const, Nat.reduceEqDiff, reduceIte, reduceCtorEq, Int.reduceEq, Int.reduceNeg, Int.reduceLE, Int.reduceLT, Nat.reduceAdd, Nat.reduceLeDiff, Int.reduceToNat, Nat.reduceMul, Nat.reduceBEq, okPart, Value.cells, cut, okCell, cld2, underlying3, underlying4, underlying9, underlying5, underlying26, underlying0, be4, bn4]
    exact h
  · simp only [o1, o2, o3, o4, o5, o6, o7, if_false] at h
    simp -implicitDefEqProofs only [↓Zd, (Zp), if_true, if_false, ne_eq, implies_true, forall_const, Nat.reduceEqDiff, reduceIte, reduceCtorEq, Int.reduceEq, Int.reduceNeg, Int.reduceLE, Int.reduceLT, Nat.reduceAdd, Nat.reduceLeDiff, Int.reduceToNat, Nat.reduceMul, Nat.reduceBEq, okPart, Value.cells, cut, okCell, cld2, underlying3, underlying4, underlying9, underlying5, underlying26, underlying0, be4, bn4, o1, o2, o3, o4, o5, o6, o7]
    exact h

set_option maxHeartbeats 8000000 in
theorem pure_spec {op a b : Int} (h : R (.bool (pureB op a b)) s) : CCalls Try.prog w0 24 #[.int .i64 op, .int .i64 a, .int .i64 b] s R := by
  refine wfun2 hmix ok24 (l := [.int .i64 op, .int .i64 a, .int .i64 b]) func24 rfl ntmps24 results24 (by simp) ?_
  rcases (show op = 10 ∨ op = 11 ∨ op < 1 ∨ 11 < op ∨ (1 ≤ op ∧ op ≤ 3) ∨ op = 4 ∨ op = 5 ∨ (6 ≤ op ∧ op ≤ 9) by omega) with rfl | rfl | o | o | ⟨o1, o2⟩ | rfl | rfl | ⟨o1, o2⟩
  · simp -implicitDefEqProofs only [↓Zd, (Zp), if_true, if_false, ne_eq, implies_true, forall_const, Nat.reduceEqDiff, reduceIte, reduceCtorEq, Int.reduceEq, Int.reduceNeg, Int.reduceLE, Int.reduceLT, Nat.reduceAdd, Nat.reduceLeDiff, Int.reduceToNat, Nat.reduceMul, Nat.reduceBEq, okPart, Value.cells, cut, okCell, cld2, underlying3, underlying4, underlying9, underlying5, underlying26, underlying0, be4, bn4]
    exact castB h (by simp [pureB])
  · simp -implicitDefEqProofs only [↓Zd, (Zp), if_true, if_false, ne_eq, implies_true, forall_const, Nat.reduceEqDiff, reduceIte, reduceCtorEq, Int.reduceEq, Int.reduceNeg, Int.reduceLE, Int.reduceLT, Nat.reduceAdd, Nat.reduceLeDiff, Int.reduceToNat, Nat.reduceMul, Nat.reduceBEq, okPart, Value.cells, cut, okCell, cld2, underlying3, underlying4, underlying9, underlying5, underlying26, underlying0, be4, bn4]
    exact castB h (by simp [pureB])
  · have p1 : ¬ op = 10 := by omega
    have p2 : ¬ op = 11 := by omega
    have p3 : ¬ 6 ≤ op := by omega
    have p4 : ¬ 1 ≤ op := by omega
    by_cases a2 : a = 2
    · subst a2
      by_cases b2 : b = 2
      · subst b2
        simp -implicitDefEqProofs only [↓Zd, (Zp), if_true, if_false, ne_eq, implies_true, forall_const, Nat.reduceEqDiff, reduceIte, reduceCtorEq, Int.reduceEq, Int.reduceNeg, Int.reduceLE, Int.reduceLT, Nat.reduceAdd, Nat.reduceLeDiff, Int.reduceToNat, Nat.reduceMul, Nat.reduceBEq, okPart, Value.cells, cut, okCell, cld2, underlying3, underlying4, underlying9, underlying5, underlying26, underlying0, be4, bn4, p1, p2, p3, p4, o]
        exact castB h (by simp [pureB, p1, p2, p3, p4, o])
      · have b2' : ¬ 2 = b := fun e => b2 e.symm
        simp -implicitDefEqProofs only [↓Zd, (Zp), if_true, if_false, ne_eq, implies_true, forall_const, Nat.reduceEqDiff, reduceIte, reduceCtorEq, Int.reduceEq, Int.reduceNeg, Int.reduceLE, Int.reduceLT, Nat.reduceAdd, Nat.reduceLeDiff, Int.reduceToNat, Nat.reduceMul, Nat.reduceBEq, okPart, Value.cells, cut, okCell, cld2, underlying3, underlying4, underlying9, underlying5, underlying26, underlying0, be4, bn4, p1, p2, p3, p4, o, b2, b2']
        exact castB h (by simp [pureB, p1, p2, p3, p4, o, b2])
    · by_cases a3 : a = 3
      · subst a3
        by_cases b3 : b = 3
        · subst b3
          simp -implicitDefEqProofs only [↓Zd, (Zp), if_true, if_false, ne_eq, implies_true, forall_const, Nat.reduceEqDiff, reduceIte, reduceCtorEq, Int.reduceEq, Int.reduceNeg, Int.reduceLE, Int.reduceLT, Nat.reduceAdd, Nat.reduceLeDiff, Int.reduceToNat, Nat.reduceMul, Nat.reduceBEq, okPart, Value.cells, cut, okCell, cld2, underlying3, underlying4, underlying9, underlying5, underlying26, underlying0, be4, bn4, p1, p2, p3, p4, o]
          exact castB h (by simp [pureB, p1, p2, p3, p4, o])
        · have b3' : ¬ 3 = b := fun e => b3 e.symm
          simp -implicitDefEqProofs only [↓Zd, (Zp), if_true, if_false, ne_eq, implies_true, forall_const, Nat.reduceEqDiff, reduceIte, reduceCtorEq, Int.reduceEq, Int.reduceNeg, Int.reduceLE, Int.reduceLT, Nat.reduceAdd, Nat.reduceLeDiff, Int.reduceToNat, Nat.reduceMul, Nat.reduceBEq, okPart, Value.cells, cut, okCell, cld2, underlying3, underlying4, underlying9, underlying5, underlying26, underlying0, be4, bn4, p1, p2, p3, p4, o, b3, b3']
          exact castB h (by simp [pureB, p1, p2, p3, p4, o, b3])
      · by_cases ab : a = b
        · have c2 : ¬ b = 2 := ab ▸ a2
          have c3 : ¬ b = 3 := ab ▸ a3
          simp -implicitDefEqProofs only [↓Zd, (Zp), if_true, if_false, ne_eq, implies_true, forall_const, Nat.reduceEqDiff, reduceIte, reduceCtorEq, Int.reduceEq, Int.reduceNeg, Int.reduceLE, Int.reduceLT, Nat.reduceAdd, Nat.reduceLeDiff, Int.reduceToNat, Nat.reduceMul, Nat.reduceBEq, okPart, Value.cells, cut, okCell, cld2, underlying3, underlying4, underlying9, underlying5, underlying26, underlying0, be4, bn4, p1, p2, p3, p4, o, ab, c2, c3]
          exact castB h (by simp [pureB, p1, p2, p3, p4, o, a2, a3])
        · simp -implicitDefEqProofs only [↓Zd, (Zp), if_true, if_false, ne_eq, implies_true, forall_const, Nat.reduceEqDiff, reduceIte, reduceCtorEq, Int.reduceEq, Int.reduceNeg, Int.reduceLE, Int.reduceLT, Nat.reduceAdd, Nat.reduceLeDiff, Int.reduceToNat, Nat.reduceMul, Nat.reduceBEq, okPart, Value.cells, cut, okCell, cld2, underlying3, underlying4, underlying9, underlying5, underlying26, underlying0, be4, bn4, p1, p2, p3, p4, o, a2, a3, ab]
          exact castB h (by simp [pureB, p1, p2, p3, p4, o, a2, a3])
  · have p1 : ¬ op = 10 := by omega
    have p2 : ¬ op = 11 := by omega
    have p3 : 6 ≤ op := by omega
    have p4 : ¬ op ≤ 9 := by omega
    have p5 : 1 ≤ op := by omega
    have p6 : ¬ op ≤ 3 := by omega
    have p7 : ¬ op < 1 := by omega
    have p8 : 9 < op := by omega
    by_cases a2 : a = 2
    · subst a2
      by_cases b2 : b = 2
      · subst b2
        simp -implicitDefEqProofs only [↓Zd, (Zp), if_true, if_false, ne_eq, implies_true, forall_const, Nat.reduceEqDiff, reduceIte, reduceCtorEq, Int.reduceEq, Int.reduceNeg, Int.reduceLE, Int.reduceLT, Nat.reduceAdd, Nat.reduceLeDiff, Int.reduceToNat, Nat.reduceMul, Nat.reduceBEq, okPart, Value.cells, cut, okCell, cld2, underlying3, underlying4, underlying9, underlying5, underlying26, underlying0, be4, bn4, p1, p2, p3, p4, p5, p6, p7, p8]
        exact castB h (by simp [pureB, p1, p2, p3, p4, p5, p6, p7, p8])
      · have b2' : ¬ 2 = b := fun e => b2 e.symm
        simp -implicitDefEqProofs only [↓Zd, (Zp), if_true, if_false, ne_eq, implies_true, forall_const, Nat.reduceEqDiff, reduceIte, reduceCtorEq, Int.reduceEq, Int.reduceNeg, Int.reduceLE, Int.reduceLT, Nat.reduceAdd, Nat.reduceLeDiff, Int.reduceToNat, Nat.reduceMul, Nat.reduceBEq, okPart, Value.cells, cut, okCell, cld2, underlying3, underlying4, underlying9, underlying5, underlying26, underlying0, be4, bn4, p1, p2, p3, p4, p5, p6, p7, p8, b2, b2']
        exact castB h (by simp [pureB, p1, p2, p3, p4, p5, p6, p7, p8, b2])
    · by_cases a3 : a = 3
      · subst a3
        by_cases b3 : b = 3
        · subst b3
          simp -implicitDefEqProofs only [↓Zd, (Zp), if_true, if_false, ne_eq, implies_true, forall_const, Nat.reduceEqDiff, reduceIte, reduceCtorEq, Int.reduceEq, Int.reduceNeg, Int.reduceLE, Int.reduceLT, Nat.reduceAdd, Nat.reduceLeDiff, Int.reduceToNat, Nat.reduceMul, Nat.reduceBEq, okPart, Value.cells, cut, okCell, cld2, underlying3, underlying4, underlying9, underlying5, underlying26, underlying0, be4, bn4, p1, p2, p3, p4, p5, p6, p7, p8]
          exact castB h (by simp [pureB, p1, p2, p3, p4, p5, p6, p7, p8])
        · have b3' : ¬ 3 = b := fun e => b3 e.symm
          simp -implicitDefEqProofs only [↓Zd, (Zp), if_true, if_false, ne_eq, implies_true, forall_const, Nat.reduceEqDiff, reduceIte, reduceCtorEq, Int.reduceEq, Int.reduceNeg, Int.reduceLE, Int.reduceLT, Nat.reduceAdd, Nat.reduceLeDiff, Int.reduceToNat, Nat.reduceMul, Nat.reduceBEq, okPart, Value.cells, cut, okCell, cld2, underlying3, underlying4, underlying9, underlying5, underlying26, underlying0, be4, bn4, p1, p2, p3, p4, p5, p6, p7, p8, b3, b3']
          exact castB h (by simp [pureB, p1, p2, p3, p4, p5, p6, p7, p8, b3])
      · by_cases ab : a = b
        · have c2 : ¬ b = 2 := ab ▸ a2
          have c3 : ¬ b = 3 := ab ▸ a3
          simp -implicitDefEqProofs only [↓Zd, (Zp), if_true, if_false, ne_eq, implies_true, forall_const, Nat.reduceEqDiff, reduceIte, reduceCtorEq, Int.reduceEq, Int.reduceNeg, Int.reduceLE, Int.reduceLT, Nat.reduceAdd, Nat.reduceLeDiff, Int.reduceToNat, Nat.reduceMul, Nat.reduceBEq, okPart, Value.cells, cut, okCell, cld2, underlying3, underlying4, underlying9, underlying5, underlying26, underlying0, be4, bn4, p1, p2, p3, p4, p5, p6, p7, p8, ab, c2, c3]
          exact castB h (by simp [pureB, p1, p2, p3, p4, p5, p6, p7, p8, a2, a3])
        · simp -implicitDefEqProofs only [↓Zd, (Zp), if_true, if_false, ne_eq, implies_true, forall_const, Nat.reduceEqDiff, reduceIte, reduceCtorEq, Int.reduceEq, Int.reduceNeg, Int.reduceLE, Int.reduceLT, Nat.reduceAdd, Nat.reduceLeDiff, Int.reduceToNat, Nat.reduceMul, Nat.reduceBEq, okPart, Value.cells, cut, okCell, cld2, underlying3, underlying4, underlying9, underlying5, underlying26, underlying0, be4, bn4, p1, p2, p3, p4, p5, p6, p7, p8, a2, a3, ab]
          exact castB h (by simp [pureB, p1, p2, p3, p4, p5, p6, p7, p8, a2, a3])
  · have p1 : ¬ op = 10 := by omega
    have p2 : ¬ op = 11 := by omega
    have p3 : ¬ 6 ≤ op := by omega
    have p5 : ¬ op < 1 := by omega
    have p6 : ¬ 9 < op := by omega
    have p7 : ¬ op = 4 := by omega
    have p8 : ¬ op = 5 := by omega
    have p9 : ¬ 5 < op := by omega
    by_cases a2 : a = 2
    · subst a2
      by_cases b2 : b = 2
      · subst b2
        simp -implicitDefEqProofs only [↓Zd, (Zp), if_true, if_false, ne_eq, implies_true, forall_const, Nat.reduceEqDiff, reduceIte, reduceCtorEq, Int.reduceEq, Int.reduceNeg, Int.reduceLE, Int.reduceLT, Nat.reduceAdd, Nat.reduceLeDiff, Int.reduceToNat, Nat.reduceMul, Nat.reduceBEq, okPart, Value.cells, cut, okCell, cld2, underlying3, underlying4, underlying9, underlying5, underlying26, underlying0, be4, bn4, p1, p2, p3, o1, o2, p5, p6, p7, p8, p9]
        exact castB h (by simp [pureB, p1, p2, p3, o1, o2, p5, p6, p7, p8, p9])
      · have b2' : ¬ 2 = b := fun e => b2 e.symm
        simp -implicitDefEqProofs only [↓Zd, (Zp), if_true, if_false, ne_eq, implies_true, forall_const, Nat.reduceEqDiff, reduceIte, reduceCtorEq, Int.reduceEq, Int.reduceNeg, Int.reduceLE, Int.reduceLT, Nat.reduceAdd, Nat.reduceLeDiff, Int.reduceToNat, Nat.reduceMul, Nat.reduceBEq, okPart, Value.cells, cut, okCell, cld2, underlying3, underlying4, underlying9, underlying5, underlying26, underlying0, be4, bn4, p1, p2, p3, o1, o2, p5, p6, p7, p8, p9, b2, b2']
        exact castB h (by simp [pureB, p1, p2, p3, o1, o2, p5, p6, p7, p8, p9, b2])
    · by_cases a3 : a = 3
      · subst a3
        by_cases b3 : b = 3
        · subst b3
          simp -implicitDefEqProofs only [↓Zd, (Zp), if_true, if_false, ne_eq, implies_true, forall_const, Nat.reduceEqDiff, reduceIte, reduceCtorEq, Int.reduceEq, Int.reduceNeg, Int.reduceLE, Int.reduceLT, Nat.reduceAdd, Nat.reduceLeDiff, Int.reduceToNat, Nat.reduceMul, Nat.reduceBEq, okPart, Value.cells, cut, okCell, cld2, underlying3, underlying4, underlying9, underlying5, underlying26, underlying0, be4, bn4, p1, p2, p3, o1, o2, p5, p6, p7, p8, p9]
          exact castB h (by simp [pureB, p1, p2, p3, o1, o2, p5, p6, p7, p8, p9])
        · have b3' : ¬ 3 = b := fun e => b3 e.symm
          simp -implicitDefEqProofs only [↓Zd, (Zp), if_true, if_false, ne_eq, implies_true, forall_const, Nat.reduceEqDiff, reduceIte, reduceCtorEq, Int.reduceEq, Int.reduceNeg, Int.reduceLE, Int.reduceLT, Nat.reduceAdd, Nat.reduceLeDiff, Int.reduceToNat, Nat.reduceMul, Nat.reduceBEq, okPart, Value.cells, cut, okCell, cld2, underlying3, underlying4, underlying9, underlying5, underlying26, underlying0, be4, bn4, p1, p2, p3, o1, o2, p5, p6, p7, p8, p9, b3, b3']
          exact castB h (by simp [pureB, p1, p2, p3, o1, o2, p5, p6, p7, p8, p9, b3])
      · by_cases ab : a = b
        · have c2 : ¬ b = 2 := ab ▸ a2
          have c3 : ¬ b = 3 := ab ▸ a3
          simp -implicitDefEqProofs only [↓Zd, (Zp), if_true, if_false, ne_eq, implies_true, forall_const, Nat.reduceEqDiff, reduceIte, reduceCtorEq, Int.reduceEq, Int.reduceNeg, Int.reduceLE, Int.reduceLT, Nat.reduceAdd, Nat.reduceLeDiff, Int.reduceToNat, Nat.reduceMul, Nat.reduceBEq, okPart, Value.cells, cut, okCell, cld2, underlying3, underlying4, underlying9, underlying5, underlying26, underlying0, be4, bn4, p1, p2, p3, o1, o2, p5, p6, p7, p8, p9, ab, c2, c3]
          exact castB h (by simp [pureB, p1, p2, p3, o1, o2, p5, p6, p7, p8, p9, a2, a3])
        · simp -implicitDefEqProofs only [↓Zd, (Zp), if_true, if_false, ne_eq, implies_true, forall_const, Nat.reduceEqDiff, reduceIte, reduceCtorEq, Int.reduceEq, Int.reduceNeg, Int.reduceLE, Int.reduceLT, Nat.reduceAdd, Nat.reduceLeDiff, Int.reduceToNat, Nat.reduceMul, Nat.reduceBEq, okPart, Value.cells, cut, okCell, cld2, underlying3, underlying4, underlying9, underlying5, underlying26, underlying0, be4, bn4, p1, p2, p3, o1, o2, p5, p6, p7, p8, p9, a2, a3, ab]
          exact castB h (by simp [pureB, p1, p2, p3, o1, o2, p5, p6, p7, p8, p9, a2, a3])
  · skip
    by_cases a2 : a = 2
    · subst a2
      by_cases b2 : b = 2
      · subst b2
        simp -implicitDefEqProofs only [↓Zd, (Zp), if_true, if_false, ne_eq, implies_true, forall_const, Nat.reduceEqDiff, reduceIte, reduceCtorEq, Int.reduceEq, Int.reduceNeg, Int.reduceLE, Int.reduceLT, Nat.reduceAdd, Nat.reduceLeDiff, Int.reduceToNat, Nat.reduceMul, Nat.reduceBEq, okPart, Value.cells, cut, okCell, cld2, underlying3, underlying4, underlying9, underlying5, underlying26, underlying0, be4, bn4]
        exact castB h (by simp [pureB])
      · have b2' : ¬ 2 = b := fun e => b2 e.symm
        simp -implicitDefEqProofs only [↓Zd, (Zp), if_true, if_false, ne_eq, implies_true, forall_const, Nat.reduceEqDiff, reduceIte, reduceCtorEq, Int.reduceEq, Int.reduceNeg, Int.reduceLE, Int.reduceLT, Nat.reduceAdd, Nat.reduceLeDiff, Int.reduceToNat, Nat.reduceMul, Nat.reduceBEq, okPart, Value.cells, cut, okCell, cld2, underlying3, underlying4, underlying9, underlying5, underlying26, underlying0, be4, bn4, b2, b2']
        exact castB h (by simp [pureB, b2])
    · by_cases a3 : a = 3
      · subst a3
        by_cases b3 : b = 3
        · subst b3
          simp -implicitDefEqProofs only [↓Zd, (Zp), if_true, if_false, ne_eq, implies_true, forall_const, Nat.reduceEqDiff, reduceIte, reduceCtorEq, Int.reduceEq, Int.reduceNeg, Int.reduceLE, Int.reduceLT, Nat.reduceAdd, Nat.reduceLeDiff, Int.reduceToNat, Nat.reduceMul, Nat.reduceBEq, okPart, Value.cells, cut, okCell, cld2, underlying3, underlying4, underlying9, underlying5, underlying26, underlying0, be4, bn4]
          exact castB h (by simp [pureB])
        · have b3' : ¬ 3 = b := fun e => b3 e.symm
          simp -implicitDefEqProofs only [↓Zd, (Zp), if_true, if_false, ne_eq, implies_true, forall_const, Nat.reduceEqDiff, reduceIte, reduceCtorEq, Int.reduceEq, Int.reduceNeg, Int.reduceLE, Int.reduceLT, Nat.reduceAdd, Nat.reduceLeDiff, Int.reduceToNat, Nat.reduceMul, Nat.reduceBEq, okPart, Value.cells, cut, okCell, cld2, underlying3, underlying4, underlying9, underlying5, underlying26, underlying0, be4, bn4, b3, b3']
          exact castB h (by simp [pureB, b3])
      · by_cases ab : a = b
        · have c2 : ¬ b = 2 := ab ▸ a2
          have c3 : ¬ b = 3 := ab ▸ a3
          simp -implicitDefEqProofs only [↓Zd, (Zp), if_true, if_false, ne_eq, implies_true, forall_const, Nat.reduceEqDiff, reduceIte, reduceCtorEq, Int.reduceEq, Int.reduceNeg, Int.reduceLE, Int.reduceLT, Nat.reduceAdd, Nat.reduceLeDiff, Int.reduceToNat, Nat.reduceMul, Nat.reduceBEq, okPart, Value.cells, cut, okCell, cld2, underlying3, underlying4, underlying9, underlying5, underlying26, underlying0, be4, bn4, ab, c2, c3]
          exact castB h (by simp [pureB, a2, a3])
        · simp -implicitDefEqProofs only [↓Zd, (Zp), if_true, if_false, ne_eq, implies_true, forall_const, Nat.reduceEqDiff, reduceIte, reduceCtorEq, Int.reduceEq, Int.reduceNeg, Int.reduceLE, Int.reduceLT, Nat.reduceAdd, Nat.reduceLeDiff, Int.reduceToNat, Nat.reduceMul, Nat.reduceBEq, okPart, Value.cells, cut, okCell, cld2, underlying3, underlying4, underlying9, underlying5, underlying26, underlying0, be4, bn4, a2, a3, ab]
          exact castB h (by simp [pureB, a2, a3])
  · skip
    by_cases a2 : a = 2
    · subst a2
      by_cases b2 : b = 2
      · subst b2
        simp -implicitDefEqProofs only [↓Zd, (Zp), if_true, if_false, ne_eq, implies_true, forall_const, Nat.reduceEqDiff, reduceIte, reduceCtorEq, Int.reduceEq, Int.reduceNeg, Int.reduceLE, Int.reduceLT, Nat.reduceAdd, Nat.reduceLeDiff, Int.reduceToNat, Nat.reduceMul, Nat.reduceBEq, okPart, Value.cells, cut, okCell, cld2, underlying3, underlying4, underlying9, underlying5, underlying26, underlying0, be4, bn4]
        exact castB h (by simp [pureB])
      · have b2' : ¬ 2 = b := fun e => b2 e.symm
        simp -implicitDefEqProofs only [↓Zd, (Zp), if_true, if_false, ne_eq, implies_true, forall_const, Nat.reduceEqDiff, reduceIte, reduceCtorEq, Int.reduceEq, Int.reduceNeg, Int.reduceLE, Int.reduceLT, Nat.reduceAdd, Nat.reduceLeDiff, Int.reduceToNat, Nat.reduceMul, Nat.reduceBEq, okPart, Value.cells, cut, okCell, cld2, underlying3, underlying4, underlying9, underlying5, underlying26, underlying0, be4, bn4, b2, b2']
        exact castB h (by simp [pureB, b2])
    · by_cases a3 : a = 3
      · subst a3
        by_cases b3 : b = 3
        · subst b3
          simp -implicitDefEqProofs only [↓Zd, (Zp), if_true, if_false, ne_eq, implies_true, forall_const, Nat.reduceEqDiff, reduceIte, reduceCtorEq, Int.reduceEq, Int.reduceNeg, Int.reduceLE, Int.reduceLT, Nat.reduceAdd, Nat.reduceLeDiff, Int.reduceToNat, Nat.reduceMul, Nat.reduceBEq, okPart, Value.cells, cut, okCell, cld2, underlying3, underlying4, underlying9, underlying5, underlying26, underlying0, be4, bn4]
          exact castB h (by simp [pureB])
        · have b3' : ¬ 3 = b := fun e => b3 e.symm
          simp -implicitDefEqProofs only [↓Zd, (Zp), if_true, if_false, ne_eq, implies_true, forall_const, Nat.reduceEqDiff, reduceIte, reduceCtorEq, Int.reduceEq, Int.reduceNeg, Int.reduceLE, Int.reduceLT, Nat.reduceAdd, Nat.reduceLeDiff, Int.reduceToNat, Nat.reduceMul, Nat.reduceBEq, okPart, Value.cells, cut, okCell, cld2, underlying3, underlying4, underlying9, underlying5, underlying26, underlying0, be4, bn4, b3, b3']
          exact castB h (by simp [pureB, b3])
      · by_cases ab : a = b
        · have c2 : ¬ b = 2 := ab ▸ a2
          have c3 : ¬ b = 3 := ab ▸ a3
          simp -implicitDefEqProofs only [↓Zd, (Zp), if_true, if_false, ne_eq, implies_true, forall_const, Nat.reduceEqDiff, reduceIte, reduceCtorEq, Int.reduceEq, Int.reduceNeg, Int.reduceLE, Int.reduceLT, Nat.reduceAdd, Nat.reduceLeDiff, Int.reduceToNat, Nat.reduceMul, Nat.reduceBEq, okPart, Value.cells, cut, okCell, cld2, underlying3, underlying4, underlying9, underlying5, underlying26, underlying0, be4, bn4, ab, c2, c3]
          exact castB h (by simp [pureB, a2, a3])
        · simp -implicitDefEqProofs only [↓Zd, (Zp), if_true, if_false, ne_eq, implies_true, forall_const, Nat.reduceEqDiff, reduceIte, reduceCtorEq, Int.reduceEq, Int.reduceNeg, Int.reduceLE, Int.reduceLT, Nat.reduceAdd, Nat.reduceLeDiff, Int.reduceToNat, Nat.reduceMul, Nat.reduceBEq, okPart, Value.cells, cut, okCell, cld2, underlying3, underlying4, underlying9, underlying5, underlying26, underlying0, be4, bn4, a2, a3, ab]
          exact castB h (by simp [pureB, a2, a3])
  · have p1 : ¬ op = 10 := by omega
    have p2 : ¬ op = 11 := by omega
    have p3 : 1 ≤ op := by omega
    have p4 : ¬ op ≤ 3 := by omega
    have p5 : ¬ op < 1 := by omega
    have p6 : ¬ 9 < op := by omega
    have p7 : ¬ op = 4 := by omega
    have p8 : ¬ op = 5 := by omega
    have p9 : 5 < op := by omega
    by_cases a2 : a = 2
    · subst a2
      by_cases b2 : b = 2
      · subst b2
        simp -implicitDefEqProofs only [↓Zd, (Zp), if_true, if_false, ne_eq, implies_true, forall_const, Nat.reduceEqDiff, reduceIte, reduceCtorEq, Int.reduceEq, Int.reduceNeg, Int.reduceLE, Int.reduceLT, Nat.reduceAdd, Nat.reduceLeDiff, Int.reduceToNat, Nat.reduceMul, Nat.reduceBEq, okPart, Value.cells, cut, okCell, cld2, underlying3, underlying4, underlying9, underlying5, underlying26, underlying0, be4, bn4, p1, p2, o1, o2, p3, p4, p5, p6, p7, p8, p9]
        exact castB h (by simp [pureB, p1, p2, o1, o2, p3, p4, p5, p6, p7, p8, p9])
      · have b2' : ¬ 2 = b := fun e => b2 e.symm
        simp -implicitDefEqProofs only [↓Zd, (Zp), if_true, if_false, ne_eq, implies_true, forall_const, Nat.reduceEqDiff, reduceIte, reduceCtorEq, Int.reduceEq, Int.reduceNeg, Int.reduceLE, Int.reduceLT, Nat.reduceAdd, Nat.reduceLeDiff, Int.reduceToNat, Nat.reduceMul, Nat.reduceBEq, okPart, Value.cells, cut, okCell, cld2, underlying3, underlying4, underlying9, underlying5, underlying26, underlying0, be4, bn4, p1, p2, o1, o2, p3, p4, p5, p6, p7, p8, p9, b2, b2']
        exact castB h (by simp [pureB, p1, p2, o1, o2, p3, p4, p5, p6, p7, p8, p9, b2])
    · by_cases a3 : a = 3
      · subst a3
        by_cases b3 : b = 3
        · subst b3
          simp -implicitDefEqProofs only [↓Zd, (Zp), if_true, if_false, ne_eq, implies_true, forall_const, Nat.reduceEqDiff, reduceIte, reduceCtorEq, Int.reduceEq, Int.reduceNeg, Int.reduceLE, Int.reduceLT, Nat.reduceAdd, Nat.reduceLeDiff, Int.reduceToNat, Nat.reduceMul, Nat.reduceBEq, okPart, Value.cells, cut, okCell, cld2, underlying3, underlying4, underlying9, underlying5, underlying26, underlying0, be4, bn4, p1, p2, o1, o2, p3, p4, p5, p6, p7, p8, p9]
          exact castB h (by simp [pureB, p1, p2, o1, o2, p3, p4, p5, p6, p7, p8, p9])
        · have b3' : ¬ 3 = b := fun e => b3 e.symm
          simp -implicitDefEqProofs only [↓Zd, (Zp), if_true, if_false, ne_eq, implies_true, forall_const, Nat.reduceEqDiff, reduceIte, reduceCtorEq, Int.reduceEq, Int.reduceNeg, Int.reduceLE, Int.reduceLT, Nat.reduceAdd, Nat.reduceLeDiff, Int.reduceToNat, Nat.reduceMul, Nat.reduceBEq, okPart, Value.cells, cut, okCell, cld2, underlying3, underlying4, underlying9, underlying5, underlying26, underlying0, be4, bn4, p1, p2, o1, o2, p3, p4, p5, p6, p7, p8, p9, b3, b3']
          exact castB h (by simp [pureB, p1, p2, o1, o2, p3, p4, p5, p6, p7, p8, p9, b3])
      · by_cases ab : a = b
        · have c2 : ¬ b = 2 := ab ▸ a2
          have c3 : ¬ b = 3 := ab ▸ a3
          simp -implicitDefEqProofs only [↓Zd, (Zp), if_true, if_false, ne_eq, implies_true, forall_const, Nat.reduceEqDiff, reduceIte, reduceCtorEq, Int.reduceEq, Int.reduceNeg, Int.reduceLE, Int.reduceLT, Nat.reduceAdd, Nat.reduceLeDiff, Int.reduceToNat, Nat.reduceMul, Nat.reduceBEq, okPart, Value.cells, cut, okCell, cld2, underlying3, underlying4, underlying9, underlying5, underlying26, underlying0, be4, bn4, p1, p2, o1, o2, p3, p4, p5, p6, p7, p8, p9, ab, c2, c3]
          exact castB h (by simp [pureB, p1, p2, o1, o2, p3, p4, p5, p6, p7, p8, p9, a2, a3])
        · simp -implicitDefEqProofs only [↓Zd, (Zp), if_true, if_false, ne_eq, implies_true, forall_const, Nat.reduceEqDiff, reduceIte, reduceCtorEq, Int.reduceEq, Int.reduceNeg, Int.reduceLE, Int.reduceLT, Nat.reduceAdd, Nat.reduceLeDiff, Int.reduceToNat, Nat.reduceMul, Nat.reduceBEq, okPart, Value.cells, cut, okCell, cld2, underlying3, underlying4, underlying9, underlying5, underlying26, underlying0, be4, bn4, p1, p2, o1, o2, p3, p4, p5, p6, p7, p8, p9, a2, a3, ab]
          exact castB h (by simp [pureB, p1, p2, o1, o2, p3, p4, p5, p6, p7, p8, p9, a2, a3])

set_option maxHeartbeats 8000000 in
theorem rpure_spec {op a b : Int} (h : R (.bool (pureB op a b)) s) : CCalls Try.prog w0 25 #[.int .i64 op, .int .i64 a, .int .i64 b] s R := by
  refine wfun2 hmix ok25 (l := [.int .i64 op, .int .i64 a, .int .i64 b]) func25 rfl ntmps25 results25 (by simp) ?_
  rcases (show op = 10 ∨ op = 11 ∨ op < 1 ∨ 11 < op ∨ (1 ≤ op ∧ op ≤ 3) ∨ op = 4 ∨ op = 5 ∨ (6 ≤ op ∧ op ≤ 9) by omega) with rfl | rfl | o | o | ⟨o1, o2⟩ | rfl | rfl | ⟨o1, o2⟩
  · simp -implicitDefEqProofs only [↓Zd, (Zp), if_true, if_false, ne_eq, implies_true, forall_const, Nat.reduceEqDiff, reduceIte, reduceCtorEq, Int.reduceEq, Int.reduceNeg, Int.reduceLE, Int.reduceLT, Nat.reduceAdd, Nat.reduceLeDiff, Int.reduceToNat, Nat.reduceMul, Nat.reduceBEq, okPart, Value.cells, cut, okCell, cld2, underlying3, underlying4, underlying9, underlying5, underlying26, underlying0, be4, bn4]
    exact castB h (by simp [pureB])
  · simp -implicitDefEqProofs only [↓Zd, (Zp), if_true, if_false, ne_eq, implies_true, forall_const, Nat.reduceEqDiff, reduceIte, reduceCtorEq, Int.reduceEq, Int.reduceNeg, Int.reduceLE, Int.reduceLT, Nat.reduceAdd, Nat.reduceLeDiff, Int.reduceToNat, Nat.reduceMul, Nat.reduceBEq, okPart, Value.cells, cut, okCell, cld2, underlying3, underlying4, underlying9, underlying5, underlying26, underlying0, be4, bn4]
    exact castB h (by simp [pureB])
  · have p1 : ¬ op = 10 := by omega
    have p2 : ¬ op = 11 := by omega
    have p3 : ¬ 6 ≤ op := by omega
    have p4 : ¬ 1 ≤ op := by omega
    by_cases a2 : a = 2
    · subst a2
      by_cases b2 : b = 2
      · subst b2
        simp -implicitDefEqProofs only [↓Zd, (Zp), if_true, if_false, ne_eq, implies_true, forall_const, Nat.reduceEqDiff, reduceIte, reduceCtorEq, Int.reduceEq, Int.reduceNeg, Int.reduceLE, Int.reduceLT, Nat.reduceAdd, Nat.reduceLeDiff, Int.reduceToNat, Nat.reduceMul, Nat.reduceBEq, okPart, Value.cells, cut, okCell, cld2, underlying3, underlying4, underlying9, underlying5, underlying26, underlying0, be4, bn4, p1, p2, p3, p4, o]
        exact castB h (by simp [pureB, p1, p2, p3, p4, o])
      · have b2' : ¬ 2 = b := fun e => b2 e.symm
        simp -implicitDefEqProofs only [↓Zd, (Zp), if_true, if_false, ne_eq, implies_true, forall_const, Nat.reduceEqDiff, reduceIte, reduceCtorEq, Int.reduceEq, Int.reduceNeg, Int.reduceLE, Int.reduceLT, Nat.reduceAdd, Nat.reduceLeDiff, Int.reduceToNat, Nat.reduceMul, Nat.reduceBEq, okPart, Value.cells, cut, okCell, cld2, underlying3, underlying4, underlying9, underlying5, underlying26, underlying0, be4, bn4, p1, p2, p3, p4, o, b2, b2']
        exact castB h (by simp [pureB, p1, p2, p3, p4, o, b2])
    · by_cases a3 : a = 3
      · subst a3
        by_cases b3 : b = 3
        · subst b3
          simp -implicitDefEqProofs only [↓Zd, (Zp), if_true, if_false, ne_eq, implies_true, forall_const, Nat.reduceEqDiff, reduceIte, reduceCtorEq, Int.reduceEq, Int.reduceNeg, Int.reduceLE, Int.reduceLT, Nat.reduceAdd, Nat.reduceLeDiff, Int.reduceToNat, Nat.reduceMul, Nat.reduceBEq, okPart, Value.cells, cut, okCell, cld2, underlying3, underlying4, underlying9, underlying5, underlying26, underlying0, be4, bn4, p1, p2, p3, p4, o]
          exact castB h (by simp [pureB, p1, p2, p3, p4, o])
        · have b3' : ¬ 3 = b := fun e => b3 e.symm
          simp -implicitDefEqProofs only [↓Zd, (Zp), if_true, if_false, ne_eq, implies_true, forall_const, Nat.reduceEqDiff, reduceIte, reduceCtorEq, Int.reduceEq, Int.reduceNeg, Int.reduceLE, Int.reduceLT, Nat.reduceAdd, Nat.reduceLeDiff, Int.reduceToNat, Nat.reduceMul, Nat.reduceBEq, okPart, Value.cells, cut, okCell, cld2, underlying3, underlying4, underlying9, underlying5, underlying26, underlying0, be4, bn4, p1, p2, p3, p4, o, b3, b3']
          exact castB h (by simp [pureB, p1, p2, p3, p4, o, b3])
      · by_cases ab : a = b
        · have c2 : ¬ b = 2 := ab ▸ a2
          have c3 : ¬ b = 3 := ab ▸ a3
          simp -implicitDefEqProofs only [↓Zd, (Zp), if_true, if_false, ne_eq, implies_true, forall_const, Nat.reduceEqDiff, reduceIte, reduceCtorEq, Int.reduceEq, Int.reduceNeg, Int.reduceLE, Int.reduceLT, Nat.reduceAdd, Nat.reduceLeDiff, Int.reduceToNat, Nat.reduceMul, Nat.reduceBEq, okPart, Value.cells, cut, okCell, cld2, underlying3, underlying4, underlying9, underlying5, underlying26, underlying0, be4, bn4, p1, p2, p3, p4, o, ab, c2, c3]
          exact castB h (by simp [pureB, p1, p2, p3, p4, o, a2, a3])
        · simp -implicitDefEqProofs only [↓Zd, (Zp), if_true, if_false, ne_eq, implies_true, forall_const, Nat.reduceEqDiff, reduceIte, reduceCtorEq, Int.reduceEq, Int.reduceNeg, Int.reduceLE, Int.reduceLT, Nat.reduceAdd, Nat.reduceLeDiff, Int.reduceToNat, Nat.reduceMul, Nat.reduceBEq, okPart, Value.cells, cut, okCell, cld2, underlying3, underlying4, underlying9, underlying5, underlying26, underlying0, be4, bn4, p1, p2, p3, p4, o, a2, a3, ab]
          exact castB h (by simp [pureB, p1, p2, p3, p4, o, a2, a3])
  · have p1 : ¬ op = 10 := by omega
    have p2 : ¬ op = 11 := by omega
    have p3 : 6 ≤ op := by omega
    have p4 : ¬ op ≤ 9 := by omega
    have p5 : 1 ≤ op := by omega
    have p6 : ¬ op ≤ 3 := by omega
    have p7 : ¬ op < 1 := by omega
    have p8 : 9 < op := by omega
    by_cases a2 : a = 2
    · subst a2
      by_cases b2 : b = 2
      · subst b2
        simp -implicitDefEqProofs only [↓Zd, (Zp), if_true, if_false, ne_eq, implies_true, forall_const, Nat.reduceEqDiff, reduceIte, reduceCtorEq, Int.reduceEq, Int.reduceNeg, Int.reduceLE, Int.reduceLT, Nat.reduceAdd, Nat.reduceLeDiff, Int.reduceToNat, Nat.reduceMul, Nat.reduceBEq, okPart, Value.cells, cut, okCell, cld2, underlying3, underlying4, underlying9, underlying5, underlying26, underlying0, be4, bn4, p1, p2, p3, p4, p5, p6, p7, p8]
        exact castB h (by simp [pureB, p1, p2, p3, p4, p5, p6, p7, p8])
      · have b2' : ¬ 2 = b := fun e => b2 e.symm
        simp -implicitDefEqProofs only [↓Zd, (Zp), if_true, if_false, ne_eq, implies_true, forall_const, Nat.reduceEqDiff, reduceIte, reduceCtorEq, Int.reduceEq, Int.reduceNeg, Int.reduceLE, Int.reduceLT, Nat.reduceAdd, Nat.reduceLeDiff, Int.reduceToNat, Nat.reduceMul, Nat.reduceBEq, okPart, Value.cells, cut, okCell, cld2, underlying3, underlying4, underlying9, underlying5, underlying26, underlying0, be4, bn4, p1, p2, p3, p4, p5, p6, p7, p8, b2, b2']
        exact castB h (by simp [pureB, p1, p2, p3, p4, p5, p6, p7, p8, b2])
    · by_cases a3 : a = 3
      · subst a3
        by_cases b3 : b = 3
        · subst b3
          simp -implicitDefEqProofs only [↓Zd, (Zp), if_true, if_false, ne_eq, implies_true, forall_const, Nat.reduceEqDiff, reduceIte, reduceCtorEq, Int.reduceEq, Int.reduceNeg, Int.reduceLE, Int.reduceLT, Nat.reduceAdd, Nat.reduceLeDiff, Int.reduceToNat, Nat.reduceMul, Nat.reduceBEq, okPart, Value.cells, cut, okCell, cld2, underlying3, underlying4, underlying9, underlying5, underlying26, underlying0, be4, bn4, p1, p2, p3, p4, p5, p6, p7, p8]
          exact castB h (by simp [pureB, p1, p2, p3, p4, p5, p6, p7, p8])
        · have b3' : ¬ 3 = b := fun e => b3 e.symm
          simp -implicitDefEqProofs only [↓Zd, (Zp), if_true, if_false, ne_eq, implies_true, forall_const, Nat.reduceEqDiff, reduceIte, reduceCtorEq, Int.reduceEq, Int.reduceNeg, Int.reduceLE, Int.reduceLT, Nat.reduceAdd, Nat.reduceLeDiff, Int.reduceToNat, Nat.reduceMul, Nat.reduceBEq, okPart, Value.cells, cut, okCell, cld2, underlying3, underlying4, underlying9, underlying5, underlying26, underlying0, be4, bn4, p1, p2, p3, p4, p5, p6, p7, p8, b3, b3']
          exact castB h (by simp [pureB, p1, p2, p3, p4, p5, p6, p7, p8, b3])
      · by_cases ab : a = b
        · have c2 : ¬ b = 2 := ab ▸ a2
          have c3 : ¬ b = 3 := ab ▸ a3
          simp -implicitDefEqProofs only [↓Zd, (Zp), if_true, if_false, ne_eq, implies_true, forall_const, Nat.reduceEqDiff, reduceIte, reduceCtorEq, Int.reduceEq, Int.reduceNeg, Int.reduceLE, Int.reduceLT, Nat.reduceAdd, Nat.reduceLeDiff, Int.reduceToNat, Nat.reduceMul, Nat.reduceBEq, okPart, Value.cells, cut, okCell, cld2, underlying3, underlying4, underlying9, underlying5, underlying26, underlying0, be4, bn4, p1, p2, p3, p4, p5, p6, p7, p8, ab, c2, c3]
          exact castB h (by simp [pureB, p1, p2, p3, p4, p5, p6, p7, p8, a2, a3])
        · simp -implicitDefEqProofs only [↓Zd, (Zp), if_true, if_false, ne_eq, implies_true, forall_const, Nat.reduceEqDiff, reduceIte, reduceCtorEq, Int.reduceEq, Int.reduceNeg, Int.reduceLE, Int.reduceLT, Nat.reduceAdd, Nat.reduceLeDiff, Int.reduceToNat, Nat.reduceMul, Nat.reduceBEq, okPart, Value.cells, cut, okCell, cld2, underlying3, underlying4, underlying9, underlying5, underlying26, underlying0, be4, bn4, p1, p2, p3, p4, p5, p6, p7, p8, a2, a3, ab]
          exact castB h (by simp [pureB, p1, p2, p3, p4, p5, p6, p7, p8, a2, a3])
  · have p1 : ¬ op = 10 := by omega
    have p2 : ¬ op = 11 := by omega
    have p3 : ¬ 6 ≤ op := by omega
    have p5 : ¬ op < 1 := by omega
    have p6 : ¬ 9 < op := by omega
    have p7 : ¬ op = 4 := by omega
    have p8 : ¬ op = 5 := by omega
    have p9 : ¬ 5 < op := by omega
    by_cases a2 : a = 2
    · subst a2
      by_cases b2 : b = 2
      · subst b2
        simp -implicitDefEqProofs only [↓Zd, (Zp), if_true, if_false, ne_eq, implies_true, forall_const, Nat.reduceEqDiff, reduceIte, reduceCtorEq, Int.reduceEq, Int.reduceNeg, Int.reduceLE, Int.reduceLT, Nat.reduceAdd, Nat.reduceLeDiff, Int.reduceToNat, Nat.reduceMul, Nat.reduceBEq, okPart, Value.cells, cut, okCell, cld2, underlying3, underlying4, underlying9, underlying5, underlying26, underlying0, be4, bn4, p1, p2, p3, o1, o2, p5, p6, p7, p8, p9]
        exact castB h (by simp [pureB, p1, p2, p3, o1, o2, p5, p6, p7, p8, p9])
      · have b2' : ¬ 2 = b := fun e => b2 e.symm
        simp -implicitDefEqProofs only [↓Zd, (Zp), if_true, if_false, ne_eq, implies_true, forall_const, Nat.reduceEqDiff, reduceIte, reduceCtorEq, Int.reduceEq, Int.reduceNeg, Int.reduceLE, Int.reduceLT, Nat.reduceAdd, Nat.reduceLeDiff, Int.reduceToNat, Nat.reduceMul, Nat.reduceBEq, okPart, Value.cells, cut, okCell, cld2, underlying3, underlying4, underlying9, underlying5, underlying26, underlying0, be4, bn4, p1, p2, p3, o1, o2, p5, p6, p7, p8, p9, b2, b2']
        exact castB h (by simp [pureB, p1, p2, p3, o1, o2, p5, p6, p7, p8, p9, b2])
    · by_cases a3 : a = 3
      · subst a3
        by_cases b3 : b = 3
        · subst b3
          simp -implicitDefEqProofs only [↓Zd, (Zp), if_true, if_false, ne_eq, implies_true, forall_const, Nat.reduceEqDiff, reduceIte, reduceCtorEq, Int.reduceEq, Int.reduceNeg, Int.reduceLE, Int.reduceLT, Nat.reduceAdd, Nat.reduceLeDiff, Int.reduceToNat, Nat.reduceMul, Nat.reduceBEq, okPart, Value.cells, cut, okCell, cld2, underlying3, underlying4, underlying9, underlying5, underlying26, underlying0, be4, bn4, p1, p2, p3, o1, o2, p5, p6, p7, p8, p9]
          exact castB h (by simp [pureB, p1, p2, p3, o1, o2, p5, p6, p7, p8, p9])
        · have b3' : ¬ 3 = b := fun e => b3 e.symm
          simp -implicitDefEqProofs only [↓Zd, (Zp), if_true, if_false, ne_eq, implies_true, forall_const, Nat.reduceEqDiff, reduceIte, reduceCtorEq, Int.reduceEq, Int.reduceNeg, Int.reduceLE, Int.reduceLT, Nat.reduceAdd, Nat.reduceLeDiff, Int.reduceToNat, Nat.reduceMul, Nat.reduceBEq, okPart, Value.cells, cut, okCell, cld2, underlying3, underlying4, underlying9, underlying5, underlying26, underlying0, be4, bn4, p1, p2, p3, o1, o2, p5, p6, p7, p8, p9, b3, b3']
          exact castB h (by simp [pureB, p1, p2, p3, o1, o2, p5, p6, p7, p8, p9, b3])
      · by_cases ab : a = b
        · have c2 : ¬ b = 2 := ab ▸ a2
          have c3 : ¬ b = 3 := ab ▸ a3
          simp -implicitDefEqProofs only [↓Zd, (Zp), if_true, if_false, ne_eq, implies_true, forall_const, Nat.reduceEqDiff, reduceIte, reduceCtorEq, Int.reduceEq, Int.reduceNeg, Int.reduceLE, Int.reduceLT, Nat.reduceAdd, Nat.reduceLeDiff, Int.reduceToNat, Nat.reduceMul, Nat.reduceBEq, okPart, Value.cells, cut, okCell, cld2, underlying3, underlying4, underlying9, underlying5, underlying26, underlying0, be4, bn4, p1, p2, p3, o1, o2, p5, p6, p7, p8, p9, ab, c2, c3]
          exact castB h (by simp [pureB, p1, p2, p3, o1, o2, p5, p6, p7, p8, p9, a2, a3])
        · simp -implicitDefEqProofs only [↓Zd, (Zp), if_true, if_false, ne_eq, implies_true, forall_const, Nat.reduceEqDiff, reduceIte, reduceCtorEq, Int.reduceEq, Int.reduceNeg, Int.reduceLE, Int.reduceLT, Nat.reduceAdd, Nat.reduceLeDiff, Int.reduceToNat, Nat.reduceMul, Nat.reduceBEq, okPart, Value.cells, cut, okCell, cld2, underlying3, underlying4, underlying9, underlying5, underlying26, underlying0, be4, bn4, p1, p2, p3, o1, o2, p5, p6, p7, p8, p9, a2, a3, ab]
          exact castB h (by simp [pureB, p1, p2, p3, o1, o2, p5, p6, p7, p8, p9, a2, a3])
  · skip
    by_cases a2 : a = 2
    · subst a2
      by_cases b2 : b = 2
      · subst b2
        simp -implicitDefEqProofs only [↓Zd, (Zp), if_true, if_false, ne_eq, implies_true, forall_const, Nat.reduceEqDiff, reduceIte, reduceCtorEq, Int.reduceEq, Int.reduceNeg, Int.reduceLE, Int.reduceLT, Nat.reduceAdd, Nat.reduceLeDiff, Int.reduceToNat, Nat.reduceMul, Nat.reduceBEq, okPart, Value.cells, cut, okCell, cld2, underlying3, underlying4, underlying9, underlying5, underlying26, underlying0, be4, bn4]
        exact castB h (by simp [pureB])
      · have b2' : ¬ 2 = b := fun e => b2 e.symm
        simp -implicitDefEqProofs only [↓Zd, (Zp), if_true, if_false, ne_eq, implies_true, forall_const, Nat.reduceEqDiff, reduceIte, reduceCtorEq, Int.reduceEq, Int.reduceNeg, Int.reduceLE, Int.reduceLT, Nat.reduceAdd, Nat.reduceLeDiff, Int.reduceToNat, Nat.reduceMul, Nat.reduceBEq, okPart, Value.cells, cut, okCell, cld2, underlying3, underlying4, underlying9, underlying5, underlying26, underlying0, be4, bn4, b2, b2']
        exact castB h (by simp [pureB, b2])
    · by_cases a3 : a = 3
      · subst a3
        by_cases b3 : b = 3
        · subst b3
          simp -implicitDefEqProofs only [↓Zd, (Zp), if_true, if_false, ne_eq, implies_true, forall_const, Nat.reduceEqDiff, reduceIte, reduceCtorEq, Int.reduceEq, Int.reduceNeg, Int.reduceLE, Int.reduceLT, Nat.reduceAdd, Nat.reduceLeDiff, Int.reduceToNat, Nat.reduceMul, Nat.reduceBEq, okPart, Value.cells, cut, okCell, cld2, underlying3, underlying4, underlying9, underlying5, underlying26, underlying0, be4, bn4]
          exact castB h (by simp [pureB])
        · have b3' : ¬ 3 = b := fun e => b3 e.symm
          simp -implicitDefEqProofs only [↓Zd, (Zp), if_true, if_false, ne_eq, implies_true, forall_const, Nat.reduceEqDiff, reduceIte, reduceCtorEq, Int.reduceEq, Int.reduceNeg, Int.reduceLE, Int.reduceLT, Nat.reduceAdd, Nat.reduceLeDiff, Int.reduceToNat, Nat.reduceMul, Nat.reduceBEq, okPart, Value.cells, cut, okCell, cld2, underlying3, underlying4, underlying9, underlying5, underlying26, underlying0, be4, bn4, b3, b3']
          exact castB h (by simp [pureB, b3])
      · by_cases ab : a = b
        · have c2 : ¬ b = 2 := ab ▸ a2
          have c3 : ¬ b = 3 := ab ▸ a3
          simp -implicitDefEqProofs only [↓Zd, (Zp), if_true, if_false, ne_eq, implies_true, forall_const, Nat.reduceEqDiff, reduceIte, reduceCtorEq, Int.reduceEq, Int.reduceNeg, Int.reduceLE, Int.reduceLT, Nat.reduceAdd, Nat.reduceLeDiff, Int.reduceToNat, Nat.reduceMul, Nat.reduceBEq, okPart, Value.cells, cut, okCell, cld2, underlying3, underlying4, underlying9, underlying5, underlying26, underlying0, be4, bn4, ab, c2, c3]
          exact castB h (by simp [pureB, a2, a3])
        · simp -implicitDefEqProofs only [↓Zd, (Zp), if_true, if_false, ne_eq, implies_true, forall_const, Nat.reduceEqDiff, reduceIte, reduceCtorEq, Int.reduceEq, Int.reduceNeg, Int.reduceLE, Int.reduceLT, Nat.reduceAdd, Nat.reduceLeDiff, Int.reduceToNat, Nat.reduceMul, Nat.reduceBEq, okPart, Value.cells, cut, okCell, cld2, underlying3, underlying4, underlying9, underlying5, underlying26, underlying0, be4, bn4, a2, a3, ab]
          exact castB h (by simp [pureB, a2, a3])
  · skip
    by_cases a2 : a = 2
    · subst a2
      by_cases b2 : b = 2
      · subst b2
        simp -implicitDefEqProofs only [↓Zd, (Zp), if_true, if_false, ne_eq, implies_true, forall_const, Nat.reduceEqDiff, reduceIte, reduceCtorEq, Int.reduceEq, Int.reduceNeg, Int.reduceLE, Int.reduceLT, Nat.reduceAdd, Nat.reduceLeDiff, Int.reduceToNat, Nat.reduceMul, Nat.reduceBEq, okPart, Value.cells, cut, okCell, cld2, underlying3, underlying4, underlying9, underlying5, underlying26, underlying0, be4, bn4]
        exact castB h (by simp [pureB])
      · have b2' : ¬ 2 = b := fun e => b2 e.symm
        simp -implicitDefEqProofs only [↓Zd, (Zp), if_true, if_false, ne_eq, implies_true, forall_const, Nat.reduceEqDiff, reduceIte, reduceCtorEq, Int.reduceEq, Int.reduceNeg, Int.reduceLE, Int.reduceLT, Nat.reduceAdd, Nat.reduceLeDiff, Int.reduceToNat, Nat.reduceMul, Nat.reduceBEq, okPart, Value.cells, cut, okCell, cld2, underlying3, underlying4, underlying9, underlying5, underlying26, underlying0, be4, bn4, b2, b2']
        exact castB h (by simp [pureB, b2])
    · by_cases a3 : a = 3
      · subst a3
        by_cases b3 : b = 3
        · subst b3
          simp -implicitDefEqProofs only [↓Zd, (Zp), if_true, if_false, ne_eq, implies_true, forall_const, Nat.reduceEqDiff, reduceIte, reduceCtorEq, Int.reduceEq, Int.reduceNeg, Int.reduceLE, Int.reduceLT, Nat.reduceAdd, Nat.reduceLeDiff, Int.reduceToNat, Nat.reduceMul, Nat.reduceBEq, okPart, Value.cells, cut, okCell, cld2, underlying3, underlying4, underlying9, underlying5, underlying26, underlying0, be4, bn4]
          exact castB h (by simp [pureB])
        · have b3' : ¬ 3 = b := fun e => b3 e.symm
          simp -implicitDefEqProofs only [↓Zd, (Zp), if_true, if_false, ne_eq, implies_true, forall_const, Nat.reduceEqDiff, reduceIte, reduceCtorEq, Int.reduceEq, Int.reduceNeg, Int.reduceLE, Int.reduceLT, Nat.reduceAdd, Nat.reduceLeDiff, Int.reduceToNat, Nat.reduceMul, Nat.reduceBEq, okPart, Value.cells, cut, okCell, cld2, underlying3, underlying4, underlying9, underlying5, underlying26, underlying0, be4, bn4, b3, b3']
          exact castB h (by simp [pureB, b3])
      · by_cases ab : a = b
        · have c2 : ¬ b = 2 := ab ▸ a2
          have c3 : ¬ b = 3 := ab ▸ a3
          simp -implicitDefEqProofs only [↓Zd, (Zp), if_true, if_false, ne_eq, implies_true, forall_const, Nat.reduceEqDiff, reduceIte, reduceCtorEq, Int.reduceEq, Int.reduceNeg, Int.reduceLE, Int.reduceLT, Nat.reduceAdd, Nat.reduceLeDiff, Int.reduceToNat, Nat.reduceMul, Nat.reduceBEq, okPart, Value.cells, cut, okCell, cld2, underlying3, underlying4, underlying9, underlying5, underlying26, underlying0, be4, bn4, ab, c2, c3]
          exact castB h (by simp [pureB, a2, a3])
        · simp -implicitDefEqProofs only [↓Zd, (Zp), if_true, if_false, ne_eq, implies_true, forall_const, Nat.reduceEqDiff, reduceIte, reduceCtorEq, Int.reduceEq, Int.reduceNeg, Int.reduceLE, Int.reduceLT, Nat.reduceAdd, Nat.reduceLeDiff, Int.reduceToNat, Nat.reduceMul, Nat.reduceBEq, okPart, Value.cells, cut, okCell, cld2, underlying3, underlying4, underlying9, underlying5, underlying26, underlying0, be4, bn4, a2, a3, ab]
          exact castB h (by simp [pureB, a2, a3])
  · have p1 : ¬ op = 10 := by omega
    have p2 : ¬ op = 11 := by omega
    have p3 : 1 ≤ op := by omega
    have p4 : ¬ op ≤ 3 := by omega
    have p5 : ¬ op < 1 := by omega
    have p6 : ¬ 9 < op := by omega
    have p7 : ¬ op = 4 := by omega
    have p8 : ¬ op = 5 := by omega
    have p9 : 5 < op := by omega
    by_cases a2 : a = 2
    · subst a2
      by_cases b2 : b = 2
      · subst b2
        simp -implicitDefEqProofs only [↓Zd, (Zp), if_true, if_false, ne_eq, implies_true, forall_const, Nat.reduceEqDiff, reduceIte, reduceCtorEq, Int.reduceEq, Int.reduceNeg, Int.reduceLE, Int.reduceLT, Nat.reduceAdd, Nat.reduceLeDiff, Int.reduceToNat, Nat.reduceMul, Nat.reduceBEq, okPart, Value.cells, cut, okCell, cld2, underlying3, underlying4, underlying9, underlying5, underlying26, underlying0, be4, bn4, p1, p2, o1, o2, p3, p4, p5, p6, p7, p8, p9]
        exact castB h (by simp [pureB, p1, p2, o1, o2, p3, p4, p5, p6, p7, p8, p9])
      · have b2' : ¬ 2 = b := fun e => b2 e.symm
        simp -implicitDefEqProofs only [↓Zd, (Zp), if_true, if_false, ne_eq, implies_true, forall_const, Nat.reduceEqDiff, reduceIte, reduceCtorEq, Int.reduceEq, Int.reduceNeg, Int.reduceLE, Int.reduceLT, Nat.reduceAdd, Nat.reduceLeDiff, Int.reduceToNat, Nat.reduceMul, Nat.reduceBEq, okPart, Value.cells, cut, okCell, cld2, underlying3, underlying4, underlying9, underlying5, underlying26, underlying0, be4, bn4, p1, p2, o1, o2, p3, p4, p5, p6, p7, p8, p9, b2, b2']
        exact castB h (by simp [pureB, p1, p2, o1, o2, p3, p4, p5, p6, p7, p8, p9, b2])
    · by_cases a3 : a = 3
      · subst a3
        by_cases b3 : b = 3
        · subst b3
          simp -implicitDefEqProofs only [↓Zd, (Zp), if_true, if_false, ne_eq, implies_true, forall_const, Nat.reduceEqDiff, reduceIte, reduceCtorEq, Int.reduceEq, Int.reduceNeg, Int.reduceLE, Int.reduceLT, Nat.reduceAdd, Nat.reduceLeDiff, Int.reduceToNat, Nat.reduceMul, Nat.reduceBEq, okPart, Value.cells, cut, okCell, cld2, underlying3, underlying4, underlying9, underlying5, underlying26, underlying0, be4, bn4, p1, p2, o1, o2, p3, p4, p5, p6, p7, p8, p9]
          exact castB h (by simp [pureB, p1, p2, o1, o2, p3, p4, p5, p6, p7, p8, p9])
        · have b3' : ¬ 3 = b := fun e => b3 e.symm
          simp -implicitDefEqProofs only [↓Zd, (Zp), if_true, if_false, ne_eq, implies_true, forall_const, Nat.reduceEqDiff, reduceIte, reduceCtorEq, Int.reduceEq, Int.reduceNeg, Int.reduceLE, Int.reduceLT, Nat.reduceAdd, Nat.reduceLeDiff, Int.reduceToNat, Nat.reduceMul, Nat.reduceBEq, okPart, Value.cells, cut, okCell, cld2, underlying3, underlying4, underlying9, underlying5, underlying26, underlying0, be4, bn4, p1, p2, o1, o2, p3, p4, p5, p6, p7, p8, p9, b3, b3']
          exact castB h (by simp [pureB, p1, p2, o1, o2, p3, p4, p5, p6, p7, p8, p9, b3])
      · by_cases ab : a = b
        · have c2 : ¬ b = 2 := ab ▸ a2
          have c3 : ¬ b = 3 := ab ▸ a3
          simp -implicitDefEqProofs only [↓Zd, (Zp), if_true, if_false, ne_eq, implies_true, forall_const, Nat.reduceEqDiff, reduceIte, reduceCtorEq, Int.reduceEq, Int.reduceNeg, Int.reduceLE, Int.reduceLT, Nat.reduceAdd, Nat.reduceLeDiff, Int.reduceToNat, Nat.reduceMul, Nat.reduceBEq, okPart, Value.cells, cut, okCell, cld2, underlying3, underlying4, underlying9, underlying5, underlying26, underlying0, be4, bn4, p1, p2, o1, o2, p3, p4, p5, p6, p7, p8, p9, ab, c2, c3]
          exact castB h (by simp [pureB, p1, p2, o1, o2, p3, p4, p5, p6, p7, p8, p9, a2, a3])
        · simp -implicitDefEqProofs only [↓Zd, (Zp), if_true, if_false, ne_eq, implies_true, forall_const, Nat.reduceEqDiff, reduceIte, reduceCtorEq, Int.reduceEq, Int.reduceNeg, Int.reduceLE, Int.reduceLT, Nat.reduceAdd, Nat.reduceLeDiff, Int.reduceToNat, Nat.reduceMul, Nat.reduceBEq, okPart, Value.cells, cut, okCell, cld2, underlying3, underlying4, underlying9, underlying5, underlying26, underlying0, be4, bn4, p1, p2, o1, o2, p3, p4, p5, p6, p7, p8, p9, a2, a3, ab]
          exact castB h (by simp [pureB, p1, p2, o1, o2, p3, p4, p5, p6, p7, p8, p9, a2, a3])

end
end Go.Proofs.Try
