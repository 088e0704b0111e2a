/- The walk of what signs make of two values: kinds k = 2 ∧ ¬ k' = 2. A lemma file: no statement of its own. -/
import Derived.Test.YtlijgnofegjnmaaFwF
import Derived.Test.YtlijgnofegjnmaaOpsC
set_option linter.unusedSimpArgs false
set_option linter.unusedVariables false
set_option linter.unusedSectionVars false
namespace Go.Proofs.Try
open Go.Cs
open Go.RowKit (Below)
set_option maxRecDepth 100000
attribute [local irreducible] CCalls WLoop WScope
section
variable {M : Type} [Mem M] {w0 : World} {s : St M} {R : Value → St M → Prop}

set_option maxHeartbeats 40000000 in
theorem bin_K2 {op k n k' n' : Int} {x x' : ByteArray} {most : Int} (hn : I64 n) (hm : -1 ≤ most ∧ most ≤ 9223372036854775807) (hx : x.size ≤ 1000000) (hx' : x'.size ≤ 1000000) (k2 : ¬ k' = 2) (h : ∀ s', s.le s' → R (binV op 2 n x k' n' x' most) s') :
    CCalls Try.prog w0 12 #[.int .i64 op, vA 2 n x, vA k' n' x', .int .i64 most] s R := by
  refine wfun2 hmix ok12 (l := [.int .i64 op, vA 2 n x, vA k' n' x', .int .i64 most]) func12 rfl ntmps12 results12 (by simp) ?_
  simp -implicitDefEqProofs only [↓Zd, (Zp), if_true, if_false, ne_eq, implies_true, forall_const, Nat.reduceEqDiff, reduceIte, reduceCtorEq, Int.reduceEq, Int.reduceNeg, Int.reduceLE, Int.reduceLT, Nat.reduceAdd, Nat.reduceLeDiff, Int.reduceToNat, Nat.reduceMul, Nat.reduceBEq, okPart, Value.cells, cut, okCell, cld2, underlying3, underlying4, underlying9, underlying23, vA, is23, ag23, ce23, fa23x0, fa23x1, fa23x2, ag3, ce3, ag9, ce9, underlying3, underlying4, underlying9, underlying5, underlying26, underlying0, be4, bn4, bv0, bv1, bv2, bv3, ze23, sz23, sz3, underlying27, underlying29, underlying51, underlying56, k2]
  refine wscope_piece hmix ?_
  simp -implicitDefEqProofs only [↓Zd, (Zp), if_true, if_false, ne_eq, implies_true, forall_const, Nat.reduceEqDiff, reduceIte, reduceCtorEq, Int.reduceEq, Int.reduceNeg, Int.reduceLE, Int.reduceLT, Nat.reduceAdd, Nat.reduceLeDiff, Int.reduceToNat, Nat.reduceMul, Nat.reduceBEq, okPart, Value.cells, cut, okCell, cld2, underlying3, underlying4, underlying9, underlying23, vA, is23, ag23, ce23, fa23x0, fa23x1, fa23x2, ag3, ce3, ag9, ce9, underlying3, underlying4, underlying9, underlying5, underlying26, underlying0, be4, bn4, bv0, bv1, bv2, bv3, ze23, sz23, sz3, underlying27, underlying29, underlying51, underlying56, j_normal, j_ret, ord12, k2]
  rcases (show (op < 1) ∨ (11 < op) ∨ (op = 10) ∨ (op = 11) ∨ (op = 1) ∨ (2 ≤ op ∧ op ≤ 5) ∨ (op = 6) ∨ (op = 7) ∨ (op = 8) ∨ (op = 9) by omega) with o1 | o1 | rfl | rfl | rfl | ⟨o2, o5⟩ | rfl | rfl | rfl | rfl
  · have hb : binV op 2 n x k' n' x' most = .tuple #[vA 0 0 ⟨#[]⟩, .int .i64 2] := by simp [binV, o1, k2]
    rw [hb] at h
    unfold vA at h
    simp -implicitDefEqProofs only [↓Zd, (Zp), if_true, if_false, ne_eq, implies_true, forall_const, Nat.reduceEqDiff, reduceIte, reduceCtorEq, Int.reduceEq, Int.reduceNeg, Int.reduceLE, Int.reduceLT, Nat.reduceAdd, Nat.reduceLeDiff, Int.reduceToNat, Nat.reduceMul, Nat.reduceBEq, okPart, Value.cells, cut, okCell, cld2, underlying3, underlying4, underlying9, underlying23, vA, is23, ag23, ce23, fa23x0, fa23x1, fa23x2, ag3, ce3, ag9, ce9, underlying3, underlying4, underlying9, underlying5, underlying26, underlying0, be4, bn4, bv0, bv1, bv2, bv3, ze23, sz23, sz3, underlying27, underlying29, underlying51, underlying56, j_normal, j_ret, ord12, o1, k2]
    exact h _ (by repeat (first | exact St.le_refl _ | assumption | refine St.le_new ?_ | refine St.le_put ?_ (by first | omega | (simp only [St.next_new, St.next_put, St.next_kill]; omega)) | refine St.le_trans ?_ (by assumption)))
  · have o0 : ¬ op < 1 := by omega
    have hb : binV op 2 n x k' n' x' most = .tuple #[vA 0 0 ⟨#[]⟩, .int .i64 2] := by simp [binV, o0, o1, k2]
    rw [hb] at h
    unfold vA at h
    simp -implicitDefEqProofs only [↓Zd, (Zp), if_true, if_false, ne_eq, implies_true, forall_const, Nat.reduceEqDiff, reduceIte, reduceCtorEq, Int.reduceEq, Int.reduceNeg, Int.reduceLE, Int.reduceLT, Nat.reduceAdd, Nat.reduceLeDiff, Int.reduceToNat, Nat.reduceMul, Nat.reduceBEq, okPart, Value.cells, cut, okCell, cld2, underlying3, underlying4, underlying9, underlying23, vA, is23, ag23, ce23, fa23x0, fa23x1, fa23x2, ag3, ce3, ag9, ce9, underlying3, underlying4, underlying9, underlying5, underlying26, underlying0, be4, bn4, bv0, bv1, bv2, bv3, ze23, sz23, sz3, underlying27, underlying29, underlying51, underlying56, j_normal, j_ret, ord12, o0, o1, k2]
    exact h _ (by repeat (first | exact St.le_refl _ | assumption | refine St.le_new ?_ | refine St.le_put ?_ (by first | omega | (simp only [St.next_new, St.next_put, St.next_kill]; omega)) | refine St.le_trans ?_ (by assumption)))
  · have hb : binV 10 2 n x k' n' x' most = .tuple #[vA 1 (boolN (sameV 2 n x k' n' x')) ⟨#[]⟩, .int .i64 0] := by simp [binV, k2]
    rw [hb] at h
    simp -implicitDefEqProofs only [↓Zd, (Zp), if_true, if_false, ne_eq, implies_true, forall_const, Nat.reduceEqDiff, reduceIte, reduceCtorEq, Int.reduceEq, Int.reduceNeg, Int.reduceLE, Int.reduceLT, Nat.reduceAdd, Nat.reduceLeDiff, Int.reduceToNat, Nat.reduceMul, Nat.reduceBEq, okPart, Value.cells, cut, okCell, cld2, underlying3, underlying4, underlying9, underlying23, vA, is23, ag23, ce23, fa23x0, fa23x1, fa23x2, ag3, ce3, ag9, ce9, underlying3, underlying4, underlying9, underlying5, underlying26, underlying0, be4, bn4, bv0, bv1, bv2, bv3, ze23, sz23, sz3, underlying27, underlying29, underlying51, underlying56, j_normal, j_ret, ord12, k2, co21]
    refine same_le fun s1 hs1 => ?_
    have hl1 : s.next + 2 < s1.next := by have := hs1.1; (try simp only [St.next_new, St.next_put] at this); omega
    simp -implicitDefEqProofs only [↓Zd, (Zp), if_true, if_false, ne_eq, implies_true, forall_const, Nat.reduceEqDiff, reduceIte, reduceCtorEq, Int.reduceEq, Int.reduceNeg, Int.reduceLE, Int.reduceLT, Nat.reduceAdd, Nat.reduceLeDiff, Int.reduceToNat, Nat.reduceMul, Nat.reduceBEq, okPart, Value.cells, cut, okCell, cld2, underlying3, underlying4, underlying9, underlying23, vA, is23, ag23, ce23, fa23x0, fa23x1, fa23x2, ag3, ce3, ag9, ce9, underlying3, underlying4, underlying9, underlying5, underlying26, underlying0, be4, bn4, bv0, bv1, bv2, bv3, ze23, sz23, sz3, underlying27, underlying29, underlying51, underlying56, j_normal, j_ret, ord12, k2, hs1.2 s.next (by first | omega | (simp only [St.next_new, St.next_put, St.next_kill]; omega)), hs1.2 (s.next + 1) (by first | omega | (simp only [St.next_new, St.next_put, St.next_kill]; omega)), hs1.2 (s.next + 2) (by first | omega | (simp only [St.next_new, St.next_put, St.next_kill]; omega)), co32]
    refine otruth_spec fun s2 hs2 => ?_
    have hl2 : s.next + 2 < s2.next := by have := hs2.1; (try simp only [St.next_new, St.next_put] at this); omega
    unfold vA at h ⊢
    simp -implicitDefEqProofs only [↓Zd, (Zp), if_true, if_false, ne_eq, implies_true, forall_const, Nat.reduceEqDiff, reduceIte, reduceCtorEq, Int.reduceEq, Int.reduceNeg, Int.reduceLE, Int.reduceLT, Nat.reduceAdd, Nat.reduceLeDiff, Int.reduceToNat, Nat.reduceMul, Nat.reduceBEq, okPart, Value.cells, cut, okCell, cld2, underlying3, underlying4, underlying9, underlying23, vA, is23, ag23, ce23, fa23x0, fa23x1, fa23x2, ag3, ce3, ag9, ce9, underlying3, underlying4, underlying9, underlying5, underlying26, underlying0, be4, bn4, bv0, bv1, bv2, bv3, ze23, sz23, sz3, underlying27, underlying29, underlying51, underlying56, j_normal, j_ret, ord12, k2, hs2.2 s.next (by first | omega | (simp only [St.next_new, St.next_put, St.next_kill]; omega)), hs2.2 (s.next + 1) (by first | omega | (simp only [St.next_new, St.next_put, St.next_kill]; omega)), hs2.2 (s.next + 2) (by first | omega | (simp only [St.next_new, St.next_put, St.next_kill]; omega)), hs1.2 s.next (by first | omega | (simp only [St.next_new, St.next_put, St.next_kill]; omega)), hs1.2 (s.next + 1) (by first | omega | (simp only [St.next_new, St.next_put, St.next_kill]; omega)), hs1.2 (s.next + 2) (by first | omega | (simp only [St.next_new, St.next_put, St.next_kill]; omega))]
    exact h _ (by repeat (first | exact St.le_refl _ | assumption | refine St.le_new ?_ | refine St.le_put ?_ (by first | omega | (simp only [St.next_new, St.next_put, St.next_kill]; omega)) | refine St.le_trans ?_ (by assumption)))
  · have hb : binV 11 2 n x k' n' x' most = .tuple #[vA 1 (boolN (!sameV 2 n x k' n' x')) ⟨#[]⟩, .int .i64 0] := by simp [binV, k2]
    rw [hb] at h
    simp -implicitDefEqProofs only [↓Zd, (Zp), if_true, if_false, ne_eq, implies_true, forall_const, Nat.reduceEqDiff, reduceIte, reduceCtorEq, Int.reduceEq, Int.reduceNeg, Int.reduceLE, Int.reduceLT, Nat.reduceAdd, Nat.reduceLeDiff, Int.reduceToNat, Nat.reduceMul, Nat.reduceBEq, okPart, Value.cells, cut, okCell, cld2, underlying3, underlying4, underlying9, underlying23, vA, is23, ag23, ce23, fa23x0, fa23x1, fa23x2, ag3, ce3, ag9, ce9, underlying3, underlying4, underlying9, underlying5, underlying26, underlying0, be4, bn4, bv0, bv1, bv2, bv3, ze23, sz23, sz3, underlying27, underlying29, underlying51, underlying56, j_normal, j_ret, ord12, k2, co21]
    refine same_le fun s1 hs1 => ?_
    have hl1 : s.next + 2 < s1.next := by have := hs1.1; (try simp only [St.next_new, St.next_put] at this); omega
    simp -implicitDefEqProofs only [↓Zd, (Zp), if_true, if_false, ne_eq, implies_true, forall_const, Nat.reduceEqDiff, reduceIte, reduceCtorEq, Int.reduceEq, Int.reduceNeg, Int.reduceLE, Int.reduceLT, Nat.reduceAdd, Nat.reduceLeDiff, Int.reduceToNat, Nat.reduceMul, Nat.reduceBEq, okPart, Value.cells, cut, okCell, cld2, underlying3, underlying4, underlying9, underlying23, vA, is23, ag23, ce23, fa23x0, fa23x1, fa23x2, ag3, ce3, ag9, ce9, underlying3, underlying4, underlying9, underlying5, underlying26, underlying0, be4, bn4, bv0, bv1, bv2, bv3, ze23, sz23, sz3, underlying27, underlying29, underlying51, underlying56, j_normal, j_ret, ord12, k2, hs1.2 s.next (by first | omega | (simp only [St.next_new, St.next_put, St.next_kill]; omega)), hs1.2 (s.next + 1) (by first | omega | (simp only [St.next_new, St.next_put, St.next_kill]; omega)), hs1.2 (s.next + 2) (by first | omega | (simp only [St.next_new, St.next_put, St.next_kill]; omega)), co32]
    refine otruth_spec fun s2 hs2 => ?_
    have hl2 : s.next + 2 < s2.next := by have := hs2.1; (try simp only [St.next_new, St.next_put] at this); omega
    unfold vA at h ⊢
    simp -implicitDefEqProofs only [↓Zd, (Zp), if_true, if_false, ne_eq, implies_true, forall_const, Nat.reduceEqDiff, reduceIte, reduceCtorEq, Int.reduceEq, Int.reduceNeg, Int.reduceLE, Int.reduceLT, Nat.reduceAdd, Nat.reduceLeDiff, Int.reduceToNat, Nat.reduceMul, Nat.reduceBEq, okPart, Value.cells, cut, okCell, cld2, underlying3, underlying4, underlying9, underlying23, vA, is23, ag23, ce23, fa23x0, fa23x1, fa23x2, ag3, ce3, ag9, ce9, underlying3, underlying4, underlying9, underlying5, underlying26, underlying0, be4, bn4, bv0, bv1, bv2, bv3, ze23, sz23, sz3, underlying27, underlying29, underlying51, underlying56, j_normal, j_ret, ord12, k2, hs2.2 s.next (by first | omega | (simp only [St.next_new, St.next_put, St.next_kill]; omega)), hs2.2 (s.next + 1) (by first | omega | (simp only [St.next_new, St.next_put, St.next_kill]; omega)), hs2.2 (s.next + 2) (by first | omega | (simp only [St.next_new, St.next_put, St.next_kill]; omega)), hs1.2 s.next (by first | omega | (simp only [St.next_new, St.next_put, St.next_kill]; omega)), hs1.2 (s.next + 1) (by first | omega | (simp only [St.next_new, St.next_put, St.next_kill]; omega)), hs1.2 (s.next + 2) (by first | omega | (simp only [St.next_new, St.next_put, St.next_kill]; omega))]
    exact h _ (by repeat (first | exact St.le_refl _ | assumption | refine St.le_new ?_ | refine St.le_put ?_ (by first | omega | (simp only [St.next_new, St.next_put, St.next_kill]; omega)) | refine St.le_trans ?_ (by assumption)))
  · have hb : binV 1 2 n x k' n' x' most = .tuple #[vA 0 0 ⟨#[]⟩, .int .i64 30] := by simp [binV, k2]
    rw [hb] at h
    unfold vA at h
    simp -implicitDefEqProofs only [↓Zd, (Zp), if_true, if_false, ne_eq, implies_true, forall_const, Nat.reduceEqDiff, reduceIte, reduceCtorEq, Int.reduceEq, Int.reduceNeg, Int.reduceLE, Int.reduceLT, Nat.reduceAdd, Nat.reduceLeDiff, Int.reduceToNat, Nat.reduceMul, Nat.reduceBEq, okPart, Value.cells, cut, okCell, cld2, underlying3, underlying4, underlying9, underlying23, vA, is23, ag23, ce23, fa23x0, fa23x1, fa23x2, ag3, ce3, ag9, ce9, underlying3, underlying4, underlying9, underlying5, underlying26, underlying0, be4, bn4, bv0, bv1, bv2, bv3, ze23, sz23, sz3, underlying27, underlying29, underlying51, underlying56, j_normal, j_ret, ord12, k2]
    exact h _ (by repeat (first | exact St.le_refl _ | assumption | refine St.le_new ?_ | refine St.le_put ?_ (by first | omega | (simp only [St.next_new, St.next_put, St.next_kill]; omega)) | refine St.le_trans ?_ (by assumption)))
  · have o0 : ¬ op < 1 := by omega
    have o1 : ¬ 11 < op := by omega
    have oa : ¬ op = 10 := by omega
    have ob : ¬ op = 11 := by omega
    have oc : ¬ op = 1 := by omega
    have hb : binV op 2 n x k' n' x' most = .tuple #[vA 0 0 ⟨#[]⟩, .int .i64 30] := by simp [binV, o0, o1, oa, ob, oc, o5, k2]
    rw [hb] at h
    unfold vA at h
    simp -implicitDefEqProofs only [↓Zd, (Zp), if_true, if_false, ne_eq, implies_true, forall_const, Nat.reduceEqDiff, reduceIte, reduceCtorEq, Int.reduceEq, Int.reduceNeg, Int.reduceLE, Int.reduceLT, Nat.reduceAdd, Nat.reduceLeDiff, Int.reduceToNat, Nat.reduceMul, Nat.reduceBEq, okPart, Value.cells, cut, okCell, cld2, underlying3, underlying4, underlying9, underlying23, vA, is23, ag23, ce23, fa23x0, fa23x1, fa23x2, ag3, ce3, ag9, ce9, underlying3, underlying4, underlying9, underlying5, underlying26, underlying0, be4, bn4, bv0, bv1, bv2, bv3, ze23, sz23, sz3, underlying27, underlying29, underlying51, underlying56, j_normal, j_ret, ord12, o0, o1, oa, ob, oc, o5, k2]
    exact h _ (by repeat (first | exact St.le_refl _ | assumption | refine St.le_new ?_ | refine St.le_put ?_ (by first | omega | (simp only [St.next_new, St.next_put, St.next_kill]; omega)) | refine St.le_trans ?_ (by assumption)))
  · have hb : binV 6 2 n x k' n' x' most = .tuple #[vA 0 0 ⟨#[]⟩, .int .i64 30] := by simp [binV, k2]
    rw [hb] at h
    unfold vA at h
    simp -implicitDefEqProofs only [↓Zd, (Zp), if_true, if_false, ne_eq, implies_true, forall_const, Nat.reduceEqDiff, reduceIte, reduceCtorEq, Int.reduceEq, Int.reduceNeg, Int.reduceLE, Int.reduceLT, Nat.reduceAdd, Nat.reduceLeDiff, Int.reduceToNat, Nat.reduceMul, Nat.reduceBEq, okPart, Value.cells, cut, okCell, cld2, underlying3, underlying4, underlying9, underlying23, vA, is23, ag23, ce23, fa23x0, fa23x1, fa23x2, ag3, ce3, ag9, ce9, underlying3, underlying4, underlying9, underlying5, underlying26, underlying0, be4, bn4, bv0, bv1, bv2, bv3, ze23, sz23, sz3, underlying27, underlying29, underlying51, underlying56, j_normal, j_ret, ord12, k2]
    exact h _ (by repeat (first | exact St.le_refl _ | assumption | refine St.le_new ?_ | refine St.le_put ?_ (by first | omega | (simp only [St.next_new, St.next_put, St.next_kill]; omega)) | refine St.le_trans ?_ (by assumption)))
  · have hb : binV 7 2 n x k' n' x' most = .tuple #[vA 0 0 ⟨#[]⟩, .int .i64 30] := by simp [binV, k2]
    rw [hb] at h
    unfold vA at h
    simp -implicitDefEqProofs only [↓Zd, (Zp), if_true, if_false, ne_eq, implies_true, forall_const, Nat.reduceEqDiff, reduceIte, reduceCtorEq, Int.reduceEq, Int.reduceNeg, Int.reduceLE, Int.reduceLT, Nat.reduceAdd, Nat.reduceLeDiff, Int.reduceToNat, Nat.reduceMul, Nat.reduceBEq, okPart, Value.cells, cut, okCell, cld2, underlying3, underlying4, underlying9, underlying23, vA, is23, ag23, ce23, fa23x0, fa23x1, fa23x2, ag3, ce3, ag9, ce9, underlying3, underlying4, underlying9, underlying5, underlying26, underlying0, be4, bn4, bv0, bv1, bv2, bv3, ze23, sz23, sz3, underlying27, underlying29, underlying51, underlying56, j_normal, j_ret, ord12, k2]
    exact h _ (by repeat (first | exact St.le_refl _ | assumption | refine St.le_new ?_ | refine St.le_put ?_ (by first | omega | (simp only [St.next_new, St.next_put, St.next_kill]; omega)) | refine St.le_trans ?_ (by assumption)))
  · have hb : binV 8 2 n x k' n' x' most = .tuple #[vA 0 0 ⟨#[]⟩, .int .i64 30] := by simp [binV, k2]
    rw [hb] at h
    unfold vA at h
    simp -implicitDefEqProofs only [↓Zd, (Zp), if_true, if_false, ne_eq, implies_true, forall_const, Nat.reduceEqDiff, reduceIte, reduceCtorEq, Int.reduceEq, Int.reduceNeg, Int.reduceLE, Int.reduceLT, Nat.reduceAdd, Nat.reduceLeDiff, Int.reduceToNat, Nat.reduceMul, Nat.reduceBEq, okPart, Value.cells, cut, okCell, cld2, underlying3, underlying4, underlying9, underlying23, vA, is23, ag23, ce23, fa23x0, fa23x1, fa23x2, ag3, ce3, ag9, ce9, underlying3, underlying4, underlying9, underlying5, underlying26, underlying0, be4, bn4, bv0, bv1, bv2, bv3, ze23, sz23, sz3, underlying27, underlying29, underlying51, underlying56, j_normal, j_ret, ord12, k2]
    exact h _ (by repeat (first | exact St.le_refl _ | assumption | refine St.le_new ?_ | refine St.le_put ?_ (by first | omega | (simp only [St.next_new, St.next_put, St.next_kill]; omega)) | refine St.le_trans ?_ (by assumption)))
  · have hb : binV 9 2 n x k' n' x' most = .tuple #[vA 0 0 ⟨#[]⟩, .int .i64 30] := by simp [binV, k2]
    rw [hb] at h
    unfold vA at h
    simp -implicitDefEqProofs only [↓Zd, (Zp), if_true, if_false, ne_eq, implies_true, forall_const, Nat.reduceEqDiff, reduceIte, reduceCtorEq, Int.reduceEq, Int.reduceNeg, Int.reduceLE, Int.reduceLT, Nat.reduceAdd, Nat.reduceLeDiff, Int.reduceToNat, Nat.reduceMul, Nat.reduceBEq, okPart, Value.cells, cut, okCell, cld2, underlying3, underlying4, underlying9, underlying23, vA, is23, ag23, ce23, fa23x0, fa23x1, fa23x2, ag3, ce3, ag9, ce9, underlying3, underlying4, underlying9, underlying5, underlying26, underlying0, be4, bn4, bv0, bv1, bv2, bv3, ze23, sz23, sz3, underlying27, underlying29, underlying51, underlying56, j_normal, j_ret, ord12, k2]
    exact h _ (by repeat (first | exact St.le_refl _ | assumption | refine St.le_new ?_ | refine St.le_put ?_ (by first | omega | (simp only [St.next_new, St.next_put, St.next_kill]; omega)) | refine St.le_trans ?_ (by assumption)))
end
end Go.Proofs.Try
