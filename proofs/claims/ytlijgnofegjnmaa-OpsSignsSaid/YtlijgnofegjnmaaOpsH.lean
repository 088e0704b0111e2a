/- What comes of signs: plain laws, and the walks of the laws on signs the other way round, and on what may be. A lemma file: no statement of its own. -/
import Derived.Test.YtlijgnofegjnmaaFwF
import Derived.Test.YtlijgnofegjnmaaOpsF
set_option linter.unusedSimpArgs false
set_option linter.unusedVariables false
set_option linter.unusedSectionVars false
namespace Go.Proofs.Try
open Go.Cs
open Go.RowKit (Below)
set_option maxRecDepth 100000
attribute [local irreducible] CCalls WLoop WScope

theorem sameV_sym (k n : Int) (x : ByteArray) (k' n' : Int) (x' : ByteArray) : sameV k' n' x' k n x = sameV k n x k' n' x' := by
  rw [Bool.eq_iff_iff]
  simp only [sameV, Bool.and_eq_true, decide_eq_true_eq]
  constructor <;> rintro ⟨rfl, rfl, rfl⟩ <;> exact ⟨rfl, rfl, rfl⟩
theorem bin_swap {op k n k' n' : Int} {x x' : ByteArray} {most : Int} (h : 0 < swapN op) : binV (swapN op) k' n' x' k n x most = binV op k n x k' n' x' most := by
  rcases (show op = 6 ∨ op = 7 ∨ op = 8 ∨ op = 9 ∨ op = 10 ∨ op = 11 ∨ op = 3 ∨ (¬ op = 6 ∧ ¬ op = 7 ∧ ¬ op = 8 ∧ ¬ op = 9 ∧ ¬ op = 10 ∧ ¬ op = 11 ∧ ¬ op = 3) by omega) with rfl | rfl | rfl | rfl | rfl | rfl | rfl | ⟨o1, o2, o3, o4, o5, o6, o7⟩
  · simp [binV, swapN, cmpOp, and_comm, cmpL_6, cmpL_8, cmpI_6, cmpI_8]
  · simp [binV, swapN, cmpOp, and_comm, cmpL_7, cmpL_9, cmpI_7, cmpI_9]
  · simp [binV, swapN, cmpOp, and_comm, cmpL_6, cmpL_8, cmpI_6, cmpI_8]
  · simp [binV, swapN, cmpOp, and_comm, cmpL_7, cmpL_9, cmpI_7, cmpI_9]
  · simp [binV, swapN, sameV_sym]
  · simp [binV, swapN, sameV_sym]
  · simp [binV, swapN, mathN, and_comm, Int.mul_comm]
  · simp [swapN, o1, o2, o3, o4, o5, o6, o7] at h
theorem bin_pure {op k n k' n' : Int} {x x' : ByteArray} {most : Int} (h : pureB op k k' = true) : ∃ a b y, binV op k n x k' n' x' most = .tuple #[vA a b y, .int .i64 0] := by
  simp only [pureB, decide_eq_true_eq] at h
  rcases h with rfl | rfl | ⟨rfl, rfl, h⟩ | ⟨rfl, rfl, h1, h2⟩
  · exact ⟨_, _, _, by simp [binV]; rfl⟩
  · exact ⟨_, _, _, by simp [binV]; rfl⟩
  · rcases h with ⟨h1, h2⟩ | ⟨h1, h2⟩
    · rcases (show op = 6 ∨ op = 7 ∨ op = 8 ∨ op = 9 by omega) with rfl | rfl | rfl | rfl <;> exact ⟨_, _, _, by simp [binV]; rfl⟩
    · rcases (show op = 1 ∨ op = 2 ∨ op = 3 by omega) with rfl | rfl | rfl <;> exact ⟨_, _, _, by simp [binV, mathN, wholeV]; rfl⟩
  · rcases (show op = 6 ∨ op = 7 ∨ op = 8 ∨ op = 9 by omega) with rfl | rfl | rfl | rfl <;> exact ⟨_, _, _, by simp [binV]; rfl⟩

section
variable {M : Type} [Mem M] {w0 : World} {s : St M} {R : Value → St M → Prop}

set_option maxHeartbeats 16000000 in
theorem opsSigns_spec {op k n k' n' : Int} {x x' : ByteArray} (hn : I64 n) (hn' : I64 n') (h : ∀ s', R (.bool true) s') : CCalls Try.prog w0 7 #[.int .i64 op, vA k n x, vA k' n' x'] s R := by
  refine wfun2 hmix ok7 (l := [.int .i64 op, vA k n x, vA k' n' x']) func7 rfl ntmps7 results7 (by simp) ?_
  simp -implicitDefEqProofs only [↓Zd, (Zp), if_true, if_false, ne_eq, implies_true, forall_const, Nat.reduceEqDiff, reduceIte, reduceCtorEq, Int.reduceEq, Int.reduceNeg, Int.reduceLE, Int.reduceLT, Nat.reduceAdd, Nat.reduceLeDiff, Int.reduceToNat, Nat.reduceMul, Nat.reduceBEq, okPart, Value.cells, cut, okCell, cld2, underlying3, underlying4, underlying9, underlying23, vA, is23, ag23, ce23, fa23x0, fa23x1, fa23x2, ag3, ce3, ag9, ce9, underlying3, underlying4, underlying9, underlying5, underlying26, underlying0, be4, bn4, bv0, bv1, bv2, bv3, ze23, sz23, sz3, underlying27, underlying29, underlying51, underlying56, underlying44, row2, co10]
  refine short2 (a := k) (n := n) (x := x) (a' := k') (n' := n') (x' := x') (by simp) ?_
  by_cases hb : (x.size : Int) ≤ 1000 ∧ (x'.size : Int) ≤ 1000
  case neg =>
    have : (decide ((x.size : Int) ≤ 1000) && decide ((x'.size : Int) ≤ 1000)) = false := by rw [Bool.eq_false_iff]; simpa using hb
    rw [this]
    simp -implicitDefEqProofs only [↓Zd, (Zp), if_true, if_false, ne_eq, implies_true, forall_const, Nat.reduceEqDiff, reduceIte, reduceCtorEq, Int.reduceEq, Int.reduceNeg, Int.reduceLE, Int.reduceLT, Nat.reduceAdd, Nat.reduceLeDiff, Int.reduceToNat, Nat.reduceMul, Nat.reduceBEq, okPart, Value.cells, cut, okCell, cld2, underlying3, underlying4, underlying9, underlying23, vA, is23, ag23, ce23, fa23x0, fa23x1, fa23x2, ag3, ce3, ag9, ce9, underlying3, underlying4, underlying9, underlying5, underlying26, underlying0, be4, bn4, bv0, bv1, bv2, bv3, ze23, sz23, sz3, underlying27, underlying29, underlying51, underlying56, co11]
    refine works04_spec ?_
    simp -implicitDefEqProofs only [↓Zd, (Zp), if_true, if_false, ne_eq, implies_true, forall_const, Nat.reduceEqDiff, reduceIte, reduceCtorEq, Int.reduceEq, Int.reduceNeg, Int.reduceLE, Int.reduceLT, Nat.reduceAdd, Nat.reduceLeDiff, Int.reduceToNat, Nat.reduceMul, Nat.reduceBEq, okPart, Value.cells, cut, okCell, cld2, underlying3, underlying4, underlying9, underlying23, vA, is23, ag23, ce23, fa23x0, fa23x1, fa23x2, ag3, ce3, ag9, ce9, underlying3, underlying4, underlying9, underlying5, underlying26, underlying0, be4, bn4, bv0, bv1, bv2, bv3, ze23, sz23, sz3, underlying27, underlying29, underlying51, underlying56]
    exact h _
  have : (decide ((x.size : Int) ≤ 1000) && decide ((x'.size : Int) ≤ 1000)) = true := by simpa using hb
  rw [this]
  have hx : x.size ≤ 1000000 := by omega
  have hx' : x'.size ≤ 1000000 := by omega
  have d0 : ¬ s.next = s.next + 1 + 1 := by omega
  simp -implicitDefEqProofs only [↓Zd, (Zp), if_true, if_false, ne_eq, implies_true, forall_const, Nat.reduceEqDiff, reduceIte, reduceCtorEq, Int.reduceEq, Int.reduceNeg, Int.reduceLE, Int.reduceLT, Nat.reduceAdd, Nat.reduceLeDiff, Int.reduceToNat, Nat.reduceMul, Nat.reduceBEq, okPart, Value.cells, cut, okCell, cld2, underlying3, underlying4, underlying9, underlying23, vA, is23, ag23, ce23, fa23x0, fa23x1, fa23x2, ag3, ce3, ag9, ce9, underlying3, underlying4, underlying9, underlying5, underlying26, underlying0, be4, bn4, bv0, bv1, bv2, bv3, ze23, sz23, sz3, underlying27, underlying29, underlying51, underlying56, ord7, co22]
  refine swap_spec ?_
  simp -implicitDefEqProofs only [↓Zd, (Zp), if_true, if_false, ne_eq, implies_true, forall_const, Nat.reduceEqDiff, reduceIte, reduceCtorEq, Int.reduceEq, Int.reduceNeg, Int.reduceLE, Int.reduceLT, Nat.reduceAdd, Nat.reduceLeDiff, Int.reduceToNat, Nat.reduceMul, Nat.reduceBEq, okPart, Value.cells, cut, okCell, cld2, underlying3, underlying4, underlying9, underlying23, vA, is23, ag23, ce23, fa23x0, fa23x1, fa23x2, ag3, ce3, ag9, ce9, underlying3, underlying4, underlying9, underlying5, underlying26, underlying0, be4, bn4, bv0, bv1, bv2, bv3, ze23, sz23, sz3, underlying27, underlying29, underlying51, underlying56, d0, ord7, co23]
  refine rswap_spec ?_
  simp -implicitDefEqProofs only [↓Zd, (Zp), if_true, if_false, ne_eq, implies_true, forall_const, Nat.reduceEqDiff, reduceIte, reduceCtorEq, Int.reduceEq, Int.reduceNeg, Int.reduceLE, Int.reduceLT, Nat.reduceAdd, Nat.reduceLeDiff, Int.reduceToNat, Nat.reduceMul, Nat.reduceBEq, okPart, Value.cells, cut, okCell, cld2, underlying3, underlying4, underlying9, underlying23, vA, is23, ag23, ce23, fa23x0, fa23x1, fa23x2, ag3, ce3, ag9, ce9, underlying3, underlying4, underlying9, underlying5, underlying26, underlying0, be4, bn4, bv0, bv1, bv2, bv3, ze23, sz23, sz3, underlying27, underlying29, underlying51, underlying56, d0, ord7, co24]
  refine pure_spec ?_
  simp -implicitDefEqProofs only [↓Zd, (Zp), if_true, if_false, ne_eq, implies_true, forall_const, Nat.reduceEqDiff, reduceIte, reduceCtorEq, Int.reduceEq, Int.reduceNeg, Int.reduceLE, Int.reduceLT, Nat.reduceAdd, Nat.reduceLeDiff, Int.reduceToNat, Nat.reduceMul, Nat.reduceBEq, okPart, Value.cells, cut, okCell, cld2, underlying3, underlying4, underlying9, underlying23, vA, is23, ag23, ce23, fa23x0, fa23x1, fa23x2, ag3, ce3, ag9, ce9, underlying3, underlying4, underlying9, underlying5, underlying26, underlying0, be4, bn4, bv0, bv1, bv2, bv3, ze23, sz23, sz3, underlying27, underlying29, underlying51, underlying56, d0, ord7, co25]
  refine rpure_spec ?_
  simp -implicitDefEqProofs only [↓Zd, (Zp), if_true, if_false, ne_eq, implies_true, forall_const, Nat.reduceEqDiff, reduceIte, reduceCtorEq, Int.reduceEq, Int.reduceNeg, Int.reduceLE, Int.reduceLT, Nat.reduceAdd, Nat.reduceLeDiff, Int.reduceToNat, Nat.reduceMul, Nat.reduceBEq, okPart, Value.cells, cut, okCell, cld2, underlying3, underlying4, underlying9, underlying23, vA, is23, ag23, ce23, fa23x0, fa23x1, fa23x2, ag3, ce3, ag9, ce9, underlying3, underlying4, underlying9, underlying5, underlying26, underlying0, be4, bn4, bv0, bv1, bv2, bv3, ze23, sz23, sz3, underlying27, underlying29, underlying51, underlying56, d0, beq_self_eq_true, co22]
  refine swap_spec ?_
  simp -implicitDefEqProofs only [↓Zd, (Zp), if_true, if_false, ne_eq, implies_true, forall_const, Nat.reduceEqDiff, reduceIte, reduceCtorEq, Int.reduceEq, Int.reduceNeg, Int.reduceLE, Int.reduceLT, Nat.reduceAdd, Nat.reduceLeDiff, Int.reduceToNat, Nat.reduceMul, Nat.reduceBEq, okPart, Value.cells, cut, okCell, cld2, underlying3, underlying4, underlying9, underlying23, vA, is23, ag23, ce23, fa23x0, fa23x1, fa23x2, ag3, ce3, ag9, ce9, underlying3, underlying4, underlying9, underlying5, underlying26, underlying0, be4, bn4, bv0, bv1, bv2, bv3, ze23, sz23, sz3, underlying27, underlying29, underlying51, underlying56, d0, co12]
  refine bin_spec hn (by omega) hx hx' fun s1 hs1 => ?_
  have n1 : s.next + 2 < s1.next := by have := hs1.1; (try simp only [St.next_new, St.next_put] at this); omega
  have d1 : ¬ s.next = s1.next := by omega
  have d2 : ¬ s.next + 1 = s1.next := by omega
  by_cases hp : pureB op k k' = true
  · obtain ⟨a, b, y, t⟩ := bin_pure (n := n) (n' := n') (x := x) (x' := x') (most := 256) hp
    rw [t]
    unfold vA
    by_cases hz : 0 < swapN op
    · simp -implicitDefEqProofs only [↓Zd, (Zp), if_true, if_false, ne_eq, implies_true, forall_const, Nat.reduceEqDiff, reduceIte, reduceCtorEq, Int.reduceEq, Int.reduceNeg, Int.reduceLE, Int.reduceLT, Nat.reduceAdd, Nat.reduceLeDiff, Int.reduceToNat, Nat.reduceMul, Nat.reduceBEq, okPart, Value.cells, cut, okCell, cld2, underlying3, underlying4, underlying9, underlying23, vA, is23, ag23, ce23, fa23x0, fa23x1, fa23x2, ag3, ce3, ag9, ce9, underlying3, underlying4, underlying9, underlying5, underlying26, underlying0, be4, bn4, bv0, bv1, bv2, bv3, ze23, sz23, sz3, underlying27, underlying29, underlying51, underlying56, hz, d0, d1, d2, hs1.2 s.next (by first | omega | (simp only [St.next_new, St.next_put, St.next_kill]; omega)), hs1.2 (s.next + 1) (by first | omega | (simp only [St.next_new, St.next_put, St.next_kill]; omega)), co12]
      refine bin_spec hn' (by omega) hx' hx fun s2 hs2 => ?_
      have n2 : s1.next < s2.next := by have := hs2.1; (try simp only [St.next_new, St.next_put] at this); omega
      have d3 : ¬ s.next = s2.next := by omega
      have d4 : ¬ s.next + 1 = s2.next := by omega
      have d5 : ¬ s1.next = s2.next := by omega
      rw [bin_swap hz, t]
      unfold vA
      simp -implicitDefEqProofs only [↓Zd, (Zp), if_true, if_false, ne_eq, implies_true, forall_const, Nat.reduceEqDiff, reduceIte, reduceCtorEq, Int.reduceEq, Int.reduceNeg, Int.reduceLE, Int.reduceLT, Nat.reduceAdd, Nat.reduceLeDiff, Int.reduceToNat, Nat.reduceMul, Nat.reduceBEq, okPart, Value.cells, cut, okCell, cld2, underlying3, underlying4, underlying9, underlying23, vA, is23, ag23, ce23, fa23x0, fa23x1, fa23x2, ag3, ce3, ag9, ce9, underlying3, underlying4, underlying9, underlying5, underlying26, underlying0, be4, bn4, bv0, bv1, bv2, bv3, ze23, sz23, sz3, underlying27, underlying29, underlying51, underlying56, d0, d1, d2, d3, d4, d5, hs2.2 s.next (by first | omega | (simp only [St.next_new, St.next_put, St.next_kill]; omega)), hs2.2 (s.next + 1) (by first | omega | (simp only [St.next_new, St.next_put, St.next_kill]; omega)), hs2.2 s1.next (by first | omega | (simp only [St.next_new, St.next_put, St.next_kill]; omega)), hs1.2 s.next (by first | omega | (simp only [St.next_new, St.next_put, St.next_kill]; omega)), hs1.2 (s.next + 1) (by first | omega | (simp only [St.next_new, St.next_put, St.next_kill]; omega)), neSelf, co24]
      refine pure_spec ?_
      rw [hp]
      simp -implicitDefEqProofs only [↓Zd, (Zp), if_true, if_false, ne_eq, implies_true, forall_const, Nat.reduceEqDiff, reduceIte, reduceCtorEq, Int.reduceEq, Int.reduceNeg, Int.reduceLE, Int.reduceLT, Nat.reduceAdd, Nat.reduceLeDiff, Int.reduceToNat, Nat.reduceMul, Nat.reduceBEq, okPart, Value.cells, cut, okCell, cld2, underlying3, underlying4, underlying9, underlying23, vA, is23, ag23, ce23, fa23x0, fa23x1, fa23x2, ag3, ce3, ag9, ce9, underlying3, underlying4, underlying9, underlying5, underlying26, underlying0, be4, bn4, bv0, bv1, bv2, bv3, ze23, sz23, sz3, underlying27, underlying29, underlying51, underlying56, co11]
      refine works04_spec ?_
      simp -implicitDefEqProofs only [↓Zd, (Zp), if_true, if_false, ne_eq, implies_true, forall_const, Nat.reduceEqDiff, reduceIte, reduceCtorEq, Int.reduceEq, Int.reduceNeg, Int.reduceLE, Int.reduceLT, Nat.reduceAdd, Nat.reduceLeDiff, Int.reduceToNat, Nat.reduceMul, Nat.reduceBEq, okPart, Value.cells, cut, okCell, cld2, underlying3, underlying4, underlying9, underlying23, vA, is23, ag23, ce23, fa23x0, fa23x1, fa23x2, ag3, ce3, ag9, ce9, underlying3, underlying4, underlying9, underlying5, underlying26, underlying0, be4, bn4, bv0, bv1, bv2, bv3, ze23, sz23, sz3, underlying27, underlying29, underlying51, underlying56]
      exact h _
    · simp -implicitDefEqProofs only [↓Zd, (Zp), if_true, if_false, ne_eq, implies_true, forall_const, Nat.reduceEqDiff, reduceIte, reduceCtorEq, Int.reduceEq, Int.reduceNeg, Int.reduceLE, Int.reduceLT, Nat.reduceAdd, Nat.reduceLeDiff, Int.reduceToNat, Nat.reduceMul, Nat.reduceBEq, okPart, Value.cells, cut, okCell, cld2, underlying3, underlying4, underlying9, underlying23, vA, is23, ag23, ce23, fa23x0, fa23x1, fa23x2, ag3, ce3, ag9, ce9, underlying3, underlying4, underlying9, underlying5, underlying26, underlying0, be4, bn4, bv0, bv1, bv2, bv3, ze23, sz23, sz3, underlying27, underlying29, underlying51, underlying56, hz, d0, d1, d2, hs1.2 s.next (by first | omega | (simp only [St.next_new, St.next_put, St.next_kill]; omega)), hs1.2 (s.next + 1) (by first | omega | (simp only [St.next_new, St.next_put, St.next_kill]; omega)), co24]
      refine pure_spec ?_
      rw [hp]
      simp -implicitDefEqProofs only [↓Zd, (Zp), if_true, if_false, ne_eq, implies_true, forall_const, Nat.reduceEqDiff, reduceIte, reduceCtorEq, Int.reduceEq, Int.reduceNeg, Int.reduceLE, Int.reduceLT, Nat.reduceAdd, Nat.reduceLeDiff, Int.reduceToNat, Nat.reduceMul, Nat.reduceBEq, okPart, Value.cells, cut, okCell, cld2, underlying3, underlying4, underlying9, underlying23, vA, is23, ag23, ce23, fa23x0, fa23x1, fa23x2, ag3, ce3, ag9, ce9, underlying3, underlying4, underlying9, underlying5, underlying26, underlying0, be4, bn4, bv0, bv1, bv2, bv3, ze23, sz23, sz3, underlying27, underlying29, underlying51, underlying56, co11]
      refine works04_spec ?_
      simp -implicitDefEqProofs only [↓Zd, (Zp), if_true, if_false, ne_eq, implies_true, forall_const, Nat.reduceEqDiff, reduceIte, reduceCtorEq, Int.reduceEq, Int.reduceNeg, Int.reduceLE, Int.reduceLT, Nat.reduceAdd, Nat.reduceLeDiff, Int.reduceToNat, Nat.reduceMul, Nat.reduceBEq, okPart, Value.cells, cut, okCell, cld2, underlying3, underlying4, underlying9, underlying23, vA, is23, ag23, ce23, fa23x0, fa23x1, fa23x2, ag3, ce3, ag9, ce9, underlying3, underlying4, underlying9, underlying5, underlying26, underlying0, be4, bn4, bv0, bv1, bv2, bv3, ze23, sz23, sz3, underlying27, underlying29, underlying51, underlying56]
      exact h _
  · have hp' : pureB op k k' = false := by simpa using hp
    obtain ⟨a, b, y, e, t⟩ := binV_tup op k n x k' n' x' 256
    rw [t]
    unfold vA
    by_cases hz : 0 < swapN op
    · simp -implicitDefEqProofs only [↓Zd, (Zp), if_true, if_false, ne_eq, implies_true, forall_const, Nat.reduceEqDiff, reduceIte, reduceCtorEq, Int.reduceEq, Int.reduceNeg, Int.reduceLE, Int.reduceLT, Nat.reduceAdd, Nat.reduceLeDiff, Int.reduceToNat, Nat.reduceMul, Nat.reduceBEq, okPart, Value.cells, cut, okCell, cld2, underlying3, underlying4, underlying9, underlying23, vA, is23, ag23, ce23, fa23x0, fa23x1, fa23x2, ag3, ce3, ag9, ce9, underlying3, underlying4, underlying9, underlying5, underlying26, underlying0, be4, bn4, bv0, bv1, bv2, bv3, ze23, sz23, sz3, underlying27, underlying29, underlying51, underlying56, hz, d0, d1, d2, hs1.2 s.next (by first | omega | (simp only [St.next_new, St.next_put, St.next_kill]; omega)), hs1.2 (s.next + 1) (by first | omega | (simp only [St.next_new, St.next_put, St.next_kill]; omega)), co12]
      refine bin_spec hn' (by omega) hx' hx fun s2 hs2 => ?_
      have n2 : s1.next < s2.next := by have := hs2.1; (try simp only [St.next_new, St.next_put] at this); omega
      have d3 : ¬ s.next = s2.next := by omega
      have d4 : ¬ s.next + 1 = s2.next := by omega
      have d5 : ¬ s1.next = s2.next := by omega
      rw [bin_swap hz, t]
      unfold vA
      simp -implicitDefEqProofs only [↓Zd, (Zp), if_true, if_false, ne_eq, implies_true, forall_const, Nat.reduceEqDiff, reduceIte, reduceCtorEq, Int.reduceEq, Int.reduceNeg, Int.reduceLE, Int.reduceLT, Nat.reduceAdd, Nat.reduceLeDiff, Int.reduceToNat, Nat.reduceMul, Nat.reduceBEq, okPart, Value.cells, cut, okCell, cld2, underlying3, underlying4, underlying9, underlying23, vA, is23, ag23, ce23, fa23x0, fa23x1, fa23x2, ag3, ce3, ag9, ce9, underlying3, underlying4, underlying9, underlying5, underlying26, underlying0, be4, bn4, bv0, bv1, bv2, bv3, ze23, sz23, sz3, underlying27, underlying29, underlying51, underlying56, d0, d1, d2, d3, d4, d5, hs2.2 s.next (by first | omega | (simp only [St.next_new, St.next_put, St.next_kill]; omega)), hs2.2 (s.next + 1) (by first | omega | (simp only [St.next_new, St.next_put, St.next_kill]; omega)), hs2.2 s1.next (by first | omega | (simp only [St.next_new, St.next_put, St.next_kill]; omega)), hs1.2 s.next (by first | omega | (simp only [St.next_new, St.next_put, St.next_kill]; omega)), hs1.2 (s.next + 1) (by first | omega | (simp only [St.next_new, St.next_put, St.next_kill]; omega)), neSelf, co24]
      refine pure_spec ?_
      rw [hp']
      simp -implicitDefEqProofs only [↓Zd, (Zp), if_true, if_false, ne_eq, implies_true, forall_const, Nat.reduceEqDiff, reduceIte, reduceCtorEq, Int.reduceEq, Int.reduceNeg, Int.reduceLE, Int.reduceLT, Nat.reduceAdd, Nat.reduceLeDiff, Int.reduceToNat, Nat.reduceMul, Nat.reduceBEq, okPart, Value.cells, cut, okCell, cld2, underlying3, underlying4, underlying9, underlying23, vA, is23, ag23, ce23, fa23x0, fa23x1, fa23x2, ag3, ce3, ag9, ce9, underlying3, underlying4, underlying9, underlying5, underlying26, underlying0, be4, bn4, bv0, bv1, bv2, bv3, ze23, sz23, sz3, underlying27, underlying29, underlying51, underlying56, co11]
      refine works04_spec ?_
      simp -implicitDefEqProofs only [↓Zd, (Zp), if_true, if_false, ne_eq, implies_true, forall_const, Nat.reduceEqDiff, reduceIte, reduceCtorEq, Int.reduceEq, Int.reduceNeg, Int.reduceLE, Int.reduceLT, Nat.reduceAdd, Nat.reduceLeDiff, Int.reduceToNat, Nat.reduceMul, Nat.reduceBEq, okPart, Value.cells, cut, okCell, cld2, underlying3, underlying4, underlying9, underlying23, vA, is23, ag23, ce23, fa23x0, fa23x1, fa23x2, ag3, ce3, ag9, ce9, underlying3, underlying4, underlying9, underlying5, underlying26, underlying0, be4, bn4, bv0, bv1, bv2, bv3, ze23, sz23, sz3, underlying27, underlying29, underlying51, underlying56]
      exact h _
    · simp -implicitDefEqProofs only [↓Zd, (Zp), if_true, if_false, ne_eq, implies_true, forall_const, Nat.reduceEqDiff, reduceIte, reduceCtorEq, Int.reduceEq, Int.reduceNeg, Int.reduceLE, Int.reduceLT, Nat.reduceAdd, Nat.reduceLeDiff, Int.reduceToNat, Nat.reduceMul, Nat.reduceBEq, okPart, Value.cells, cut, okCell, cld2, underlying3, underlying4, underlying9, underlying23, vA, is23, ag23, ce23, fa23x0, fa23x1, fa23x2, ag3, ce3, ag9, ce9, underlying3, underlying4, underlying9, underlying5, underlying26, underlying0, be4, bn4, bv0, bv1, bv2, bv3, ze23, sz23, sz3, underlying27, underlying29, underlying51, underlying56, hz, d0, d1, d2, hs1.2 s.next (by first | omega | (simp only [St.next_new, St.next_put, St.next_kill]; omega)), hs1.2 (s.next + 1) (by first | omega | (simp only [St.next_new, St.next_put, St.next_kill]; omega)), co24]
      refine pure_spec ?_
      rw [hp']
      simp -implicitDefEqProofs only [↓Zd, (Zp), if_true, if_false, ne_eq, implies_true, forall_const, Nat.reduceEqDiff, reduceIte, reduceCtorEq, Int.reduceEq, Int.reduceNeg, Int.reduceLE, Int.reduceLT, Nat.reduceAdd, Nat.reduceLeDiff, Int.reduceToNat, Nat.reduceMul, Nat.reduceBEq, okPart, Value.cells, cut, okCell, cld2, underlying3, underlying4, underlying9, underlying23, vA, is23, ag23, ce23, fa23x0, fa23x1, fa23x2, ag3, ce3, ag9, ce9, underlying3, underlying4, underlying9, underlying5, underlying26, underlying0, be4, bn4, bv0, bv1, bv2, bv3, ze23, sz23, sz3, underlying27, underlying29, underlying51, underlying56, co11]
      refine works04_spec ?_
      simp -implicitDefEqProofs only [↓Zd, (Zp), if_true, if_false, ne_eq, implies_true, forall_const, Nat.reduceEqDiff, reduceIte, reduceCtorEq, Int.reduceEq, Int.reduceNeg, Int.reduceLE, Int.reduceLT, Nat.reduceAdd, Nat.reduceLeDiff, Int.reduceToNat, Nat.reduceMul, Nat.reduceBEq, okPart, Value.cells, cut, okCell, cld2, underlying3, underlying4, underlying9, underlying23, vA, is23, ag23, ce23, fa23x0, fa23x1, fa23x2, ag3, ce3, ag9, ce9, underlying3, underlying4, underlying9, underlying5, underlying26, underlying0, be4, bn4, bv0, bv1, bv2, bv3, ze23, sz23, sz3, underlying27, underlying29, underlying51, underlying56]
      exact h _
end

theorem opsSigns_walk {op : Int} (_ : -9223372036854775808 ≤ op ∧ op ≤ 9223372036854775807) {k n : Int} {x : ByteArray} (_ : (Lit.int .i64 k).wf = true) (hn : (Lit.int .i64 n).wf = true) (_ : x.size ≤ maxLen) {k' n' : Int} {x' : ByteArray} (_ : (Lit.int .i64 k').wf = true) (hn' : (Lit.int .i64 n').wf = true) (_ : x'.size ≤ maxLen) (w : World) : Calls Try.prog 7 #[.int .i64 op, vA k n x, vA k' n' x'] w fun e w' => e = .returned (.bool true) ∧ Below w.heap.size w w' :=
  calls_plain (by kernel_rfl) (opsSigns_spec (fits_i64 hn) (fits_i64 hn') fun _ => rfl)
end Go.Proofs.Try
