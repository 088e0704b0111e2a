/- The walk of the law of order. A lemma file: no statement of its own. -/
import Derived.Test.YtlijgnofegjnmaaFwF
import Derived.Test.YtlijgnofegjnmaaOpsI
set_option linter.unusedSimpArgs false
set_option linter.unusedVariables false
set_option linter.unusedSectionVars false
namespace Go.Proofs.Try
open Go.Cs
open Go.RowKit (Below)
set_option maxRecDepth 100000
attribute [local irreducible] CCalls WLoop WScope

/-- Which signs hold, by the one of 6, 8, 10 that does. -/
def ordN (t op : Int) : Int := if t = 6 then (if op = 6 ∨ op = 7 ∨ op = 11 then 1 else 0) else if t = 8 then (if op = 8 ∨ op = 9 ∨ op = 11 then 1 else 0) else (if op = 7 ∨ op = 9 ∨ op = 10 then 1 else 0)
theorem right_two {n : Int} {x : ByteArray} (h : rightV 2 n x = true) : x = ⟨#[]⟩ := by
  simp only [rightV, show ¬ ((2 : Int) = 3) by omega, show ¬ ((2 : Int) = 1) by omega, if_true, if_false, Bool.and_eq_true, decide_eq_true_eq] at h
  exact h.1
theorem right_three {n : Int} {x : ByteArray} (h : rightV 3 n x = true) : n = 0 := by
  simp only [rightV, if_true, Bool.and_eq_true, decide_eq_true_eq] at h
  exact h.2
theorem ba_list {x y : ByteArray} : x.data.toList = y.data.toList ↔ x = y := by
  constructor
  · intro h; cases x; cases y; simp_all
  · rintro rfl; rfl
theorem ord_tri {k n n' : Int} {x x' : ByteArray} (hk : k = 2 ∨ k = 3) (h : rightV k n x = true) (h' : rightV k n' x' = true) :
    ∃ t, (t = 6 ∨ t = 8 ∨ t = 10) ∧ ∀ op, 6 ≤ op ∧ op ≤ 11 → binV op k n x k n' x' 256 = .tuple #[vA 1 (ordN t op) ⟨#[]⟩, .int .i64 0] := by
  rcases hk with rfl | rfl
  · obtain rfl := right_two h
    obtain rfl := right_two h'
    rcases (show n < n' ∨ n' < n ∨ n = n' by omega) with hh | hh | hh
    · refine ⟨6, .inl rfl, fun op ho => ?_⟩
      have h1 : ¬ n' < n := by omega
      have h2 : ¬ n = n' := by omega
      rcases (show op = 6 ∨ op = 7 ∨ op = 8 ∨ op = 9 ∨ op = 10 ∨ op = 11 by omega) with rfl | rfl | rfl | rfl | rfl | rfl <;>
        simp [binV, cmpOp, cmpI_6, cmpI_7, cmpI_8, cmpI_9, hh, h1, h2, ordN, boolN, sameV]
    · refine ⟨8, .inr (.inl rfl), fun op ho => ?_⟩
      have h1 : ¬ n < n' := by omega
      have h2 : ¬ n = n' := by omega
      rcases (show op = 6 ∨ op = 7 ∨ op = 8 ∨ op = 9 ∨ op = 10 ∨ op = 11 by omega) with rfl | rfl | rfl | rfl | rfl | rfl <;>
        simp [binV, cmpOp, cmpI_6, cmpI_7, cmpI_8, cmpI_9, hh, h1, h2, ordN, boolN, sameV]
    · subst hh
      refine ⟨10, .inr (.inr rfl), fun op ho => ?_⟩
      rcases (show op = 6 ∨ op = 7 ∨ op = 8 ∨ op = 9 ∨ op = 10 ∨ op = 11 by omega) with rfl | rfl | rfl | rfl | rfl | rfl <;>
        simp [binV, cmpOp, cmpI_6, cmpI_7, cmpI_8, cmpI_9, ordN, boolN, sameV]
  · obtain rfl := right_three h
    obtain rfl := right_three h'
    rcases ltB_tri x.data.toList x'.data.toList with ⟨h1, h2, h3⟩ | ⟨h1, h2, h3⟩ | ⟨h1, h2, h3⟩
    · rw [Ne, ba_list] at h3
      refine ⟨6, .inl rfl, fun op ho => ?_⟩
      rcases (show op = 6 ∨ op = 7 ∨ op = 8 ∨ op = 9 ∨ op = 10 ∨ op = 11 by omega) with rfl | rfl | rfl | rfl | rfl | rfl <;>
        simp [binV, cmpOp, cmpL_6, cmpL_7, cmpL_8, cmpL_9, h1, h2, h3, ordN, boolN, sameV]
    · rw [Ne, ba_list] at h3
      refine ⟨8, .inr (.inl rfl), fun op ho => ?_⟩
      rcases (show op = 6 ∨ op = 7 ∨ op = 8 ∨ op = 9 ∨ op = 10 ∨ op = 11 by omega) with rfl | rfl | rfl | rfl | rfl | rfl <;>
        simp [binV, cmpOp, cmpL_6, cmpL_7, cmpL_8, cmpL_9, h1, h2, h3, ordN, boolN, sameV]
    · rw [ba_list] at h3
      subst h3
      refine ⟨10, .inr (.inr rfl), fun op ho => ?_⟩
      rcases (show op = 6 ∨ op = 7 ∨ op = 8 ∨ op = 9 ∨ op = 10 ∨ op = 11 by omega) with rfl | rfl | rfl | rfl | rfl | rfl <;>
        simp [binV, cmpOp, cmpL_6, cmpL_7, cmpL_8, cmpL_9, h1, ordN, boolN, sameV]

def cntN (t op : Int) : Int := if t < op then 1 else 0

section
variable {M : Type} [Mem M] {w0 : World} {s : St M} {R : Value → St M → Prop}

def opsOrdI (s : St M) (t k n : Int) (x : ByteArray) (k' n' : Int) (x' : ByteArray) (m : Nat) (env : Env) (s' : St M) : Prop :=
  ∃ op : Int, m = (20 - op).toNat ∧ 6 ≤ op ∧ op ≤ 12 ∧ env 6 = .int .i64 op ∧ env 5 = .int .i64 (cntN t op) ∧ s.next + 2 < s'.next ∧
    s'.at' s.next = some (.cells [.int .i64 k, .int .i64 n, .string x] 23 true) ∧ s'.at' (s.next + 1) = some (.cells [.int .i64 k', .int .i64 n', .string x'] 23 true)

set_option maxHeartbeats 16000000 in
theorem opsOrder_spec {k n k' n' : Int} {x x' : ByteArray} (hn : I64 n) (hn' : I64 n') (h : ∀ s', R (.bool true) s') : CCalls Try.prog w0 4 #[vA k n x, vA k' n' x'] s R := by
  refine wfun2 hmix ok4 (l := [vA k n x, vA k' n' x']) func4 rfl ntmps4 results4 (by simp) ?_
  have d0 : ¬ s.next = s.next + 1 + 1 := by omega
  simp -implicitDefEqProofs only [↓Zd, (Zp), if_true, if_false, ne_eq, implies_true, forall_const, Nat.reduceEqDiff, reduceIte, reduceCtorEq, Int.reduceEq, Int.reduceNeg, Int.reduceLE, Int.reduceLT, Nat.reduceAdd, Nat.reduceLeDiff, Int.reduceToNat, Nat.reduceMul, Nat.reduceBEq, okPart, Value.cells, cut, okCell, cld2, underlying3, underlying4, underlying9, underlying23, vA, is23, ag23, ce23, fa23x0, fa23x1, fa23x2, ag3, ce3, ag9, ce9, underlying3, underlying4, underlying9, underlying5, underlying26, underlying0, be4, bn4, bv0, bv1, bv2, bv3, ze23, sz23, sz3, underlying27, underlying29, underlying51, underlying56, d0, underlying44, row2, ord4, co10]
  refine short2 (a := k) (n := n) (x := x) (a' := k') (n' := n') (x' := x') (by simp) ?_
  by_cases hb : (x.size : Int) ≤ 1000 ∧ (x'.size : Int) ≤ 1000
  case neg =>
    have : (decide ((x.size : Int) ≤ 1000) && decide ((x'.size : Int) ≤ 1000)) = false := by rw [Bool.eq_false_iff]; simpa using hb
    rw [this]
    simp -implicitDefEqProofs only [↓Zd, (Zp), if_true, if_false, ne_eq, implies_true, forall_const, Nat.reduceEqDiff, reduceIte, reduceCtorEq, Int.reduceEq, Int.reduceNeg, Int.reduceLE, Int.reduceLT, Nat.reduceAdd, Nat.reduceLeDiff, Int.reduceToNat, Nat.reduceMul, Nat.reduceBEq, okPart, Value.cells, cut, okCell, cld2, underlying3, underlying4, underlying9, underlying23, vA, is23, ag23, ce23, fa23x0, fa23x1, fa23x2, ag3, ce3, ag9, ce9, underlying3, underlying4, underlying9, underlying5, underlying26, underlying0, be4, bn4, bv0, bv1, bv2, bv3, ze23, sz23, sz3, underlying27, underlying29, underlying51, underlying56, d0, co11]
    refine works04_spec ?_
    simp -implicitDefEqProofs only [↓Zd, (Zp), if_true, if_false, ne_eq, implies_true, forall_const, Nat.reduceEqDiff, reduceIte, reduceCtorEq, Int.reduceEq, Int.reduceNeg, Int.reduceLE, Int.reduceLT, Nat.reduceAdd, Nat.reduceLeDiff, Int.reduceToNat, Nat.reduceMul, Nat.reduceBEq, okPart, Value.cells, cut, okCell, cld2, underlying3, underlying4, underlying9, underlying23, vA, is23, ag23, ce23, fa23x0, fa23x1, fa23x2, ag3, ce3, ag9, ce9, underlying3, underlying4, underlying9, underlying5, underlying26, underlying0, be4, bn4, bv0, bv1, bv2, bv3, ze23, sz23, sz3, underlying27, underlying29, underlying51, underlying56]
    exact h _
  have : (decide ((x.size : Int) ≤ 1000) && decide ((x'.size : Int) ≤ 1000)) = true := by simpa using hb
  rw [this]
  have hx : x.size ≤ 1000000 := by omega
  have hx' : x'.size ≤ 1000000 := by omega
  by_cases hk : k = k'
  case neg =>
    simp -implicitDefEqProofs only [↓Zd, (Zp), if_true, if_false, ne_eq, implies_true, forall_const, Nat.reduceEqDiff, reduceIte, reduceCtorEq, Int.reduceEq, Int.reduceNeg, Int.reduceLE, Int.reduceLT, Nat.reduceAdd, Nat.reduceLeDiff, Int.reduceToNat, Nat.reduceMul, Nat.reduceBEq, okPart, Value.cells, cut, okCell, cld2, underlying3, underlying4, underlying9, underlying23, vA, is23, ag23, ce23, fa23x0, fa23x1, fa23x2, ag3, ce3, ag9, ce9, underlying3, underlying4, underlying9, underlying5, underlying26, underlying0, be4, bn4, bv0, bv1, bv2, bv3, ze23, sz23, sz3, underlying27, underlying29, underlying51, underlying56, d0, hk, co11]
    refine works04_spec ?_
    simp -implicitDefEqProofs only [↓Zd, (Zp), if_true, if_false, ne_eq, implies_true, forall_const, Nat.reduceEqDiff, reduceIte, reduceCtorEq, Int.reduceEq, Int.reduceNeg, Int.reduceLE, Int.reduceLT, Nat.reduceAdd, Nat.reduceLeDiff, Int.reduceToNat, Nat.reduceMul, Nat.reduceBEq, okPart, Value.cells, cut, okCell, cld2, underlying3, underlying4, underlying9, underlying23, vA, is23, ag23, ce23, fa23x0, fa23x1, fa23x2, ag3, ce3, ag9, ce9, underlying3, underlying4, underlying9, underlying5, underlying26, underlying0, be4, bn4, bv0, bv1, bv2, bv3, ze23, sz23, sz3, underlying27, underlying29, underlying51, underlying56]
    exact h _
  subst hk
  by_cases h23 : k = 2 ∨ k = 3
  case neg =>
    have h2 : ¬ k = 2 := by omega
    have h3 : ¬ k = 3 := by omega
    simp -implicitDefEqProofs only [↓Zd, (Zp), if_true, if_false, ne_eq, implies_true, forall_const, Nat.reduceEqDiff, reduceIte, reduceCtorEq, Int.reduceEq, Int.reduceNeg, Int.reduceLE, Int.reduceLT, Nat.reduceAdd, Nat.reduceLeDiff, Int.reduceToNat, Nat.reduceMul, Nat.reduceBEq, okPart, Value.cells, cut, okCell, cld2, underlying3, underlying4, underlying9, underlying23, vA, is23, ag23, ce23, fa23x0, fa23x1, fa23x2, ag3, ce3, ag9, ce9, underlying3, underlying4, underlying9, underlying5, underlying26, underlying0, be4, bn4, bv0, bv1, bv2, bv3, ze23, sz23, sz3, underlying27, underlying29, underlying51, underlying56, d0, h2, h3, co11]
    refine works04_spec ?_
    simp -implicitDefEqProofs only [↓Zd, (Zp), if_true, if_false, ne_eq, implies_true, forall_const, Nat.reduceEqDiff, reduceIte, reduceCtorEq, Int.reduceEq, Int.reduceNeg, Int.reduceLE, Int.reduceLT, Nat.reduceAdd, Nat.reduceLeDiff, Int.reduceToNat, Nat.reduceMul, Nat.reduceBEq, okPart, Value.cells, cut, okCell, cld2, underlying3, underlying4, underlying9, underlying23, vA, is23, ag23, ce23, fa23x0, fa23x1, fa23x2, ag3, ce3, ag9, ce9, underlying3, underlying4, underlying9, underlying5, underlying26, underlying0, be4, bn4, bv0, bv1, bv2, bv3, ze23, sz23, sz3, underlying27, underlying29, underlying51, underlying56]
    exact h _
  have h2s : ((k = 2) = True ∧ (k = 3) = False) ∨ ((k = 2) = False ∧ (k = 3) = True) := by
    rcases h23 with rfl | rfl
    · exact .inl ⟨by simp, by simp⟩
    · exact .inr ⟨by simp, by simp⟩
  rcases h2s with ⟨h2, h3⟩ | ⟨h2, h3⟩
  all_goals
    simp -implicitDefEqProofs only [↓Zd, (Zp), if_true, if_false, ne_eq, implies_true, forall_const, Nat.reduceEqDiff, reduceIte, reduceCtorEq, Int.reduceEq, Int.reduceNeg, Int.reduceLE, Int.reduceLT, Nat.reduceAdd, Nat.reduceLeDiff, Int.reduceToNat, Nat.reduceMul, Nat.reduceBEq, okPart, Value.cells, cut, okCell, cld2, underlying3, underlying4, underlying9, underlying23, vA, is23, ag23, ce23, fa23x0, fa23x1, fa23x2, ag3, ce3, ag9, ce9, underlying3, underlying4, underlying9, underlying5, underlying26, underlying0, be4, bn4, bv0, bv1, bv2, bv3, ze23, sz23, sz3, underlying27, underlying29, underlying51, underlying56, d0, h2, h3, co14]
    refine rright_le hn fun s1 hs1 => ?_
    have n1 : s.next + 2 < s1.next := by have := hs1.1; (try simp only [St.next_new, St.next_put] at this); omega
    by_cases hr : rightV k n x = true
    case neg =>
      have hr0 := Bool.eq_false_iff.2 hr
      rw [hr0]
      simp -implicitDefEqProofs only [↓Zd, (Zp), if_true, if_false, ne_eq, implies_true, forall_const, Nat.reduceEqDiff, reduceIte, reduceCtorEq, Int.reduceEq, Int.reduceNeg, Int.reduceLE, Int.reduceLT, Nat.reduceAdd, Nat.reduceLeDiff, Int.reduceToNat, Nat.reduceMul, Nat.reduceBEq, okPart, Value.cells, cut, okCell, cld2, underlying3, underlying4, underlying9, underlying23, vA, is23, ag23, ce23, fa23x0, fa23x1, fa23x2, ag3, ce3, ag9, ce9, underlying3, underlying4, underlying9, underlying5, underlying26, underlying0, be4, bn4, bv0, bv1, bv2, bv3, ze23, sz23, sz3, underlying27, underlying29, underlying51, underlying56, co11]
      refine works04_spec ?_
      simp -implicitDefEqProofs only [↓Zd, (Zp), if_true, if_false, ne_eq, implies_true, forall_const, Nat.reduceEqDiff, reduceIte, reduceCtorEq, Int.reduceEq, Int.reduceNeg, Int.reduceLE, Int.reduceLT, Nat.reduceAdd, Nat.reduceLeDiff, Int.reduceToNat, Nat.reduceMul, Nat.reduceBEq, okPart, Value.cells, cut, okCell, cld2, underlying3, underlying4, underlying9, underlying23, vA, is23, ag23, ce23, fa23x0, fa23x1, fa23x2, ag3, ce3, ag9, ce9, underlying3, underlying4, underlying9, underlying5, underlying26, underlying0, be4, bn4, bv0, bv1, bv2, bv3, ze23, sz23, sz3, underlying27, underlying29, underlying51, underlying56]
      exact h _
    rw [hr]
    simp -implicitDefEqProofs only [↓Zd, (Zp), if_true, if_false, ne_eq, implies_true, forall_const, Nat.reduceEqDiff, reduceIte, reduceCtorEq, Int.reduceEq, Int.reduceNeg, Int.reduceLE, Int.reduceLT, Nat.reduceAdd, Nat.reduceLeDiff, Int.reduceToNat, Nat.reduceMul, Nat.reduceBEq, okPart, Value.cells, cut, okCell, cld2, underlying3, underlying4, underlying9, underlying23, vA, is23, ag23, ce23, fa23x0, fa23x1, fa23x2, ag3, ce3, ag9, ce9, underlying3, underlying4, underlying9, underlying5, underlying26, underlying0, be4, bn4, bv0, bv1, bv2, bv3, ze23, sz23, sz3, underlying27, underlying29, underlying51, underlying56, d0, hs1.2 s.next (by first | omega | (simp only [St.next_new, St.next_put, St.next_kill]; omega)), hs1.2 (s.next + 1) (by first | omega | (simp only [St.next_new, St.next_put, St.next_kill]; omega)), co14]
    refine rright_le hn' fun s2 hs2 => ?_
    have n2 : s1.next ≤ s2.next := by have := hs2.1; (try simp only [St.next_new, St.next_put] at this); omega
    by_cases hr' : rightV k n' x' = true
    case neg =>
      have hr0 := Bool.eq_false_iff.2 hr'
      rw [hr0]
      simp -implicitDefEqProofs only [↓Zd, (Zp), if_true, if_false, ne_eq, implies_true, forall_const, Nat.reduceEqDiff, reduceIte, reduceCtorEq, Int.reduceEq, Int.reduceNeg, Int.reduceLE, Int.reduceLT, Nat.reduceAdd, Nat.reduceLeDiff, Int.reduceToNat, Nat.reduceMul, Nat.reduceBEq, okPart, Value.cells, cut, okCell, cld2, underlying3, underlying4, underlying9, underlying23, vA, is23, ag23, ce23, fa23x0, fa23x1, fa23x2, ag3, ce3, ag9, ce9, underlying3, underlying4, underlying9, underlying5, underlying26, underlying0, be4, bn4, bv0, bv1, bv2, bv3, ze23, sz23, sz3, underlying27, underlying29, underlying51, underlying56, co11]
      refine works04_spec ?_
      simp -implicitDefEqProofs only [↓Zd, (Zp), if_true, if_false, ne_eq, implies_true, forall_const, Nat.reduceEqDiff, reduceIte, reduceCtorEq, Int.reduceEq, Int.reduceNeg, Int.reduceLE, Int.reduceLT, Nat.reduceAdd, Nat.reduceLeDiff, Int.reduceToNat, Nat.reduceMul, Nat.reduceBEq, okPart, Value.cells, cut, okCell, cld2, underlying3, underlying4, underlying9, underlying23, vA, is23, ag23, ce23, fa23x0, fa23x1, fa23x2, ag3, ce3, ag9, ce9, underlying3, underlying4, underlying9, underlying5, underlying26, underlying0, be4, bn4, bv0, bv1, bv2, bv3, ze23, sz23, sz3, underlying27, underlying29, underlying51, underlying56]
      exact h _
    rw [hr']
    obtain ⟨t, ht, hop⟩ := ord_tri h23 hr hr'
    simp -implicitDefEqProofs only [↓Zd, (Zp), if_true, if_false, ne_eq, implies_true, forall_const, Nat.reduceEqDiff, reduceIte, reduceCtorEq, Int.reduceEq, Int.reduceNeg, Int.reduceLE, Int.reduceLT, Nat.reduceAdd, Nat.reduceLeDiff, Int.reduceToNat, Nat.reduceMul, Nat.reduceBEq, okPart, Value.cells, cut, okCell, cld2, underlying3, underlying4, underlying9, underlying23, vA, is23, ag23, ce23, fa23x0, fa23x1, fa23x2, ag3, ce3, ag9, ce9, underlying3, underlying4, underlying9, underlying5, underlying26, underlying0, be4, bn4, bv0, bv1, bv2, bv3, ze23, sz23, sz3, underlying27, underlying29, underlying51, underlying56, d0, hs2.2 s.next (by first | omega | (simp only [St.next_new, St.next_put, St.next_kill]; omega)), hs2.2 (s.next + 1) (by first | omega | (simp only [St.next_new, St.next_put, St.next_kill]; omega)), hs1.2 s.next (by first | omega | (simp only [St.next_new, St.next_put, St.next_kill]; omega)), hs1.2 (s.next + 1) (by first | omega | (simp only [St.next_new, St.next_put, St.next_kill]; omega))]
    refine wloop_fix hmix [46, 47, 51, 52, 53, 54, 50, 55, 56, 7, 8, 57, 58, 59, 60, 61, 62, 63, 4, 64, 65, 66, 67, 68, 69, 70, 71, 72, 73, 74, 75, 76, 77, 78, 79, 80, 5, 48, 49, 6] (opsOrdI s t k n x k n' x') 14 ?_ ?_
    · refine ⟨6, rfl, by omega, by omega, rfl, ?_, by omega, ?_, ?_⟩
      · show Value.int .i64 0 = _
        rw [cntN, if_neg (by omega)]
      · simp [d0, hs2.2 s.next (by first | omega | (simp only [St.next_new, St.next_put, St.next_kill]; omega)), hs1.2 s.next (by first | omega | (simp only [St.next_new, St.next_put, St.next_kill]; omega))]
      · simp [d0, hs2.2 (s.next + 1) (by first | omega | (simp only [St.next_new, St.next_put, St.next_kill]; omega)), hs1.2 (s.next + 1) (by first | omega | (simp only [St.next_new, St.next_put, St.next_kill]; omega))]
    · rintro m env s' hF ⟨op, rfl, ho6, ho12, e6, e5, hl, a0, a1⟩
      have e2 : env 2 = .pointer (some ⟨s.next, 0, none⟩) := by rw [hF 2 rfl]; rfl
      have e3 : env 3 = .pointer (some ⟨s.next + 1, 0, none⟩) := by rw [hF 3 rfl]; rfl
      by_cases hlt : op ≤ 11
      · have w6 : IntKind.i64.wrap (op + 1) = op + 1 := wrap_i64 (by omega)
        simp -implicitDefEqProofs only [↓Zd, (Zp), if_true, if_false, ne_eq, implies_true, forall_const, Nat.reduceEqDiff, reduceIte, reduceCtorEq, Int.reduceEq, Int.reduceNeg, Int.reduceLE, Int.reduceLT, Nat.reduceAdd, Nat.reduceLeDiff, Int.reduceToNat, Nat.reduceMul, Nat.reduceBEq, okPart, Value.cells, cut, okCell, cld2, underlying3, underlying4, underlying9, underlying23, vA, is23, ag23, ce23, fa23x0, fa23x1, fa23x2, ag3, ce3, ag9, ce9, underlying3, underlying4, underlying9, underlying5, underlying26, underlying0, be4, bn4, bv0, bv1, bv2, bv3, ze23, sz23, sz3, underlying27, underlying29, underlying51, underlying56, e2, e3, e6, hlt, a0, a1, co12]
        refine bin_spec hn (by omega) hx hx' fun s3 hs3 => ?_
        rw [hop op (by omega)]
        unfold vA
        have n3 : s.next + 2 < s3.next := by have := hs3.1; omega
        have d1 : ¬ s.next = s3.next := by omega
        have d2 : ¬ s.next + 1 = s3.next := by omega
        by_cases hot : op = t
        · have ho1 : ordN t op = 1 := by subst hot; rcases ht with rfl | rfl | rfl <;> rfl
          have hc0 : cntN t op = 0 := by rw [cntN, if_neg (by omega)]
          have hcc : cntN t (op + 1) = 1 := by rw [cntN, if_pos (by omega)]
          have w5 : IntKind.i64.wrap (0 + 1) = 1 := by decide
          rw [hc0] at e5
          have h6 : op = 6 ∨ (¬ op = 6 ∧ op = 8) ∨ (¬ op = 6 ∧ ¬ op = 8 ∧ op = 10) := by omega
          rcases h6 with h6 | ⟨h6, h8⟩ | ⟨h6, h8, h10⟩
          · have h6 : (op = 6) = True := eq_true h6
            simp -implicitDefEqProofs only [↓Zd, (Zp), if_true, if_false, ne_eq, implies_true, forall_const, Nat.reduceEqDiff, reduceIte, reduceCtorEq, Int.reduceEq, Int.reduceNeg, Int.reduceLE, Int.reduceLT, Nat.reduceAdd, Nat.reduceLeDiff, Int.reduceToNat, Nat.reduceMul, Nat.reduceBEq, okPart, Value.cells, cut, okCell, cld2, underlying3, underlying4, underlying9, underlying23, vA, is23, ag23, ce23, fa23x0, fa23x1, fa23x2, ag3, ce3, ag9, ce9, underlying3, underlying4, underlying9, underlying5, underlying26, underlying0, be4, bn4, bv0, bv1, bv2, bv3, ze23, sz23, sz3, underlying27, underlying29, underlying51, underlying56, e2, e3, e5, e6, d1, d2, a0, a1, ho1, h6, w5, w6, ord4]
            refine ⟨?_, (20 - (op + 1)).toNat, by omega, op + 1, rfl, by omega, by omega, rfl, ?_, ?_, ?_, ?_⟩
            · repeat (first | exact hF | refine Fix.upd (by decide) ?_)
            · rw [hcc]; exact rfl
            · simp; omega
            · simp [d1, d2, hs3.2 s.next (by first | omega | (simp only [St.next_new, St.next_put, St.next_kill]; omega)), a0]
            · simp [d1, d2, hs3.2 (s.next + 1) (by first | omega | (simp only [St.next_new, St.next_put, St.next_kill]; omega)), a1]
          · have h8 : (op = 8) = True := eq_true h8
            simp -implicitDefEqProofs only [↓Zd, (Zp), if_true, if_false, ne_eq, implies_true, forall_const, Nat.reduceEqDiff, reduceIte, reduceCtorEq, Int.reduceEq, Int.reduceNeg, Int.reduceLE, Int.reduceLT, Nat.reduceAdd, Nat.reduceLeDiff, Int.reduceToNat, Nat.reduceMul, Nat.reduceBEq, okPart, Value.cells, cut, okCell, cld2, underlying3, underlying4, underlying9, underlying23, vA, is23, ag23, ce23, fa23x0, fa23x1, fa23x2, ag3, ce3, ag9, ce9, underlying3, underlying4, underlying9, underlying5, underlying26, underlying0, be4, bn4, bv0, bv1, bv2, bv3, ze23, sz23, sz3, underlying27, underlying29, underlying51, underlying56, e2, e3, e5, e6, d1, d2, a0, a1, ho1, h6, h8, w5, w6, ord4]
            refine ⟨?_, (20 - (op + 1)).toNat, by omega, op + 1, rfl, by omega, by omega, rfl, ?_, ?_, ?_, ?_⟩
            · repeat (first | exact hF | refine Fix.upd (by decide) ?_)
            · rw [hcc]; exact rfl
            · simp; omega
            · simp [d1, d2, hs3.2 s.next (by first | omega | (simp only [St.next_new, St.next_put, St.next_kill]; omega)), a0]
            · simp [d1, d2, hs3.2 (s.next + 1) (by first | omega | (simp only [St.next_new, St.next_put, St.next_kill]; omega)), a1]
          · have h10 : (op = 10) = True := eq_true h10
            simp -implicitDefEqProofs only [↓Zd, (Zp), if_true, if_false, ne_eq, implies_true, forall_const, Nat.reduceEqDiff, reduceIte, reduceCtorEq, Int.reduceEq, Int.reduceNeg, Int.reduceLE, Int.reduceLT, Nat.reduceAdd, Nat.reduceLeDiff, Int.reduceToNat, Nat.reduceMul, Nat.reduceBEq, okPart, Value.cells, cut, okCell, cld2, underlying3, underlying4, underlying9, underlying23, vA, is23, ag23, ce23, fa23x0, fa23x1, fa23x2, ag3, ce3, ag9, ce9, underlying3, underlying4, underlying9, underlying5, underlying26, underlying0, be4, bn4, bv0, bv1, bv2, bv3, ze23, sz23, sz3, underlying27, underlying29, underlying51, underlying56, e2, e3, e5, e6, d1, d2, a0, a1, ho1, h6, h8, h10, w5, w6, ord4]
            refine ⟨?_, (20 - (op + 1)).toNat, by omega, op + 1, rfl, by omega, by omega, rfl, ?_, ?_, ?_, ?_⟩
            · repeat (first | exact hF | refine Fix.upd (by decide) ?_)
            · rw [hcc]; exact rfl
            · simp; omega
            · simp [d1, d2, hs3.2 s.next (by first | omega | (simp only [St.next_new, St.next_put, St.next_kill]; omega)), a0]
            · simp [d1, d2, hs3.2 (s.next + 1) (by first | omega | (simp only [St.next_new, St.next_put, St.next_kill]; omega)), a1]
        · have hcc : cntN t (op + 1) = cntN t op := by
            unfold cntN
            by_cases hh : t < op
            · rw [if_pos hh, if_pos (by omega)]
            · rw [if_neg hh, if_neg (by omega)]
          have ho01 : ordN t op = 0 ∨ (ordN t op = 1 ∧ ¬ op = 6 ∧ ¬ op = 8 ∧ ¬ op = 10) := by
            rcases (show op = 6 ∨ op = 7 ∨ op = 8 ∨ op = 9 ∨ op = 10 ∨ op = 11 by omega) with rfl | rfl | rfl | rfl | rfl | rfl <;> rcases ht with rfl | rfl | rfl <;> simp [ordN] at hot ⊢
          rcases ho01 with ho0 | ⟨ho0, h6, h8, h10⟩
          · simp -implicitDefEqProofs only [↓Zd, (Zp), if_true, if_false, ne_eq, implies_true, forall_const, Nat.reduceEqDiff, reduceIte, reduceCtorEq, Int.reduceEq, Int.reduceNeg, Int.reduceLE, Int.reduceLT, Nat.reduceAdd, Nat.reduceLeDiff, Int.reduceToNat, Nat.reduceMul, Nat.reduceBEq, okPart, Value.cells, cut, okCell, cld2, underlying3, underlying4, underlying9, underlying23, vA, is23, ag23, ce23, fa23x0, fa23x1, fa23x2, ag3, ce3, ag9, ce9, underlying3, underlying4, underlying9, underlying5, underlying26, underlying0, be4, bn4, bv0, bv1, bv2, bv3, ze23, sz23, sz3, underlying27, underlying29, underlying51, underlying56, e2, e3, e5, e6, d1, d2, a0, a1, ho0, w6, ord4]
            refine ⟨?_, (20 - (op + 1)).toNat, by omega, op + 1, rfl, by omega, by omega, rfl, ?_, ?_, ?_, ?_⟩
            · repeat (first | exact hF | refine Fix.upd (by decide) ?_)
            · rw [hcc]; exact e5
            · simp; omega
            · simp [d1, d2, hs3.2 s.next (by first | omega | (simp only [St.next_new, St.next_put, St.next_kill]; omega)), a0]
            · simp [d1, d2, hs3.2 (s.next + 1) (by first | omega | (simp only [St.next_new, St.next_put, St.next_kill]; omega)), a1]
          · simp -implicitDefEqProofs only [↓Zd, (Zp), if_true, if_false, ne_eq, implies_true, forall_const, Nat.reduceEqDiff, reduceIte, reduceCtorEq, Int.reduceEq, Int.reduceNeg, Int.reduceLE, Int.reduceLT, Nat.reduceAdd, Nat.reduceLeDiff, Int.reduceToNat, Nat.reduceMul, Nat.reduceBEq, okPart, Value.cells, cut, okCell, cld2, underlying3, underlying4, underlying9, underlying23, vA, is23, ag23, ce23, fa23x0, fa23x1, fa23x2, ag3, ce3, ag9, ce9, underlying3, underlying4, underlying9, underlying5, underlying26, underlying0, be4, bn4, bv0, bv1, bv2, bv3, ze23, sz23, sz3, underlying27, underlying29, underlying51, underlying56, e2, e3, e5, e6, d1, d2, a0, a1, ho0, h6, h8, h10, w6, ord4]
            refine ⟨?_, (20 - (op + 1)).toNat, by omega, op + 1, rfl, by omega, by omega, rfl, ?_, ?_, ?_, ?_⟩
            · repeat (first | exact hF | refine Fix.upd (by decide) ?_)
            · rw [hcc]; exact e5
            · simp; omega
            · simp [d1, d2, hs3.2 s.next (by first | omega | (simp only [St.next_new, St.next_put, St.next_kill]; omega)), a0]
            · simp [d1, d2, hs3.2 (s.next + 1) (by first | omega | (simp only [St.next_new, St.next_put, St.next_kill]; omega)), a1]
      · obtain rfl : op = 12 := by omega
        have hc1 : cntN t 12 = 1 := by rw [cntN, if_pos (by omega)]
        rw [hc1] at e5
        simp -implicitDefEqProofs only [↓Zd, (Zp), if_true, if_false, ne_eq, implies_true, forall_const, Nat.reduceEqDiff, reduceIte, reduceCtorEq, Int.reduceEq, Int.reduceNeg, Int.reduceLE, Int.reduceLT, Nat.reduceAdd, Nat.reduceLeDiff, Int.reduceToNat, Nat.reduceMul, Nat.reduceBEq, okPart, Value.cells, cut, okCell, cld2, underlying3, underlying4, underlying9, underlying23, vA, is23, ag23, ce23, fa23x0, fa23x1, fa23x2, ag3, ce3, ag9, ce9, underlying3, underlying4, underlying9, underlying5, underlying26, underlying0, be4, bn4, bv0, bv1, bv2, bv3, ze23, sz23, sz3, underlying27, underlying29, underlying51, underlying56, e2, e3, e5, e6, hlt, a0, a1, co12]
        refine bin_spec hn (by omega) hx hx' fun s3 hs3 => ?_
        rw [hop 6 (by omega)]
        unfold vA
        have n3 : s.next + 2 < s3.next := by have := hs3.1; omega
        have d1 : ¬ s.next = s3.next := by omega
        have d2 : ¬ s.next + 1 = s3.next := by omega
        simp -implicitDefEqProofs only [↓Zd, (Zp), if_true, if_false, ne_eq, implies_true, forall_const, Nat.reduceEqDiff, reduceIte, reduceCtorEq, Int.reduceEq, Int.reduceNeg, Int.reduceLE, Int.reduceLT, Nat.reduceAdd, Nat.reduceLeDiff, Int.reduceToNat, Nat.reduceMul, Nat.reduceBEq, okPart, Value.cells, cut, okCell, cld2, underlying3, underlying4, underlying9, underlying23, vA, is23, ag23, ce23, fa23x0, fa23x1, fa23x2, ag3, ce3, ag9, ce9, underlying3, underlying4, underlying9, underlying5, underlying26, underlying0, be4, bn4, bv0, bv1, bv2, bv3, ze23, sz23, sz3, underlying27, underlying29, underlying51, underlying56, e2, e3, e5, a0, a1, d1, d2, hs3.2 s.next (by first | omega | (simp only [St.next_new, St.next_put, St.next_kill]; omega)), hs3.2 (s.next + 1) (by first | omega | (simp only [St.next_new, St.next_put, St.next_kill]; omega)), co12]
        refine bin_spec hn (by omega) hx hx' fun s4 hs4 => ?_
        rw [hop 9 (by omega)]
        unfold vA
        have n4 : s3.next < s4.next := by have := hs4.1; (try simp only [St.next_new, St.next_put] at this); omega
        have d3 : ¬ s3.next = s4.next := by omega
        have hne : ¬ ordN t 6 = ordN t 9 := by rcases ht with rfl | rfl | rfl <;> decide
        simp -implicitDefEqProofs only [↓Zd, (Zp), if_true, if_false, ne_eq, implies_true, forall_const, Nat.reduceEqDiff, reduceIte, reduceCtorEq, Int.reduceEq, Int.reduceNeg, Int.reduceLE, Int.reduceLT, Nat.reduceAdd, Nat.reduceLeDiff, Int.reduceToNat, Nat.reduceMul, Nat.reduceBEq, okPart, Value.cells, cut, okCell, cld2, underlying3, underlying4, underlying9, underlying23, vA, is23, ag23, ce23, fa23x0, fa23x1, fa23x2, ag3, ce3, ag9, ce9, underlying3, underlying4, underlying9, underlying5, underlying26, underlying0, be4, bn4, bv0, bv1, bv2, bv3, ze23, sz23, sz3, underlying27, underlying29, underlying51, underlying56, e2, e3, e5, d3, hne, hs4.2 s3.next (by first | omega | (simp only [St.next_new, St.next_put, St.next_kill]; omega)), ord4, co11]
        refine works04_spec ?_
        simp -implicitDefEqProofs only [↓Zd, (Zp), if_true, if_false, ne_eq, implies_true, forall_const, Nat.reduceEqDiff, reduceIte, reduceCtorEq, Int.reduceEq, Int.reduceNeg, Int.reduceLE, Int.reduceLT, Nat.reduceAdd, Nat.reduceLeDiff, Int.reduceToNat, Nat.reduceMul, Nat.reduceBEq, okPart, Value.cells, cut, okCell, cld2, underlying3, underlying4, underlying9, underlying23, vA, is23, ag23, ce23, fa23x0, fa23x1, fa23x2, ag3, ce3, ag9, ce9, underlying3, underlying4, underlying9, underlying5, underlying26, underlying0, be4, bn4, bv0, bv1, bv2, bv3, ze23, sz23, sz3, underlying27, underlying29, underlying51, underlying56]
        exact h _
end

theorem opsOrder_walk {k n : Int} {x : ByteArray} (_ : (Lit.int .i64 k).wf = true) (hn : (Lit.int .i64 n).wf = true) (_ : x.size ≤ maxLen) {k' n' : Int} {x' : ByteArray} (_ : (Lit.int .i64 k').wf = true) (hn' : (Lit.int .i64 n').wf = true) (_ : x'.size ≤ maxLen) (w : World) : Calls Try.prog 4 #[vA k n x, vA k' n' x'] w fun e w' => e = .returned (.bool true) ∧ Below w.heap.size w w' :=
  calls_plain (by kernel_rfl) (opsOrder_spec (fits_i64 hn) (fits_i64 hn') fun _ => rfl)
end Go.Proofs.Try
