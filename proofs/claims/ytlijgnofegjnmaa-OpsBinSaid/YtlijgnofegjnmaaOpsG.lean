/- The walk of the law of signs between two values. A lemma file: no statement of its own. -/
import Derived.Test.YtlijgnofegjnmaaFwF
import Derived.Test.YtlijgnofegjnmaaOpsF
set_option linter.unusedSimpArgs false
set_option linter.unusedVariables false
set_option linter.unusedSectionVars false
namespace Go.Proofs.Try
open Go.Cs
open Go.RowKit (Below)
set_option maxRecDepth 100000
attribute [local irreducible] CCalls WLoop WScope

section
variable {M : Type} [Mem M] {w0 : World} {s : St M} {R : Value → St M → Prop}

def opsBinI (s : St M) (k n : Int) (x : ByteArray) (k' n' : Int) (x' : ByteArray) (m : Nat) (env : Env) (s' : St M) : Prop :=
  ∃ most : Int, m = (700 - most).toNat ∧ 0 ≤ most ∧ most ≤ 700 ∧ env 7 = .int .i64 most ∧ s.next + 2 < s'.next ∧
    s'.at' s.next = some (.cells [.int .i64 k, .int .i64 n, .string x] 23 true) ∧ s'.at' (s.next + 1) = some (.cells [.int .i64 k', .int .i64 n', .string x'] 23 true)

set_option maxHeartbeats 16000000 in
theorem opsBin_spec {op k n k' n' : Int} {x x' : ByteArray} (hn : I64 n) (h : ∀ s', R (.bool true) s') : CCalls Try.prog w0 3 #[.int .i64 op, vA k n x, vA k' n' x'] s R := by
  refine wfun2 hmix ok3 (l := [.int .i64 op, vA k n x, vA k' n' x']) func3 rfl ntmps3 results3 (by simp) ?_
  simp -implicitDefEqProofs only [↓Zd, (Zp), if_true, if_false, ne_eq, implies_true, forall_const, Nat.reduceEqDiff, reduceIte, reduceCtorEq, Int.reduceEq, Int.reduceNeg, Int.reduceLE, Int.reduceLT, Nat.reduceAdd, Nat.reduceLeDiff, Int.reduceToNat, Nat.reduceMul, Nat.reduceBEq, okPart, Value.cells, cut, okCell, cld2, underlying3, underlying4, underlying9, underlying23, vA, is23, ag23, ce23, fa23x0, fa23x1, fa23x2, ag3, ce3, ag9, ce9, underlying3, underlying4, underlying9, underlying5, underlying26, underlying0, be4, bn4, bv0, bv1, bv2, bv3, ze23, sz23, sz3, underlying27, underlying29, underlying51, underlying56, underlying44, row2, co10]
  refine short2 (a := k) (n := n) (x := x) (a' := k') (n' := n') (x' := x') (by simp) ?_
  by_cases hb : (x.size : Int) ≤ 1000 ∧ (x'.size : Int) ≤ 1000
  case neg =>
    have : (decide ((x.size : Int) ≤ 1000) && decide ((x'.size : Int) ≤ 1000)) = false := by rw [Bool.eq_false_iff]; simpa using hb
    rw [this]
    simp -implicitDefEqProofs only [↓Zd, (Zp), if_true, if_false, ne_eq, implies_true, forall_const, Nat.reduceEqDiff, reduceIte, reduceCtorEq, Int.reduceEq, Int.reduceNeg, Int.reduceLE, Int.reduceLT, Nat.reduceAdd, Nat.reduceLeDiff, Int.reduceToNat, Nat.reduceMul, Nat.reduceBEq, okPart, Value.cells, cut, okCell, cld2, underlying3, underlying4, underlying9, underlying23, vA, is23, ag23, ce23, fa23x0, fa23x1, fa23x2, ag3, ce3, ag9, ce9, underlying3, underlying4, underlying9, underlying5, underlying26, underlying0, be4, bn4, bv0, bv1, bv2, bv3, ze23, sz23, sz3, underlying27, underlying29, underlying51, underlying56, co11]
    refine works04_spec ?_
    simp -implicitDefEqProofs only [↓Zd, (Zp), if_true, if_false, ne_eq, implies_true, forall_const, Nat.reduceEqDiff, reduceIte, reduceCtorEq, Int.reduceEq, Int.reduceNeg, Int.reduceLE, Int.reduceLT, Nat.reduceAdd, Nat.reduceLeDiff, Int.reduceToNat, Nat.reduceMul, Nat.reduceBEq, okPart, Value.cells, cut, okCell, cld2, underlying3, underlying4, underlying9, underlying23, vA, is23, ag23, ce23, fa23x0, fa23x1, fa23x2, ag3, ce3, ag9, ce9, underlying3, underlying4, underlying9, underlying5, underlying26, underlying0, be4, bn4, bv0, bv1, bv2, bv3, ze23, sz23, sz3, underlying27, underlying29, underlying51, underlying56]
    exact h _
  have : (decide ((x.size : Int) ≤ 1000) && decide ((x'.size : Int) ≤ 1000)) = true := by simpa using hb
  rw [this]
  have hx : x.size ≤ 1000000 := by omega
  have hx' : x'.size ≤ 1000000 := by omega
  simp -implicitDefEqProofs only [↓Zd, (Zp), if_true, if_false, ne_eq, implies_true, forall_const, Nat.reduceEqDiff, reduceIte, reduceCtorEq, Int.reduceEq, Int.reduceNeg, Int.reduceLE, Int.reduceLT, Nat.reduceAdd, Nat.reduceLeDiff, Int.reduceToNat, Nat.reduceMul, Nat.reduceBEq, okPart, Value.cells, cut, okCell, cld2, underlying3, underlying4, underlying9, underlying23, vA, is23, ag23, ce23, fa23x0, fa23x1, fa23x2, ag3, ce3, ag9, ce9, underlying3, underlying4, underlying9, underlying5, underlying26, underlying0, be4, bn4, bv0, bv1, bv2, bv3, ze23, sz23, sz3, underlying27, underlying29, underlying51, underlying56]
  refine wloop_fix hmix [18, 19, 23, 24, 25, 26, 27, 22, 28, 29, 8, 9, 31, 32, 33, 34, 35, 30, 36, 37, 10, 11, 38, 39, 40, 41, 42, 43, 44, 45, 6, 20, 21, 7] (opsBinI s k n x k' n' x') 700 ?_ ?_
  · exact ⟨0, rfl, by omega, by omega, rfl, by simp, by first | (simp; done) | (simp; omega), by first | (simp; done) | (simp; omega)⟩
  · rintro m env s' hF ⟨most, rfl, h0, h7, e7, hl, a0, a1⟩
    have e0 : env 0 = .int .i64 op := by rw [hF 0 rfl]; rfl
    have e4 : env 4 = .pointer (some ⟨s.next, 0, none⟩) := by rw [hF 4 rfl]; rfl
    have e5 : env 5 = .pointer (some ⟨s.next + 1, 0, none⟩) := by rw [hF 5 rfl]; rfl
    by_cases hlt : most < 600
    · have w7 : IntKind.i64.wrap (most + 97) = most + 97 := wrap_i64 (by omega)
      simp -implicitDefEqProofs only [↓Zd, (Zp), if_true, if_false, ne_eq, implies_true, forall_const, Nat.reduceEqDiff, reduceIte, reduceCtorEq, Int.reduceEq, Int.reduceNeg, Int.reduceLE, Int.reduceLT, Nat.reduceAdd, Nat.reduceLeDiff, Int.reduceToNat, Nat.reduceMul, Nat.reduceBEq, okPart, Value.cells, cut, okCell, cld2, underlying3, underlying4, underlying9, underlying23, vA, is23, ag23, ce23, fa23x0, fa23x1, fa23x2, ag3, ce3, ag9, ce9, underlying3, underlying4, underlying9, underlying5, underlying26, underlying0, be4, bn4, bv0, bv1, bv2, bv3, ze23, sz23, sz3, underlying27, underlying29, underlying51, underlying56, e0, e4, e5, e7, hlt, a0, a1, co12]
      refine bin_spec hn (by omega) hx hx' fun s1 hs1 => ?_
      obtain ⟨a, b, y, e, t⟩ := binV_tup op k n x k' n' x' most
      rw [t]
      unfold vA
      have n1 : s.next + 2 < s1.next := by have := hs1.1; omega
      have d1 : ¬ s.next = s1.next := by omega
      have d2 : ¬ s.next + 1 = s1.next := by omega
      simp -implicitDefEqProofs only [↓Zd, (Zp), if_true, if_false, ne_eq, implies_true, forall_const, Nat.reduceEqDiff, reduceIte, reduceCtorEq, Int.reduceEq, Int.reduceNeg, Int.reduceLE, Int.reduceLT, Nat.reduceAdd, Nat.reduceLeDiff, Int.reduceToNat, Nat.reduceMul, Nat.reduceBEq, okPart, Value.cells, cut, okCell, cld2, underlying3, underlying4, underlying9, underlying23, vA, is23, ag23, ce23, fa23x0, fa23x1, fa23x2, ag3, ce3, ag9, ce9, underlying3, underlying4, underlying9, underlying5, underlying26, underlying0, be4, bn4, bv0, bv1, bv2, bv3, ze23, sz23, sz3, underlying27, underlying29, underlying51, underlying56, e0, e4, e5, e7, a0, a1, d1, d2, hs1.2 s.next (by first | omega | (simp only [St.next_new, St.next_put, St.next_kill]; omega)), hs1.2 (s.next + 1) (by first | omega | (simp only [St.next_new, St.next_put, St.next_kill]; omega)), co13]
      refine rbin_spec hn hx hx' fun s2 hs2 => ?_
      rw [t]
      unfold vA
      have n2 : s1.next < s2.next := by have := hs2.1; (try simp only [St.next_new, St.next_put] at this); omega
      have d3 : ¬ s.next = s2.next := by omega
      have d4 : ¬ s.next + 1 = s2.next := by omega
      have d5 : ¬ s1.next = s2.next := by omega
      simp -implicitDefEqProofs only [↓Zd, (Zp), if_true, if_false, ne_eq, implies_true, forall_const, Nat.reduceEqDiff, reduceIte, reduceCtorEq, Int.reduceEq, Int.reduceNeg, Int.reduceLE, Int.reduceLT, Nat.reduceAdd, Nat.reduceLeDiff, Int.reduceToNat, Nat.reduceMul, Nat.reduceBEq, okPart, Value.cells, cut, okCell, cld2, underlying3, underlying4, underlying9, underlying23, vA, is23, ag23, ce23, fa23x0, fa23x1, fa23x2, ag3, ce3, ag9, ce9, underlying3, underlying4, underlying9, underlying5, underlying26, underlying0, be4, bn4, bv0, bv1, bv2, bv3, ze23, sz23, sz3, underlying27, underlying29, underlying51, underlying56, e0, e4, e5, e7, a0, a1, d1, d2, d3, d4, d5, hs2.2 s.next (by first | omega | (simp only [St.next_new, St.next_put, St.next_kill]; omega)), hs2.2 (s.next + 1) (by first | omega | (simp only [St.next_new, St.next_put, St.next_kill]; omega)), hs2.2 s1.next (by first | omega | (simp only [St.next_new, St.next_put, St.next_kill]; omega)), hs1.2 s.next (by first | omega | (simp only [St.next_new, St.next_put, St.next_kill]; omega)), hs1.2 (s.next + 1) (by first | omega | (simp only [St.next_new, St.next_put, St.next_kill]; omega)), neSelf, w7]
      refine ⟨?_, (700 - (most + 97)).toNat, by omega, most + 97, rfl, by omega, by omega, rfl, by simp; omega, ?_, ?_⟩
      · repeat (first | exact hF | refine Fix.upd (by decide) ?_)
      · simp [d1, d2, d3, d4, hs2.2 s.next (by first | omega | (simp only [St.next_new, St.next_put, St.next_kill]; omega)), hs1.2 s.next (by first | omega | (simp only [St.next_new, St.next_put, St.next_kill]; omega)), a0]
      · simp [d1, d2, d3, d4, hs2.2 (s.next + 1) (by first | omega | (simp only [St.next_new, St.next_put, St.next_kill]; omega)), hs1.2 (s.next + 1) (by first | omega | (simp only [St.next_new, St.next_put, St.next_kill]; omega)), a1]
    · simp -implicitDefEqProofs only [↓Zd, (Zp), if_true, if_false, ne_eq, implies_true, forall_const, Nat.reduceEqDiff, reduceIte, reduceCtorEq, Int.reduceEq, Int.reduceNeg, Int.reduceLE, Int.reduceLT, Nat.reduceAdd, Nat.reduceLeDiff, Int.reduceToNat, Nat.reduceMul, Nat.reduceBEq, okPart, Value.cells, cut, okCell, cld2, underlying3, underlying4, underlying9, underlying23, vA, is23, ag23, ce23, fa23x0, fa23x1, fa23x2, ag3, ce3, ag9, ce9, underlying3, underlying4, underlying9, underlying5, underlying26, underlying0, be4, bn4, bv0, bv1, bv2, bv3, ze23, sz23, sz3, underlying27, underlying29, underlying51, underlying56, e7, hlt, co11]
      refine works04_spec ?_
      simp -implicitDefEqProofs only [↓Zd, (Zp), if_true, if_false, ne_eq, implies_true, forall_const, Nat.reduceEqDiff, reduceIte, reduceCtorEq, Int.reduceEq, Int.reduceNeg, Int.reduceLE, Int.reduceLT, Nat.reduceAdd, Nat.reduceLeDiff, Int.reduceToNat, Nat.reduceMul, Nat.reduceBEq, okPart, Value.cells, cut, okCell, cld2, underlying3, underlying4, underlying9, underlying23, vA, is23, ag23, ce23, fa23x0, fa23x1, fa23x2, ag3, ce3, ag9, ce9, underlying3, underlying4, underlying9, underlying5, underlying26, underlying0, be4, bn4, bv0, bv1, bv2, bv3, ze23, sz23, sz3, underlying27, underlying29, underlying51, underlying56]
      exact h _
end

theorem opsBin_walk {op : Int} (_ : -9223372036854775808 ≤ op ∧ op ≤ 9223372036854775807) {k n : Int} {x : ByteArray} (_ : (Lit.int .i64 k).wf = true) (hn : (Lit.int .i64 n).wf = true) (_ : x.size ≤ maxLen) {k' n' : Int} {x' : ByteArray} (_ : (Lit.int .i64 k').wf = true) (_ : (Lit.int .i64 n').wf = true) (_ : x'.size ≤ maxLen) (w : World) : Calls Try.prog 3 #[.int .i64 op, vA k n x, vA k' n' x'] w fun e w' => e = .returned (.bool true) ∧ Below w.heap.size w w' :=
  calls_plain (by kernel_rfl) (opsBin_spec (fits_i64 hn) fun _ => rfl)
end Go.Proofs.Try
