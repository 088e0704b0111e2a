/- The walks of the laws of signs. A lemma file: no statement of its own. -/
import Derived.Test.YtlijgnofegjnmaaFwF
import Derived.Test.YtlijgnofegjnmaaOpsD
set_option linter.unusedSimpArgs false
set_option linter.unusedVariables false
set_option linter.unusedSectionVars false
namespace Go.Proofs.Try
open Go.Cs
open Go.RowKit (Below)
set_option maxRecDepth 100000
attribute [local irreducible] CCalls WLoop WScope

theorem neq57 {k n k' n' : Int} {x x' : ByteArray} : pureRun Try.prog (Go.binOp .neq 23 (vA k n x) (vA k' n' x')) = some (.bool (!((k == k') && ((n == n') && (decide (x = x') && true))))) := by
  unfold vA
  simp only [Go.binOp, pureRun_bind]
  have := pr_eqStruct (P := Try.prog) (d := 9999) (xs := #[.int .i64 k, .int .i64 n, .string x]) (ys := #[.int .i64 k', .int .i64 n', .string x']) underlying23 stood23
  rw [show Op.equal 23 (Value.agg #[.int .i64 k, .int .i64 n, .string x]) (Value.agg #[.int .i64 k', .int .i64 n', .string x']) = Op.equalIn (9999 + 1) 23 (Value.agg #[.int .i64 k, .int .i64 n, .string x]) (Value.agg #[.int .i64 k', .int .i64 n', .string x']) from rfl, this]
  rw [pr_eqCons (by decide) (part23x0 k n x) (part23x0 k' n' x') (pr_eqInt (d := 9998) underlying3) (pr_eqCons (by decide) (part23x1 k n x) (part23x1 k' n' x') (pr_eqInt (d := 9998) underlying3) (pr_eqCons (by decide) (part23x2 k n x) (part23x2 k' n' x') (pr_eqString (d := 9998) underlying9) pr_eqNil))]
  rfl
theorem differ57 {k n k' n' : Int} {x x' : ByteArray} {ox oy : Operand} : cbin Try.prog .neq 23 ox oy (vA k n x) (vA k' n' x') = some (.bool (!(decide (k = k') && (decide (n = n') && decide (x = x'))))) := by
  have h := neq57 (k := k) (n := n) (x := x) (k' := k') (n' := n') (x' := x')
  have h1 : plain 6 (vA k n x) = true := by kernel_rfl
  have h2 : plain 6 (vA k' n' x') = true := by kernel_rfl
  have h3 : pureRun Try.prog (eqGuard .neq 23 ox oy (vA k n x) (vA k' n' x')) = some () := by
    unfold vA eqGuard
    simp only [pureRun_bind, pureRun_program, Option.bind_some, guard23, Bool.not_false, if_true, pureRun_ite, pureRun_pure]
    rfl
  unfold vA at h1 h2 h3 h ⊢
  unfold cbin
  dsimp only
  rw [if_pos ⟨h1, h2⟩]
  unfold pure6
  rw [pureRun_bind, h3, Option.bind_some, h]
  show some (Value.bool _) = _
  rw [Bool.and_true]
  congr 2
theorem eqSelf {k n : Int} {x : ByteArray} {ox oy : Operand} : cbin Try.prog .eql 23 ox oy (.agg #[.int .i64 k, .int .i64 n, .string x]) (.agg #[.int .i64 k, .int .i64 n, .string x]) = some (.bool true) := by
  have := same23 (k := k) (n := n) (x := x) (k' := k) (n' := n) (x' := x) (ox := ox) (oy := oy)
  unfold vA at this
  rw [this]; simp
theorem neSelf {k n : Int} {x : ByteArray} {ox oy : Operand} : cbin Try.prog .neq 23 ox oy (.agg #[.int .i64 k, .int .i64 n, .string x]) (.agg #[.int .i64 k, .int .i64 n, .string x]) = some (.bool false) := by
  have := differ57 (k := k) (n := n) (x := x) (k' := k) (n' := n) (x' := x) (ox := ox) (oy := oy)
  unfold vA at this
  rw [this]; simp

section
variable {M : Type} [Mem M] {w0 : World} {s : St M} {R : Value → St M → Prop}

theorem short1 {s : St M} {R : Value → St M → Prop} {b c : Nat} {a n : Int} {x : ByteArray} (hc : s.at' b = some (.cells [.int .i64 a, .int .i64 n, .string x] 23 true)) (h : R (.bool (decide ((x.size : Int) ≤ 1000))) s) : CCalls Try.prog w0 10 #[.slice (some ⟨b, 0, none⟩) 1 c] s R :=
  short_spec (l := [x]) hc rfl (by simp) (fun i y h => by
    match i, h with
    | 0, h => cases h; rfl
    | i + 1, h => simp at h) (castB h (by simp [shortB]))
theorem short2 {s : St M} {R : Value → St M → Prop} {b c : Nat} {a n a' n' : Int} {x x' : ByteArray} (hc : s.at' b = some (.cells [.int .i64 a, .int .i64 n, .string x, .int .i64 a', .int .i64 n', .string x'] 23 true)) (h : R (.bool (decide ((x.size : Int) ≤ 1000) && decide ((x'.size : Int) ≤ 1000))) s) : CCalls Try.prog w0 10 #[.slice (some ⟨b, 0, none⟩) 2 c] s R :=
  short_spec (l := [x, x']) hc rfl (by simp) (fun i y h => by
    match i, h with
    | 0, h => cases h; rfl
    | 1, h => cases h; rfl
    | i + 2, h => simp at h) (castB h (by simp [shortB]))

set_option maxHeartbeats 16000000 in
theorem opsUn_spec {op k n most : Int} {x : ByteArray} (hn : -9223372036854775808 ≤ n ∧ n ≤ 9223372036854775807) (h : ∀ s', R (.bool true) s') : CCalls Try.prog w0 8 #[.int .i64 op, vA k n x, .int .i64 most] s R := by
  refine wfun2 hmix ok8 (l := [.int .i64 op, vA k n x, .int .i64 most]) func8 rfl ntmps8 results8 (by simp) ?_
  by_cases hb : (x.size : Int) ≤ 1000
  case neg =>
    simp -implicitDefEqProofs only [↓Zd, (Zp), if_true, if_false, ne_eq, implies_true, forall_const, Nat.reduceEqDiff, reduceIte, reduceCtorEq, Int.reduceEq, Int.reduceNeg, Int.reduceLE, Int.reduceLT, Nat.reduceAdd, Nat.reduceLeDiff, Int.reduceToNat, Nat.reduceMul, Nat.reduceBEq, okPart, Value.cells, cut, okCell, cld2, underlying3, underlying4, underlying9, underlying23, vA, is23, ag23, ce23, fa23x0, fa23x1, fa23x2, ag3, ce3, ag9, ce9, underlying3, underlying4, underlying9, underlying5, underlying26, underlying0, be4, bn4, bv0, bv1, bv2, bv3, ze23, sz23, sz3, underlying27, underlying29, underlying51, underlying56, underlying44, row1, co10]
    refine short1 (a := k) (n := n) (x := x) (by simp) ?_
    simp only [hb, decide_false]
    simp -implicitDefEqProofs only [↓Zd, (Zp), if_true, if_false, ne_eq, implies_true, forall_const, Nat.reduceEqDiff, reduceIte, reduceCtorEq, Int.reduceEq, Int.reduceNeg, Int.reduceLE, Int.reduceLT, Nat.reduceAdd, Nat.reduceLeDiff, Int.reduceToNat, Nat.reduceMul, Nat.reduceBEq, okPart, Value.cells, cut, okCell, cld2, underlying3, underlying4, underlying9, underlying23, vA, is23, ag23, ce23, fa23x0, fa23x1, fa23x2, ag3, ce3, ag9, ce9, underlying3, underlying4, underlying9, underlying5, underlying26, underlying0, be4, bn4, bv0, bv1, bv2, bv3, ze23, sz23, sz3, underlying27, underlying29, underlying51, underlying56, co11]
    refine works04_spec ?_
    simp -implicitDefEqProofs only [↓Zd, (Zp), if_true, if_false, ne_eq, implies_true, forall_const, Nat.reduceEqDiff, reduceIte, reduceCtorEq, Int.reduceEq, Int.reduceNeg, Int.reduceLE, Int.reduceLT, Nat.reduceAdd, Nat.reduceLeDiff, Int.reduceToNat, Nat.reduceMul, Nat.reduceBEq, okPart, Value.cells, cut, okCell, cld2, underlying3, underlying4, underlying9, underlying23, vA, is23, ag23, ce23, fa23x0, fa23x1, fa23x2, ag3, ce3, ag9, ce9, underlying3, underlying4, underlying9, underlying5, underlying26, underlying0, be4, bn4, bv0, bv1, bv2, bv3, ze23, sz23, sz3, underlying27, underlying29, underlying51, underlying56]
    exact h _
  simp -implicitDefEqProofs only [↓Zd, (Zp), if_true, if_false, ne_eq, implies_true, forall_const, Nat.reduceEqDiff, reduceIte, reduceCtorEq, Int.reduceEq, Int.reduceNeg, Int.reduceLE, Int.reduceLT, Nat.reduceAdd, Nat.reduceLeDiff, Int.reduceToNat, Nat.reduceMul, Nat.reduceBEq, okPart, Value.cells, cut, okCell, cld2, underlying3, underlying4, underlying9, underlying23, vA, is23, ag23, ce23, fa23x0, fa23x1, fa23x2, ag3, ce3, ag9, ce9, underlying3, underlying4, underlying9, underlying5, underlying26, underlying0, be4, bn4, bv0, bv1, bv2, bv3, ze23, sz23, sz3, underlying27, underlying29, underlying51, underlying56, underlying44, row1, co10]
  refine short1 (a := k) (n := n) (x := x) (by simp) ?_
  simp only [hb, decide_true]
  simp -implicitDefEqProofs only [↓Zd, (Zp), if_true, if_false, ne_eq, implies_true, forall_const, Nat.reduceEqDiff, reduceIte, reduceCtorEq, Int.reduceEq, Int.reduceNeg, Int.reduceLE, Int.reduceLT, Nat.reduceAdd, Nat.reduceLeDiff, Int.reduceToNat, Nat.reduceMul, Nat.reduceBEq, okPart, Value.cells, cut, okCell, cld2, underlying3, underlying4, underlying9, underlying23, vA, is23, ag23, ce23, fa23x0, fa23x1, fa23x2, ag3, ce3, ag9, ce9, underlying3, underlying4, underlying9, underlying5, underlying26, underlying0, be4, bn4, bv0, bv1, bv2, bv3, ze23, sz23, sz3, underlying27, underlying29, underlying51, underlying56, underlying44, co26]
  refine un_spec fun s1 hs1 => ?_
  have n1 : s.next + 1 < s1.next := by have := hs1.1; (try simp only [St.next_new, St.next_put] at this); omega
  obtain ⟨a1, b1, y1, e1, t1⟩ := unV_tup op k n
  rw [t1]
  unfold vA
  have d0_1 : ¬ s.next = s1.next := by omega
  have d1_0 : ¬ s1.next = s.next := by omega
  simp -implicitDefEqProofs only [↓Zd, (Zp), if_true, if_false, ne_eq, implies_true, forall_const, Nat.reduceEqDiff, reduceIte, reduceCtorEq, Int.reduceEq, Int.reduceNeg, Int.reduceLE, Int.reduceLT, Nat.reduceAdd, Nat.reduceLeDiff, Int.reduceToNat, Nat.reduceMul, Nat.reduceBEq, okPart, Value.cells, cut, okCell, cld2, underlying3, underlying4, underlying9, underlying23, vA, is23, ag23, ce23, fa23x0, fa23x1, fa23x2, ag3, ce3, ag9, ce9, underlying3, underlying4, underlying9, underlying5, underlying26, underlying0, be4, bn4, bv0, bv1, bv2, bv3, ze23, sz23, sz3, underlying27, underlying29, underlying51, underlying56, underlying44, co27, hs1.2 s.next (by first | omega | (simp only [St.next_new, St.next_put, St.next_kill]; omega)), d0_1, d1_0]
  refine len_spec fun s2 hs2 => ?_
  have n2 : s1.next < s2.next := by have := hs2.1; (try simp only [St.next_new, St.next_put] at this); omega
  obtain ⟨a2, b2, y2, e2, t2⟩ := lenV_tup k x
  rw [t2]
  unfold vA
  have d0_2 : ¬ s.next = s2.next := by omega
  have d2_0 : ¬ s2.next = s.next := by omega
  have d1_2 : ¬ s1.next = s2.next := by omega
  have d2_1 : ¬ s2.next = s1.next := by omega
  simp -implicitDefEqProofs only [↓Zd, (Zp), if_true, if_false, ne_eq, implies_true, forall_const, Nat.reduceEqDiff, reduceIte, reduceCtorEq, Int.reduceEq, Int.reduceNeg, Int.reduceLE, Int.reduceLT, Nat.reduceAdd, Nat.reduceLeDiff, Int.reduceToNat, Nat.reduceMul, Nat.reduceBEq, okPart, Value.cells, cut, okCell, cld2, underlying3, underlying4, underlying9, underlying23, vA, is23, ag23, ce23, fa23x0, fa23x1, fa23x2, ag3, ce3, ag9, ce9, underlying3, underlying4, underlying9, underlying5, underlying26, underlying0, be4, bn4, bv0, bv1, bv2, bv3, ze23, sz23, sz3, underlying27, underlying29, underlying51, underlying56, underlying44, co28, hs1.2 s.next (by first | omega | (simp only [St.next_new, St.next_put, St.next_kill]; omega)), hs2.2 s.next (by first | omega | (simp only [St.next_new, St.next_put, St.next_kill]; omega)), hs2.2 s1.next (by first | omega | (simp only [St.next_new, St.next_put, St.next_kill]; omega)), d0_1, d1_0, d0_2, d2_0, d1_2, d2_1]
  refine text_spec hn fun s3 hs3 => ?_
  have n3 : s2.next < s3.next := by have := hs3.1; (try simp only [St.next_new, St.next_put] at this); omega
  obtain ⟨a3, b3, y3, e3, t3⟩ := textV_tup k n x most
  rw [t3]
  unfold vA
  have d0_3 : ¬ s.next = s3.next := by omega
  have d3_0 : ¬ s3.next = s.next := by omega
  have d1_3 : ¬ s1.next = s3.next := by omega
  have d3_1 : ¬ s3.next = s1.next := by omega
  have d2_3 : ¬ s2.next = s3.next := by omega
  have d3_2 : ¬ s3.next = s2.next := by omega
  simp -implicitDefEqProofs only [↓Zd, (Zp), if_true, if_false, ne_eq, implies_true, forall_const, Nat.reduceEqDiff, reduceIte, reduceCtorEq, Int.reduceEq, Int.reduceNeg, Int.reduceLE, Int.reduceLT, Nat.reduceAdd, Nat.reduceLeDiff, Int.reduceToNat, Nat.reduceMul, Nat.reduceBEq, okPart, Value.cells, cut, okCell, cld2, underlying3, underlying4, underlying9, underlying23, vA, is23, ag23, ce23, fa23x0, fa23x1, fa23x2, ag3, ce3, ag9, ce9, underlying3, underlying4, underlying9, underlying5, underlying26, underlying0, be4, bn4, bv0, bv1, bv2, bv3, ze23, sz23, sz3, underlying27, underlying29, underlying51, underlying56, underlying44, co29, hs1.2 s.next (by first | omega | (simp only [St.next_new, St.next_put, St.next_kill]; omega)), hs2.2 s.next (by first | omega | (simp only [St.next_new, St.next_put, St.next_kill]; omega)), hs2.2 s1.next (by first | omega | (simp only [St.next_new, St.next_put, St.next_kill]; omega)), hs3.2 s.next (by first | omega | (simp only [St.next_new, St.next_put, St.next_kill]; omega)), hs3.2 s1.next (by first | omega | (simp only [St.next_new, St.next_put, St.next_kill]; omega)), hs3.2 s2.next (by first | omega | (simp only [St.next_new, St.next_put, St.next_kill]; omega)), d0_1, d1_0, d0_2, d2_0, d1_2, d2_1, d0_3, d3_0, d1_3, d3_1, d2_3, d3_2]
  refine run_spec fun s4 hs4 => ?_
  have n4 : s3.next < s4.next := by have := hs4.1; (try simp only [St.next_new, St.next_put] at this); omega
  rw [t1]
  unfold vA
  have d0_4 : ¬ s.next = s4.next := by omega
  have d4_0 : ¬ s4.next = s.next := by omega
  have d1_4 : ¬ s1.next = s4.next := by omega
  have d4_1 : ¬ s4.next = s1.next := by omega
  have d2_4 : ¬ s2.next = s4.next := by omega
  have d4_2 : ¬ s4.next = s2.next := by omega
  have d3_4 : ¬ s3.next = s4.next := by omega
  have d4_3 : ¬ s4.next = s3.next := by omega
  simp -implicitDefEqProofs only [↓Zd, (Zp), if_true, if_false, ne_eq, implies_true, forall_const, Nat.reduceEqDiff, reduceIte, reduceCtorEq, Int.reduceEq, Int.reduceNeg, Int.reduceLE, Int.reduceLT, Nat.reduceAdd, Nat.reduceLeDiff, Int.reduceToNat, Nat.reduceMul, Nat.reduceBEq, okPart, Value.cells, cut, okCell, cld2, underlying3, underlying4, underlying9, underlying23, vA, is23, ag23, ce23, fa23x0, fa23x1, fa23x2, ag3, ce3, ag9, ce9, underlying3, underlying4, underlying9, underlying5, underlying26, underlying0, be4, bn4, bv0, bv1, bv2, bv3, ze23, sz23, sz3, underlying27, underlying29, underlying51, underlying56, underlying44, co30, hs1.2 s.next (by first | omega | (simp only [St.next_new, St.next_put, St.next_kill]; omega)), hs2.2 s.next (by first | omega | (simp only [St.next_new, St.next_put, St.next_kill]; omega)), hs2.2 s1.next (by first | omega | (simp only [St.next_new, St.next_put, St.next_kill]; omega)), hs3.2 s.next (by first | omega | (simp only [St.next_new, St.next_put, St.next_kill]; omega)), hs3.2 s1.next (by first | omega | (simp only [St.next_new, St.next_put, St.next_kill]; omega)), hs3.2 s2.next (by first | omega | (simp only [St.next_new, St.next_put, St.next_kill]; omega)), hs4.2 s.next (by first | omega | (simp only [St.next_new, St.next_put, St.next_kill]; omega)), hs4.2 s1.next (by first | omega | (simp only [St.next_new, St.next_put, St.next_kill]; omega)), hs4.2 s2.next (by first | omega | (simp only [St.next_new, St.next_put, St.next_kill]; omega)), hs4.2 s3.next (by first | omega | (simp only [St.next_new, St.next_put, St.next_kill]; omega)), d0_1, d1_0, d0_2, d2_0, d1_2, d2_1, d0_3, d3_0, d1_3, d3_1, d2_3, d3_2, d0_4, d4_0, d1_4, d4_1, d2_4, d4_2, d3_4, d4_3]
  refine rlen_spec fun s5 hs5 => ?_
  have n5 : s4.next < s5.next := by have := hs5.1; (try simp only [St.next_new, St.next_put] at this); omega
  rw [t2]
  unfold vA
  have d0_5 : ¬ s.next = s5.next := by omega
  have d5_0 : ¬ s5.next = s.next := by omega
  have d1_5 : ¬ s1.next = s5.next := by omega
  have d5_1 : ¬ s5.next = s1.next := by omega
  have d2_5 : ¬ s2.next = s5.next := by omega
  have d5_2 : ¬ s5.next = s2.next := by omega
  have d3_5 : ¬ s3.next = s5.next := by omega
  have d5_3 : ¬ s5.next = s3.next := by omega
  have d4_5 : ¬ s4.next = s5.next := by omega
  have d5_4 : ¬ s5.next = s4.next := by omega
  simp -implicitDefEqProofs only [↓Zd, (Zp), if_true, if_false, ne_eq, implies_true, forall_const, Nat.reduceEqDiff, reduceIte, reduceCtorEq, Int.reduceEq, Int.reduceNeg, Int.reduceLE, Int.reduceLT, Nat.reduceAdd, Nat.reduceLeDiff, Int.reduceToNat, Nat.reduceMul, Nat.reduceBEq, okPart, Value.cells, cut, okCell, cld2, underlying3, underlying4, underlying9, underlying23, vA, is23, ag23, ce23, fa23x0, fa23x1, fa23x2, ag3, ce3, ag9, ce9, underlying3, underlying4, underlying9, underlying5, underlying26, underlying0, be4, bn4, bv0, bv1, bv2, bv3, ze23, sz23, sz3, underlying27, underlying29, underlying51, underlying56, underlying44, co31, hs1.2 s.next (by first | omega | (simp only [St.next_new, St.next_put, St.next_kill]; omega)), hs2.2 s.next (by first | omega | (simp only [St.next_new, St.next_put, St.next_kill]; omega)), hs2.2 s1.next (by first | omega | (simp only [St.next_new, St.next_put, St.next_kill]; omega)), hs3.2 s.next (by first | omega | (simp only [St.next_new, St.next_put, St.next_kill]; omega)), hs3.2 s1.next (by first | omega | (simp only [St.next_new, St.next_put, St.next_kill]; omega)), hs3.2 s2.next (by first | omega | (simp only [St.next_new, St.next_put, St.next_kill]; omega)), hs4.2 s.next (by first | omega | (simp only [St.next_new, St.next_put, St.next_kill]; omega)), hs4.2 s1.next (by first | omega | (simp only [St.next_new, St.next_put, St.next_kill]; omega)), hs4.2 s2.next (by first | omega | (simp only [St.next_new, St.next_put, St.next_kill]; omega)), hs4.2 s3.next (by first | omega | (simp only [St.next_new, St.next_put, St.next_kill]; omega)), hs5.2 s.next (by first | omega | (simp only [St.next_new, St.next_put, St.next_kill]; omega)), hs5.2 s1.next (by first | omega | (simp only [St.next_new, St.next_put, St.next_kill]; omega)), hs5.2 s2.next (by first | omega | (simp only [St.next_new, St.next_put, St.next_kill]; omega)), hs5.2 s3.next (by first | omega | (simp only [St.next_new, St.next_put, St.next_kill]; omega)), hs5.2 s4.next (by first | omega | (simp only [St.next_new, St.next_put, St.next_kill]; omega)), d0_1, d1_0, d0_2, d2_0, d1_2, d2_1, d0_3, d3_0, d1_3, d3_1, d2_3, d3_2, d0_4, d4_0, d1_4, d4_1, d2_4, d4_2, d3_4, d4_3, d0_5, d5_0, d1_5, d5_1, d2_5, d5_2, d3_5, d5_3, d4_5, d5_4]
  refine rtext_spec hn fun s6 hs6 => ?_
  have n6 : s5.next < s6.next := by have := hs6.1; (try simp only [St.next_new, St.next_put] at this); omega
  rw [t3]
  unfold vA
  have d0_6 : ¬ s.next = s6.next := by omega
  have d6_0 : ¬ s6.next = s.next := by omega
  have d1_6 : ¬ s1.next = s6.next := by omega
  have d6_1 : ¬ s6.next = s1.next := by omega
  have d2_6 : ¬ s2.next = s6.next := by omega
  have d6_2 : ¬ s6.next = s2.next := by omega
  have d3_6 : ¬ s3.next = s6.next := by omega
  have d6_3 : ¬ s6.next = s3.next := by omega
  have d4_6 : ¬ s4.next = s6.next := by omega
  have d6_4 : ¬ s6.next = s4.next := by omega
  have d5_6 : ¬ s5.next = s6.next := by omega
  have d6_5 : ¬ s6.next = s5.next := by omega
  simp -implicitDefEqProofs only [↓Zd, (Zp), if_true, if_false, ne_eq, implies_true, forall_const, Nat.reduceEqDiff, reduceIte, reduceCtorEq, Int.reduceEq, Int.reduceNeg, Int.reduceLE, Int.reduceLT, Nat.reduceAdd, Nat.reduceLeDiff, Int.reduceToNat, Nat.reduceMul, Nat.reduceBEq, okPart, Value.cells, cut, okCell, cld2, underlying3, underlying4, underlying9, underlying23, vA, is23, ag23, ce23, fa23x0, fa23x1, fa23x2, ag3, ce3, ag9, ce9, underlying3, underlying4, underlying9, underlying5, underlying26, underlying0, be4, bn4, bv0, bv1, bv2, bv3, ze23, sz23, sz3, underlying27, underlying29, underlying51, underlying56, hs1.2 s.next (by first | omega | (simp only [St.next_new, St.next_put, St.next_kill]; omega)), hs2.2 s.next (by first | omega | (simp only [St.next_new, St.next_put, St.next_kill]; omega)), hs2.2 s1.next (by first | omega | (simp only [St.next_new, St.next_put, St.next_kill]; omega)), hs3.2 s.next (by first | omega | (simp only [St.next_new, St.next_put, St.next_kill]; omega)), hs3.2 s1.next (by first | omega | (simp only [St.next_new, St.next_put, St.next_kill]; omega)), hs3.2 s2.next (by first | omega | (simp only [St.next_new, St.next_put, St.next_kill]; omega)), hs4.2 s.next (by first | omega | (simp only [St.next_new, St.next_put, St.next_kill]; omega)), hs4.2 s1.next (by first | omega | (simp only [St.next_new, St.next_put, St.next_kill]; omega)), hs4.2 s2.next (by first | omega | (simp only [St.next_new, St.next_put, St.next_kill]; omega)), hs4.2 s3.next (by first | omega | (simp only [St.next_new, St.next_put, St.next_kill]; omega)), hs5.2 s.next (by first | omega | (simp only [St.next_new, St.next_put, St.next_kill]; omega)), hs5.2 s1.next (by first | omega | (simp only [St.next_new, St.next_put, St.next_kill]; omega)), hs5.2 s2.next (by first | omega | (simp only [St.next_new, St.next_put, St.next_kill]; omega)), hs5.2 s3.next (by first | omega | (simp only [St.next_new, St.next_put, St.next_kill]; omega)), hs5.2 s4.next (by first | omega | (simp only [St.next_new, St.next_put, St.next_kill]; omega)), hs6.2 s.next (by first | omega | (simp only [St.next_new, St.next_put, St.next_kill]; omega)), hs6.2 s1.next (by first | omega | (simp only [St.next_new, St.next_put, St.next_kill]; omega)), hs6.2 s2.next (by first | omega | (simp only [St.next_new, St.next_put, St.next_kill]; omega)), hs6.2 s3.next (by first | omega | (simp only [St.next_new, St.next_put, St.next_kill]; omega)), hs6.2 s4.next (by first | omega | (simp only [St.next_new, St.next_put, St.next_kill]; omega)), hs6.2 s5.next (by first | omega | (simp only [St.next_new, St.next_put, St.next_kill]; omega)), d0_1, d1_0, d0_2, d2_0, d1_2, d2_1, d0_3, d3_0, d1_3, d3_1, d2_3, d3_2, d0_4, d4_0, d1_4, d4_1, d2_4, d4_2, d3_4, d4_3, d0_5, d5_0, d1_5, d5_1, d2_5, d5_2, d3_5, d5_3, d4_5, d5_4, d0_6, d6_0, d1_6, d6_1, d2_6, d6_2, d3_6, d6_3, d4_6, d6_4, d5_6, d6_5, eqSelf, co11]
  refine works04_spec ?_
  simp -implicitDefEqProofs only [↓Zd, (Zp), if_true, if_false, ne_eq, implies_true, forall_const, Nat.reduceEqDiff, reduceIte, reduceCtorEq, Int.reduceEq, Int.reduceNeg, Int.reduceLE, Int.reduceLT, Nat.reduceAdd, Nat.reduceLeDiff, Int.reduceToNat, Nat.reduceMul, Nat.reduceBEq, okPart, Value.cells, cut, okCell, cld2, underlying3, underlying4, underlying9, underlying23, vA, is23, ag23, ce23, fa23x0, fa23x1, fa23x2, ag3, ce3, ag9, ce9, underlying3, underlying4, underlying9, underlying5, underlying26, underlying0, be4, bn4, bv0, bv1, bv2, bv3, ze23, sz23, sz3, underlying27, underlying29, underlying51, underlying56]
  exact h _

end

theorem opsUn_walk {op : Int} (_ : -9223372036854775808 ≤ op ∧ op ≤ 9223372036854775807) {k n : Int} {x : ByteArray} (_ : (Lit.int .i64 k).wf = true) (hn : (Lit.int .i64 n).wf = true) (_ : x.size ≤ maxLen) {most : Int} (_ : -9223372036854775808 ≤ most ∧ most ≤ 9223372036854775807) (w : World) : Calls Try.prog 8 #[.int .i64 op, vA k n x, .int .i64 most] w fun e w' => e = .returned (.bool true) ∧ Below w.heap.size w w' :=
  calls_plain (by kernel_rfl) (opsUn_spec (fits_i64 hn) fun _ => rfl)
end Go.Proofs.Try
