/- The walks of three laws on numbers. A lemma file: no statement of its own. -/
import Derived.Test.YtlijgnofegjnmaaFwF
import Derived.Test.YtlijgnofegjnmaaNum4
set_option linter.unusedSimpArgs false
set_option linter.unusedVariables false
namespace Go.Proofs.Try
open Go.Cs
open Go.RowKit (Below)
set_option maxRecDepth 100000
attribute [local irreducible] CCalls WLoop WScope

theorem wrap64_ex (x : Int) : ∃ k, IntKind.i64.wrap x = x + 18446744073709551616 * k := ⟨-((x + 9223372036854775808) / 18446744073709551616), by rw [wrap64]; omega⟩
theorem wrap64_shift (x k : Int) : IntKind.i64.wrap (x + 18446744073709551616 * k) = IntKind.i64.wrap x := by rw [wrap64, wrap64]; omega

theorem tmod_I64 {a : Int} (b : Int) (h : I64 a) : I64 (a.tmod b) := by
  unfold I64 at *
  have h1 : (a.tmod b).natAbs ≤ a.natAbs := by rw [Int.natAbs_tmod]; exact Nat.mod_le _ _
  rcases Int.le_total 0 a with h2 | h2
  · have := Int.tmod_nonneg b h2
    omega
  · have h3 := Int.tmod_nonneg b (show 0 ≤ -a by omega)
    rw [Int.neg_tmod] at h3
    omega

theorem rest_eq {a b : Int} (h : I64 a) : IntKind.i64.wrap (a - IntKind.i64.wrap (IntKind.i64.wrap (a.tdiv b) * b)) = a.tmod b := by
  obtain ⟨k1, e1⟩ := wrap64_ex (a.tdiv b)
  obtain ⟨k2, e2⟩ := wrap64_ex (IntKind.i64.wrap (a.tdiv b) * b)
  rw [e2, e1]
  have e3 : (a - ((a.tdiv b + 18446744073709551616 * k1) * b + 18446744073709551616 * k2)) = a.tmod b + 18446744073709551616 * (-(k1 * b) - k2) := by
    have := Int.tmod_add_mul_tdiv a b
    have h2 : (a.tdiv b + 18446744073709551616 * k1) * b = b * a.tdiv b + 18446744073709551616 * (k1 * b) := by
      rw [Int.add_mul, Int.mul_comm, Int.mul_assoc]
    rw [h2]
    generalize b * a.tdiv b = u at *
    generalize k1 * b = v at *
    omega
  rw [e3, wrap64_shift, wrap64_id (tmod_I64 b h)]

theorem back_eq {a b : Int} (ha : w63 a = a) (h0 : b ≠ 0) : w63 (w63 (divN a b * b) + modN a b) = a := by
  unfold divN modN
  rw [if_neg h0, if_neg h0]
  split
  · rename_i h1
    subst h1
    rw [w63_add_l, Int.add_zero, w63_mul_l]
    rw [show (0 - a) * -1 = a by omega, ha]
  · split
    · rename_i h1
      subst h1
      rw [w63_add_l, Int.add_zero, w63_mul_l, Int.mul_one, Int.tdiv_one, ha]
    · rw [w63_add_l, ← w63_add_l, w63_mul_l, w63_add_l]
      have := Int.tmod_add_mul_tdiv a b
      rw [Int.mul_comm] at this
      rw [Int.add_comm, this, ha]

section
variable {M : Type} [Mem M] {w0 : World} {s : St M} {R : Value → St M → Prop}

theorem rdiv_spec {a b : Int} (h : R (.tuple #[.int .i64 (divN a b), .int .i64 (erN b)]) s) : CCalls Try.prog w0 42 #[.int .i64 a, .int .i64 b] s R := by
  refine wfun2 hmix ok42 (l := [.int .i64 a, .int .i64 b]) func42 rfl ntmps42 results42 (by simp) ?_
  by_cases h0 : b = 0
  · subst h0
    simp -implicitDefEqProofs only [↓Zd, (Zp), if_true, if_false, ne_eq, implies_true, forall_const, Nat.reduceEqDiff, reduceIte, reduceCtorEq, Int.reduceEq, Int.reduceNeg, Int.reduceLE, Int.reduceLT, Nat.reduceAdd, Nat.reduceLeDiff, Int.reduceToNat, Nat.reduceMul, Nat.reduceBEq, okPart, Value.cells, cut, okCell, cld2, underlying3, underlying4, underlying26]
    exact h
  · by_cases h1 : b = -1
    · subst h1
      simp -implicitDefEqProofs only [↓Zd, (Zp), if_true, if_false, ne_eq, implies_true, forall_const, Nat.reduceEqDiff, reduceIte, reduceCtorEq, Int.reduceEq, Int.reduceNeg, Int.reduceLE, Int.reduceLT, Nat.reduceAdd, Nat.reduceLeDiff, Int.reduceToNat, Nat.reduceMul, Nat.reduceBEq, okPart, Value.cells, cut, okCell, cld2, underlying3, underlying4, underlying26, co53]
      refine rneg_spec ?_
      simp -implicitDefEqProofs only [↓Zd, (Zp), if_true, if_false, ne_eq, implies_true, forall_const, Nat.reduceEqDiff, reduceIte, reduceCtorEq, Int.reduceEq, Int.reduceNeg, Int.reduceLE, Int.reduceLT, Nat.reduceAdd, Nat.reduceLeDiff, Int.reduceToNat, Nat.reduceMul, Nat.reduceBEq, okPart, Value.cells, cut, okCell, cld2, underlying3, underlying4, underlying26, co53, wrapR_wrap]
      exact h
    · simp -implicitDefEqProofs only [↓Zd, (Zp), if_true, if_false, ne_eq, implies_true, forall_const, Nat.reduceEqDiff, reduceIte, reduceCtorEq, Int.reduceEq, Int.reduceNeg, Int.reduceLE, Int.reduceLT, Nat.reduceAdd, Nat.reduceLeDiff, Int.reduceToNat, Nat.reduceMul, Nat.reduceBEq, okPart, Value.cells, cut, okCell, cld2, underlying3, underlying4, underlying26, co60, h0, h1]
      refine rwrap_spec ?_
      simp -implicitDefEqProofs only [↓Zd, (Zp), if_true, if_false, ne_eq, implies_true, forall_const, Nat.reduceEqDiff, reduceIte, reduceCtorEq, Int.reduceEq, Int.reduceNeg, Int.reduceLE, Int.reduceLT, Nat.reduceAdd, Nat.reduceLeDiff, Int.reduceToNat, Nat.reduceMul, Nat.reduceBEq, okPart, Value.cells, cut, okCell, cld2, underlying3, underlying4, underlying26, co60, wrapR_wrap]
      unfold divN erN at h
      rw [if_neg h0, if_neg h1, if_neg h0] at h
      exact h

theorem rmod_spec {a b : Int} (ha : I64 a) (h : R (.tuple #[.int .i64 (modN a b), .int .i64 (erN b)]) s) : CCalls Try.prog w0 43 #[.int .i64 a, .int .i64 b] s R := by
  refine wfun2 hmix ok43 (l := [.int .i64 a, .int .i64 b]) func43 rfl ntmps43 results43 (by simp) ?_
  by_cases h0 : b = 0
  · subst h0
    simp -implicitDefEqProofs only [↓Zd, (Zp), if_true, if_false, ne_eq, implies_true, forall_const, Nat.reduceEqDiff, reduceIte, reduceCtorEq, Int.reduceEq, Int.reduceNeg, Int.reduceLE, Int.reduceLT, Nat.reduceAdd, Nat.reduceLeDiff, Int.reduceToNat, Nat.reduceMul, Nat.reduceBEq, okPart, Value.cells, cut, okCell, cld2, underlying3, underlying4, underlying26]
    exact h
  · by_cases h1 : b = -1
    · subst h1
      simp -implicitDefEqProofs only [↓Zd, (Zp), if_true, if_false, ne_eq, implies_true, forall_const, Nat.reduceEqDiff, reduceIte, reduceCtorEq, Int.reduceEq, Int.reduceNeg, Int.reduceLE, Int.reduceLT, Nat.reduceAdd, Nat.reduceLeDiff, Int.reduceToNat, Nat.reduceMul, Nat.reduceBEq, okPart, Value.cells, cut, okCell, cld2, underlying3, underlying4, underlying26]
      exact h
    · simp -implicitDefEqProofs only [↓Zd, (Zp), if_true, if_false, ne_eq, implies_true, forall_const, Nat.reduceEqDiff, reduceIte, reduceCtorEq, Int.reduceEq, Int.reduceNeg, Int.reduceLE, Int.reduceLT, Nat.reduceAdd, Nat.reduceLeDiff, Int.reduceToNat, Nat.reduceMul, Nat.reduceBEq, okPart, Value.cells, cut, okCell, cld2, underlying3, underlying4, underlying26, h0, h1, rest_eq ha]
      unfold modN erN at h
      rw [if_neg h0, if_neg h1, if_neg h0] at h
      split at h
      · rename_i h2; subst h2; rw [Int.tmod_one]; exact h
      · exact h



end




end Go.Proofs.Try
