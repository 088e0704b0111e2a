/- The form of a program's codes: whether an instruction's argument may be. A lemma file: no statement of its own. -/
import Derived.Test.YtjjbmmgafclcaaaGreatqFwF
import Derived.Test.YtjjbmmgafclcaaaGreatqBB2
set_option linter.unusedSimpArgs false
set_option linter.unusedVariables false
set_option linter.unusedSectionVars false
namespace Go.Proofs.Tryz
open Go.Cs
open Go.RowKit (Below)
set_option maxRecDepth 100000
attribute [local irreducible] CCalls WLoop WScope CRound WRange
section
variable {M : Type} [Mem M] {w0 : World} {s : St M} {R : Value → St M → Prop}
set_option maxHeartbeats 8000000 in
theorem arg_spec {g o a b : Int} {pl cl : Option Addr} {np nc cpp ccp : Nat} {c : CodeV} (hc : CodeOk c) (hnp : np ≤ 9223372036854775807) (hnc : nc ≤ 9223372036854775807)
    (hR : ∀ s' r, s.le s' → (r = true → 22 ≤ o → o ≤ 25 → 0 ≤ a ∧ a < (c.ins.length : Int)) → R (.bool r) s') :
    CCalls Tryz.prog w0 12 #[.agg #[.int .i64 g, .slice pl np cpp, .slice cl nc ccp], .agg #[.int .i64 c.p, .int .i64 c.l, .int .i64 c.s, .int .i64 c.d, .slice c.ad c.ins.length c.cp], .agg #[.int .i64 o, .int .i64 a, .int .i64 b]] s R := by
  refine wfun2 hmix ok12 (l := [.agg #[.int .i64 g, .slice pl np cpp, .slice cl nc ccp], .agg #[.int .i64 c.p, .int .i64 c.l, .int .i64 c.s, .int .i64 c.d, .slice c.ad c.ins.length c.cp], .agg #[.int .i64 o, .int .i64 a, .int .i64 b]]) func12 rfl ntmps12 results12 (by simp) ?_
  have w1 : IntKind.i64.wrap ((c.ins.length : Int) - 1) = (c.ins.length : Int) - 1 := wrap_i64 (by have := hc.len; omega)
  have l1 : s.le (((s.new (.cells [.int .i64 g, .slice pl np cpp, .slice cl nc ccp] 25 true)).new (.cells [.int .i64 c.p, .int .i64 c.l, .int .i64 c.s, .int .i64 c.d, .slice c.ad c.ins.length c.cp] 38 true)).new (.cells [.int .i64 o, .int .i64 a, .int .i64 b] 41 true)) := (by repeat (first | exact St.le_refl _ | assumption | refine St.le_new ?_ | refine St.le_put ?_ (by first | omega | (simp only [St.next_new, St.next_put, St.next_kill]; omega)) | refine St.le_trans ?_ (by assumption)))
  simp -implicitDefEqProofs only [↓Zd, (Zp), if_true, if_false, ne_eq, implies_true, forall_const, Nat.reduceEqDiff, reduceIte, reduceCtorEq, Int.reduceEq, Int.reduceNeg, Int.reduceLE, Int.reduceLT, Nat.reduceAdd, Nat.reduceLeDiff, Int.reduceToNat, Nat.reduceMul, Nat.reduceBEq, okPart, Value.cells, cut, okCell, cld2, (BBx), vA]
  repeat' (first | (refine c2_split (fun h => ?_) (fun h => ?_) <;> simp -implicitDefEqProofs only [↓Zd, (Zp), if_true, if_false, ne_eq, implies_true, forall_const, Nat.reduceEqDiff, reduceIte, reduceCtorEq, Int.reduceEq, Int.reduceNeg, Int.reduceLE, Int.reduceLT, Nat.reduceAdd, Nat.reduceLeDiff, Int.reduceToNat, Nat.reduceMul, Nat.reduceBEq, okPart, Value.cells, cut, okCell, cld2, (BBx), vA, w1]) | (refine g3_split (fun h => ?_) (fun h => ?_) <;> simp -implicitDefEqProofs only [↓Zd, (Zp), if_true, if_false, ne_eq, implies_true, forall_const, Nat.reduceEqDiff, reduceIte, reduceCtorEq, Int.reduceEq, Int.reduceNeg, Int.reduceLE, Int.reduceLT, Nat.reduceAdd, Nat.reduceLeDiff, Int.reduceToNat, Nat.reduceMul, Nat.reduceBEq, okPart, Value.cells, cut, okCell, cld2, (BBx), vA, w1]))
  all_goals (refine hR _ _ l1 (fun hb h22 h25 => ?_))
  all_goals (first | (cases hb; done) | (simp only [decide_eq_true_eq, decide_eq_false_iff_not] at *; omega))
end
end Go.Proofs.Tryz
