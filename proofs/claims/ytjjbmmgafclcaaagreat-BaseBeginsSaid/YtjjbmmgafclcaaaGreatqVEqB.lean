/- Whether two values are alike, as the language tells it. A lemma file: no statement of its own. -/
import Derived.Test.YtjjbmmgafclcaaaGreatqFacts
import Derived.Test.YtjjbmmgafclcaaaGreatqTypes
import Derived.Test.YtjjbmmgafclcaaaGreatqFwF
import Derived.Test.YtjjbmmgafclcaaaGreatqVal1
set_option linter.unusedSimpArgs false
set_option linter.unusedVariables false
set_option linter.unusedSectionVars false
namespace Go.Proofs.Tryz
open Go.Cs
set_option maxRecDepth 100000
theorem Vguard27 : Program.eqGuardType Tryz.prog Tryz.prog.depth 27 = false := by kernel_rfl
theorem Vstood27 : Tryz.prog.stoodInHeld 27 = false := by kernel_rfl
theorem Vpart27x0 (k n : Int) (x : ByteArray) : pureRun Tryz.prog (part 3 #[.int .i64 k, .int .i64 n, .string x] 0) = some (.int .i64 k) := by kernel_rfl
theorem Vpart27x1 (k n : Int) (x : ByteArray) : pureRun Tryz.prog (part 3 #[.int .i64 k, .int .i64 n, .string x] 1) = some (.int .i64 n) := by kernel_rfl
theorem Vpart27x2 (k n : Int) (x : ByteArray) : pureRun Tryz.prog (part 9 #[.int .i64 k, .int .i64 n, .string x] 2) = some (.string x) := by kernel_rfl
theorem Vneq57 {k n k' n' : Int} {x x' : ByteArray} : pureRun Tryz.prog (Go.binOp .neq 27 (vA k n x) (vA k' n' x')) = some (.bool (!((k == k') && ((n == n') && (decide (x = x') && true))))) := by
  unfold vA
  simp only [Go.binOp, pureRun_bind]
  have := pr_eqStruct (P := Tryz.prog) (d := 9999) (xs := #[.int .i64 k, .int .i64 n, .string x]) (ys := #[.int .i64 k', .int .i64 n', .string x']) underlying27 Vstood27
  rw [show Op.equal 27 (Value.agg #[.int .i64 k, .int .i64 n, .string x]) (Value.agg #[.int .i64 k', .int .i64 n', .string x']) = Op.equalIn (9999 + 1) 27 (Value.agg #[.int .i64 k, .int .i64 n, .string x]) (Value.agg #[.int .i64 k', .int .i64 n', .string x']) from rfl, this]
  rw [pr_eqCons (by decide) (Vpart27x0 k n x) (Vpart27x0 k' n' x') (pr_eqInt (d := 9998) underlying3) (pr_eqCons (by decide) (Vpart27x1 k n x) (Vpart27x1 k' n' x') (pr_eqInt (d := 9998) underlying3) (pr_eqCons (by decide) (Vpart27x2 k n x) (Vpart27x2 k' n' x') (pr_eqString (d := 9998) underlying9) pr_eqNil))]
  rfl
theorem Vdiffer57 {k n k' n' : Int} {x x' : ByteArray} {ox oy : Operand} : cbin Tryz.prog .neq 27 ox oy (vA k n x) (vA k' n' x') = some (.bool (!(decide (k = k') && (decide (n = n') && decide (x = x'))))) := by
  have h := Vneq57 (k := k) (n := n) (x := x) (k' := k') (n' := n') (x' := x')
  have h1 : plain 6 (vA k n x) = true := by kernel_rfl
  have h2 : plain 6 (vA k' n' x') = true := by kernel_rfl
  have h3 : pureRun Tryz.prog (eqGuard .neq 27 ox oy (vA k n x) (vA k' n' x')) = some () := by
    unfold vA eqGuard
    simp only [pureRun_bind, pureRun_program, Option.bind_some, Vguard27, Bool.not_false, if_true, pureRun_ite, pureRun_pure]
    rfl
  unfold vA at h1 h2 h3 h ⊢
  unfold cbin
  dsimp only
  rw [if_pos ⟨h1, h2⟩]
  unfold pure6
  rw [pureRun_bind, h3, Option.bind_some, h]
  show some (Value.bool _) = _
  rw [Bool.and_true]
  congr 2
theorem VneSelf {k n : Int} {x : ByteArray} {ox oy : Operand} : cbin Tryz.prog .neq 27 ox oy (.agg #[.int .i64 k, .int .i64 n, .string x]) (.agg #[.int .i64 k, .int .i64 n, .string x]) = some (.bool false) := by
  have := Vdiffer57 (k := k) (n := n) (x := x) (k' := k) (n' := n) (x' := x) (ox := ox) (oy := oy)
  unfold vA at this
  rw [this]; simp
end Go.Proofs.Tryz
