/- Whether two values are alike, as the language tells it. A lemma file: no statement of its own. -/
import Derived.Test.YtnkichmojbanlaaGreatqFacts
import Derived.Test.YtnkichmojbanlaaGreatqTypes
import Derived.Test.YtnkichmojbanlaaGreatqFwF
import Derived.Test.YtnkichmojbanlaaGreatqVal1
import Derived.Test.YtnkichmojbanlaaGreatqHDM
set_option linter.unusedSimpArgs false
set_option linter.unusedVariables false
set_option linter.unusedSectionVars false
namespace Go.Proofs.Tryz
open Go.Cs
set_option maxRecDepth 100000
theorem Vguard36 : Program.eqGuardType Tryz.prog Tryz.prog.depth 36 = false := by kernel_rfl
theorem Vstood36 : Tryz.prog.stoodInHeld 36 = false := by kernel_rfl
theorem Vpart36x0 (k n : Int) (x : ByteArray) : pureRun Tryz.prog (part 3 #[.int .i64 k, .int .i64 n, .string x] 0) = some (.int .i64 k) := by kernel_rfl
theorem Vpart36x1 (k n : Int) (x : ByteArray) : pureRun Tryz.prog (part 3 #[.int .i64 k, .int .i64 n, .string x] 1) = some (.int .i64 n) := by kernel_rfl
theorem Vpart36x2 (k n : Int) (x : ByteArray) : pureRun Tryz.prog (part 9 #[.int .i64 k, .int .i64 n, .string x] 2) = some (.string x) := by kernel_rfl
theorem Veq36 {k n k' n' : Int} {x x' : ByteArray} : pureRun Tryz.prog (Go.binOp .eql 36 (vA k n x) (vA k' n' x')) = some (.bool ((k == k') && ((n == n') && (decide (x = x') && true)))) := by
  unfold vA
  simp only [Go.binOp, pureRun_bind]
  have := pr_eqStruct (P := Tryz.prog) (d := 9999) (xs := #[.int .i64 k, .int .i64 n, .string x]) (ys := #[.int .i64 k', .int .i64 n', .string x']) underlying36 Vstood36
  rw [show Op.equal 36 (Value.agg #[.int .i64 k, .int .i64 n, .string x]) (Value.agg #[.int .i64 k', .int .i64 n', .string x']) = Op.equalIn (9999 + 1) 36 (Value.agg #[.int .i64 k, .int .i64 n, .string x]) (Value.agg #[.int .i64 k', .int .i64 n', .string x']) from rfl, this]
  rw [pr_eqCons (by decide) (Vpart36x0 k n x) (Vpart36x0 k' n' x') (pr_eqInt (d := 9998) underlying3) (pr_eqCons (by decide) (Vpart36x1 k n x) (Vpart36x1 k' n' x') (pr_eqInt (d := 9998) underlying3) (pr_eqCons (by decide) (Vpart36x2 k n x) (Vpart36x2 k' n' x') (pr_eqString (d := 9998) underlying9) pr_eqNil))]
  rfl
theorem Vsame36 {k n k' n' : Int} {x x' : ByteArray} {ox oy : Operand} : cbin Tryz.prog .eql 36 ox oy (vA k n x) (vA k' n' x') = some (.bool (decide (k = k') && (decide (n = n') && decide (x = x')))) := by
  have h := Veq36 (k := k) (n := n) (x := x) (k' := k') (n' := n') (x' := x')
  have h1 : plain 6 (vA k n x) = true := by kernel_rfl
  have h2 : plain 6 (vA k' n' x') = true := by kernel_rfl
  have h3 : pureRun Tryz.prog (eqGuard .eql 36 ox oy (vA k n x) (vA k' n' x')) = some () := by
    unfold vA eqGuard
    simp only [pureRun_bind, pureRun_program, Option.bind_some, Vguard36, Bool.not_false, if_true, pureRun_ite, pureRun_pure]
    rfl
  unfold vA at h1 h2 h3 h ⊢
  unfold cbin
  dsimp only
  rw [if_pos ⟨h1, h2⟩]
  unfold pure6
  rw [pureRun_bind, h3, Option.bind_some, h]
  show some (Value.bool _) = _
  rw [Bool.and_true]
  congr 2
theorem VeqSelf {k n : Int} {x : ByteArray} {ox oy : Operand} : cbin Tryz.prog .eql 36 ox oy (.agg #[.int .i64 k, .int .i64 n, .string x]) (.agg #[.int .i64 k, .int .i64 n, .string x]) = some (.bool true) := by
  have := Vsame36 (k := k) (n := n) (x := x) (k' := k) (n' := n) (x' := x) (ox := ox) (oy := oy)
  unfold vA at this
  rw [this]; simp
end Go.Proofs.Tryz
