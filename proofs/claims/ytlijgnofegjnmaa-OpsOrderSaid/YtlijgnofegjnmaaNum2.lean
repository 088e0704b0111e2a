/- The plain laws of what reckons: how numbers go around. A lemma file: no statement of its own. -/
import Derived.Test.YtlijgnofegjnmaaNum1
set_option linter.unusedSimpArgs false
set_option linter.unusedVariables false
namespace Go.Proofs.Try
open Go.Cs

/-- Going around by 2^63. -/
def w63 (n : Int) : Int := (n + 4611686018427387904) % 9223372036854775808 - 4611686018427387904

/-- What an int may be. -/
def I64 (n : Int) : Prop := -9223372036854775808 ≤ n ∧ n ≤ 9223372036854775807

theorem wrap64 (n : Int) : IntKind.i64.wrap n = (n + 9223372036854775808) % 18446744073709551616 - 9223372036854775808 := by
  simp only [IntKind.wrap, IntKind.bits, IntKind.signed, Bool.true_and, decide_eq_true_eq, Int.reducePow, Nat.reduceSub, ge_iff_le]
  split <;> omega
theorem wrapu64 (n : Int) : IntKind.u64.wrap n = n % 18446744073709551616 := by
  simp [IntKind.wrap, IntKind.bits, IntKind.signed]
theorem wrap64_I64 (n : Int) : I64 (IntKind.i64.wrap n) := by rw [wrap64]; unfold I64; omega
theorem wrap64_id {n : Int} (h : I64 n) : IntKind.i64.wrap n = n := by rw [wrap64]; unfold I64 at h; omega
theorem wrapN_eq (n : Int) : wrapN n = w63 n := by
  unfold wrapN w63
  rw [Int.fdiv_eq_ediv_of_nonneg _ (by simp [IntKind.bits])]
  simp only [wrap64, wrapu64, IntKind.bits, show min 1 64 = 1 from rfl, Int.pow_one]
  omega
theorem w63_wrap64 (n : Int) : w63 (IntKind.i64.wrap n) = w63 n := by rw [wrap64]; unfold w63; omega
theorem w63_I64 (n : Int) : I64 (w63 n) := by unfold w63 I64; omega
theorem w63_id {n : Int} (h1 : -4611686018427387904 ≤ n) (h2 : n ≤ 4611686018427387903) : w63 n = n := by unfold w63; omega
theorem w63_low (n : Int) : -4611686018427387904 ≤ w63 n := by unfold w63; omega
theorem w63_high (n : Int) : w63 n ≤ 4611686018427387903 := by unfold w63; omega
theorem w63_w63 (n : Int) : w63 (w63 n) = w63 n := w63_id (w63_low n) (w63_high n)
theorem w63_add (a b : Int) : w63 (w63 a + w63 b) = w63 (a + b) := by unfold w63; omega
theorem w63_sub (a b : Int) : w63 (w63 a - w63 b) = w63 (a - b) := by unfold w63; omega
theorem w63_ex (a : Int) : ∃ k, w63 a = a + 9223372036854775808 * k := ⟨-((a + 4611686018427387904) / 9223372036854775808), by unfold w63; omega⟩
theorem w63_shift (a k : Int) : w63 (a + 9223372036854775808 * k) = w63 a := by unfold w63; omega
theorem w63_mul (a b : Int) : w63 (w63 a * w63 b) = w63 (a * b) := by
  obtain ⟨i, hi⟩ := w63_ex a
  obtain ⟨j, hj⟩ := w63_ex b
  rw [hi, hj, show (a + 9223372036854775808 * i) * (b + 9223372036854775808 * j) = a * b + 9223372036854775808 * (a * j + i * b + i * (9223372036854775808 * j)) from by
    simp only [Int.add_mul, Int.mul_add, Int.mul_assoc, Int.mul_comm, Int.mul_left_comm]; omega, w63_shift]
theorem w63_add_l (a b : Int) : w63 (w63 a + b) = w63 (a + b) := by unfold w63; omega
theorem w63_add_r (a b : Int) : w63 (a + w63 b) = w63 (a + b) := by unfold w63; omega
theorem w63_sub_l (a b : Int) : w63 (w63 a - b) = w63 (a - b) := by unfold w63; omega
theorem w63_sub_r (a b : Int) : w63 (a - w63 b) = w63 (a - b) := by unfold w63; omega
theorem w63_mul_l (a b : Int) : w63 (w63 a * b) = w63 (a * b) := by rw [← w63_mul, w63_w63, w63_mul]
theorem w63_mul_r (a b : Int) : w63 (a * w63 b) = w63 (a * b) := by rw [← w63_mul, w63_w63, w63_mul]

theorem addN_eq (a b : Int) : addN a b = w63 (a + b) := by
  unfold addN
  rw [wrapN_eq]
  simp only [wrap64, wrapu64, w63]
  omega
theorem subN_eq (a b : Int) : subN a b = w63 (a - b) := by
  unfold subN
  rw [wrapN_eq]
  simp only [wrap64, wrapu64, w63]
  omega
theorem mulN_eq (a b : Int) : mulN a b = w63 (a * b) := by
  unfold mulN
  rw [wrapN_eq, w63_wrap64]
  have h : ∀ x, w63 (IntKind.u64.wrap x) = w63 x := fun x => by rw [wrapu64]; unfold w63; omega
  rw [h, ← w63_mul, h, h, w63_mul]
theorem wrapR_eq {n : Int} (h : I64 n) : wrapR n = w63 n := by
  unfold wrapR I64 at *
  split
  · simp only [wrap64]; unfold w63; omega
  · split
    · simp only [wrap64]; unfold w63; omega
    · unfold w63; omega
theorem wrapR_wrap (n : Int) : wrapR (IntKind.i64.wrap n) = w63 n := by rw [wrapR_eq (wrap64_I64 n), w63_wrap64]
end Go.Proofs.Try
