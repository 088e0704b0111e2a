/- The digits of numbers: plain laws, no program. A lemma file: no statement of its own. -/
import Derived.Test.YtnkichmojbanlaaqFwF
set_option linter.unusedSimpArgs false
set_option linter.unusedVariables false
namespace Go.Cs
def decL (n : Nat) : List UInt8 := if n < 10 then [UInt8.ofNat (48 + n)] else decL (n / 10) ++ [UInt8.ofNat (48 + n % 10)]
termination_by n
decreasing_by omega
theorem decL_lt {n : Nat} (h : n < 10) : decL n = [UInt8.ofNat (48 + n)] := by rw [decL, if_pos h]
theorem decL_ge {n : Nat} (h : 10 ≤ n) : decL n = decL (n / 10) ++ [UInt8.ofNat (48 + n % 10)] := by rw [decL, if_neg (by omega)]
def digL (n : Int) : List UInt8 := if n < 0 then 45 :: decL n.natAbs else decL n.natAbs
def digS (n : Int) : ByteArray := ⟨(digL n).toArray⟩
theorem decL_len_pow : ∀ (k n : Nat), n < 10 ^ (k + 1) → (decL n).length ≤ k + 1 := by
  intro k
  induction k with
  | zero => intro n h; rw [decL_lt (by simpa using h)]; simp
  | succ k ih =>
    intro n h
    by_cases h10 : n < 10
    · rw [decL_lt h10]; simp
    · rw [decL_ge (by omega)]
      have := ih (n / 10) (by rw [Nat.div_lt_iff_lt_mul (by omega)]; rw [Nat.pow_succ] at h; omega)
      simp; omega
theorem drop_set_self {vs : List Value} {o : Nat} {v : Value} (h : o < vs.length) : (vs.set o v).drop o = v :: vs.drop (o + 1) := by
  rw [List.drop_eq_getElem_cons (by simpa using h)]
  simp [List.drop_set]
end Go.Cs
