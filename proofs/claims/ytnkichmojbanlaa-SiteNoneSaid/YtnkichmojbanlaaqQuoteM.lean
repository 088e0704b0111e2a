/- Strings as they are written: plain laws. A lemma file: no statement of its own. -/
import Derived.Test.YtnkichmojbanlaaqBytes
set_option linter.unusedSimpArgs false
set_option linter.unusedVariables false
set_option linter.unusedSectionVars false
namespace Go.Proofs.Try
open Go.Cs
open Go.RowKit (Below)
set_option maxRecDepth 100000
def plainB (c : UInt8) : Bool := decide (32 ≤ (c.toNat : Int)) && (decide ((c.toNat : Int) ≤ 126) && (!decide ((c.toNat : Int) = 34) && !decide ((c.toNat : Int) = 92)))
def hexS : ByteArray := ⟨#[48, 49, 50, 51, 52, 53, 54, 55, 56, 57, 97, 98, 99, 100, 101, 102]⟩
def hexB (n : Nat) : UInt8 := hexS.data.getD n 0
def escB (c : UInt8) : List UInt8 := if plainB c = true then [c] else if (c.toNat : Int) = 34 ∨ (c.toNat : Int) = 92 then [92, c] else [92, 120, hexB (c.toNat / 16), hexB (c.toNat % 16)]
def quoteL (l : List UInt8) : List UInt8 := 34 :: (l.flatMap escB ++ [34])
def quoteS (x : ByteArray) : ByteArray := ⟨(quoteL x.data.toList).toArray⟩
theorem byte_at' {x : ByteArray} {i : Nat} (h : i < x.size) : ∃ b, x[i]? = some b ∧ x.data.toList.take (i + 1) = x.data.toList.take i ++ [b] := by
  have h' : i < x.data.toList.length := by simpa using h
  refine ⟨x.data.toList[i], ?_, List.take_succ_eq_append_getElem h'⟩
  simp only [Array.getElem_toList]
  rw [getElem?_pos x i h]
  rfl
theorem hex_at {n : Nat} (h : n < 16) : hexS[n]? = some (hexB n) := by
  have : ∀ n : Fin 16, hexS[n.val]? = some (hexB n.val) := by decide
  exact this ⟨n, h⟩
theorem escB_len (c : UInt8) : (escB c).length ≤ 4 := by
  unfold escB; split <;> try split
  all_goals simp
theorem flat_len : ∀ l : List UInt8, (l.flatMap escB).length ≤ 4 * l.length := by
  intro l
  induction l with
  | nil => simp
  | cons c l ih => have := escB_len c; simp only [List.flatMap_cons, List.length_append, List.length_cons]; omega
theorem and15 (c : UInt8) {x y : Operand} : cbin Try.prog .and 5 x y (.int .u8 c.toNat) (.int .u8 15) = some (.int .u8 ((c.toNat % 16 : Nat) : Int)) := by
  have : ∀ n : Fin 256, (match pure6 Try.prog (Go.binOp .and 5 (.int .u8 (n.val : Int)) (.int .u8 15)) with | some (.int .u8 m) => m == ((n.val % 16 : Nat) : Int) | _ => false) = true := by decide +kernel
  have h := this ⟨c.toNat, c.toNat_lt⟩
  simp only [cbin, if_true]
  split at h
  · rename_i m hm
    rw [show ((⟨c.toNat, c.toNat_lt⟩ : Fin 256).val) = c.toNat from rfl] at hm h
    rw [hm, eq_of_beq h]
  · cases h
end Go.Proofs.Try
