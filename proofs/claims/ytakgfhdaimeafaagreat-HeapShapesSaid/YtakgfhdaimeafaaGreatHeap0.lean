/- Heaps that are not there: the walk of the law on them. A lemma file: no statement of its own. -/
import Derived.Test.YtakgfhdaimeafaaGreatVal1
import Derived.Test.YtakgfhdaimeafaaGreatFwF
set_option linter.unusedSimpArgs false
set_option linter.unusedVariables false
set_option linter.unusedSectionVars false
namespace Go.Proofs.Tryz
open Go.Cs
open Go.RowKit (Below)
set_option maxRecDepth 100000
attribute [local irreducible] CCalls WLoop WScope

set_option linter.defProp false in
/-- Facts on the type of acts, all at once. -/
def ACx := (And.intro (And.intro (And.intro @underlying32 @is32) (And.intro @ag32 @ce32)) (And.intro (And.intro @fa32x0 @fa32x1) (And.intro @fa32x2 (And.intro @fa32x3 @fa32x4))))

section
variable {M : Type} [Mem M] {w0 : World} {s : St M} {R : Value → St M → Prop}

theorem long12_spec {a0 a1 a2 : Int} {a3 : ByteArray} {k4 n4 : Int} {x4 : ByteArray} (h : R (.bool (decide ((300 : Int) < a3.size) || decide ((300 : Int) < x4.size))) (s.new (.cells [.int .i64 a0, .int .i64 a1, .int .i64 a2, .string a3, .int .i64 k4, .int .i64 n4, .string x4] 32 true))) :
    CCalls Tryz.prog w0 9 #[.agg #[.int .i64 a0, .int .i64 a1, .int .i64 a2, .string a3, .int .i64 k4, .int .i64 n4, .string x4]] s R := by
  refine wfun2 hmix ok9 (l := [.agg #[.int .i64 a0, .int .i64 a1, .int .i64 a2, .string a3, .int .i64 k4, .int .i64 n4, .string x4]]) func9 rfl ntmps9 results9 (by simp) ?_
  by_cases h1 : (300 : Int) < a3.size
  · simp only [h1, decide_true, Bool.true_or] at h
    simp -implicitDefEqProofs only [↓Zd, (Zp), if_true, if_false, ne_eq, implies_true, forall_const, Nat.reduceEqDiff, reduceIte, reduceCtorEq, Int.reduceEq, Int.reduceNeg, Int.reduceLE, Int.reduceLT, Nat.reduceAdd, Nat.reduceLeDiff, Int.reduceToNat, Nat.reduceMul, Nat.reduceBEq, okPart, Value.cells, cut, okCell, cld2, underlying3, underlying4, underlying9, underlying30, vA, is30, ag30, ce30, fa30x0, fa30x1, fa30x2, ag3, ce3, ag9, ce9, underlying3, underlying4, underlying9, underlying5, underlying45, underlying0, be4, bn4, (ACx), h1]
    exact h
  · simp only [h1, decide_false, Bool.false_or] at h
    simp -implicitDefEqProofs only [↓Zd, (Zp), if_true, if_false, ne_eq, implies_true, forall_const, Nat.reduceEqDiff, reduceIte, reduceCtorEq, Int.reduceEq, Int.reduceNeg, Int.reduceLE, Int.reduceLT, Nat.reduceAdd, Nat.reduceLeDiff, Int.reduceToNat, Nat.reduceMul, Nat.reduceBEq, okPart, Value.cells, cut, okCell, cld2, underlying3, underlying4, underlying9, underlying30, vA, is30, ag30, ce30, fa30x0, fa30x1, fa30x2, ag3, ce3, ag9, ce9, underlying3, underlying4, underlying9, underlying5, underlying45, underlying0, be4, bn4, (ACx), h1]
    exact h

theorem findDead_spec {b : Nat} {o : Int} {cs : List Value} {own : Bool} (h0 : s.at' b = some (.cells (.slice none 0 0 :: cs) 65 own)) (h : R (.pointer none) s) : CCalls Tryz.prog w0 43 #[.pointer (some ⟨b, 0, none⟩), .int .i64 o] s R := by
  refine wfun2 hmix ok43 (l := [.pointer (some ⟨b, 0, none⟩), .int .i64 o]) func43 rfl ntmps43 results43 (by simp) ?_
  by_cases h1 : o < 1
  · simp -implicitDefEqProofs only [↓Zd, (Zp), if_true, if_false, ne_eq, implies_true, forall_const, Nat.reduceEqDiff, reduceIte, reduceCtorEq, Int.reduceEq, Int.reduceNeg, Int.reduceLE, Int.reduceLT, Nat.reduceAdd, Nat.reduceLeDiff, Int.reduceToNat, Nat.reduceMul, Nat.reduceBEq, okPart, Value.cells, cut, okCell, cld2, underlying3, underlying4, underlying9, underlying5, underlying45, underlying0, be4, bn4, h0, h1, nf24]
    exact h
  · have h2 : (0 : Int) < o := by omega
    simp -implicitDefEqProofs only [↓Zd, (Zp), if_true, if_false, ne_eq, implies_true, forall_const, Nat.reduceEqDiff, reduceIte, reduceCtorEq, Int.reduceEq, Int.reduceNeg, Int.reduceLE, Int.reduceLT, Nat.reduceAdd, Nat.reduceLeDiff, Int.reduceToNat, Nat.reduceMul, Nat.reduceBEq, okPart, Value.cells, cut, okCell, cld2, underlying3, underlying4, underlying9, underlying5, underlying45, underlying0, be4, bn4, h0, h1, h2, fa65x0, nf24, ag63, underlying63]
    exact h

/-- An object of a heap without objects is not there. -/
def orc12 : Orc M := ⟨fun f args s => if f = 43 then (match args.toList with
  | [.pointer (some p), .int .i64 _] => if p.off = 0 ∧ p.spot = none then (match s.at' p.block with
    | some (.cells (.slice none 0 0 :: _) t _) => if t = 65 then some (.pointer none) else none
    | _ => none) else none
  | _ => none) else none, fun _ _ => false⟩

theorem orc12_ok : OrcOk (M := M) Tryz.prog w0 orc12 := by
  intro f args s v h
  unfold orc12 at h
  simp only at h
  split at h
  case isFalse => cases h
  rename_i hf
  subst hf
  split at h
  case h_2 => cases h
  rename_i p o ha
  split at h
  case isFalse => cases h
  rename_i hp
  split at h
  case h_2 => cases h
  rename_i cs t own hat
  split at h
  case isFalse => cases h
  rename_i ht
  subst ht
  cases h
  obtain ⟨b, off, spot⟩ := p
  obtain ⟨rfl, rfl⟩ := hp
  have : args = #[.pointer (some ⟨b, 0, none⟩), .int .i64 o] := by
    apply Array.ext'; exact ha
  subst this
  exact findDead_spec hat ⟨rfl, rfl⟩

end
end Go.Proofs.Tryz
