/- The walks of values as they are shown and printed, in both texts. A lemma file: no statement of its own. -/
import Derived.Test.YtnkichmojbanlaaqFwF
import Derived.Test.YtnkichmojbanlaaqQuote
import Derived.Test.YtnkichmojbanlaaqDig1
import Derived.Test.YtnkichmojbanlaaqVal1
set_option linter.unusedSimpArgs false
set_option linter.unusedVariables false
set_option linter.unusedSectionVars false
namespace Go.Proofs.Try
open Go.Cs
open Go.RowKit (Below)
set_option maxRecDepth 100000
attribute [local irreducible] CCalls WLoop WScope
def showV (k n : Int) (x : ByteArray) : ByteArray := if k = 0 then ⟨#[110, 117, 108, 108]⟩ else if k = 1 then (if n = 0 then ⟨#[102, 97, 108, 115, 101]⟩ else ⟨#[116, 114, 117, 101]⟩) else if k = 2 then digS n else if k = 3 then x else if k = 4 then ⟨#[111, 98, 106, 101, 99, 116]⟩ else if k = 5 then ⟨#[102, 117, 110, 99, 116, 105, 111, 110]⟩ else ⟨#[]⟩
def printV (k n : Int) (x : ByteArray) : ByteArray := if k = 3 then quoteS x else if k = 4 then ⟨#[35]⟩ ++ digS n else if k = 5 then ⟨#[38]⟩ ++ digS n else showV k n x
theorem kinds (k : Int) : k = 0 ∨ k = 1 ∨ k = 2 ∨ k = 3 ∨ k = 4 ∨ k = 5 ∨ (¬ k = 0 ∧ ¬ k = 1 ∧ ¬ k = 2 ∧ ¬ k = 3 ∧ ¬ k = 4 ∧ ¬ k = 5) := by omega
theorem digS_len {n : Int} (hn : -9223372036854775808 ≤ n ∧ n ≤ 9223372036854775807) : (digS n).size ≤ 21 := by
  show (digL n).length ≤ _
  have := decL_len_pow 19 n.natAbs (by omega)
  unfold digL
  split
  · simp; omega
  · omega
section
variable {M : Type} [Mem M] {w0 : World} {s : St M} {R : Value → St M → Prop}
set_option maxHeartbeats 2000000 in
theorem show_spec {k n : Int} {x : ByteArray} (hn : -9223372036854775808 ≤ n ∧ n ≤ 9223372036854775807) (h : ∀ s', s.le s' → R (.string (showV k n x)) s') : CCalls Try.prog w0 80 #[vA k n x] s R := by
  refine wfun2 hmix ok80 (l := [vA k n x]) func80 rfl ntmps80 results80 (by simp) ?_
  unfold showV at h
  rcases kinds k with rfl | rfl | rfl | rfl | rfl | rfl | ⟨h0, h1, h2, h3, h4, h5⟩
  · simp -implicitDefEqProofs only [↓Zd, (Zp), if_true, if_false, ne_eq, implies_true, forall_const, Nat.reduceEqDiff, reduceIte, reduceCtorEq, Int.reduceEq, Int.reduceNeg, Int.reduceLE, Int.reduceLT, Nat.reduceAdd, Nat.reduceLeDiff, Int.reduceToNat, Nat.reduceMul, Nat.reduceBEq, okPart, Value.cells, cut, okCell, cld2, underlying3, underlying4, underlying9, underlying37, vA, is37, ag37, ce37, fa37x0, fa37x1, fa37x2, ag3, ce3, ag9, ce9, underlying3, underlying4, underlying9, underlying5, underlying32, underlying0, be4, bn4]
    exact h _ (St.le_new (St.le_refl s))
  · by_cases hz : n = 0
    · simp -implicitDefEqProofs only [↓Zd, (Zp), if_true, if_false, ne_eq, implies_true, forall_const, Nat.reduceEqDiff, reduceIte, reduceCtorEq, Int.reduceEq, Int.reduceNeg, Int.reduceLE, Int.reduceLT, Nat.reduceAdd, Nat.reduceLeDiff, Int.reduceToNat, Nat.reduceMul, Nat.reduceBEq, okPart, Value.cells, cut, okCell, cld2, underlying3, underlying4, underlying9, underlying37, vA, is37, ag37, ce37, fa37x0, fa37x1, fa37x2, ag3, ce3, ag9, ce9, underlying3, underlying4, underlying9, underlying5, underlying32, underlying0, be4, bn4, hz]
      simp only [hz] at h
      exact h _ (St.le_new (St.le_refl s))
    · simp -implicitDefEqProofs only [↓Zd, (Zp), if_true, if_false, ne_eq, implies_true, forall_const, Nat.reduceEqDiff, reduceIte, reduceCtorEq, Int.reduceEq, Int.reduceNeg, Int.reduceLE, Int.reduceLT, Nat.reduceAdd, Nat.reduceLeDiff, Int.reduceToNat, Nat.reduceMul, Nat.reduceBEq, okPart, Value.cells, cut, okCell, cld2, underlying3, underlying4, underlying9, underlying37, vA, is37, ag37, ce37, fa37x0, fa37x1, fa37x2, ag3, ce3, ag9, ce9, underlying3, underlying4, underlying9, underlying5, underlying32, underlying0, be4, bn4, hz]
      simp only [hz] at h
      exact h _ (St.le_new (St.le_refl s))
  · simp -implicitDefEqProofs only [↓Zd, (Zp), if_true, if_false, ne_eq, implies_true, forall_const, Nat.reduceEqDiff, reduceIte, reduceCtorEq, Int.reduceEq, Int.reduceNeg, Int.reduceLE, Int.reduceLT, Nat.reduceAdd, Nat.reduceLeDiff, Int.reduceToNat, Nat.reduceMul, Nat.reduceBEq, okPart, Value.cells, cut, okCell, cld2, underlying3, underlying4, underlying9, underlying37, vA, is37, ag37, ce37, fa37x0, fa37x1, fa37x2, ag3, ce3, ag9, ce9, underlying3, underlying4, underlying9, underlying5, underlying32, underlying0, be4, bn4, co47]
    refine digits_spec hn fun s1 hs1 => ?_
    simp -implicitDefEqProofs only [↓Zd, (Zp), if_true, if_false, ne_eq, implies_true, forall_const, Nat.reduceEqDiff, reduceIte, reduceCtorEq, Int.reduceEq, Int.reduceNeg, Int.reduceLE, Int.reduceLT, Nat.reduceAdd, Nat.reduceLeDiff, Int.reduceToNat, Nat.reduceMul, Nat.reduceBEq, okPart, Value.cells, cut, okCell, cld2, underlying3, underlying4, underlying9, underlying37, vA, is37, ag37, ce37, fa37x0, fa37x1, fa37x2, ag3, ce3, ag9, ce9, underlying3, underlying4, underlying9, underlying5, underlying32, underlying0, be4, bn4]
    exact h _ (St.le_trans (St.le_new (St.le_refl s)) hs1)
  · simp -implicitDefEqProofs only [↓Zd, (Zp), if_true, if_false, ne_eq, implies_true, forall_const, Nat.reduceEqDiff, reduceIte, reduceCtorEq, Int.reduceEq, Int.reduceNeg, Int.reduceLE, Int.reduceLT, Nat.reduceAdd, Nat.reduceLeDiff, Int.reduceToNat, Nat.reduceMul, Nat.reduceBEq, okPart, Value.cells, cut, okCell, cld2, underlying3, underlying4, underlying9, underlying37, vA, is37, ag37, ce37, fa37x0, fa37x1, fa37x2, ag3, ce3, ag9, ce9, underlying3, underlying4, underlying9, underlying5, underlying32, underlying0, be4, bn4]
    exact h _ (St.le_new (St.le_refl s))
  · simp -implicitDefEqProofs only [↓Zd, (Zp), if_true, if_false, ne_eq, implies_true, forall_const, Nat.reduceEqDiff, reduceIte, reduceCtorEq, Int.reduceEq, Int.reduceNeg, Int.reduceLE, Int.reduceLT, Nat.reduceAdd, Nat.reduceLeDiff, Int.reduceToNat, Nat.reduceMul, Nat.reduceBEq, okPart, Value.cells, cut, okCell, cld2, underlying3, underlying4, underlying9, underlying37, vA, is37, ag37, ce37, fa37x0, fa37x1, fa37x2, ag3, ce3, ag9, ce9, underlying3, underlying4, underlying9, underlying5, underlying32, underlying0, be4, bn4]
    exact h _ (St.le_new (St.le_refl s))
  · simp -implicitDefEqProofs only [↓Zd, (Zp), if_true, if_false, ne_eq, implies_true, forall_const, Nat.reduceEqDiff, reduceIte, reduceCtorEq, Int.reduceEq, Int.reduceNeg, Int.reduceLE, Int.reduceLT, Nat.reduceAdd, Nat.reduceLeDiff, Int.reduceToNat, Nat.reduceMul, Nat.reduceBEq, okPart, Value.cells, cut, okCell, cld2, underlying3, underlying4, underlying9, underlying37, vA, is37, ag37, ce37, fa37x0, fa37x1, fa37x2, ag3, ce3, ag9, ce9, underlying3, underlying4, underlying9, underlying5, underlying32, underlying0, be4, bn4]
    exact h _ (St.le_new (St.le_refl s))
  · simp only [h0, h1, h2, h3, h4, h5, if_false] at h
    simp -implicitDefEqProofs only [↓Zd, (Zp), if_true, if_false, ne_eq, implies_true, forall_const, Nat.reduceEqDiff, reduceIte, reduceCtorEq, Int.reduceEq, Int.reduceNeg, Int.reduceLE, Int.reduceLT, Nat.reduceAdd, Nat.reduceLeDiff, Int.reduceToNat, Nat.reduceMul, Nat.reduceBEq, okPart, Value.cells, cut, okCell, cld2, underlying3, underlying4, underlying9, underlying37, vA, is37, ag37, ce37, fa37x0, fa37x1, fa37x2, ag3, ce3, ag9, ce9, underlying3, underlying4, underlying9, underlying5, underlying32, underlying0, be4, bn4, h0, h1, h2, h3, h4, h5]
    exact h _ (St.le_new (St.le_refl s))
set_option maxHeartbeats 2000000 in
theorem print_spec {k n : Int} {x : ByteArray} (hn : -9223372036854775808 ≤ n ∧ n ≤ 9223372036854775807) (hx : x.size ≤ 1000000) (h : ∀ s', s.le s' → R (.string (printV k n x)) s') : CCalls Try.prog w0 52 #[vA k n x] s R := by
  refine wfun2 hmix ok52 (l := [vA k n x]) func52 rfl ntmps52 results52 (by simp) ?_
  unfold printV at h
  rcases kinds k with rfl | rfl | rfl | rfl | rfl | rfl | ⟨h0, h1, h2, h3, h4, h5⟩
  · simp -implicitDefEqProofs only [↓Zd, (Zp), if_true, if_false, ne_eq, implies_true, forall_const, Nat.reduceEqDiff, reduceIte, reduceCtorEq, Int.reduceEq, Int.reduceNeg, Int.reduceLE, Int.reduceLT, Nat.reduceAdd, Nat.reduceLeDiff, Int.reduceToNat, Nat.reduceMul, Nat.reduceBEq, okPart, Value.cells, cut, okCell, cld2, underlying3, underlying4, underlying9, underlying37, vA, is37, ag37, ce37, fa37x0, fa37x1, fa37x2, ag3, ce3, ag9, ce9, underlying3, underlying4, underlying9, underlying5, underlying32, underlying0, be4, bn4, co80]
    have hk := show_spec (w0 := w0) (s := s.new (.cells [.int .i64 0, .int .i64 n, .string x] 37 true)) (k := 0) (n := n) (x := x) (R := fun v s' => Cs.shape Try.prog 9 v fun v => R v s') hn
    unfold vA at hk
    refine hk fun s1 hs1 => ?_
    simp -implicitDefEqProofs only [↓Zd, (Zp), if_true, if_false, ne_eq, implies_true, forall_const, Nat.reduceEqDiff, reduceIte, reduceCtorEq, Int.reduceEq, Int.reduceNeg, Int.reduceLE, Int.reduceLT, Nat.reduceAdd, Nat.reduceLeDiff, Int.reduceToNat, Nat.reduceMul, Nat.reduceBEq, okPart, Value.cells, cut, okCell, cld2, underlying3, underlying4, underlying9, underlying37, vA, is37, ag37, ce37, fa37x0, fa37x1, fa37x2, ag3, ce3, ag9, ce9, underlying3, underlying4, underlying9, underlying5, underlying32, underlying0, be4, bn4]
    exact h _ (St.le_trans (St.le_new (St.le_refl s)) hs1)
  · simp -implicitDefEqProofs only [↓Zd, (Zp), if_true, if_false, ne_eq, implies_true, forall_const, Nat.reduceEqDiff, reduceIte, reduceCtorEq, Int.reduceEq, Int.reduceNeg, Int.reduceLE, Int.reduceLT, Nat.reduceAdd, Nat.reduceLeDiff, Int.reduceToNat, Nat.reduceMul, Nat.reduceBEq, okPart, Value.cells, cut, okCell, cld2, underlying3, underlying4, underlying9, underlying37, vA, is37, ag37, ce37, fa37x0, fa37x1, fa37x2, ag3, ce3, ag9, ce9, underlying3, underlying4, underlying9, underlying5, underlying32, underlying0, be4, bn4, co80]
    have hk := show_spec (w0 := w0) (s := s.new (.cells [.int .i64 1, .int .i64 n, .string x] 37 true)) (k := 1) (n := n) (x := x) (R := fun v s' => Cs.shape Try.prog 9 v fun v => R v s') hn
    unfold vA at hk
    refine hk fun s1 hs1 => ?_
    simp -implicitDefEqProofs only [↓Zd, (Zp), if_true, if_false, ne_eq, implies_true, forall_const, Nat.reduceEqDiff, reduceIte, reduceCtorEq, Int.reduceEq, Int.reduceNeg, Int.reduceLE, Int.reduceLT, Nat.reduceAdd, Nat.reduceLeDiff, Int.reduceToNat, Nat.reduceMul, Nat.reduceBEq, okPart, Value.cells, cut, okCell, cld2, underlying3, underlying4, underlying9, underlying37, vA, is37, ag37, ce37, fa37x0, fa37x1, fa37x2, ag3, ce3, ag9, ce9, underlying3, underlying4, underlying9, underlying5, underlying32, underlying0, be4, bn4]
    exact h _ (St.le_trans (St.le_new (St.le_refl s)) hs1)
  · simp -implicitDefEqProofs only [↓Zd, (Zp), if_true, if_false, ne_eq, implies_true, forall_const, Nat.reduceEqDiff, reduceIte, reduceCtorEq, Int.reduceEq, Int.reduceNeg, Int.reduceLE, Int.reduceLT, Nat.reduceAdd, Nat.reduceLeDiff, Int.reduceToNat, Nat.reduceMul, Nat.reduceBEq, okPart, Value.cells, cut, okCell, cld2, underlying3, underlying4, underlying9, underlying37, vA, is37, ag37, ce37, fa37x0, fa37x1, fa37x2, ag3, ce3, ag9, ce9, underlying3, underlying4, underlying9, underlying5, underlying32, underlying0, be4, bn4, co80]
    have hk := show_spec (w0 := w0) (s := s.new (.cells [.int .i64 2, .int .i64 n, .string x] 37 true)) (k := 2) (n := n) (x := x) (R := fun v s' => Cs.shape Try.prog 9 v fun v => R v s') hn
    unfold vA at hk
    refine hk fun s1 hs1 => ?_
    simp -implicitDefEqProofs only [↓Zd, (Zp), if_true, if_false, ne_eq, implies_true, forall_const, Nat.reduceEqDiff, reduceIte, reduceCtorEq, Int.reduceEq, Int.reduceNeg, Int.reduceLE, Int.reduceLT, Nat.reduceAdd, Nat.reduceLeDiff, Int.reduceToNat, Nat.reduceMul, Nat.reduceBEq, okPart, Value.cells, cut, okCell, cld2, underlying3, underlying4, underlying9, underlying37, vA, is37, ag37, ce37, fa37x0, fa37x1, fa37x2, ag3, ce3, ag9, ce9, underlying3, underlying4, underlying9, underlying5, underlying32, underlying0, be4, bn4]
    exact h _ (St.le_trans (St.le_new (St.le_refl s)) hs1)
  · simp -implicitDefEqProofs only [↓Zd, (Zp), if_true, if_false, ne_eq, implies_true, forall_const, Nat.reduceEqDiff, reduceIte, reduceCtorEq, Int.reduceEq, Int.reduceNeg, Int.reduceLE, Int.reduceLT, Nat.reduceAdd, Nat.reduceLeDiff, Int.reduceToNat, Nat.reduceMul, Nat.reduceBEq, okPart, Value.cells, cut, okCell, cld2, underlying3, underlying4, underlying9, underlying37, vA, is37, ag37, ce37, fa37x0, fa37x1, fa37x2, ag3, ce3, ag9, ce9, underlying3, underlying4, underlying9, underlying5, underlying32, underlying0, be4, bn4, co79]
    refine quote_spec hx fun s1 hs1 => ?_
    simp -implicitDefEqProofs only [↓Zd, (Zp), if_true, if_false, ne_eq, implies_true, forall_const, Nat.reduceEqDiff, reduceIte, reduceCtorEq, Int.reduceEq, Int.reduceNeg, Int.reduceLE, Int.reduceLT, Nat.reduceAdd, Nat.reduceLeDiff, Int.reduceToNat, Nat.reduceMul, Nat.reduceBEq, okPart, Value.cells, cut, okCell, cld2, underlying3, underlying4, underlying9, underlying37, vA, is37, ag37, ce37, fa37x0, fa37x1, fa37x2, ag3, ce3, ag9, ce9, underlying3, underlying4, underlying9, underlying5, underlying32, underlying0, be4, bn4]
    exact h _ (St.le_trans (St.le_new (St.le_refl s)) hs1)
  · simp -implicitDefEqProofs only [↓Zd, (Zp), if_true, if_false, ne_eq, implies_true, forall_const, Nat.reduceEqDiff, reduceIte, reduceCtorEq, Int.reduceEq, Int.reduceNeg, Int.reduceLE, Int.reduceLT, Nat.reduceAdd, Nat.reduceLeDiff, Int.reduceToNat, Nat.reduceMul, Nat.reduceBEq, okPart, Value.cells, cut, okCell, cld2, underlying3, underlying4, underlying9, underlying37, vA, is37, ag37, ce37, fa37x0, fa37x1, fa37x2, ag3, ce3, ag9, ce9, underlying3, underlying4, underlying9, underlying5, underlying32, underlying0, be4, bn4, co47]
    refine digits_spec hn fun s1 hs1 => ?_
    have hsz : (⟨#[35]⟩ : ByteArray).size + (digS n).size ≤ 9223372036854775807 := by
      have := digS_len hn
      show 1 + (digS n).size ≤ _
      omega
    simp -implicitDefEqProofs only [↓Zd, (Zp), if_true, if_false, ne_eq, implies_true, forall_const, Nat.reduceEqDiff, reduceIte, reduceCtorEq, Int.reduceEq, Int.reduceNeg, Int.reduceLE, Int.reduceLT, Nat.reduceAdd, Nat.reduceLeDiff, Int.reduceToNat, Nat.reduceMul, Nat.reduceBEq, okPart, Value.cells, cut, okCell, cld2, underlying3, underlying4, underlying9, underlying37, vA, is37, ag37, ce37, fa37x0, fa37x1, fa37x2, ag3, ce3, ag9, ce9, underlying3, underlying4, underlying9, underlying5, underlying32, underlying0, be4, bn4, hsz]
    exact h _ (St.le_trans (St.le_new (St.le_refl s)) hs1)
  · simp -implicitDefEqProofs only [↓Zd, (Zp), if_true, if_false, ne_eq, implies_true, forall_const, Nat.reduceEqDiff, reduceIte, reduceCtorEq, Int.reduceEq, Int.reduceNeg, Int.reduceLE, Int.reduceLT, Nat.reduceAdd, Nat.reduceLeDiff, Int.reduceToNat, Nat.reduceMul, Nat.reduceBEq, okPart, Value.cells, cut, okCell, cld2, underlying3, underlying4, underlying9, underlying37, vA, is37, ag37, ce37, fa37x0, fa37x1, fa37x2, ag3, ce3, ag9, ce9, underlying3, underlying4, underlying9, underlying5, underlying32, underlying0, be4, bn4, co47]
    refine digits_spec hn fun s1 hs1 => ?_
    have hsz : (⟨#[38]⟩ : ByteArray).size + (digS n).size ≤ 9223372036854775807 := by
      have := digS_len hn
      show 1 + (digS n).size ≤ _
      omega
    simp -implicitDefEqProofs only [↓Zd, (Zp), if_true, if_false, ne_eq, implies_true, forall_const, Nat.reduceEqDiff, reduceIte, reduceCtorEq, Int.reduceEq, Int.reduceNeg, Int.reduceLE, Int.reduceLT, Nat.reduceAdd, Nat.reduceLeDiff, Int.reduceToNat, Nat.reduceMul, Nat.reduceBEq, okPart, Value.cells, cut, okCell, cld2, underlying3, underlying4, underlying9, underlying37, vA, is37, ag37, ce37, fa37x0, fa37x1, fa37x2, ag3, ce3, ag9, ce9, underlying3, underlying4, underlying9, underlying5, underlying32, underlying0, be4, bn4, hsz]
    exact h _ (St.le_trans (St.le_new (St.le_refl s)) hs1)
  · simp only [h3, h4, h5, if_false] at h
    simp -implicitDefEqProofs only [↓Zd, (Zp), if_true, if_false, ne_eq, implies_true, forall_const, Nat.reduceEqDiff, reduceIte, reduceCtorEq, Int.reduceEq, Int.reduceNeg, Int.reduceLE, Int.reduceLT, Nat.reduceAdd, Nat.reduceLeDiff, Int.reduceToNat, Nat.reduceMul, Nat.reduceBEq, okPart, Value.cells, cut, okCell, cld2, underlying3, underlying4, underlying9, underlying37, vA, is37, ag37, ce37, fa37x0, fa37x1, fa37x2, ag3, ce3, ag9, ce9, underlying3, underlying4, underlying9, underlying5, underlying32, underlying0, be4, bn4, co80, h0, h1, h2, h3, h4, h5]
    have hk := show_spec (w0 := w0) (s := s.new (.cells [.int .i64 k, .int .i64 n, .string x] 37 true)) (k := k) (n := n) (x := x) (R := fun v s' => Cs.shape Try.prog 9 v fun v => R v s') hn
    unfold vA at hk
    refine hk fun s1 hs1 => ?_
    simp -implicitDefEqProofs only [↓Zd, (Zp), if_true, if_false, ne_eq, implies_true, forall_const, Nat.reduceEqDiff, reduceIte, reduceCtorEq, Int.reduceEq, Int.reduceNeg, Int.reduceLE, Int.reduceLT, Nat.reduceAdd, Nat.reduceLeDiff, Int.reduceToNat, Nat.reduceMul, Nat.reduceBEq, okPart, Value.cells, cut, okCell, cld2, underlying3, underlying4, underlying9, underlying37, vA, is37, ag37, ce37, fa37x0, fa37x1, fa37x2, ag3, ce3, ag9, ce9, underlying3, underlying4, underlying9, underlying5, underlying32, underlying0, be4, bn4]
    exact h _ (St.le_trans (St.le_new (St.le_refl s)) hs1)
end
end Go.Proofs.Try
